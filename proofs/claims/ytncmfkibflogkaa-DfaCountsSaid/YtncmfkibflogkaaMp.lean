/- Maps in memory: one rule an operation. Generic: no program is named. -/
import Derived.Test.YtncmfkibflogkaaDat
import Derived.Laws.StructEq
import Derived.MapKept
namespace Go.Eng
open Go

section
variable {κ ν : Type} [DecidableEq κ]
def getM : List (κ × ν) → κ → Option ν
  | [], _ => none
  | p :: r, k => if p.1 = k then some p.2 else getM r k
def putM : List (κ × ν) → κ → ν → List (κ × ν)
  | [], k, v => [(k, v)]
  | p :: r, k, v => if p.1 = k then (k, v) :: r else p :: putM r k v
def idxM : List (κ × ν) → κ → Option Nat
  | [], _ => none
  | p :: r, k => if p.1 = k then some 0 else (idxM r k).map (· + 1)
def findM (eV : ν → Value) : List (κ × ν) → κ → Nat → Option (Nat × Value)
  | [], _, _ => none
  | p :: r, k, i => if p.1 = k then some (i, eV p.2) else findM eV r k (i + 1)
theorem findM_none {eV : ν → Value} : ∀ {es : List (κ × ν)} {k : κ} {i : Nat}, getM es k = none → findM eV es k i = none
  | [], _, _, _ => rfl
  | p :: r, k, i, h => by
    unfold getM at h
    unfold findM
    split at h
    · cases h
    · rename_i hne; rw [if_neg hne]; exact findM_none h
theorem findM_some {eV : ν → Value} : ∀ {es : List (κ × ν)} {k : κ} {i : Nat} {v : ν}, getM es k = some v → ∃ j, findM eV es k i = some (i + j, eV v) ∧ es[j]? = some (k, v) ∧ ∀ u, putM es k u = es.set j (k, u)
  | [], _, _, _, h => by cases h
  | p :: r, k, i, v, h => by
    unfold getM at h
    unfold findM
    split at h
    · rename_i he
      cases h
      rw [if_pos he]
      exact ⟨0, rfl, by obtain ⟨a, b⟩ := p; simp at he; subst he; rfl, fun u => by unfold putM; rw [if_pos he]; rfl⟩
    · rename_i hne
      rw [if_neg hne]
      obtain ⟨j, h1, h2, h3⟩ := findM_some (eV := eV) (i := i + 1) h
      exact ⟨j + 1, by rw [h1]; congr 2; omega, by simpa using h2, fun u => by unfold putM; rw [if_neg hne, h3 u]; rfl⟩
theorem putM_none : ∀ {es : List (κ × ν)} {k : κ} (v : ν), getM es k = none → putM es k v = es ++ [(k, v)]
  | [], _, _, _ => rfl
  | p :: r, k, v, h => by
    unfold getM at h
    unfold putM
    split at h
    · cases h
    · rename_i hne; rw [if_neg hne, putM_none v h]; rfl
theorem getM_put (es : List (κ × ν)) (k : κ) (v : ν) (q : κ) : getM (putM es k v) q = if k = q then some v else getM es q := by
  induction es with
  | nil => unfold putM getM getM; rfl
  | cons p r ih =>
    unfold putM
    split
    · rename_i he
      unfold getM
      by_cases h : k = q
      · rw [if_pos h, if_pos h]
      · rw [if_neg h, if_neg h, if_neg (by rw [he]; exact h)]
    · rename_i hne
      unfold getM
      rw [ih]
      by_cases h : k = q
      · rw [if_pos h, if_neg (by rw [← h]; exact hne), if_pos h]
      · rw [if_neg h, if_neg h]
theorem getM_some_mem {es : List (κ × ν)} {k : κ} {v : ν} (h : getM es k = some v) : (k, v) ∈ es := by
  obtain ⟨j, _, h2, _⟩ := findM_some (eV := fun _ => undef) (i := 0) h
  exact List.mem_of_getElem? h2
theorem getM_isSome {es : List (κ × ν)} {k : κ} : (getM es k).isSome = true ↔ k ∈ es.map (·.1) := by
  induction es with
  | nil => simp [getM]
  | cons p r ih =>
    unfold getM
    by_cases h : p.1 = k
    · simp [h]
    · rw [if_neg h, ih]
      simp [Ne.symm h]
def KeysOk (es : List (κ × ν)) : Prop := (es.map (·.1)).Nodup
omit [DecidableEq κ] in
theorem KeysOk.nil : KeysOk ([] : List (κ × ν)) := List.nodup_nil
theorem KeysOk.put {es : List (κ × ν)} (h : KeysOk es) (k : κ) (v : ν) : KeysOk (putM es k v) := by
  cases hg : getM es k with
  | none =>
    rw [putM_none v hg]
    unfold KeysOk
    rw [List.map_append, List.nodup_append]
    refine ⟨h, by simp, fun a ha b hb => ?_⟩
    simp at hb
    subst hb
    intro he
    subst he
    have := getM_isSome.2 ha
    rw [hg] at this; cases this
  | some u =>
    obtain ⟨j, _, h2, h3⟩ := findM_some (eV := fun _ => undef) (i := 0) hg
    rw [h3 v]
    unfold KeysOk
    have : (es.set j (k, v)).map (·.1) = es.map (·.1) := by
      apply List.ext_getElem?
      intro i
      rw [List.getElem?_map, List.getElem?_map, List.getElem?_set]
      by_cases hi : j = i
      · subst hi
        have hlt := lt_of_get h2
        rw [if_pos rfl, if_pos hlt, h2]; rfl
      · simp [hi]
    rw [this]; exact h
end

/-- A map in memory: its entries in the order in which the keys came. -/
def ents {κ ν : Type} (ek : κ → Value) (eV : ν → Value) (es : List (κ × ν)) : List MapEntry := es.zipIdx.map fun p => { key := ek p.1.1, val := eV p.1.2, born := p.2 }
def MapAt {κ ν : Type} (w : World) (b : Nat) (ek : κ → Value) (eV : ν → Value) (es : List (κ × ν)) : Prop := w.heap[b]? = some (.map (ents ek eV es).toArray es.length)
theorem ents_len {κ ν : Type} (ek : κ → Value) (eV : ν → Value) (es : List (κ × ν)) : (ents ek eV es).length = es.length := by simp [ents]
theorem ents_get {κ ν : Type} {ek : κ → Value} {eV : ν → Value} {es : List (κ × ν)} {i : Nat} : (ents ek eV es)[i]? = (es[i]?).map fun p => { key := ek p.1, val := eV p.2, born := i } := by
  unfold ents; rw [List.getElem?_map, List.getElem?_zipIdx]; cases es[i]? <;> simp
theorem ents_kv {κ ν : Type} (ek : κ → Value) (eV : ν → Value) (es : List (κ × ν)) : (ents ek eV es).map (fun e => (e.key, e.val)) = es.map fun p => (ek p.1, eV p.2) := by
  apply List.ext_getElem?
  intro i
  rw [List.getElem?_map, ents_get, List.getElem?_map]
  cases es[i]? <;> rfl
section
variable {κ ν : Type} {ek : κ → Value} {eV : ν → Value} {es : List (κ × ν)} {w w' : World} {b : Nat}
theorem MapAt.lt (h : MapAt w b ek eV es) : b < w.heap.size := (Array.getElem?_eq_some_iff.1 h).1
theorem Chg.keepM {M : Nat → Prop} (h : Chg M w w') (hm : ¬ M b) (hb : MapAt w b ek eV es) : MapAt w' b ek eV es := (h.blk b hb.lt hm).trans hb
theorem Ext.keepM (h : Ext w w') (hb : MapAt w b ek eV es) : MapAt w' b ek eV es := Chg.keepM h (fun f => f) hb
theorem New.keepM {n : Nat} {c : Array Value} {t : TypeId} (h : New w w' n c t) (hb : MapAt w b ek eV es) : MapAt w' b ek eV es := h.ext.keepM hb
theorem New.ltM {n : Nat} {c : Array Value} {t : TypeId} (h : New w w' n c t) (hb : MapAt w b ek eV es) : b < n := by rw [h.eq]; exact hb.lt
theorem Put.keepM {n : Nat} {c : Array Value} {t : TypeId} (h : Put w w' n c t) (hne : b ≠ n) (hb : MapAt w b ek eV es) : MapAt w' b ek eV es := h.chg.keepM hne hb
end
/-- A new object that is no row of cells. -/
structure NewO (w w' : World) (b : Nat) (o : Obj) : Prop where
  at' : w'.heap[b]? = some o
  ext : Ext w w'
  eq : b = w.heap.size
  size : w'.heap.size = w.heap.size + 1
theorem NewO.mk' (w : World) (o : Obj) : NewO w { w with heap := w.heap.push o } w.heap.size o :=
  ⟨by simp, ⟨rfl, rfl, rfl, Nat.le_refl _, by simp, fun x hx _ => by simp [Array.getElem?_push, Nat.ne_of_lt hx]⟩, rfl, by simp⟩
section
variable {w w' : World} {b : Nat} {o : Obj}
theorem NewO.keep (h : NewO w w' b o) {b' : Nat} {c' : Array Value} {t' : TypeId} (hb : Blk w b' c' t') : Blk w' b' c' t' := h.ext.keep hb
theorem NewO.lt (h : NewO w w' b o) {b' : Nat} {c' : Array Value} {t' : TypeId} (hb : Blk w b' c' t') : b' < b := by rw [h.eq]; exact hb.lt
theorem NewO.ge (h : NewO w w' b o) {w0 : World} {M : Nat → Prop} (e : Chg M w0 w) : w0.heap.size ≤ b := by rw [h.eq]; exact e.size
variable {κ ν : Type} {ek : κ → Value} {eV : ν → Value} {es : List (κ × ν)} {b' : Nat}
theorem NewO.keepM (h : NewO w w' b o) (hb : MapAt w b' ek eV es) : MapAt w' b' ek eV es := h.ext.keepM hb
theorem NewO.ltM (h : NewO w w' b o) (hb : MapAt w b' ek eV es) : b' < b := by rw [h.eq]; exact hb.lt
end
/-- An object that is no row of cells is replaced. -/
structure PutO (w w' : World) (b : Nat) (o : Obj) : Prop where
  at' : w'.heap[b]? = some o
  chg : Chg (fun x => x = b) w w'
  size : w'.heap.size = w.heap.size
theorem PutO.mk' {w : World} {b : Nat} (o : Obj) (hb : b < w.heap.size) : PutO w { w with heap := w.heap.setIfInBounds b o } b o :=
  ⟨by simp [hb], ⟨rfl, rfl, rfl, Nat.le_refl _, by simp, fun x hx hne => by simp [Array.getElem?_setIfInBounds, Ne.symm hne]⟩, by simp⟩
section
variable {w w' : World} {b : Nat} {o : Obj}
theorem PutO.keep (h : PutO w w' b o) {b' : Nat} {c' : Array Value} {t' : TypeId} (hne : b' ≠ b) (hb : Blk w b' c' t') : Blk w' b' c' t' := h.chg.keep hne hb
theorem PutO.step (h : PutO w w' b o) {w0 : World} {M : Nat → Prop} (e : Chg M w0 w) (hb : w0.heap.size ≤ b ∨ M b) : Chg M w0 w' :=
  e.step h.chg fun x hx hm => by subst hm; rcases hb with hb | hb; omega; exact hb
variable {κ ν : Type} {ek : κ → Value} {eV : ν → Value} {es : List (κ × ν)} {b' : Nat}
theorem PutO.keepM (h : PutO w w' b o) (hne : b' ≠ b) (hb : MapAt w b' ek eV es) : MapAt w' b' ek eV es := h.chg.keepM hne hb
end

/-- What is asked of a key's type. -/
structure KeyOk (P : Program) (kt : TypeId) {κ : Type} [DecidableEq κ] (ek : κ → Value) : Prop where
  check : ∀ (b : Bool) (w : World) (k : κ), (Instr.checkKey b 10000 kt (ek k)).run P w = .ok () w
  find : ∀ (ν : Type) (w : World) (k : κ) (es : List (κ × ν)) (eV : ν → Value) (L : List MapEntry), L.map (fun e => (e.key, e.val)) = es.map (fun p => (ek p.1, eV p.2)) → (Instr.findKey kt (ek k) L).run P w = .ok (findM eV es k 0) w
  same : ∀ k, Instr.sameBits 10000 (ek k) (ek k) = true
def kInt (x : Int) : Value := .int .i64 x
def kStr (s : ByteArray) : Value := .string s
def kBool (x : Bool) : Value := .bool x
theorem keyInt {P : Program} {kt : TypeId} (hu : P.underlying kt = some (.int .i64)) : KeyOk P kt kInt where
  check := fun b w k => by rw [show (10000 : Nat) = 9999 + 1 from rfl, Instr.checkKey]; simp only [Sem.run_bind, run_underlying hu, Result.andThen_ok, kInt]; rfl
  find := fun ν w k es eV L hL => by
    have key : ∀ (L : List MapEntry) (es : List (Int × ν)) (i : Nat), L.map (fun e => (e.key, e.val)) = es.map (fun p => (kInt p.1, eV p.2)) → Instr.findNow (.int .i64) (kInt k) L i = some (findM eV es k i) := by
      intro L
      induction L with
      | nil =>
        intro es i h
        cases es with
        | nil => rfl
        | cons _ _ => simp at h
      | cons e L ih =>
        intro es i h
        cases es with
        | nil => simp at h
        | cons p es =>
          simp only [List.map_cons, List.cons.injEq, Prod.mk.injEq] at h
          obtain ⟨⟨h1, h2⟩, h3⟩ := h
          unfold Instr.findNow findM
          rw [h1]
          simp only [kInt, Instr.sameNow, if_true]
          by_cases hk : p.1 = k
          · rw [if_pos hk, hk]; simp [h2]
          · have : (k == p.1) = false := by simp; exact fun h => hk h.symm
            rw [if_neg hk, this]
            exact ih es (i + 1) h3
    simp [Instr.findKey, run_underlying hu, key L es 0 hL]
  same := fun k => by unfold kInt; rw [Instr.sameBits]; simp
theorem keyStr {P : Program} {kt : TypeId} (hu : P.underlying kt = some .string) : KeyOk P kt kStr where
  check := fun b w k => by rw [show (10000 : Nat) = 9999 + 1 from rfl, Instr.checkKey]; simp only [Sem.run_bind, run_underlying hu, Result.andThen_ok, kStr]; rfl
  find := fun ν w k es eV L hL => by
    have key : ∀ (L : List MapEntry) (es : List (ByteArray × ν)) (i : Nat), L.map (fun e => (e.key, e.val)) = es.map (fun p => (kStr p.1, eV p.2)) → Instr.findNow .string (kStr k) L i = some (findM eV es k i) := by
      intro L
      induction L with
      | nil =>
        intro es i h
        cases es with
        | nil => rfl
        | cons _ _ => simp at h
      | cons e L ih =>
        intro es i h
        cases es with
        | nil => simp at h
        | cons p es =>
          simp only [List.map_cons, List.cons.injEq, Prod.mk.injEq] at h
          obtain ⟨⟨h1, h2⟩, h3⟩ := h
          unfold Instr.findNow findM
          rw [h1]
          simp only [kStr, Instr.sameNow]
          by_cases hk : p.1 = k
          · rw [if_pos hk, hk, (MapKept.bytes_beq k k).2 rfl]; simp [h2]
          · have : (k == p.1) = false := by rw [Bool.eq_false_iff]; exact fun h => hk ((MapKept.bytes_beq _ _).1 h).symm
            rw [if_neg hk, this]
            exact ih es (i + 1) h3
    simp [Instr.findKey, run_underlying hu, key L es 0 hL]
  same := fun k => by unfold kStr; rw [Instr.sameBits]; exact (MapKept.bytes_beq k k).2 rfl

section
variable {P : Program} {N : Nat} {Q : Post} {σ : Env} {w : World} {K : Env → World → Prop} {ops : Array Oper} {rest : List Oper} {d : Nat} {ty : TypeId} {pos : String} {af : Array Edge} {g : Option (Nat × Bool)} {dst : Option Tmp} {t kt et : TypeId} {m x y : Operand} {b : Nat}
variable {κ ν : Type} [DecidableEq κ] {ek : κ → Value} {eV : ν → Value} {es : List (κ × ν)} {k : κ} {v : ν}
omit [DecidableEq κ] in
theorem s_makeMap (ek : κ → Value) (eV : ν → Value) (hN : d < N) (kk : ∀ b w', NewO w w' b (.map #[] 0) → MapAt w' b ek eV [] → WpL P N ops K Q rest (upd σ d (.map (some b))) w') :
    WpL P N ops K Q (⟨some d, .makeMap t none, ty, pos, af, none⟩ :: rest) σ w := by
  refine WpL_val (v := .map (some w.heap.size)) (w' := { w with heap := w.heap.push (.map #[] 0) }) rfl rfl hN ?_ (kk _ _ (NewO.mk' w _) (NewO.mk' w _).at')
  simp [execOp, Instr.makeMap]
theorem run_mapUpdate (hu : P.underlying t = some (.map kt et)) (hk : KeyOk P kt ek) (hm : MapAt w b ek eV es) :
    (Instr.mapUpdate t (.map (some b)) (ek k) (eV v)).run P w = .ok () { w with heap := w.heap.setIfInBounds b (.map (ents ek eV (putM es k v)).toArray (putM es k v).length) } := by
  have hlt := hm.lt
  unfold MapAt at hm
  have hg : (getObj b).run P w = .ok (.map (ents ek eV es).toArray es.length) w := by simp [getObj, Sem.run, hm]
  have hs : ∀ o, (setObj b o).run P w = .ok () { w with heap := w.heap.setIfInBounds b o } := fun o => by simp [setObj, Sem.run, hm]
  have hf := hk.find ν w k es eV (ents ek eV es) (ents_kv ek eV es)
  simp only [Instr.mapUpdate, Sem.run_bind, run_underlying hu, Result.andThen_ok, hg, hk.check, hf]
  cases hgm : getM es k with
  | none =>
    rw [findM_none hgm]
    simp only [hs]
    congr 4
    · apply Array.ext'
      rw [putM_none v hgm]
      simp [ents, List.zipIdx_append]
    · rw [putM_none v hgm]; simp
  | some u =>
    obtain ⟨j, h1, h2, h3⟩ := findM_some (eV := eV) (i := 0) hgm
    rw [Nat.zero_add] at h1
    rw [h1]
    have hj := lt_of_get h2
    have he : (ents ek eV es).toArray[j]? = some { key := ek k, val := eV u, born := j } := by rw [List.getElem?_toArray, ents_get, h2]; rfl
    simp only [he, Option.map_some, Option.getD_some, Instr.keyThatStays, hk.same, if_true, Sem.run_bind, Sem.run_pure, Result.andThen_ok, hs]
    congr 4
    · apply Array.ext'
      rw [h3 v]
      apply List.ext_getElem?
      intro i
      rw [List.getElem?_toArray.symm.trans (by rfl)] <;> simp only [Array.getElem?_toList, Array.getElem?_modify, List.getElem?_toArray, ents_get, List.getElem?_set]
      by_cases hi : j = i
      · subst hi; simp [h2, hj]
      · simp [hi]
    · rw [h3 v]; simp
theorem s_mapUpdate (hu : P.underlying t = some (.map kt et)) (hk : KeyOk P kt ek) (hm : MapAt w b ek eV es) (h1 : ev σ m = .map (some b)) (h2 : ev σ x = ek k) (h3 : ev σ y = eV v)
    (kk : ∀ w', PutO w w' b (.map (ents ek eV (putM es k v)).toArray (putM es k v).length) → MapAt w' b ek eV (putM es k v) → WpL P N ops K Q rest σ w') :
    WpL P N ops K Q (⟨none, .mapUpdate t m x y, ty, pos, af, none⟩ :: rest) σ w := by
  have hr := run_mapUpdate (k := k) (v := v) hu hk hm
  refine WpL_skip rfl rfl (w' := { w with heap := w.heap.setIfInBounds b (.map (ents ek eV (putM es k v)).toArray (putM es k v).length) }) ?_ (kk _ (PutO.mk' _ hm.lt) (PutO.mk' _ hm.lt).at')
  simp [execOp, h1, h2, h3, hr]
theorem s_insert (hu : P.underlying t = some (.map kt et)) (hk : KeyOk P kt ek) (hm : MapAt w b ek eV es) (h1 : ev σ m = .map (some b)) (h2 : ev σ x = ek k) (h3 : ev σ y = eV v)
    (kk : ∀ w', PutO w w' b (.map (ents ek eV (putM es k v)).toArray (putM es k v).length) → MapAt w' b ek eV (putM es k v) → WpL P N ops K Q rest σ w') :
    WpL P N ops K Q (⟨none, .insert t m x y, ty, pos, af, none⟩ :: rest) σ w := by
  have hr := run_mapUpdate (k := k) (v := v) hu hk hm
  refine WpL_skip rfl rfl (w' := { w with heap := w.heap.setIfInBounds b (.map (ents ek eV (putM es k v)).toArray (putM es k v).length) }) ?_ (kk _ (PutO.mk' _ hm.lt) (PutO.mk' _ hm.lt).at')
  simp [execOp, h1, h2, h3, hr]
theorem run_lookup (c : Bool) {z : ν} (hu : P.underlying t = some (.map kt et)) (hk : KeyOk P kt ek) (hz : Zer P et (eV z)) (hm : MapAt w b ek eV es) :
    (Instr.lookup t (.map (some b)) (ek k) c).run P w = .ok (if c then .tuple #[eV ((getM es k).getD z), .bool (getM es k).isSome] else eV ((getM es k).getD z)) w := by
  unfold MapAt at hm
  have hg : (getObj b).run P w = .ok (.map (ents ek eV es).toArray es.length) w := by simp [getObj, Sem.run, hm]
  have hf := hk.find ν w k es eV (ents ek eV es) (ents_kv ek eV es)
  simp only [Instr.lookup, Sem.run_bind, run_underlying hu, Result.andThen_ok, hg, Sem.run_pure, hk.check, hf]
  cases hgm : getM es k with
  | none => rw [findM_none hgm]; simp [hz.run]
  | some u =>
    obtain ⟨j, h1, _, _⟩ := findM_some (eV := eV) (i := 0) hgm
    rw [h1]; simp
theorem r_lookup {z : ν} (hu : P.underlying t = some (.map kt et)) (hk : KeyOk P kt ek) (hz : Zer P et (eV z)) (hm : MapAt w b ek eV es) (h1 : ev σ m = .map (some b)) (h2 : ev σ x = ek k) :
    (execOp (ev σ) ⟨dst, .lookup t m x false, ty, pos, af, g⟩).run P w = .ok (.value (eV ((getM es k).getD z))) w := by
  simp [execOp, h1, h2, run_lookup false hu hk hz hm]
theorem r_lookup2 {z : ν} (hu : P.underlying t = some (.map kt et)) (hk : KeyOk P kt ek) (hz : Zer P et (eV z)) (hm : MapAt w b ek eV es) (h1 : ev σ m = .map (some b)) (h2 : ev σ x = ek k) :
    (execOp (ev σ) ⟨dst, .lookup t m x true, ty, pos, af, g⟩).run P w = .ok (.value (.tuple #[eV ((getM es k).getD z), .bool (getM es k).isSome])) w := by
  simp [execOp, h1, h2, run_lookup true hu hk hz hm]
omit [DecidableEq κ] in
theorem r_lenMap (hu : P.underlying t = some (.map kt et)) (hm : MapAt w b ek eV es) (h1 : ev σ m = .map (some b)) :
    (execOp (ev σ) ⟨dst, .call ⟨.builtin .len, #[m], #[t]⟩, ty, pos, af, g⟩).run P w = .ok (.value (.int .i64 es.length)) w := by
  unfold MapAt at hm
  have hg : (getObj b).run P w = .ok (.map (ents ek eV es).toArray es.length) w := by simp [getObj, Sem.run, hm]
  simp [execOp, resolve, h1, invoke, builtin, Builtin.len_, run_underlying hu, hg, goInt, ents_len]
end
/-! Ranging over a map. -/
def IterAt (w : World) (it b n : Nat) (seen : List Nat) : Prop := w.heap[it]? = some (.mapIter (some b) n seen.toArray n)
theorem IterAt.lt {w : World} {it b n : Nat} {seen : List Nat} (h : IterAt w it b n seen) : it < w.heap.size := (Array.getElem?_eq_some_iff.1 h).1
theorem IterAt.chg {M : Nat → Prop} {w w' : World} {it b n : Nat} {seen : List Nat} (h : IterAt w it b n seen) (c : Chg M w w') (hm : ¬ M it) : IterAt w' it b n seen := (c.blk it h.lt hm).trans h
theorem IterAt.ext {w w' : World} {it b n : Nat} {seen : List Nat} (h : IterAt w it b n seen) (c : Ext w w') : IterAt w' it b n seen := h.chg c fun f => f
section
variable {w w' : World} {it b n : Nat} {seen : List Nat} (hb : IterAt w it b n seen)
include hb
theorem Chg.keepI {M : Nat → Prop} (h : Chg M w w') (hm : ¬ M it) : IterAt w' it b n seen := hb.chg h hm
theorem Ext.keepI (h : Ext w w') : IterAt w' it b n seen := hb.ext h
theorem New.keepI {q : Nat} {c : Array Value} {t : TypeId} (h : New w w' q c t) : IterAt w' it b n seen := hb.ext h.ext
theorem New.ltI {q : Nat} {c : Array Value} {t : TypeId} (h : New w w' q c t) : it < q := by rw [h.eq]; exact hb.lt
theorem NewO.keepI {q : Nat} {o : Obj} (h : NewO w w' q o) : IterAt w' it b n seen := hb.ext h.ext
theorem NewO.ltI {q : Nat} {o : Obj} (h : NewO w w' q o) : it < q := by rw [h.eq]; exact hb.lt
theorem Put.keepI {q : Nat} {c : Array Value} {t : TypeId} (h : Put w w' q c t) (hne : it ≠ q) : IterAt w' it b n seen := hb.chg h.chg hne
theorem PutO.keepI {q : Nat} {o : Obj} (h : PutO w w' q o) (hne : it ≠ q) : IterAt w' it b n seen := hb.chg h.chg hne
end
section
variable {P : Program} {N : Nat} {Q : Post} {σ : Env} {w : World} {K : Env → World → Prop} {ops : Array Oper} {rest : List Oper} {d : Nat} {ty : TypeId} {pos : String} {af : Array Edge} {g : Option (Nat × Bool)} {dst : Option Tmp} {t kt et : TypeId} {x : Operand} {b it : Nat}
variable {κ ν : Type} {ek : κ → Value} {eV : ν → Value} {es : List (κ × ν)} {seen : List Nat}
theorem s_range (hN : d < N) (hu : P.underlying t = some (.map kt et)) (hm : MapAt w b ek eV es) (h1 : ev σ x = .map (some b))
    (kk : ∀ it w', NewO w w' it (.mapIter (some b) es.length #[] es.length) → WpL P N ops K Q rest (upd σ d (.pointer (some ⟨it, 0, none⟩))) w') :
    WpL P N ops K Q (⟨some d, .range t x, ty, pos, af, none⟩ :: rest) σ w := by
  unfold MapAt at hm
  have hg : (getObj b).run P w = .ok (.map (ents ek eV es).toArray es.length) w := by simp [getObj, Sem.run, hm]
  refine WpL_val (v := .pointer (some ⟨w.heap.size, 0, none⟩)) (w' := { w with heap := w.heap.push (.mapIter (some b) es.length #[] es.length) }) rfl rfl hN ?_ (kk _ _ (NewO.mk' w _))
  simp [execOp, h1, Instr.range, run_underlying hu, hg]
theorem ents_born {e : MapEntry} (h : e ∈ ents ek eV es) : ∃ p, es[e.born]? = some p ∧ e.key = ek p.1 ∧ e.val = eV p.2 := by
  obtain ⟨i, hi⟩ := List.mem_iff_getElem?.1 h
  rw [ents_get] at hi
  cases hp : es[i]? with
  | none => rw [hp] at hi; cases hi
  | some p =>
    rw [hp] at hi
    simp at hi
    subst hi
    exact ⟨p, hp, rfl, rfl⟩
theorem s_next (hN : d < N) (hm : MapAt w b ek eV es) (hi : IterAt w it b es.length seen) (h1 : ev σ x = .pointer (some ⟨it, 0, none⟩))
    (k1 : (∀ i, i < es.length → i ∈ seen) → WpL P N ops K Q rest (upd σ d (.tuple #[.bool false])) w)
    (k2 : ∀ i p w', es[i]? = some p → i ∉ seen → PutO w w' it (.mapIter (some b) es.length (seen ++ [i]).toArray es.length) → WpL P N ops K Q rest (upd σ d (.tuple #[.bool true, ek p.1, eV p.2])) w') :
    WpL P N ops K Q (⟨some d, .next x false, ty, pos, af, none⟩ :: rest) σ w := by
  have hit := hi.lt
  have hgm : (getObj b).run P w = .ok (.map (ents ek eV es).toArray es.length) w := by unfold MapAt at hm; simp [getObj, Sem.run, hm]
  have hgi : (getObj it).run P w = .ok (.mapIter (some b) es.length seen.toArray es.length) w := by unfold IterAt at hi; simp [getObj, Sem.run, hi]
  have hall : ((!seen.toArray.isEmpty && !(ents ek eV es).toArray.isEmpty) && (ents ek eV es).toArray.all (fun e => decide (e.born ≥ es.length))) = false := by
    cases es with
    | nil => simp [ents]
    | cons p r =>
      have hm0 : ({ key := ek p.1, val := eV p.2, born := 0 } : MapEntry) ∈ ents ek eV (p :: r) := List.mem_of_getElem? (i := 0) (by rw [ents_get]; rfl)
      have : (ents ek eV (p :: r)).toArray.all (fun e => decide (e.born ≥ (p :: r).length)) = false := by
        rw [List.all_toArray, List.all_eq_false]
        exact ⟨_, hm0, by simp⟩
      rw [this, Bool.and_false]
  obtain ⟨left, hleft⟩ : ∃ left, left = (ents ek eV es).toArray.filter fun e => !seen.toArray.contains e.born := ⟨_, rfl⟩
  have hmemL : ∀ e, e ∈ left → e ∈ ents ek eV es ∧ e.born ∉ seen := fun e he => by rw [hleft] at he; simpa using he
  have hold : left.filter (fun e => decide (e.born < es.length)) = left := by
    rw [Array.filter_eq_self]
    intro e he
    obtain ⟨p, hp, _⟩ := ents_born (hmemL e he).1
    simpa using lt_of_get hp
  have hnew : left.filter (fun e => decide (e.born ≥ es.length)) = #[] := by
    rw [Array.filter_eq_empty_iff]
    intro e he
    obtain ⟨p, hp, _⟩ := ents_born (hmemL e he).1
    have := lt_of_get hp
    simp; omega
  by_cases hemp : left = #[]
  · have hk1 := k1 fun i hi' => by
      by_cases hin : i ∈ seen
      · exact hin
      · exfalso
        obtain ⟨p, hp⟩ : ∃ p, es[i]? = some p := ⟨_, List.getElem?_eq_getElem hi'⟩
        have he : ({ key := ek p.1, val := eV p.2, born := i } : MapEntry) ∈ ents ek eV es := List.mem_of_getElem? (i := i) (by rw [ents_get, hp]; rfl)
        have : ({ key := ek p.1, val := eV p.2, born := i } : MapEntry) ∈ left := by rw [hleft]; simpa using ⟨he, hin⟩
        rw [hemp] at this; simp at this
    refine WpL_val (v := .tuple #[.bool false]) (w' := w) rfl rfl hN ?_ hk1
    have hfo : Question.forced (.mapNext 1) = true := rfl
    have hch : (choose (.mapNext 1)).run P w = .ok 0 w := by simp [choose, Sem.run, hfo]
    simp only [execOp, h1, Instr.next, Sem.run_bind, hgi, Result.andThen_ok, hgm, hall, Bool.false_eq_true, if_false, Sem.run_pure, ← hleft, hold, hnew, hemp]
    simp [hch]
  · have hsz : 0 < left.size := by rcases Nat.eq_zero_or_pos left.size with h | h; exact absurd (Array.eq_empty_of_size_eq_zero h) hemp; exact h
    have hemp2 : left.isEmpty = false := by simpa using hemp
    obtain ⟨j, dr, hj, hch⟩ : ∃ j dr, j < left.size ∧ (choose (.mapNext left.size)).run P w = .ok j { w with drawn := w.drawn + dr } := by
      by_cases hf : Question.forced (.mapNext left.size) = true
      · exact ⟨0, 0, hsz, by simp [choose, Sem.run, hf]⟩
      · exact ⟨_, 1, Nat.mod_lt (w.tape w.drawn (.mapNext left.size)) hsz, by simp [choose, Sem.run, hf, Question.cut]⟩
    obtain ⟨e, he⟩ : ∃ e, left[j]? = some e := ⟨_, Array.getElem?_eq_getElem hj⟩
    obtain ⟨hmem, hns⟩ := hmemL e (Array.mem_of_getElem? he)
    obtain ⟨p, hp, hk, hv⟩ := ents_born hmem
    have hiw : ({ w with drawn := w.drawn + dr } : World).heap[it]? = some (.mapIter (some b) es.length seen.toArray es.length) := hi
    refine WpL_val (v := .tuple #[.bool true, ek p.1, eV p.2]) (w' := { w with drawn := w.drawn + dr, heap := w.heap.setIfInBounds it (.mapIter (some b) es.length (seen ++ [e.born]).toArray es.length) }) rfl rfl hN ?_ (k2 e.born p _ hp hns ?_)
    · have hso : (setObj it (.mapIter (some b) es.length (seen.toArray.push e.born) es.length)).run P { w with drawn := w.drawn + dr } = .ok () { w with drawn := w.drawn + dr, heap := w.heap.setIfInBounds it (.mapIter (some b) es.length (seen.toArray.push e.born) es.length) } := by simp [setObj, Sem.run, hiw]
      have hcand : ((#[] : Array (Option MapEntry)) ++ (left ++ #[]).map some)[j]? = some (some e) := by simp [he]
      have hcsz : ((#[] : Array (Option MapEntry)) ++ (left ++ #[]).map some).size = left.size := by simp
      simp only [execOp, h1, Instr.next, Sem.run_bind, hgi, Result.andThen_ok, hgm, hall, Bool.false_eq_true, if_false, Sem.run_pure, ← hleft, hold, hnew, hemp2, hcsz, hch, hcand, hso, hk, hv]
      simp
    · refine ⟨by simp [hit], ⟨rfl, rfl, rfl, Nat.le_add_right _ _, by simp, fun y hy hne => by simp [Array.getElem?_setIfInBounds, Ne.symm hne]⟩, by simp⟩
theorem r_entry {i : Nat} {p : κ × ν} (hm : MapAt w b ek eV es) (hi : IterAt w it b es.length (seen ++ [i])) (hp : es[i]? = some p) (h1 : ev σ x = .pointer (some ⟨it, 0, none⟩)) :
    (execOp (ev σ) ⟨dst, .entry x, ty, pos, af, g⟩).run P w = .ok (.value (.tuple #[ek p.1, eV p.2])) w := by
  have hgm : (getObj b).run P w = .ok (.map (ents ek eV es).toArray es.length) w := by unfold MapAt at hm; simp [getObj, Sem.run, hm]
  have hgi : (getObj it).run P w = .ok (.mapIter (some b) es.length (seen ++ [i]).toArray es.length) w := by unfold IterAt at hi; simp [getObj, Sem.run, hi]
  have hb : (seen ++ [i]).toArray.back? = some i := by simp [Array.back?]
  have hlt := lt_of_get hp
  have hf : (ents ek eV es).find? (fun e => e.born == i) = some { key := ek p.1, val := eV p.2, born := i } := by
    rw [List.find?_eq_some_iff_getElem]
    refine ⟨by simp, i, by rw [ents_len]; exact hlt, ?_, fun j hj => ?_⟩
    · have := ents_get (ek := ek) (eV := eV) (es := es) (i := i)
      rw [hp, List.getElem?_eq_getElem (by rw [ents_len]; exact hlt)] at this
      simpa using this
    · have h2 := ents_get (ek := ek) (eV := eV) (es := es) (i := j)
      have hjl : j < es.length := by omega
      rw [List.getElem?_eq_getElem (by rw [ents_len]; exact hjl), List.getElem?_eq_getElem hjl] at h2
      simp at h2
      rw [h2]; simp; omega
  have hf2 : (ents ek eV es).toArray.find? (fun e => e.born == i) = some { key := ek p.1, val := eV p.2, born := i } := by simpa using hf
  simp only [execOp, h1, Instr.entry, Sem.run_bind, hgi, Result.andThen_ok, hb, hgm, hf2, Sem.run_pure]
  simp
end
theorem cnt1 {l : List Nat} (hd : l.Nodup) {a : Nat} (h : a ∈ l) : l.count a = 1 := by
  induction l with
  | nil => cases h
  | cons x r ih =>
    rw [List.nodup_cons] at hd
    rw [List.count_cons]
    rcases List.mem_cons.1 h with rfl | h
    · rw [List.count_eq_zero_of_not_mem hd.1]; simp
    · have : x ≠ a := fun e => hd.1 (e ▸ h)
      rw [ih hd.2 h]; simp [this]
theorem seen_perm {n : Nat} {seen : List Nat} (hd : seen.Nodup) (hl : ∀ i ∈ seen, i < n) (ha : ∀ i, i < n → i ∈ seen) : seen.Perm (List.range n) := by
  rw [List.perm_iff_count]
  intro a
  by_cases h : a ∈ seen
  · rw [cnt1 hd h, cnt1 List.nodup_range (List.mem_range.2 (hl a h))]
  · rw [List.count_eq_zero_of_not_mem h, List.count_eq_zero_of_not_mem (fun h2 => h (ha a (List.mem_range.1 h2)))]
theorem seen_len {n : Nat} {seen : List Nat} (hd : seen.Nodup) (hl : ∀ i ∈ seen, i < n) : seen.length ≤ n := by
  have h : seen.Subset (List.range n) := fun i hi => List.mem_range.2 (hl i hi)
  have := hd.length_le_of_subset h
  simpa using this
end Go.Eng
