/- Contracts and plain lemmas, part 2. -/
import Derived.Tactics
import Derived.Deep.Quiet
import Derived.Laws.AppendOwn
import Derived.KernelRfl
import Derived.Laws.Entries
import Derived.Laws.Build
import Derived.Below
import Derived.RowKit3
import Derived.StillTail
import Derived.Sort.Grow
import Derived.Deep.Draws
import Derived.Test.YtmgnaaonmhaflaaGreatChecked
import Derived.Laws.StructEq
import Derived.MapKept
import Derived.Laws.BytesArg
import Derived.DeepKeys3
import Derived.Shelf.SlSortCmp.WholeK
import Derived.Shelf.Sort.Plain
import Derived.Shelf.Slices.CompactI
import Derived.Test.YtmgnaaonmhaflaaGreatProg
import Derived.Defers
import Derived.Recover
import Derived.OpenShut
import Derived.ChangeSlices
import Derived.Test.YtmgnaaonmhaflaaGreatRows
import Derived.SizedLaws
import Derived.Test.YtmgnaaonmhaflaaGreatZt1
namespace Go.Proofs
open Go Go.Eng
set_option maxRecDepth 100000
set_option linter.unusedVariables false
abbrev TSp : Nat := 67
theorem own_low {w : World} {base base' e size n : Nat} {v : Value} {xs : List Value} (h : w.ownsRow base e size v n xs) (hb : base' ≤ base) : w.ownsRow base' e size v n xs := by
 obtain ⟨h1, h2⟩ := h
 refine ⟨h1, h2.imp id ?_⟩
 rintro ⟨g, cap, cur, a, b, r⟩
 exact ⟨g, cap, cur, a, Nat.le_trans hb b, r⟩
theorem own_le {w : World} {base e size n c : Nat} {a : Option Addr} {xs : List Value} (h : w.ownsRow base e size (.slice a n c) n xs) : n ≤ c := by
 rcases h.2 with ⟨h1, h2⟩ | ⟨g, cap, cur, hv, _, _, hnc, _⟩
 ·omega
 ·simp only [Value.slice.injEq] at hv
  obtain ⟨_, _, rfl⟩ := hv
  exact hnc
/-- A list of spans that lies in memory of one's own. -/
def OwnS (w : World) (base : Nat) (r : Value) (l : List Sp) : Prop := (∃ a c, r = .slice a l.length c) ∧ w.ownsRow base TSp 2 r l.length (l.map spanV).flatten
theorem OwnS.at {w : World} {base : Nat} {r : Value} {l : List Sp} (h : OwnS w base r l) : SpansAt w r l :=
 own_slat h.2 (by intro x hx; simp only [List.mem_map] at hx; obtain ⟨p, _, rfl⟩ := hx; rfl) (by simp) (by decide)
theorem spanV_snoc (l : List Sp) (s : Sp) : ((l ++ [s]).map spanV).flatten = (l.map spanV).flatten ++ [.int .i64 s.1, .int .i64 s.2] := by simp [spanV]
set_option maxHeartbeats 1000000 in
theorem clones_c (w0 : World) (v : Value) (l : List Sp) (h : SpansAt w0 v l) (hl : l.length ≤ 8796093022208) :
  Ret Tryz.prog 48 #[v] w0 fun r w => OwnS w w0.heap.size r l ∧ Ext w0 w := by
 obtain ⟨a, c, rfl⟩ := SlAt.form h
 simp only [List.length_map] at h ⊢
 obtain ⟨base, hbase⟩ : ∃ base, base = w0.heap.size := ⟨_, rfl⟩
 rw [← hbase]
 refine Ret_of Tryz.func48 rfl Tryz.ntmps48 (Nat.le_of_ble_eq_true rfl) ?_
 have E : Chg none1 w0 w0 := Chg.refl _ _
 refine Wp_seq_region ?_
 refine qA _ rfl ?_
 refine WpL_nil (Wp_seq (Wp_seq_region ?_))
 refine qM _ rfl ?_
 refine WpL_val (v := (.bool a.isNone)) rfl rfl (by decide) (r_eqlNil Tryz.underlying22 rfl rfl) ?_
 refine WpL_nil ?_
 refine Wp_cond rfl (fun hn => ?_) (fun hn => ?_)
 ·have khn := hn
  have hl0 : l.length = 0 := by rcases Nat.eq_zero_or_pos l.length with h0 | h0; exact h0; obtain ⟨b, o, rfl, _⟩ := spans_cells h h0; simp at hn
  have hl1 : l = [] := List.eq_nil_of_length_eq_zero hl0
  refine Wp_seq_region ?_
  refine qA _ rfl ?_
  refine WpL_nil (Wp_ret (thn_ret ?_))
  refine fin_tmp Tryz.results48 (v := (.slice none 0 0)) rfl ?_
  subst hl1; exact ⟨⟨⟨none, 0, rfl⟩, World.ownsRow_nil _ _ _ _⟩, E⟩
 ·have khn := hn
  rcases Bool.eq_false_or_eq_true (decide (l.length = 0)) with hz | hz
  ·have khz := hz
   replace khz := of_decide_eq_true khz
   refine Wp_skip (thn_normal (Wp_seq_region ?_))
   refine s_build0 (by decide) Tryz.underlying22 siz67 ?_
   intro bq wq Nq
   have Fq := Nq.ge E
   replace E := E.ext Nq.ext
   have Bq := Nq.blk
   refine qM _ rfl ?_
   refine qV (r_append0 Tryz.underlying22 siz67 (a' := a) (c' := c) rfl (Nat.le_refl _) (by show Value.slice a l.length c = _; rw [khz])) ?_
   refine qA _ rfl ?_
   refine WpL_nil (Wp_ret ?_)
   refine fin_tmp Tryz.results48 (v := (.slice (some ⟨bq, 0, none⟩) 0 0)) rfl ?_
   have hl1 : l = [] := List.eq_nil_of_length_eq_zero khz
   subst hl1; exact ⟨⟨⟨_, 0, rfl⟩, own_empty (base := base) (size := 2) Bq (by omega)⟩, E⟩
  ·have khz := hz
   replace khz := of_decide_eq_false khz
   obtain ⟨b, o, rfl, hcl⟩ := spans_cells h (by omega)
   refine Wp_skip (thn_normal (Wp_seq_region ?_))
   refine s_build0 (by decide) Tryz.underlying22 siz67 ?_
   intro bq wq Nq
   have Fq := Nq.ge E
   replace E := E.ext Nq.ext
   have Bq := Nq.blk
   refine qM _ rfl ?_
   have hown := own_empty (base := base) (size := 2) Bq (by omega)
   have hbs : base ≤ wq.heap.size := by have := Nq.ext.size; omega
   refine s_append (base := base) (n := 0) (m := l.length) (xs := []) (news := (l.map spanV).flatten) (size := 2) (bytes := 16) (v := (.slice (some ⟨bq, 0, none⟩) 0 0)) (by decide) Tryz.underlying22 siz67 byt67 zer67 rfl (by decide) rfl hown rfl (spans_six l) ((spans_flat hcl).ext Nq.ext) (spans_one l) (by unfold maxLen; omega) (by omega) (hbs) ?_
   intro v9 w29 Ov9 Cv9 Dv9
   replace E := E.step Cv9 (fun x hx h => absurd (hown.lt x h).1 (by omega))
   obtain ⟨la, lc, rfl⟩ := own_form Ov9
   refine qA _ rfl ?_
   refine WpL_nil (Wp_ret ?_)
   refine fin_tmp Tryz.results48 (v := (.slice la (0 + l.length) lc)) rfl ?_
   simp only [Nat.zero_add, List.nil_append] at Ov9 ⊢
   exact ⟨⟨⟨la, lc, rfl⟩, Ov9⟩, E⟩
/-- One append of whatever slice, an empty one too. -/
theorem s_appendAny {P : Program} {N : Nat} {Q : Post} {σ : Env} {w : World} {K : Env → World → Prop} {ops : Array Oper} {rest : List Oper} {d : Nat} {ty : TypeId} {pos : String} {af : Array Edge} {t : TypeId} {s x : Operand}
  {base e size bytes n m c : Nat} {ax : Option Addr} {z v : Value} {xs news : List Value} (hN : d < N) (hu : P.underlying t = some (.slice e)) (hsz : Siz P e size) (hby : Byt P e bytes) (hz : Zer P e z) (hzs : z.cells.size = size) (h0 : 0 < size)
  (hs : ev σ s = v) (hown : w.ownsRow base e size v n xs) (hx : ev σ x = .slice ax m c) (hl : news.length = m * size) (hany : (m = 0 ∧ news = []) ∨ ∃ bx ox, ax = some ⟨bx, ox, none⟩ ∧ CellsAt w bx ox news) (h1 : ∀ u ∈ news, u.oneCell' = true)
  (h63 : n + m ≤ maxLen) (hbytes : (n + m) * bytes ≤ 140737488355328) (hbase : base ≤ w.heap.size)
  (k : ∀ v' w', w'.ownsRow base e size v' (n + m) (xs ++ news) → Chg (fun x => v.ownBlock = some x) w w' → (∀ k, v'.ownBlock = some k → v.ownBlock = some k ∨ w.heap.size ≤ k) → WpL P N ops K Q rest (upd σ d v') w') :
  WpL P N ops K Q (⟨some d, .call ⟨.builtin .append, #[s, x], #[t, t]⟩, ty, pos, af, none⟩ :: rest) σ w := by
 rcases hany with ⟨rfl, rfl⟩ | ⟨bx, ox, rfl, hc⟩
 ·obtain ⟨a, c', rfl⟩ := own_form hown
  refine WpL_val rfl rfl hN (r_append0 hu hsz hs (own_le hown) hx) (k _ w (by simpa using hown) (Chg.refl _ _) fun _ h => .inl h)
 ·exact s_append hN hu hsz hby hz hzs h0 hs hown hx hl hc h1 h63 hbytes hbase k
theorem spans_any {w : World} {a : Option Addr} {n c : Nat} {l : List Sp} (h : SpansAt w (.slice a n c) l) : (n = 0 ∧ (l.map spanV).flatten = []) ∨ ∃ b o, a = some ⟨b, o, none⟩ ∧ CellsAt w b o (l.map spanV).flatten := by
 have hn : n = l.length := by have := (SlAt.cap h).2; simpa using this.symm
 rcases Nat.eq_zero_or_pos n with h0 | h0
 ·left; exact ⟨h0, by rw [List.eq_nil_of_length_eq_zero (show l.length = 0 by omega)]; rfl⟩
 ·right
  obtain ⟨b, o, ha, hc⟩ := spans_cells h h0
  exact ⟨b, o, ha, spans_flat hc⟩
def SpssAt (w : World) (v : Value) (ll : List (List Sp)) : Prop := ∃ vs : List Value, SlAt w 1 v (vs.map fun x => [x]) ∧ vs.length = ll.length ∧ ∀ (i : Nat) (u : Value) (l : List Sp), vs[i]? = some u → ll[i]? = some l → SpansAt w u l
theorem SpssAt.ext {w w' : World} {v : Value} {ll : List (List Sp)} (h : SpssAt w v ll) (e : Ext w w') : SpssAt w' v ll := by
 obtain ⟨vs, h1, h2, h3⟩ := h
 exact ⟨vs, h1.ext e, h2, fun i u l hu hl => (h3 i u l hu hl).ext e⟩
theorem SpssAt.form {w : World} {v : Value} {ll : List (List Sp)} (h : SpssAt w v ll) : ∃ a c, v = .slice a ll.length c ∧ ll.length ≤ c ∧ ll.length ≤ 9223372036854775807 := by
 obtain ⟨vs, h1, h2, _⟩ := h
 obtain ⟨a, c, rfl⟩ := h1.form
 have := h1.cap
 have := h1.le
 simp only [List.length_map] at *
 rw [h2] at *
 exact ⟨a, c, rfl, by omega, by omega⟩
theorem spss_cells {w : World} {a : Option Addr} {n c : Nat} {ll : List (List Sp)} (h : SpssAt w (.slice a n c) ll) (hn : 0 < n) :
  ∃ b o, a = some ⟨b, o, none⟩ ∧ ∀ i l, ll[i]? = some l → ∃ ra rc, w.cell? ⟨b, o + i, none⟩ = some (.slice ra l.length rc) ∧ SpansAt w (.slice ra l.length rc) l := by
 obtain ⟨vs, h1, h2, h3⟩ := h
 obtain ⟨b, o, ha, hc⟩ := SlAt.at h1 hn
 refine ⟨b, o, ha, fun i l hl => ?_⟩
 have hi : i < vs.length := by have := lt_of_get hl; omega
 have hu : vs[i]? = some vs[i] := List.getElem?_eq_getElem hi
 have h4 := h3 i vs[i] l hu hl
 obtain ⟨ra, rc, hf⟩ := SlAt.form h4
 simp only [List.length_map] at hf
 have h5 := hc i [vs[i]] (by simp [hu]) 0 _ rfl
 rw [Nat.mul_one, Nat.add_zero, hf] at h5
 rw [hf] at h4
 exact ⟨ra, rc, h5, h4⟩
theorem lens_take {ll : List (List Sp)} {k : Nat} {l : List Sp} (h : ll[k]? = some l) : (ll.take (k + 1)).flatten = (ll.take k).flatten ++ l := by
 rw [List.take_add_one, h]; simp
end Go.Proofs
namespace Go.Eng
open Go
section
variable {κ ν : Type} [DecidableEq κ]
def getM : List (κ × ν) → κ → Option ν
  | [], _ => none
  | p :: r, k => if p.1 = k then some p.2 else getM r k
def putM : List (κ × ν) → κ → ν → List (κ × ν)
  | [], k, v => [(k, v)]
  | p :: r, k, v => if p.1 = k then (k, v) :: r else p :: putM r k v
def findM (eV : ν → Value) : List (κ × ν) → κ → Nat → Option (Nat × Value)
  | [], _, _ => none
  | p :: r, k, i => if p.1 = k then some (i, eV p.2) else findM eV r k (i + 1)
theorem findM_none {eV : ν → Value} : ∀ {es : List (κ × ν)} {k : κ} {i : Nat}, getM es k = none → findM eV es k i = none
  | [], _, _, _ => rfl
  | p :: r, k, i, h => by
    unfold getM at h
    unfold findM
    split at h
    · cases h
    · rename_i hne; rw [if_neg hne]; exact findM_none h
theorem findM_some {eV : ν → Value} : ∀ {es : List (κ × ν)} {k : κ} {i : Nat} {v : ν}, getM es k = some v → ∃ j, findM eV es k i = some (i + j, eV v) ∧ es[j]? = some (k, v) ∧ ∀ u, putM es k u = es.set j (k, u)
  | [], _, _, _, h => by cases h
  | p :: r, k, i, v, h => by
    unfold getM at h
    unfold findM
    split at h
    · rename_i he
      cases h
      rw [if_pos he]
      exact ⟨0, rfl, by obtain ⟨a, b⟩ := p; simp at he; subst he; rfl, fun u => by unfold putM; rw [if_pos he]; rfl⟩
    · rename_i hne
      rw [if_neg hne]
      obtain ⟨j, h1, h2, h3⟩ := findM_some (eV := eV) (i := i + 1) h
      exact ⟨j + 1, by rw [h1]; congr 2; omega, by simpa using h2, fun u => by unfold putM; rw [if_neg hne, h3 u]; rfl⟩
theorem putM_none : ∀ {es : List (κ × ν)} {k : κ} (v : ν), getM es k = none → putM es k v = es ++ [(k, v)]
  | [], _, _, _ => rfl
  | p :: r, k, v, h => by
    unfold getM at h
    unfold putM
    split at h
    · cases h
    · rename_i hne; rw [if_neg hne, putM_none v h]; rfl
theorem getM_put (es : List (κ × ν)) (k : κ) (v : ν) (q : κ) : getM (putM es k v) q = if k = q then some v else getM es q := by
  induction es with
  | nil => unfold putM getM getM; rfl
  | cons p r ih =>
    unfold putM
    split
    · rename_i he
      unfold getM
      by_cases h : k = q
      · rw [if_pos h, if_pos h]
      · rw [if_neg h, if_neg h, if_neg (by rw [he]; exact h)]
    · rename_i hne
      unfold getM
      rw [ih]
      by_cases h : k = q
      · rw [if_pos h, if_neg (by rw [← h]; exact hne), if_pos h]
      · rw [if_neg h, if_neg h]
theorem getM_some_mem {es : List (κ × ν)} {k : κ} {v : ν} (h : getM es k = some v) : (k, v) ∈ es := by
 obtain ⟨j, _, h2, _⟩ := findM_some (eV := fun _ => undef) (i := 0) h
 exact List.mem_of_getElem? h2
theorem getM_isSome {es : List (κ × ν)} {k : κ} : (getM es k).isSome = true ↔ k ∈ es.map (·.1) := by
  induction es with
  | nil => simp [getM]
  | cons p r ih =>
    unfold getM
    by_cases h : p.1 = k
    · simp [h]
    · rw [if_neg h, ih]
      simp [Ne.symm h]
def KeysOk (es : List (κ × ν)) : Prop := (es.map (·.1)).Nodup
omit [DecidableEq κ] in
theorem KeysOk.nil : KeysOk ([] : List (κ × ν)) := List.nodup_nil
theorem KeysOk.put {es : List (κ × ν)} (h : KeysOk es) (k : κ) (v : ν) : KeysOk (putM es k v) := by
  cases hg : getM es k with
  | none =>
    rw [putM_none v hg]
    unfold KeysOk
    rw [List.map_append, List.nodup_append]
    refine ⟨h, by simp, fun a ha b hb => ?_⟩
    simp at hb
    subst hb
    intro he
    subst he
    have := getM_isSome.2 ha
    rw [hg] at this; cases this
  | some u =>
    obtain ⟨j, _, h2, h3⟩ := findM_some (eV := fun _ => undef) (i := 0) hg
    rw [h3 v]
    unfold KeysOk
    have : (es.set j (k, v)).map (·.1) = es.map (·.1) := by
      apply List.ext_getElem?
      intro i
      rw [List.getElem?_map, List.getElem?_map, List.getElem?_set]
      by_cases hi : j = i
      · subst hi
        have hlt := lt_of_get h2
        rw [if_pos rfl, if_pos hlt, h2]; rfl
      · simp [hi]
    rw [this]; exact h
end
/-- A map in memory: its entries in the order in which the keys came. -/
def ents {κ ν : Type} (ek : κ → Value) (eV : ν → Value) (es : List (κ × ν)) : List MapEntry := es.zipIdx.map fun p => { key := ek p.1.1, val := eV p.1.2, born := p.2 }
def MapAt {κ ν : Type} (w : World) (b : Nat) (ek : κ → Value) (eV : ν → Value) (es : List (κ × ν)) : Prop := w.heap[b]? = some (.map (ents ek eV es).toArray es.length)
theorem ents_len {κ ν : Type} (ek : κ → Value) (eV : ν → Value) (es : List (κ × ν)) : (ents ek eV es).length = es.length := by simp [ents]
theorem ents_get {κ ν : Type} {ek : κ → Value} {eV : ν → Value} {es : List (κ × ν)} {i : Nat} : (ents ek eV es)[i]? = (es[i]?).map fun p => { key := ek p.1, val := eV p.2, born := i } := by
 unfold ents; rw [List.getElem?_map, List.getElem?_zipIdx]; cases es[i]? <;> simp
theorem ents_kv {κ ν : Type} (ek : κ → Value) (eV : ν → Value) (es : List (κ × ν)) : (ents ek eV es).map (fun e => (e.key, e.val)) = es.map fun p => (ek p.1, eV p.2) := by
 apply List.ext_getElem?
 intro i
 rw [List.getElem?_map, ents_get, List.getElem?_map]
 cases es[i]? <;> rfl
section
variable {κ ν : Type} {ek : κ → Value} {eV : ν → Value} {es : List (κ × ν)} {w w' : World} {b : Nat}
theorem MapAt.lt (h : MapAt w b ek eV es) : b < w.heap.size := (Array.getElem?_eq_some_iff.1 h).1
theorem Chg.keepM {M : Nat → Prop} (h : Chg M w w') (hm : ¬ M b) (hb : MapAt w b ek eV es) : MapAt w' b ek eV es := (h.blk b hb.lt hm).trans hb
theorem Ext.keepM (h : Ext w w') (hb : MapAt w b ek eV es) : MapAt w' b ek eV es := Chg.keepM h (fun f => f) hb
theorem New.keepM {n : Nat} {c : Array Value} {t : TypeId} (h : New w w' n c t) (hb : MapAt w b ek eV es) : MapAt w' b ek eV es := h.ext.keepM hb
theorem New.ltM {n : Nat} {c : Array Value} {t : TypeId} (h : New w w' n c t) (hb : MapAt w b ek eV es) : b < n := by rw [h.eq]; exact hb.lt
end
/-- A new object that is no row of cells. -/
structure NewO (w w' : World) (b : Nat) (o : Obj) : Prop where
 at' : w'.heap[b]? = some o
 ext : Ext w w'
 eq : b = w.heap.size
 size : w'.heap.size = w.heap.size + 1
theorem NewO.mk' (w : World) (o : Obj) : NewO w { w with heap := w.heap.push o } w.heap.size o :=
 ⟨by simp, ⟨rfl, rfl, rfl, Nat.le_refl _, by simp, fun x hx _ => by simp [Array.getElem?_push, Nat.ne_of_lt hx]⟩, rfl, by simp⟩
section
variable {w w' : World} {b : Nat} {o : Obj}
theorem NewO.ge (h : NewO w w' b o) {w0 : World} {M : Nat → Prop} (e : Chg M w0 w) : w0.heap.size ≤ b := by rw [h.eq]; exact e.size
variable {κ ν : Type} {ek : κ → Value} {eV : ν → Value} {es : List (κ × ν)} {b' : Nat}
theorem NewO.keepM (h : NewO w w' b o) (hb : MapAt w b' ek eV es) : MapAt w' b' ek eV es := h.ext.keepM hb
theorem NewO.ltM (h : NewO w w' b o) (hb : MapAt w b' ek eV es) : b' < b := by rw [h.eq]; exact hb.lt
end
/-- An object that is no row of cells is replaced. -/
structure PutO (w w' : World) (b : Nat) (o : Obj) : Prop where
 at' : w'.heap[b]? = some o
 chg : Chg (fun x => x = b) w w'
 size : w'.heap.size = w.heap.size
theorem PutO.mk' {w : World} {b : Nat} (o : Obj) (hb : b < w.heap.size) : PutO w { w with heap := w.heap.setIfInBounds b o } b o :=
 ⟨by simp [hb], ⟨rfl, rfl, rfl, Nat.le_refl _, by simp, fun x hx hne => by simp [Array.getElem?_setIfInBounds, Ne.symm hne]⟩, by simp⟩
section
variable {w w' : World} {b : Nat} {o : Obj}
theorem PutO.keep (h : PutO w w' b o) {b' : Nat} {c' : Array Value} {t' : TypeId} (hne : b' ≠ b) (hb : Blk w b' c' t') : Blk w' b' c' t' := h.chg.keep hne hb
theorem PutO.step (h : PutO w w' b o) {w0 : World} {M : Nat → Prop} (e : Chg M w0 w) (hb : w0.heap.size ≤ b ∨ M b) : Chg M w0 w' :=
 e.step h.chg fun x hx hm => by subst hm; rcases hb with hb | hb; omega; exact hb
variable {κ ν : Type} {ek : κ → Value} {eV : ν → Value} {es : List (κ × ν)} {b' : Nat}
theorem PutO.keepM (h : PutO w w' b o) (hne : b' ≠ b) (hb : MapAt w b' ek eV es) : MapAt w' b' ek eV es := h.chg.keepM hne hb
end
/-- What is asked of a key's type. -/
structure KeyOk (P : Program) (kt : TypeId) {κ : Type} [DecidableEq κ] (ek : κ → Value) : Prop where
 check : ∀ (b : Bool) (w : World) (k : κ), (Instr.checkKey b 10000 kt (ek k)).run P w = .ok () w
 find : ∀ (ν : Type) (w : World) (k : κ) (es : List (κ × ν)) (eV : ν → Value) (L : List MapEntry), L.map (fun e => (e.key, e.val)) = es.map (fun p => (ek p.1, eV p.2)) → (Instr.findKey kt (ek k) L).run P w = .ok (findM eV es k 0) w
 same : ∀ k, Instr.sameBits 10000 (ek k) (ek k) = true
def kInt (x : Int) : Value := .int .i64 x
def kBool (x : Bool) : Value := .bool x
theorem keyInt {P : Program} {kt : TypeId} (hu : P.underlying kt = some (.int .i64)) : KeyOk P kt kInt where
  check := fun b w k => by rw [show (10000 : Nat) = 9999 + 1 from rfl, Instr.checkKey]; simp only [Sem.run_bind, run_underlying hu, Result.andThen_ok, kInt]; rfl
  find := fun ν w k es eV L hL => by
    have key : ∀ (L : List MapEntry) (es : List (Int × ν)) (i : Nat), L.map (fun e => (e.key, e.val)) = es.map (fun p => (kInt p.1, eV p.2)) → Instr.findNow (.int .i64) (kInt k) L i = some (findM eV es k i) := by
      intro L
      induction L with
      | nil =>
        intro es i h
        cases es with
        | nil => rfl
        | cons _ _ => simp at h
      | cons e L ih =>
        intro es i h
        cases es with
        | nil => simp at h
        | cons p es =>
          simp only [List.map_cons, List.cons.injEq, Prod.mk.injEq] at h
          obtain ⟨⟨h1, h2⟩, h3⟩ := h
          unfold Instr.findNow findM
          rw [h1]
          simp only [kInt, Instr.sameNow, if_true]
          by_cases hk : p.1 = k
          · rw [if_pos hk, hk]; simp [h2]
          · have : (k == p.1) = false := by simp; exact fun h => hk h.symm
            rw [if_neg hk, this]
            exact ih es (i + 1) h3
    simp [Instr.findKey, run_underlying hu, key L es 0 hL]
  same := fun k => by unfold kInt; rw [Instr.sameBits]; simp
section
variable {P : Program} {N : Nat} {Q : Post} {σ : Env} {w : World} {K : Env → World → Prop} {ops : Array Oper} {rest : List Oper} {d : Nat} {ty : TypeId} {pos : String} {af : Array Edge} {g : Option (Nat × Bool)} {dst : Option Tmp} {t kt et : TypeId} {m x y : Operand} {b : Nat}
variable {κ ν : Type} [DecidableEq κ] {ek : κ → Value} {eV : ν → Value} {es : List (κ × ν)} {k : κ} {v : ν}
omit [DecidableEq κ] in
theorem s_makeMap (ek : κ → Value) (eV : ν → Value) (hN : d < N) (kk : ∀ b w', NewO w w' b (.map #[] 0) → MapAt w' b ek eV [] → WpL P N ops K Q rest (upd σ d (.map (some b))) w') :
  WpL P N ops K Q (⟨some d, .makeMap t none, ty, pos, af, none⟩ :: rest) σ w := by
 refine WpL_val (v := .map (some w.heap.size)) (w' := { w with heap := w.heap.push (.map #[] 0) }) rfl rfl hN ?_ (kk _ _ (NewO.mk' w _) (NewO.mk' w _).at')
 simp [execOp, Instr.makeMap]
theorem run_mapUpdate (hu : P.underlying t = some (.map kt et)) (hk : KeyOk P kt ek) (hm : MapAt w b ek eV es) :
    (Instr.mapUpdate t (.map (some b)) (ek k) (eV v)).run P w = .ok () { w with heap := w.heap.setIfInBounds b (.map (ents ek eV (putM es k v)).toArray (putM es k v).length) } := by
  have hlt := hm.lt
  unfold MapAt at hm
  have hg : (getObj b).run P w = .ok (.map (ents ek eV es).toArray es.length) w := by simp [getObj, Sem.run, hm]
  have hs : ∀ o, (setObj b o).run P w = .ok () { w with heap := w.heap.setIfInBounds b o } := fun o => by simp [setObj, Sem.run, hm]
  have hf := hk.find ν w k es eV (ents ek eV es) (ents_kv ek eV es)
  simp only [Instr.mapUpdate, Sem.run_bind, run_underlying hu, Result.andThen_ok, hg, hk.check, hf]
  cases hgm : getM es k with
  | none =>
    rw [findM_none hgm]
    simp only [hs]
    congr 4
    · apply Array.ext'
      rw [putM_none v hgm]
      simp [ents, List.zipIdx_append]
    · rw [putM_none v hgm]; simp
  | some u =>
    obtain ⟨j, h1, h2, h3⟩ := findM_some (eV := eV) (i := 0) hgm
    rw [Nat.zero_add] at h1
    rw [h1]
    have hj := lt_of_get h2
    have he : (ents ek eV es).toArray[j]? = some { key := ek k, val := eV u, born := j } := by rw [List.getElem?_toArray, ents_get, h2]; rfl
    simp only [he, Option.map_some, Option.getD_some, Instr.keyThatStays, hk.same, if_true, Sem.run_bind, Sem.run_pure, Result.andThen_ok, hs]
    congr 4
    · apply Array.ext'
      rw [h3 v]
      apply List.ext_getElem?
      intro i
      rw [List.getElem?_toArray.symm.trans (by rfl)] <;> simp only [Array.getElem?_toList, Array.getElem?_modify, List.getElem?_toArray, ents_get, List.getElem?_set]
      by_cases hi : j = i
      · subst hi; simp [h2, hj]
      · simp [hi]
    · rw [h3 v]; simp
theorem s_mapUpdate (hu : P.underlying t = some (.map kt et)) (hk : KeyOk P kt ek) (hm : MapAt w b ek eV es) (h1 : ev σ m = .map (some b)) (h2 : ev σ x = ek k) (h3 : ev σ y = eV v)
  (kk : ∀ w', PutO w w' b (.map (ents ek eV (putM es k v)).toArray (putM es k v).length) → MapAt w' b ek eV (putM es k v) → WpL P N ops K Q rest σ w') :
  WpL P N ops K Q (⟨none, .mapUpdate t m x y, ty, pos, af, none⟩ :: rest) σ w := by
 have hr := run_mapUpdate (k := k) (v := v) hu hk hm
 refine WpL_skip rfl rfl (w' := { w with heap := w.heap.setIfInBounds b (.map (ents ek eV (putM es k v)).toArray (putM es k v).length) }) ?_ (kk _ (PutO.mk' _ hm.lt) (PutO.mk' _ hm.lt).at')
 simp [execOp, h1, h2, h3, hr]
theorem s_insert (hu : P.underlying t = some (.map kt et)) (hk : KeyOk P kt ek) (hm : MapAt w b ek eV es) (h1 : ev σ m = .map (some b)) (h2 : ev σ x = ek k) (h3 : ev σ y = eV v)
  (kk : ∀ w', PutO w w' b (.map (ents ek eV (putM es k v)).toArray (putM es k v).length) → MapAt w' b ek eV (putM es k v) → WpL P N ops K Q rest σ w') :
  WpL P N ops K Q (⟨none, .insert t m x y, ty, pos, af, none⟩ :: rest) σ w := by
 have hr := run_mapUpdate (k := k) (v := v) hu hk hm
 refine WpL_skip rfl rfl (w' := { w with heap := w.heap.setIfInBounds b (.map (ents ek eV (putM es k v)).toArray (putM es k v).length) }) ?_ (kk _ (PutO.mk' _ hm.lt) (PutO.mk' _ hm.lt).at')
 simp [execOp, h1, h2, h3, hr]
theorem run_lookup (c : Bool) {z : ν} (hu : P.underlying t = some (.map kt et)) (hk : KeyOk P kt ek) (hz : Zer P et (eV z)) (hm : MapAt w b ek eV es) :
    (Instr.lookup t (.map (some b)) (ek k) c).run P w = .ok (if c then .tuple #[eV ((getM es k).getD z), .bool (getM es k).isSome] else eV ((getM es k).getD z)) w := by
  unfold MapAt at hm
  have hg : (getObj b).run P w = .ok (.map (ents ek eV es).toArray es.length) w := by simp [getObj, Sem.run, hm]
  have hf := hk.find ν w k es eV (ents ek eV es) (ents_kv ek eV es)
  simp only [Instr.lookup, Sem.run_bind, run_underlying hu, Result.andThen_ok, hg, Sem.run_pure, hk.check, hf]
  cases hgm : getM es k with
  | none => rw [findM_none hgm]; simp [hz.run]
  | some u =>
    obtain ⟨j, h1, _, _⟩ := findM_some (eV := eV) (i := 0) hgm
    rw [h1]; simp
theorem r_lookup {z : ν} (hu : P.underlying t = some (.map kt et)) (hk : KeyOk P kt ek) (hz : Zer P et (eV z)) (hm : MapAt w b ek eV es) (h1 : ev σ m = .map (some b)) (h2 : ev σ x = ek k) :
  (execOp (ev σ) ⟨dst, .lookup t m x false, ty, pos, af, g⟩).run P w = .ok (.value (eV ((getM es k).getD z))) w := by
 simp [execOp, h1, h2, run_lookup false hu hk hz hm]
end
def IterAt (w : World) (it b n : Nat) (seen : List Nat) : Prop := w.heap[it]? = some (.mapIter (some b) n seen.toArray n)
theorem IterAt.lt {w : World} {it b n : Nat} {seen : List Nat} (h : IterAt w it b n seen) : it < w.heap.size := (Array.getElem?_eq_some_iff.1 h).1
theorem IterAt.chg {M : Nat → Prop} {w w' : World} {it b n : Nat} {seen : List Nat} (h : IterAt w it b n seen) (c : Chg M w w') (hm : ¬ M it) : IterAt w' it b n seen := (c.blk it h.lt hm).trans h
theorem IterAt.ext {w w' : World} {it b n : Nat} {seen : List Nat} (h : IterAt w it b n seen) (c : Ext w w') : IterAt w' it b n seen := h.chg c fun f => f
section
variable {w w' : World} {it b n : Nat} {seen : List Nat} (hb : IterAt w it b n seen)
include hb
theorem Chg.keepI {M : Nat → Prop} (h : Chg M w w') (hm : ¬ M it) : IterAt w' it b n seen := hb.chg h hm
theorem New.keepI {q : Nat} {c : Array Value} {t : TypeId} (h : New w w' q c t) : IterAt w' it b n seen := hb.ext h.ext
theorem New.ltI {q : Nat} {c : Array Value} {t : TypeId} (h : New w w' q c t) : it < q := by rw [h.eq]; exact hb.lt
end
section
variable {P : Program} {N : Nat} {Q : Post} {σ : Env} {w : World} {K : Env → World → Prop} {ops : Array Oper} {rest : List Oper} {d : Nat} {ty : TypeId} {pos : String} {af : Array Edge} {g : Option (Nat × Bool)} {dst : Option Tmp} {t kt et : TypeId} {x : Operand} {b it : Nat}
variable {κ ν : Type} {ek : κ → Value} {eV : ν → Value} {es : List (κ × ν)} {seen : List Nat}
theorem s_range (hN : d < N) (hu : P.underlying t = some (.map kt et)) (hm : MapAt w b ek eV es) (h1 : ev σ x = .map (some b))
  (kk : ∀ it w', NewO w w' it (.mapIter (some b) es.length #[] es.length) → WpL P N ops K Q rest (upd σ d (.pointer (some ⟨it, 0, none⟩))) w') :
  WpL P N ops K Q (⟨some d, .range t x, ty, pos, af, none⟩ :: rest) σ w := by
 unfold MapAt at hm
 have hg : (getObj b).run P w = .ok (.map (ents ek eV es).toArray es.length) w := by simp [getObj, Sem.run, hm]
 refine WpL_val (v := .pointer (some ⟨w.heap.size, 0, none⟩)) (w' := { w with heap := w.heap.push (.mapIter (some b) es.length #[] es.length) }) rfl rfl hN ?_ (kk _ _ (NewO.mk' w _))
 simp [execOp, h1, Instr.range, run_underlying hu, hg]
theorem ents_born {e : MapEntry} (h : e ∈ ents ek eV es) : ∃ p, es[e.born]? = some p ∧ e.key = ek p.1 ∧ e.val = eV p.2 := by
  obtain ⟨i, hi⟩ := List.mem_iff_getElem?.1 h
  rw [ents_get] at hi
  cases hp : es[i]? with
  | none => rw [hp] at hi; cases hi
  | some p =>
    rw [hp] at hi
    simp at hi
    subst hi
    exact ⟨p, hp, rfl, rfl⟩
theorem s_next (hN : d < N) (hm : MapAt w b ek eV es) (hi : IterAt w it b es.length seen) (h1 : ev σ x = .pointer (some ⟨it, 0, none⟩))
    (k1 : (∀ i, i < es.length → i ∈ seen) → WpL P N ops K Q rest (upd σ d (.tuple #[.bool false])) w)
    (k2 : ∀ i p w', es[i]? = some p → i ∉ seen → PutO w w' it (.mapIter (some b) es.length (seen ++ [i]).toArray es.length) → WpL P N ops K Q rest (upd σ d (.tuple #[.bool true, ek p.1, eV p.2])) w') :
    WpL P N ops K Q (⟨some d, .next x false, ty, pos, af, none⟩ :: rest) σ w := by
  have hit := hi.lt
  have hgm : (getObj b).run P w = .ok (.map (ents ek eV es).toArray es.length) w := by unfold MapAt at hm; simp [getObj, Sem.run, hm]
  have hgi : (getObj it).run P w = .ok (.mapIter (some b) es.length seen.toArray es.length) w := by unfold IterAt at hi; simp [getObj, Sem.run, hi]
  have hall : ((!seen.toArray.isEmpty && !(ents ek eV es).toArray.isEmpty) && (ents ek eV es).toArray.all (fun e => decide (e.born ≥ es.length))) = false := by
    cases es with
    | nil => simp [ents]
    | cons p r =>
      have hm0 : ({ key := ek p.1, val := eV p.2, born := 0 } : MapEntry) ∈ ents ek eV (p :: r) := List.mem_of_getElem? (i := 0) (by rw [ents_get]; rfl)
      have : (ents ek eV (p :: r)).toArray.all (fun e => decide (e.born ≥ (p :: r).length)) = false := by
        rw [List.all_toArray, List.all_eq_false]
        exact ⟨_, hm0, by simp⟩
      rw [this, Bool.and_false]
  obtain ⟨left, hleft⟩ : ∃ left, left = (ents ek eV es).toArray.filter fun e => !seen.toArray.contains e.born := ⟨_, rfl⟩
  have hmemL : ∀ e, e ∈ left → e ∈ ents ek eV es ∧ e.born ∉ seen := fun e he => by rw [hleft] at he; simpa using he
  have hold : left.filter (fun e => decide (e.born < es.length)) = left := by
    rw [Array.filter_eq_self]
    intro e he
    obtain ⟨p, hp, _⟩ := ents_born (hmemL e he).1
    simpa using lt_of_get hp
  have hnew : left.filter (fun e => decide (e.born ≥ es.length)) = #[] := by
    rw [Array.filter_eq_empty_iff]
    intro e he
    obtain ⟨p, hp, _⟩ := ents_born (hmemL e he).1
    have := lt_of_get hp
    simp; omega
  by_cases hemp : left = #[]
  · have hk1 := k1 fun i hi' => by
      by_cases hin : i ∈ seen
      · exact hin
      · exfalso
        obtain ⟨p, hp⟩ : ∃ p, es[i]? = some p := ⟨_, List.getElem?_eq_getElem hi'⟩
        have he : ({ key := ek p.1, val := eV p.2, born := i } : MapEntry) ∈ ents ek eV es := List.mem_of_getElem? (i := i) (by rw [ents_get, hp]; rfl)
        have : ({ key := ek p.1, val := eV p.2, born := i } : MapEntry) ∈ left := by rw [hleft]; simpa using ⟨he, hin⟩
        rw [hemp] at this; simp at this
    refine WpL_val (v := .tuple #[.bool false]) (w' := w) rfl rfl hN ?_ hk1
    have hfo : Question.forced (.mapNext 1) = true := rfl
    have hch : (choose (.mapNext 1)).run P w = .ok 0 w := by simp [choose, Sem.run, hfo]
    simp only [execOp, h1, Instr.next, Sem.run_bind, hgi, Result.andThen_ok, hgm, hall, Bool.false_eq_true, if_false, Sem.run_pure, ← hleft, hold, hnew, hemp]
    have hf1 : Array.filter (fun x : MapEntry => decide (x.born < es.length)) #[] = #[] := by simp
    have hf2 : Array.filter (fun x : MapEntry => decide (x.born ≥ es.length)) #[] = #[] := by simp
    have hc1 : ((if (#[] : Array MapEntry).isEmpty = true then #[none] else #[]) ++ Array.map some ((#[] : Array MapEntry) ++ #[]) : Array (Option MapEntry)) = #[none] := by simp
    simp only [hf1, hf2, hc1]
    rw [show (#[none] : Array (Option MapEntry)).size = 1 from rfl, hch]
    rfl
  · have hsz : 0 < left.size := by rcases Nat.eq_zero_or_pos left.size with h | h; exact absurd (Array.eq_empty_of_size_eq_zero h) hemp; exact h
    have hemp2 : left.isEmpty = false := by simpa using hemp
    obtain ⟨j, dr, hj, hch⟩ : ∃ j dr, j < left.size ∧ (choose (.mapNext left.size)).run P w = .ok j { w with drawn := w.drawn + dr } := by
      by_cases hf : Question.forced (.mapNext left.size) = true
      · exact ⟨0, 0, hsz, by simp [choose, Sem.run, hf]⟩
      · exact ⟨_, 1, Nat.mod_lt (w.tape w.drawn (.mapNext left.size)) hsz, by simp [choose, Sem.run, hf, Question.cut]⟩
    obtain ⟨e, he⟩ : ∃ e, left[j]? = some e := ⟨_, Array.getElem?_eq_getElem hj⟩
    obtain ⟨hmem, hns⟩ := hmemL e (Array.mem_of_getElem? he)
    obtain ⟨p, hp, hk, hv⟩ := ents_born hmem
    have hiw : ({ w with drawn := w.drawn + dr } : World).heap[it]? = some (.mapIter (some b) es.length seen.toArray es.length) := hi
    refine WpL_val (v := .tuple #[.bool true, ek p.1, eV p.2]) (w' := { w with drawn := w.drawn + dr, heap := w.heap.setIfInBounds it (.mapIter (some b) es.length (seen ++ [e.born]).toArray es.length) }) rfl rfl hN ?_ (k2 e.born p _ hp hns ?_)
    · have hso : (setObj it (.mapIter (some b) es.length (seen.toArray.push e.born) es.length)).run P { w with drawn := w.drawn + dr } = .ok () { w with drawn := w.drawn + dr, heap := w.heap.setIfInBounds it (.mapIter (some b) es.length (seen.toArray.push e.born) es.length) } := by simp [setObj, Sem.run, hiw]
      have hcand : ((#[] : Array (Option MapEntry)) ++ (left ++ #[]).map some)[j]? = some (some e) := by simp [he]
      have hcsz : ((#[] : Array (Option MapEntry)) ++ (left ++ #[]).map some).size = left.size := by simp
      simp only [execOp, h1, Instr.next, Sem.run_bind, hgi, Result.andThen_ok, hgm, hall, Bool.false_eq_true, if_false, Sem.run_pure, ← hleft, hold, hnew, hemp2, hcsz, hch, hcand, hso, hk, hv]
      simp
    · refine ⟨by simp [hit], ⟨rfl, rfl, rfl, Nat.le_add_right _ _, by simp, fun y hy hne => by simp [Array.getElem?_setIfInBounds, Ne.symm hne]⟩, by simp⟩
theorem r_entry {i : Nat} {p : κ × ν} (hm : MapAt w b ek eV es) (hi : IterAt w it b es.length (seen ++ [i])) (hp : es[i]? = some p) (h1 : ev σ x = .pointer (some ⟨it, 0, none⟩)) :
  (execOp (ev σ) ⟨dst, .entry x, ty, pos, af, g⟩).run P w = .ok (.value (.tuple #[ek p.1, eV p.2])) w := by
 have hgm : (getObj b).run P w = .ok (.map (ents ek eV es).toArray es.length) w := by unfold MapAt at hm; simp [getObj, Sem.run, hm]
 have hgi : (getObj it).run P w = .ok (.mapIter (some b) es.length (seen ++ [i]).toArray es.length) w := by unfold IterAt at hi; simp [getObj, Sem.run, hi]
 have hb : (seen ++ [i]).toArray.back? = some i := by simp [Array.back?]
 have hlt := lt_of_get hp
 have hf : (ents ek eV es).find? (fun e => e.born == i) = some { key := ek p.1, val := eV p.2, born := i } := by
  rw [List.find?_eq_some_iff_getElem]
  refine ⟨by simp, i, by rw [ents_len]; exact hlt, ?_, fun j hj => ?_⟩
  ·have := ents_get (ek := ek) (eV := eV) (es := es) (i := i)
   rw [hp, List.getElem?_eq_getElem (by rw [ents_len]; exact hlt)] at this
   simpa using this
  ·have h2 := ents_get (ek := ek) (eV := eV) (es := es) (i := j)
   have hjl : j < es.length := by omega
   rw [List.getElem?_eq_getElem (by rw [ents_len]; exact hjl), List.getElem?_eq_getElem hjl] at h2
   simp at h2
   rw [h2]; simp; omega
 have hf2 : (ents ek eV es).toArray.find? (fun e => e.born == i) = some { key := ek p.1, val := eV p.2, born := i } := by simpa using hf
 simp only [execOp, h1, Instr.entry, Sem.run_bind, hgi, Result.andThen_ok, hb, hgm, hf2, Sem.run_pure]
 simp
end
theorem cnt1 {l : List Nat} (hd : l.Nodup) {a : Nat} (h : a ∈ l) : l.count a = 1 := by
  induction l with
  | nil => cases h
  | cons x r ih =>
    rw [List.nodup_cons] at hd
    rw [List.count_cons]
    rcases List.mem_cons.1 h with rfl | h
    · rw [List.count_eq_zero_of_not_mem hd.1]; simp
    · have : x ≠ a := fun e => hd.1 (e ▸ h)
      rw [ih hd.2 h]; simp [this]
theorem seen_perm {n : Nat} {seen : List Nat} (hd : seen.Nodup) (hl : ∀ i ∈ seen, i < n) (ha : ∀ i, i < n → i ∈ seen) : seen.Perm (List.range n) := by
 rw [List.perm_iff_count]
 intro a
 by_cases h : a ∈ seen
 ·rw [cnt1 hd h, cnt1 List.nodup_range (List.mem_range.2 (hl a h))]
 ·rw [List.count_eq_zero_of_not_mem h, List.count_eq_zero_of_not_mem (fun h2 => h (ha a (List.mem_range.1 h2)))]
theorem seen_len {n : Nat} {seen : List Nat} (hd : seen.Nodup) (hl : ∀ i ∈ seen, i < n) : seen.length ≤ n := by
 have h : seen.Subset (List.range n) := fun i hi => List.mem_range.2 (hl i hi)
 have := hd.length_le_of_subset h
 simpa using this
end Go.Eng
namespace Go.Eng
open Go
section
variable {P : Program} {N : Nat} {σ : Env} {w : World} {ty : TypeId} {pos : String} {af : Array Edge} {g : Option (Nat × Bool)} {t kt et : TypeId} {m x y : Operand} {b : Nat} {M : Nat → Prop} {R : Value → World → Prop}
variable {κ ν : Type} [DecidableEq κ] {ek : κ → Value} {eV : ν → Value} {es : List (κ × ν)} {k : κ} {v : ν}
theorem DoesT_mapUpdate (hu : P.underlying t = some (.map kt et)) (hk : KeyOk P kt ek) (hm : MapAt w b ek eV es) (h1 : ev σ m = .map (some b)) (h2 : ev σ x = ek k) (h3 : ev σ y = eV v) (hM : M b)
  (hR : ∀ w', MapAt w' b ek eV (putM es k v) → R undef w') : DoesT M P N ⟨none, .mapUpdate t m x y, ty, pos, af, g⟩ R σ w := by
 have hr := run_mapUpdate (k := k) (v := v) hu hk hm
 have hp := PutO.mk' (w := w) (b := b) (.map (ents ek eV (putM es k v)).toArray (putM es k v).length) hm.lt
 refine DoesT_skip (w' := { w with heap := w.heap.setIfInBounds b (.map (ents ek eV (putM es k v)).toArray (putM es k v).length) }) ?_ (hp.chg.mono fun z _ h => by subst h; exact hM) (hR _ hp.at')
 simp [execOp, h1, h2, h3, hr]
end
end Go.Eng
namespace Go.Proofs
open Go Go.Eng Go.Sort
structure LSt (To e sz : Nat) (w : World) (base : Nat) (vo : Value) (vs : List Value) (ns : List (Nat × List Value)) : Prop where
 o : w.ownsRow base To 1 vo ns.length vs
 len : vs.length = ns.length
 inn : ∀ (i : Nat) v p, vs[i]? = some v → ns[i]? = some p → w.ownsRow base e sz v p.1 p.2
 apo : ∀ (i : Nat) v b, vs[i]? = some v → v.ownBlock = some b → vo.ownBlock ≠ some b
theorem LSt.start (To e sz : Nat) (w : World) (base : Nat) : LSt To e sz w base (.slice none 0 0) [] [] :=
 ⟨World.ownsRow_nil _ _ _ _, rfl, fun i v p h => by simp at h, fun i v b h => by simp at h⟩
theorem LSt.chg {M : Nat → Prop} {To e sz base : Nat} {w w' : World} {vo : Value} {vs : List Value} {ns : List (Nat × List Value)} (h : LSt To e sz w base vo vs ns) (c : Chg M w w') (hM : ∀ b, base ≤ b → b < w.heap.size → ¬ M b) : LSt To e sz w' base vo vs ns :=
 ⟨own_chg h.o c fun k hk => hM k (h.o.lt k hk).1 (h.o.lt k hk).2, h.len, fun i v l hv hl => own_chg (h.inn i v l hv hl) c fun k hk => hM k ((h.inn i v l hv hl).lt k hk).1 ((h.inn i v l hv hl).lt k hk).2, h.apo⟩
theorem LSt.ext {To e sz base : Nat} {w w' : World} {vo : Value} {vs : List Value} {ns : List (Nat × List Value)} (h : LSt To e sz w base vo vs ns) (c : Ext w w') : LSt To e sz w' base vo vs ns := h.chg c fun _ _ _ f => f
theorem LSt.on {To e sz base n : Nat} {w : World} {vo : Value} {vs : List Value} {ns : List (Nat × List Value)} (h : LSt To e sz w base vo vs ns) (hn : n = ns.length) : w.ownsRow base To 1 vo n vs := by subst hn; exact h.o
/-- A slice that was made later is appended. -/
theorem LSt.push {To e sz base bu n m : Nat} {w w' : World} {vo v' u : Value} {vs us : List Value} {ns : List (Nat × List Value)} (h : LSt To e sz w base vo vs ns) (hn : n = ns.length) (hu : w.ownsRow bu e sz u m us) (hb : base ≤ bu) (hbu : ∀ k, vo.ownBlock = some k → k < bu)
  (Ov : w'.ownsRow base To 1 v' (n + 1) (vs ++ [u])) (Cv : Chg (fun x => vo.ownBlock = some x) w w') (Wv : ∀ k, v'.ownBlock = some k → vo.ownBlock = some k ∨ w.heap.size ≤ k) : LSt To e sz w' base v' (vs ++ [u]) (ns ++ [(m, us)]) := by
 have hold : ∀ (i : Nat) v, (vs ++ [u])[i]? = some v → vs[i]? = some v ∨ (i = vs.length ∧ v = u) := by
  intro i v hv
  rcases Nat.lt_or_ge i vs.length with h1 | h1
  ·left; rwa [List.getElem?_append_left h1] at hv
  ·right
   rw [List.getElem?_append_right h1] at hv
   have h2 := lt_of_get hv
   simp at h2
   obtain rfl : i = vs.length := by omega
   simp at hv
   exact ⟨rfl, hv.symm⟩
 have hun : ∀ b, u.ownBlock = some b → vo.ownBlock ≠ some b := fun b hb' e' => by
  have h1 := hbu b e'
  have h2 := (hu.lt b hb').1
  omega
 refine ⟨by rw [List.length_append, ← hn]; exact Ov, by simp [h.len], ?_, ?_⟩
 ·intro i v p hv hp
  rcases hold i v hv with h1 | ⟨h1, rfl⟩
  ·rw [List.getElem?_append_left (by have := lt_of_get h1; have := h.len; omega)] at hp
   exact own_chg (h.inn i v p h1 hp) Cv fun k hk => h.apo i v k h1 hk
  ·rw [h1, h.len] at hp
   simp at hp
   subst hp
   exact own_low (own_chg hu Cv fun k hk => hun k hk) hb
 ·intro i v b hv hb1 hb2
  rcases hold i v hv with h1 | ⟨_, rfl⟩
  ·rcases Wv b hb2 with h2 | h2
   ·exact h.apo i v b h1 hb1 h2
   ·obtain ⟨p, hp⟩ := get_of_lt (l := ns) (i := i) (by have := lt_of_get h1; have := h.len; omega)
    have := ((h.inn i v p h1 hp).lt b hb1).2
    omega
  ·rcases Wv b hb2 with h2 | h2
   ·exact hun b hb1 h2
   ·have := (hu.lt b hb1).2; omega
end Go.Proofs
namespace Go.Eng
open Go
def edgeB (l : List Oper) (t u : Nat) : Bool := match l[t]? with
  | some o => o.after.any fun e => Region.binds .any e && Nat.beq e.on u
  | none => false
def guardB (hd : List Bool) (o : Oper) : Bool := match o.guard with | some p => hd.getD p.1 false | none => true
/-- Each operation is of the head or of the tail, and one of the tail waits for the whole head or for another of the tail. -/
def tailPB (l : List Oper) (hd : List Bool) (ts : List Nat) : Bool :=
 (List.range l.length).all fun i => hd.getD i false || (ts.contains i && ((List.range l.length).all (fun u => !hd.getD u false || edgeB l i u) || ts.any fun p => !hd.getD p true && edgeB l i p))
def permB (ops : Array Oper) : List Nat → Array Bool → Bool
  | [], listed => (Region.ready .any ops listed).isEmpty
  | k :: ks, listed => decide (Region.ready .any ops listed = [k]) && permB ops ks (listed.setIfInBounds k true)
theorem wpAny_of_perm {P : Program} {ops : Array Oper} {Q' : Exit → Act → World → Prop} : ∀ (ks : List Nat) (listed : Array Bool) (a : Act) (w : World), permB ops ks listed = true → wpList P ops Q' (ks.filterMap fun k => ops[k]?) a w → wpAny P .any ops Q' ks.length listed a w
  | [], _, _, _, hB, h => ⟨by simpa [permB] using hB, h⟩
  | k :: ks, listed, a, w, hB, h => by
    simp only [permB, Bool.and_eq_true, decide_eq_true_eq] at hB
    refine ⟨fun h1 => (by rw [hB.1] at h1; cases h1), fun i hi => ?_⟩
    have hi0 := hi
    rw [hB.1] at hi
    have hik : i = k := by simpa using hi
    subst hik
    obtain ⟨_, o, h0, _⟩ := mem_ready.1 hi0
    have hw : wpOp P ops Q' i (wpList P ops Q' (ks.filterMap fun k => ops[k]?)) a w := by
      rw [List.filterMap_cons, h0] at h
      unfold wpOp; simp only [h0]; exact h
    exact wpOp_mono (fun a' w' h' => wpAny_of_perm ks _ a' w' hB.2 h') hw
/-- How many of the head are yet to come. -/
def leftH (hd : List Bool) (listed : List Bool) : Nat := ((hd.zip listed).filter fun p => p.1 && !p.2).length
theorem leftH_set : ∀ {hd listed : List Bool} {i : Nat}, hd[i]? = some true → listed[i]? = some false → leftH hd (listed.set i true) + 1 = leftH hd listed
  | [], _, _, h, _ => by simp at h
  | _ :: _, [], _, _, h => by simp at h
  | h :: hd, x :: listed, 0, h1, h2 => by
    simp at h1 h2
    subst h1; subst h2
    simp [leftH]
  | h :: hd, x :: listed, i + 1, h1, h2 => by
    have := leftH_set (hd := hd) (listed := listed) (i := i) (by simpa using h1) (by simpa using h2)
    simp only [leftH, List.set_cons_succ, List.zip_cons_cons, List.filter_cons] at this ⊢
    split
    · simp only [List.length_cons]; omega
    · exact this
theorem leftH_zero : ∀ {hd listed : List Bool}, hd.length = listed.length → leftH hd listed = 0 → (∀ (i : Nat), hd[i]? = some false → listed[i]? = some false) → listed = hd
  | [], [], _, _, _ => rfl
  | [], _ :: _, h, _, _ => by simp at h
  | _ :: _, [], h, _, _ => by simp at h
  | h :: hd, x :: listed, hl, h0, ht => by
    have e1 : leftH hd listed = 0 := by
      simp only [leftH, List.zip_cons_cons, List.filter_cons] at h0 ⊢
      split at h0
      · simp at h0
      · exact h0
    have e2 := leftH_zero (by simpa using hl) e1 fun i hi => by have := ht (i + 1) (by simpa using hi); simpa using this
    have e3 : x = h := by
      cases h with
      | false => have := ht 0 rfl; simpa using this
      | true =>
        cases x with
        | true => rfl
        | false => simp [leftH] at h0
    rw [e2, e3]
theorem leftH_pos : ∀ {hd listed : List Bool}, 0 < leftH hd listed → ∃ i : Nat, hd[i]? = some true ∧ listed[i]? = some false
  | [], _, h => by simp [leftH] at h
  | _ :: _, [], h => by simp [leftH] at h
  | h :: hd, x :: listed, hp => by
    simp only [leftH, List.zip_cons_cons, List.filter_cons] at hp
    split at hp
    · rename_i hc
      simp at hc
      exact ⟨0, by simp [hc.1], by simp [hc.2]⟩
    · obtain ⟨i, h1, h2⟩ := leftH_pos (hd := hd) (listed := listed) hp
      exact ⟨i + 1, by simpa using h1, by simpa using h2⟩
theorem getD_arr {listed : Array Bool} {i : Nat} {b d : Bool} (h : listed.toList[i]? = some b) : listed.getD i d = b := by
 have : listed[i]? = some b := by simpa using h
 simp [Array.getD_eq_getD_getElem?, this]
end Go.Eng
namespace Go.Eng
open Go
def two (c1 c2 : Nat) (M1 M2 : Nat → Prop) (p : Nat) : Nat → Prop := bif Nat.beq p c1 then M1 else bif Nat.beq p c2 then M2 else none1
/-- Waits that follow from the given ones. -/
def closB1 (wss cl : List (List Nat)) (i : Nat) : Bool := (cl.getD i []).all fun c => (wss.getD i []).contains c || (wss.getD i []).any fun e => (cl.getD e []).contains c
def closB (wss cl : List (List Nat)) : Bool := (List.range wss.length).all (closB1 wss cl)
theorem closB_get {wss cl : List (List Nat)} (h : closB wss cl = true) {i c : Nat} {ws : List Nat} (hw : wss[i]? = some ws) (hc : (cl.getD i []).contains c = true) : c ∈ ws ∨ ∃ e ∈ ws, (cl.getD e []).contains c = true := by
 have h1 := List.all_eq_true.1 h i (List.mem_range.2 (lt_of_get hw))
 have h2 := List.all_eq_true.1 h1 c (by simpa using hc)
 rw [List.getD_eq_getElem?_getD, hw, Option.getD_some, Bool.or_eq_true] at h2
 rcases h2 with h2 | h2
 ·exact .inl (by simpa using h2)
 ·obtain ⟨e, he, h3⟩ := List.any_eq_true.1 h2
  exact .inr ⟨e, he, h3⟩
end Go.Eng
namespace Go.Eng
open Go
abbrev FctS := (Nat → Bool) → Env → Fct
def HoldsS (ds : List Nat) (Fs : List FctS) (S : Nat → Bool) (j : Nat) (σ : Env) (w : World) : Prop := ∀ d F, ds[j]? = some d → Fs[j]? = some F → F S σ (σ d) w
def insS (S : Nat → Bool) (i : Nat) : Nat → Bool := fun j => bif Nat.beq j i then true else S j
theorem insS_self (S : Nat → Bool) (i : Nat) : insS S i i = true := by simp [insS]
theorem insS_ne {S : Nat → Bool} {i j : Nat} (h : j ≠ i) : insS S i j = S j := by
 have : Nat.beq j i = false := by cases hb : Nat.beq j i; rfl; exact absurd (Nat.eq_of_beq_eq_true hb) h
 simp [insS, this]
/-- The blocks that the operations change. -/
def MsL : List (Nat × (Nat → Prop)) → Nat → Nat → Prop
  | [], _, _ => False
  | p :: r, j, y => (j = p.1 ∧ p.2 y) ∨ MsL r j y
theorem MsL_or {c : Nat} {M : Nat → Prop} {r : List (Nat × (Nat → Prop))} {j y : Nat} (h : MsL ((c, M) :: r) j y) : (j = c ∧ M y) ∨ MsL r j y := h
def dagOneS (N i : Nat) (hd : List Bool) (o : Oper) (d : Nat) (ws : List Nat) : Bool :=
 (match o.dst with | some d' => Nat.beq d' d && Nat.blt d N | none => Nat.ble N d) && (o.after.all fun e => !Region.binds .any e || (Nat.blt e.on i && hd.getD e.on false)) && (ws.all fun j => o.after.any fun e => Region.binds .any e && Nat.beq e.on j) && guardB hd o
def dagSB (N : Nat) (hd : List Bool) : Nat → List Oper → List Nat → List (List Nat) → List Bool → Bool
  | _, [], [], [], [] => true
  | i, o :: l, d :: ds, ws :: wss, h :: hs => (bif h then dagOneS N i hd o d ws else Nat.ble N d) && dagSB N hd (i + 1) l ds wss hs
  | _, _, _, _, _ => false
theorem dagSB_get {N : Nat} {hd : List Bool} : ∀ {i : Nat} {l : List Oper} {ds : List Nat} {wss : List (List Nat)} {hs : List Bool}, dagSB N hd i l ds wss hs = true → ∀ {j : Nat} {o : Oper}, l[j]? = some o → ∃ d ws h, ds[j]? = some d ∧ wss[j]? = some ws ∧ hs[j]? = some h ∧ (bif h then dagOneS N (i + j) hd o d ws else Nat.ble N d) = true
  | _, [], _, _, _, _, j, o, h => by simp at h
  | i, x :: l, [], _, _, hB, _, _, _ => by simp [dagSB] at hB
  | i, x :: l, d :: ds, [], _, hB, _, _, _ => by simp [dagSB] at hB
  | i, x :: l, d :: ds, ws :: wss, [], hB, _, _, _ => by simp [dagSB] at hB
  | i, x :: l, d :: ds, ws :: wss, h0 :: hs, hB, j, o, h => by
    simp only [dagSB, Bool.and_eq_true] at hB
    cases j with
    | zero => simp at h; subst h; exact ⟨d, ws, h0, rfl, rfl, rfl, hB.1⟩
    | succ j =>
      simp at h
      obtain ⟨d', ws', h', h1, h2, h3, h4⟩ := dagSB_get hB.2 h
      exact ⟨d', ws', h', by simpa using h1, by simpa using h2, by simpa using h3, by rw [show i + (j + 1) = i + 1 + j from by omega]; exact h4⟩
theorem dagSB_len {N : Nat} {hd : List Bool} : ∀ {i : Nat} {l : List Oper} {ds : List Nat} {wss : List (List Nat)} {hs : List Bool}, dagSB N hd i l ds wss hs = true → ds.length = l.length ∧ hs.length = l.length ∧ wss.length = l.length
  | _, [], [], [], [], _ => ⟨rfl, rfl, rfl⟩
  | _, [], [], [], _ :: _, hB => by simp [dagSB] at hB
  | _, [], [], _ :: _, _, hB => by simp [dagSB] at hB
  | _, [], _ :: _, _, _, hB => by simp [dagSB] at hB
  | i, x :: l, [], _, _, hB => by simp [dagSB] at hB
  | i, x :: l, d :: ds, [], _, hB => by simp [dagSB] at hB
  | i, x :: l, d :: ds, ws :: wss, [], hB => by simp [dagSB] at hB
  | i, x :: l, d :: ds, ws :: wss, h0 :: hs, hB => by
    simp only [dagSB, Bool.and_eq_true] at hB
    have := dagSB_len hB.2
    simp [this.1, this.2.1, this.2.2]
def DagStepS (P : Program) (N : Nat) (ds : List Nat) (Fs : List FctS) (σ : Env) (w : World) (Ms : Nat → Nat → Prop) (cl : List (List Nat)) (i : Nat) (o : Oper) (ws : List Nat) (F : FctS) : Prop :=
 ∀ (S : Nat → Bool) σ' w', S i = false → (∀ j, (cl.getD j []).contains i = true → S j = false) → Chg (fun y => ∃ j, S j = true ∧ Ms j y) w w' → (∀ t, ds.contains t = false → σ' t = σ t) → (∀ j d, ds[j]? = some d → S j = false → σ' d = σ d) → (∀ j, ws.contains j = true → S j = true ∧ HoldsS ds Fs S j σ' w') →
  (Guarded ds o σ' ∧ DoesT (Ms i) P N o (fun v w => F (insS S i) σ' (Go.Eng.valOf o v) w) σ' w') ∨ (Unmet ds o σ' ∧ F (insS S i) σ' undef w')
/-- A fact lasts while other operations are done. -/
def StabS (Ms : Nat → Nat → Prop) (i : Nat) (ws : List Nat) (F : FctS) : Prop := ∀ p, p ≠ i → ws.contains p = false → ∀ S σ v w w', S i = true → S p = false → Chg (Ms p) w w' → F S σ v w → F (insS S p) σ v w'
/-- A fact speaks of the values of the operations that it waits for alone. -/
def LocS (ds : List Nat) (ws : List Nat) (F : FctS) : Prop := ∀ S (σ1 σ2 : Env), (∀ j d, ws.contains j = true → ds[j]? = some d → σ2 d = σ1 d) → ∀ v w, F S σ1 v w → F S σ2 v w
inductive DagStepsS (P : Program) (N : Nat) (ds : List Nat) (Fs : List FctS) (σ : Env) (w : World) (Ms : Nat → Nat → Prop) (cl : List (List Nat)) : Nat → List Oper → List (List Nat) → List Bool → List FctS → Prop where
  | nil {i : Nat} : DagStepsS P N ds Fs σ w Ms cl i [] [] [] []
  | cons {i : Nat} {o : Oper} {ws : List Nat} {F : FctS} {l : List Oper} {wss : List (List Nat)} {hs : List Bool} {Gs : List FctS} (s : StabS Ms i ws F) (lc : LocS ds ws F) (h : DagStepS P N ds Fs σ w Ms cl i o ws F) (t : DagStepsS P N ds Fs σ w Ms cl (i + 1) l wss hs Gs) : DagStepsS P N ds Fs σ w Ms cl i (o :: l) (ws :: wss) (true :: hs) (F :: Gs)
  | tail {i : Nat} {o : Oper} {ws : List Nat} {F : FctS} {l : List Oper} {wss : List (List Nat)} {hs : List Bool} {Gs : List FctS} (t : DagStepsS P N ds Fs σ w Ms cl (i + 1) l wss hs Gs) : DagStepsS P N ds Fs σ w Ms cl i (o :: l) (ws :: wss) (false :: hs) (F :: Gs)
theorem DagStepsS.get {P : Program} {N : Nat} {ds : List Nat} {Fs : List FctS} {σ : Env} {w : World} {Ms : Nat → Nat → Prop} {cl : List (List Nat)} : ∀ {i : Nat} {l : List Oper} {wss : List (List Nat)} {hs : List Bool} {Gs : List FctS}, DagStepsS P N ds Fs σ w Ms cl i l wss hs Gs → ∀ {j : Nat} {o : Oper}, l[j]? = some o → hs[j]? = some true → ∃ ws F, wss[j]? = some ws ∧ Gs[j]? = some F ∧ StabS Ms (i + j) ws F ∧ LocS ds ws F ∧ DagStepS P N ds Fs σ w Ms cl (i + j) o ws F
  | _, _, _, _, _, .nil, j, o, h, _ => by simp at h
  | i, _, _, _, _, .cons s lc h t, 0, o, ho, _ => by
    simp at ho; subst ho
    exact ⟨_, _, rfl, rfl, s, lc, h⟩
  | _, _, _, _, _, .tail t, 0, o, h, ht => by simp at ht
  | i, _, _, _, _, .cons s lc h t, j + 1, o, ho, ht => by
    obtain ⟨ws, F, h1, h2, h3, h5, h4⟩ := t.get (j := j) (by simpa using ho) (by simpa using ht)
    exact ⟨ws, F, by simpa using h1, by simpa using h2, by rw [show i + (j + 1) = i + 1 + j from by omega]; exact h3, h5, by rw [show i + (j + 1) = i + 1 + j from by omega]; exact h4⟩
  | i, _, _, _, _, .tail t, j + 1, o, ho, ht => by
    obtain ⟨ws, F, h1, h2, h3, h5, h4⟩ := t.get (j := j) (by simpa using ho) (by simpa using ht)
    exact ⟨ws, F, by simpa using h1, by simpa using h2, by rw [show i + (j + 1) = i + 1 + j from by omega]; exact h3, h5, by rw [show i + (j + 1) = i + 1 + j from by omega]; exact h4⟩
def allS (hd : List Bool) : Nat → Bool := fun j => hd.getD j false
theorem Wp_dagS {P : Program} {N : Nat} {Q : Post} {σ : Env} {w : World} {id : Nat} {l : List Oper} (Ms : Nat → Nat → Prop) (hd : List Bool) (ts : List Nat) (ds : List Nat) (wss cl : List (List Nat)) (Fs : List FctS) {Gs : List FctS} (hG : Fs = Gs) (hC : closB wss cl = true) (hm : P.follows .mixedOrders = true) (hB : dagSB N hd 0 l ds wss hd = true) (hn : nodupB ds = true)
    (hT : (tailPB l hd ts && permB l.toArray ts hd.toArray) = true) (hN : Nat.beq (leftH hd (List.replicate l.length false) + ts.length) l.length = true)
    (steps : ∀ w1, Ext w w1 → DagStepsS P N ds Fs σ w1 Ms cl 0 l cl hd Gs)
    (k : ∀ σ' w1 w', Ext w w1 → Chg (fun y => ∃ j, hd.getD j false = true ∧ Ms j y) w1 w' → (∀ t, ds.contains t = false → σ' t = σ t) → (∀ j, hd[j]? = some true → HoldsS ds Fs (allS hd) j σ' w') → WpL P N l.toArray (Q .normal) Q (ts.filterMap fun k => l[k]?) σ' w') : Wp P N (.region id l.toArray true) Q σ w := by
  intro dz a ha he
  have eQ : lift dz N (thn (Q .normal) Q) = lift dz N Q := by funext e a w; cases e <;> rfl
  refine wp_region_any hm ?_
  obtain ⟨w1, hw1⟩ : ∃ w1 : World, w1 = { w with drawn := w.drawn + 1 } := ⟨_, rfl⟩
  have hE1 : Ext w w1 := by rw [hw1]; exact drew_ext w
  rw [← hw1]
  have hst := steps w1 hE1
  rw [← hG] at hst
  rw [Bool.and_eq_true] at hT
  obtain ⟨hT1, hT2⟩ := hT
  obtain ⟨hlen, hlen2, hlen3⟩ := dagSB_len hB
  let Lf : Array Bool → Nat → Bool := fun listed j => listed.getD j false
  have key : ∀ (m : Nat) (listed : Array Bool) (a : Act) (w' : World), leftH hd listed.toList = m → listed.size = l.length → (∀ (t : Nat), hd[t]? = some false → listed.toList[t]? = some false) → (∀ (j : Nat) oj, l[j]? = some oj → listed.getD j false = true → ∀ e ∈ oj.after, Region.binds .any e = true → listed.getD e.on false = true) → Ok dz N a → Chg (fun y => ∃ j, listed.getD j false = true ∧ Ms j y) w1 w' → (∀ t, ds.contains t = false → env a t = σ t) → (∀ j d, ds[j]? = some d → listed.getD j false = false → env a d = σ d) → (∀ j, hd[j]? = some true → listed.getD j false = true → HoldsS ds Fs (Lf listed) j (env a) w') →
      wpAny P .any l.toArray (lift dz N Q) (m + ts.length) listed a w' := by
    intro m
    induction m with
    | zero =>
      intro listed a w' hc0 hsz htl hcd ha hx hu hv0 hh
      have hl : listed = hd.toArray := by
        apply Array.ext'
        exact leftH_zero (by simp; omega) hc0 htl
      have hLf : Lf listed = allS hd := by
        funext j
        show listed.getD j false = hd.getD j false
        rw [hl]; simp [List.getD_eq_getElem?_getD]
      rw [Nat.zero_add]
      have h1 := k (env a) w1 w' hE1 (hx.mono fun y _ h => by
        obtain ⟨j, h1, h2⟩ := h
        have : allS hd j = true := by rw [← hLf]; exact h1
        exact ⟨j, this, h2⟩) hu (fun j hj => by rw [← hLf]; exact hh j hj (getD_arr (by rw [hl]; exact hj))) dz a ha rfl
      rw [eQ] at h1
      exact wpAny_of_perm ts listed a w' (by rw [hl]; exact hT2) (by simpa using h1)
    | succ m ih =>
      intro listed a w' hcm hsz htl hcd ha hx hu hv0 hh
      obtain ⟨i0, hi0, hi1⟩ := leftH_pos (hd := hd) (listed := listed.toList) (by omega)
      rw [show m + 1 + ts.length = (m + ts.length) + 1 by omega]
      refine ⟨fun hr => ?_, fun i hi => ?_⟩
      · exfalso
        have hall : ∀ i : Nat, hd[i]? = some true → listed.getD i true = true := by
          intro i
          induction i using Nat.strongRecOn with
          | _ i ihi =>
            intro hi
            cases hv : listed.getD i true with
            | true => rfl
            | false =>
              exfalso
              obtain ⟨o, ho⟩ := get_of_lt (l := l) (i := i) (by have := lt_of_get hi; omega)
              obtain ⟨d, ws, h, _, _, h2, h3⟩ := dagSB_get hB ho
              rw [hi] at h2
              cases h2
              simp only [cond_true, dagOneS, Bool.and_eq_true, Nat.zero_add] at h3
              have : i ∈ Region.ready .any l.toArray listed := by
                refine mem_ready.2 ⟨hv, o, by simpa using ho, fun e he hb => ?_⟩
                have h4 := h3.1.1.2
                simp only [Array.all_eq_true_iff_forall_mem, Bool.or_eq_true, Bool.not_eq_true', Bool.and_eq_true] at h4
                have h6 := (h4 e he).resolve_left (by simp [hb])
                have hlt : e.on < i := by simpa [Nat.blt_eq] using h6.1
                have h7 := h6.2
                have hj0 : e.on < hd.length := by have := lt_of_get hi; omega
                have h8 : hd[e.on]? = some true := by
                  rw [List.getD_eq_getElem?_getD, List.getElem?_eq_getElem hj0, Option.getD_some] at h7
                  rw [List.getElem?_eq_getElem hj0, h7]
                have h9 := ihi e.on hlt h8
                have hj : e.on < listed.size := by omega
                simpa only [Array.getD_eq_getD_getElem?, Array.getElem?_eq_getElem hj, Option.getD_some] using h9
              rw [hr] at this
              cases this
        have := hall i0 hi0
        rw [getD_arr hi1] at this
        cases this
      · obtain ⟨h1, o, h2, h3⟩ := mem_ready.1 hi
        have ho : l[i]? = some o := by simpa using h2
        have hil : i < l.length := lt_of_get ho
        have hih : hd[i]? = some true := by
          obtain ⟨b, hb⟩ := get_of_lt (l := hd) (i := i) (by omega)
          cases b with
          | true => exact hb
          | false =>
            exfalso
            have h4 := List.all_eq_true.1 hT1 i (List.mem_range.2 hil)
            rw [List.getD_eq_getElem?_getD, hb, Option.getD_some, Bool.false_or, Bool.and_eq_true, Bool.or_eq_true] at h4
            have edge : ∀ u, edgeB l i u = true → listed.getD u false = true := fun u hu' => by
              unfold edgeB at hu'
              rw [ho] at hu'
              simp only [Array.any_eq_true', Bool.and_eq_true] at hu'
              obtain ⟨e, he, hb1, hb2⟩ := hu'
              have := Nat.eq_of_beq_eq_true hb2
              rw [← this]
              exact h3 e he hb1
            rcases h4.2 with h5 | h5
            · have h6 := List.all_eq_true.1 h5 i0 (List.mem_range.2 (by have := lt_of_get hi0; omega))
              rw [List.getD_eq_getElem?_getD, hi0, Option.getD_some, Bool.not_true, Bool.false_or] at h6
              have := edge i0 h6
              rw [getD_arr hi1] at this
              cases this
            · obtain ⟨p, _, h6⟩ := List.any_eq_true.1 h5
              rw [Bool.and_eq_true, Bool.not_eq_true'] at h6
              have h7 := edge p h6.2
              have hp : hd[p]? = some false := by
                have h8 := h6.1
                rw [List.getD_eq_getElem?_getD] at h8
                cases h9 : hd[p]? with
                | none => rw [h9] at h8; cases h8
                | some b => rw [h9, Option.getD_some] at h8; rw [h8]
              rw [getD_arr (htl p hp)] at h7
              cases h7
        obtain ⟨d, ws, h, hd', hws, hhs, h4⟩ := dagSB_get hB ho
        rw [hih] at hhs
        cases hhs
        obtain ⟨ci, F, hci, hF, hstab, hloc, hstep⟩ := hst.get ho hih
        rw [Nat.zero_add] at hstab hstep
        simp only [cond_true, dagOneS, Bool.and_eq_true, List.all_eq_true, Array.any_eq_true', Nat.zero_add] at h4
        obtain ⟨⟨⟨hdst, _⟩, hwait⟩, hgB⟩ := h4
        have hlisted : ∀ j, listed.getD j false = true → hd[j]? = some true := fun j hj => by
          obtain ⟨b, hb⟩ := get_of_lt (l := hd) (i := j) (by
            rcases Nat.lt_or_ge j listed.size with h9 | h9
            · omega
            · simp [Array.getD_eq_getD_getElem?, Array.getElem?_eq_none h9] at hj)
          cases b with
          | true => exact hb
          | false => rw [getD_arr (htl j hb)] at hj; cases hj
        have hcl : ∀ j, listed.getD j false = true → ∀ c, (cl.getD j []).contains c = true → listed.getD c false = true := by
          intro j
          induction j using Nat.strongRecOn with
          | _ j ihj =>
            intro hlj c hc
            have hjh := hlisted j hlj
            obtain ⟨oc, hoc⟩ := get_of_lt (l := l) (i := j) (by have := lt_of_get hjh; omega)
            obtain ⟨dc, wsc, hb, _, hwsc, hhb, h5⟩ := dagSB_get hB hoc
            rw [hjh] at hhb
            cases hhb
            simp only [cond_true, dagOneS, Bool.and_eq_true, List.all_eq_true, Array.any_eq_true', Array.all_eq_true_iff_forall_mem, Bool.or_eq_true, Bool.not_eq_true', Nat.zero_add] at h5
            have hdir : ∀ e' ∈ wsc, listed.getD e' false = true ∧ e' < j := by
              intro e' he'
              obtain ⟨e, he, hb1, hb2⟩ := h5.1.2 e' he'
              have hei : e.on = e' := Nat.eq_of_beq_eq_true hb2
              have h6 := hcd j oc hoc hlj e he hb1
              have h7 := (h5.1.1.2 e he).resolve_left (by simp [hb1])
              rw [hei] at h6 h7
              exact ⟨h6, by simpa [Nat.blt_eq] using h7.1⟩
            rcases closB_get hC hwsc hc with h6 | ⟨e', he', h6⟩
            · exact (hdir c h6).1
            · exact ihj e' (hdir e' he').2 (hdir e' he').1 c h6
        have hclo : ∀ j, ci.contains j = true → listed.getD j false = true := by
          intro j hj
          have hj' : (cl.getD i []).contains j = true := by rw [List.getD_eq_getElem?_getD, hci, Option.getD_some]; exact hj
          have hdir : ∀ e' ∈ ws, listed.getD e' false = true := by
            intro e' he'
            obtain ⟨e, he, hb1, hb2⟩ := hwait e' he'
            have : e.on = e' := Nat.eq_of_beq_eq_true hb2
            exact this ▸ h3 e he hb1
          rcases closB_get hC hws hj' with h6 | ⟨e', he', h6⟩
          · exact hdir j h6
          · exact hcl e' (hdir e' he') j h6
        have hSi : Lf listed i = false := getD_both h1
        have hSn : ∀ j, (cl.getD j []).contains i = true → Lf listed j = false := by
          intro j hj
          cases hlj : Lf listed j with
          | false => rfl
          | true =>
            exfalso
            have := hcl j hlj i hj
            rw [getD_both h1] at this; cases this
        have hH : ∀ j, ci.contains j = true → Lf listed j = true ∧ HoldsS ds Fs (Lf listed) j (env a) w' := fun j hj => ⟨hclo j hj, hh j (hlisted j (hclo j hj)) (hclo j hj)⟩
        have hil2 : i < listed.size := by omega
        have hLs : Lf (listed.setIfInBounds i true) = insS (Lf listed) i := by
          funext j
          by_cases hij : j = i
          · subst hij
            rw [insS_self]
            show (listed.setIfInBounds j true).getD j false = true
            simp [Array.getD_eq_getD_getElem?, hil2]
          · rw [insS_ne hij]
            exact getD_set_ne _ (Ne.symm hij)
        have hstep2 : ∀ w2, Chg (Ms i) w' w2 → Chg (fun y => ∃ j, (listed.setIfInBounds i true).getD j false = true ∧ Ms j y) w1 w2 := by
          intro w2 hx2
          have hg : (listed.setIfInBounds i true).getD i false = true := by simp [Array.getD_eq_getD_getElem?, hil2]
          refine Chg.step (hx.mono fun y _ h => ?_) hx2 (fun y _ h => ⟨i, hg, h⟩)
          obtain ⟨j, h5, h6⟩ := h
          by_cases hij : j = i
          · exact ⟨i, hg, hij ▸ h6⟩
          · exact ⟨j, by rw [getD_set_ne _ (Ne.symm hij)]; exact h5, h6⟩
        have cont : ∀ v w2, Chg (Ms i) w' w2 → F (insS (Lf listed) i) (env a) (Go.Eng.valOf o v) w2 → wpAny P .any l.toArray (lift dz N Q) (m + ts.length) (listed.setIfInBounds i true) (a.put o.dst v) w2 := by
          intro v w2 hx2 hv
          have henv : (∀ t, t ≠ d → env (a.put o.dst v) t = env a t) ∧ env (a.put o.dst v) d = Go.Eng.valOf o v := by
            cases hod : o.dst with
            | none =>
              rw [hod] at hdst
              have hNd : N ≤ d := Nat.le_of_ble_eq_true hdst
              refine ⟨fun t _ => rfl, ?_⟩
              simp only [Go.Eng.valOf, hod]
              show a.tmps.getD d undef = undef
              have : a.tmps.size ≤ d := by rw [ha.size]; exact hNd
              simp [Array.getElem?_eq_none this]
            | some d' =>
              rw [hod] at hdst
              simp only [Bool.and_eq_true] at hdst
              have hd1 : d' = d := Nat.eq_of_beq_eq_true hdst.1
              have hd2 : d < N := by simpa [Nat.blt_eq] using hdst.2
              subst hd1
              rw [env_put ha hd2 v]
              refine ⟨fun t ht => ?_, ?_⟩
              · have : Nat.beq t d' = false := by cases hb : Nat.beq t d'; rfl; exact absurd (Nat.eq_of_beq_eq_true hb) ht
                simp [upd, this]
              · simp [upd, Go.Eng.valOf, hod]
          have hlf : listed.toList[i]? = some false := by
            simp only [Array.getD_eq_getD_getElem?, Array.getElem?_eq_getElem hil2, Option.getD_some] at h1
            rw [Array.getElem?_toList, Array.getElem?_eq_getElem hil2, h1]
          refine ih _ _ _ ?_ (by simpa using hsz) (fun t ht => ?_) (fun j oj hoj hlj e he hb => ?_) (ha.put _ _) (hstep2 w2 hx2) ?_ ?_ ?_
          · rw [Array.toList_setIfInBounds]
            have := leftH_set hih hlf
            omega
          · rw [Array.toList_setIfInBounds, List.getElem?_set]
            have hne : i ≠ t := fun e => by rw [← e, hih] at ht; cases ht
            rw [if_neg hne]
            exact htl t ht
          · refine getD_set_true ?_
            by_cases hij : j = i
            · subst hij
              rw [ho] at hoj; cases hoj
              exact h3 e he hb
            · rw [getD_set_ne _ (Ne.symm hij)] at hlj
              exact hcd j oj hoj hlj e he hb
          · intro t ht
            rw [henv.1 t (fun h => by
              subst h
              have := List.mem_of_getElem? hd'
              simp [this] at ht), hu t ht]
          · intro j d2 hd2 hj2
            by_cases hij : j = i
            · subst hij
              have hg2 : (listed.setIfInBounds j true).getD j false = true := by simp [Array.getD_eq_getD_getElem?, hil2]
              rw [hg2] at hj2; cases hj2
            · rw [getD_set_ne _ (Ne.symm hij)] at hj2
              rw [henv.1 d2 (fun h => by subst h; exact hij (nodupB_get hn hd2 hd')), hv0 j d2 hd2 hj2]
          · intro j hjh hj d2 F2 hd2 hF2
            rw [hLs]
            by_cases hij : j = i
            · subst hij
              rw [hd'] at hd2; cases hd2
              rw [hF] at hF2; cases hF2
              rw [henv.2]
              refine hloc _ (env a) _ (fun j' d2 hj' hd2 => henv.1 d2 fun he => ?_) _ _ hv
              have := nodupB_get hn (he ▸ hd2) hd'
              subst this
              have := hclo j' hj'
              rw [getD_both h1] at this
              cases this
            · have hne : d2 ≠ d := by
                intro h
                subst h
                exact hij (nodupB_get hn hd2 hd')
              rw [henv.1 d2 hne]
              rw [getD_set_ne _ (Ne.symm hij)] at hj
              have h6 := hh j hjh hj d2 F2 hd2 hF2
              obtain ⟨oj, hoj⟩ := get_of_lt (l := l) (i := j) (by have := lt_of_get hjh; omega)
              obtain ⟨cj, Fj, hcj, hFj, hsj, hlj, _⟩ := hst.get hoj hjh
              rw [hF2] at hFj; cases hFj
              rw [Nat.zero_add] at hsj
              have hgc : cl.getD j [] = cj := by rw [List.getD_eq_getElem?_getD, hcj, Option.getD_some]
              have hcji : cj.contains i = false := by
                cases hcji : cj.contains i with
                | false => rfl
                | true =>
                  exfalso
                  have := hSn j (by rw [hgc]; exact hcji)
                  have hj' : Lf listed j = true := hj
                  rw [hj'] at this; cases this
              refine hlj _ (env a) _ (fun j' d3 hj' hd3 => henv.1 d3 fun he => ?_) _ _ (hsj i (Ne.symm hij) hcji (Lf listed) (env a) _ _ _ hj hSi hx2 h6)
              have h8 := nodupB_get hn (he ▸ hd3) hd'
              subst h8
              rw [hcji] at hj'
              cases hj'
        have gd : ∀ j b, o.guard = some (j, b) → ∀ dj, ds[j]? = some dj → ((∃ oj, l[j]? = some oj ∧ oj.dst = some dj) ∧ dj < N) ∨ (N ≤ dj ∧ ∃ oj, l[j]? = some oj ∧ oj.dst = none) := fun j b hgd dj hdj => by
          obtain ⟨oj, hoj⟩ := get_of_lt (l := l) (i := j) (by have := lt_of_get hdj; omega)
          obtain ⟨dj', _, hj, hdj', _, h5, h6⟩ := dagSB_get hB hoj
          rw [hdj] at hdj'
          cases hdj'
          unfold guardB at hgB
          rw [hgd] at hgB
          simp only at hgB
          have h7 : hj = true := by rw [List.getD_eq_getElem?_getD, h5, Option.getD_some] at hgB; exact hgB
          rw [h7] at h6
          simp only [cond_true, Bool.and_eq_true, dagOneS] at h6
          have hdst2 := h6.1.1.1
          split at hdst2
          · rename_i d2 hq
            rw [Bool.and_eq_true] at hdst2
            exact .inl ⟨⟨oj, hoj, by rw [hq, Nat.eq_of_beq_eq_true hdst2.1]⟩, by simpa [Nat.blt_eq] using hdst2.2⟩
          · rename_i hq
            exact .inr ⟨Nat.le_of_ble_eq_true hdst2, oj, hoj, hq⟩
        rcases hstep (Lf listed) (env a) w' hSi hSn hx hu hv0 hH with ⟨hg, hdo⟩ | ⟨⟨j, b, dj, hgd, hdj, hvj⟩, hund⟩
        · have hw : Region.wanted o (yielded l.toArray a.tmps) = true := by
            cases hgd : o.guard with
            | none => simp [Region.wanted, hgd]
            | some p =>
              obtain ⟨j, b⟩ := p
              obtain ⟨dj, hdj, hvj⟩ := hg j b hgd
              rcases gd j b hgd dj hdj with ⟨hdst2, hdN2⟩ | ⟨hge, _⟩
              · have h6 : a.tmps[dj]? = some (Value.bool b) := by
                  have h2 : a.tmps.getD dj undef = .bool b := hvj
                  have hlt : dj < a.tmps.size := by rw [ha.size]; exact hdN2
                  rw [Array.getElem?_eq_getElem hlt]
                  simpa [hlt] using h2
                obtain ⟨oj, hoj, hdst2⟩ := hdst2
                simp [Region.wanted, hgd, yielded, hoj, hdst2, h6]
              · exfalso
                have h2 : a.tmps.getD dj undef = .bool b := hvj
                have : a.tmps.size ≤ dj := by rw [ha.size]; exact hge
                simp [Array.getElem?_eq_none this, undef] at h2
          unfold wpOp
          simp only [h2, hw, if_true]
          exact Or.inl (hdo _ a ha rfl _ _ cont)
        · have hw : Region.wanted o (yielded l.toArray a.tmps) = false := by
            rcases gd j b hgd dj hdj with ⟨hdst2, hdN2⟩ | ⟨_, oj, hoj, hq⟩
            · have hlt : dj < a.tmps.size := by rw [ha.size]; exact hdN2
              have h6 : a.tmps[dj]? = some (env a dj) := by
                rw [Array.getElem?_eq_getElem hlt]
                simp [env, hlt]
              obtain ⟨oj, hoj, hdst2⟩ := hdst2
              rcases hvj with hvj | hvj
              · rw [hvj] at h6
                cases b <;> simp [Region.wanted, hgd, yielded, hoj, hdst2, h6]
              · rw [hvj] at h6
                simp [Region.wanted, hgd, yielded, hoj, hdst2, h6, undef]
            · simp [Region.wanted, hgd, yielded, hoj, hq]
          unfold wpOp
          simp only [h2, hw, Bool.false_eq_true, if_false]
          exact cont undef w' (Chg.refl _ _) (by
            have : Go.Eng.valOf o undef = undef := by unfold Go.Eng.valOf; split <;> rfl
            rw [this]; exact hund)
  have h1 := key (leftH hd (Array.replicate l.toArray.size false).toList) (Array.replicate l.toArray.size false) a w1 rfl (by simp) (fun t ht => by have h9 := lt_of_get ht; rw [Array.toList_replicate, List.getElem?_replicate, if_pos (by rw [List.size_toArray]; omega)]) (fun j oj _ hl => (by rw [getD_replicate_false] at hl; cases hl)) ha (Chg.refl _ _) (fun t _ => by rw [he]) (fun j d _ _ => by rw [he]) (fun j _ hj => by rw [getD_replicate_false] at hj; cases hj)
  have e3 : leftH hd (Array.replicate l.toArray.size false).toList + ts.length = l.toArray.size := by have h9 := Nat.eq_of_beq_eq_true hN; simpa using h9
  rw [e3] at h1
  exact h1
section
variable {Ms : Nat → Nat → Prop} {i : Nat} {ws ds : List Nat}
theorem StabS.eq {u : Value} : StabS Ms i ws (fun _ _ v _ => v = u) := fun _ _ _ _ _ _ _ _ _ _ _ h => h
theorem StabS.chg {F : Fct} {U : Nat → Prop} (hF : ∀ v w w', Chg U w w' → F v w → F v w') (hM : ∀ p y, p ≠ i → ws.contains p = false → Ms p y → U y) : StabS Ms i ws (fun _ _ => F) :=
 fun p h1 h2 _ _ v w w' _ _ x h => hF v w w' (x.mono fun y _ hy => hM p y h1 h2 hy) h
theorem LocS.const {G : (Nat → Bool) → Fct} : LocS ds ws (fun S _ => G S) := fun _ _ _ _ _ _ h => h
end
theorem qD {P : Program} {N : Nat} {ds : List Nat} {Fs : List FctS} {σ : Env} {w : World} {Ms : Nat → Nat → Prop} {cl : List (List Nat)} {i : Nat} {dst : Option Tmp} {op : Op} {ty : TypeId} {pos : String} {af : Array Edge} {ws : List Nat} {u : Value} {l : List Oper} {wss : List (List Nat)} {hs : List Bool} {Gs : List FctS}
  (h : ∀ (S : Nat → Bool) σ' w', S i = false → (∀ j, (cl.getD j []).contains i = true → S j = false) → Chg (fun y => ∃ j, S j = true ∧ Ms j y) w w' → (∀ t, ds.contains t = false → σ' t = σ t) → (∀ j d, ds[j]? = some d → S j = false → σ' d = σ d) → (∀ j, ws.contains j = true → S j = true ∧ HoldsS ds Fs S j σ' w') → DoesT (Ms i) P N ⟨dst, op, ty, pos, af, none⟩ (fun v _ => Go.Eng.valOf ⟨dst, op, ty, pos, af, none⟩ v = u) σ' w')
  (t : DagStepsS P N ds Fs σ w Ms cl (i + 1) l wss hs Gs) : DagStepsS P N ds Fs σ w Ms cl i (⟨dst, op, ty, pos, af, none⟩ :: l) (ws :: wss) (true :: hs) ((fun _ _ v _ => v = u) :: Gs) :=
 .cons StabS.eq LocS.const (fun S s' w' a b c d e f => .inl ⟨Guarded_none rfl, h S s' w' a b c d e f⟩) t
section
variable {M : Nat → Prop} {P : Program} {N : Nat} {o : Oper} {R : Fct} {σ : Env} {w : World} {dst : Option Tmp} {ty : TypeId} {pos : String} {af : Array Edge} {g : Option (Nat × Bool)} {t : TypeId}
theorem DoesT_pure {v : Value} (hr : (execOp (ev σ) o).run P w = .ok (.value v) w) (h : R v w) : DoesT M P N o R σ w := DoesT_val hr (Chg.refl _ _) h
end
end Go.Eng
namespace Go.Proofs
open Go Go.Eng
set_option maxRecDepth 100000
inductive Ins where
  | set (l : List (Int × Int))
  | split (x y : Nat)
  | jump (x : Nat)
  | opn (t : Nat)
  | cls (t n : Nat)
  | look (r : Re) (ng : Bool)
  | ent (n : Nat)
  | chk (n : Nat)
  | fin
end Go.Proofs
namespace Go.Proofs
open Go Go.Eng
set_option maxRecDepth 100000
theorem walk_c {S : Type} (F : S → Re → Bool × S) (Inv : S → World → Prop) (M : Nat → Prop) (bd : Nat) (fv : Value) (wb : World)
    (hM : ∀ b, M b → wb.heap.size ≤ b ∧ b < bd) (hst : ∀ s w w', Inv s w → Ext w w' → Inv s w')
    (hf : ∀ s w t vs, bd ≤ w.heap.size → Ext wb w → Inv s w → ReAt wb t vs → CallV Tryz.prog fv #[.agg vs.toArray] w fun v w' => v = .bool (F s t).1 ∧ Chg M w w' ∧ Inv (F s t).2 w') :
    ∀ n t, t.size ≤ n → ∀ s w0 vs, bd ≤ w0.heap.size → Ext wb w0 → Inv s w0 → ReAt wb t vs →
      Ret Tryz.prog 41 #[.agg vs.toArray, fv] w0 fun v w' => v = .bool (walkF F t s).1 ∧ Chg M w0 w' ∧ Inv (walkF F t s).2 w' := by
  have toExt : ∀ {w w' : World}, Ext wb w → Chg M w w' → Ext wb w' := fun e c => Chg.step e c fun x hx hm => by have := (hM x hm).1; omega
  intro n
  induction n with
  | zero => intro t ht; have := t.size_pos; omega
  | succ n ih =>
  intro t hn s w0 vs hbd hE hI ht
  obtain ⟨sa, sc, aa, ac, rfl, hset, hlen, hargs⟩ := ht.form
  rw [walkF_eq]
  refine Ret_of Tryz.func41 rfl Tryz.ntmps41 (Nat.le_of_ble_eq_true rfl) ?_
  have E : Chg M w0 w0 := Chg.refl _ _
  refine Wp_seq_region ?_
  refine s_box (v := (.agg (R6 t sa sc aa ac))) (c := (R6 t sa sc aa ac)) (by decide) rfl rfl ?_
  intro b1 w1 N1
  have F1 := N1.ge E
  replace hI := hst _ _ _ hI N1.ext
  replace E := E.ext N1.ext
  have B1 := N1.blk
  refine qA _ rfl ?_
  refine WpL_nil (Wp_seq (Wp_seq_region ?_))
  refine qM _ rfl ?_
  refine qV (r_loadAgg (vs := [(I6 t.kind), (.slice sa t.set.length sc), (.slice aa t.args.length ac), (I6 t.mn), (I6 t.mx), (.bool t.neg)]) rfl agg25 siz25 rfl (B1.cells rfl)) ?_
  refine WpL_callV (by decide) rfl rfl (hf s _ t _ (by have := N1.size; omega) (hE.trans N1.ext) hI ht) ?_
  rintro _ w2 ⟨rfl, C2, hI⟩
  replace B1 := C2.keep (fun h => by have := (hM _ h).2; omega) B1
  replace E := E.trans C2
  have hE2 : Ext wb w2 := toExt hE E
  have z2 : bd ≤ w2.heap.size := by have := C2.size; have := N1.size; omega
  refine qV (r_not rfl) ?_
  refine WpL_nil ?_
  refine Wp_cond rfl (fun h => ?_) (fun h => ?_)
  · have kh := h
    replace h := by simpa using h
    refine Wp_seq_region ?_
    refine qA _ rfl ?_
    refine WpL_nil (Wp_ret (thn_ret ?_))
    refine fin_tmp Tryz.results41 (v := (.bool false)) rfl ?_
    exact ⟨by rw [if_neg (by simp [h])], E, by rw [if_neg (by simp [h])]; exact hI⟩
  · have kh := h
    replace h := by simpa using h
    rw [if_pos (by simpa using h)]
    generalize (F s t).2 = s1 at hI ⊢
    refine Wp_skip (thn_normal (Wp_seq (Wp_seq_region ?_)))
    refine qF b1 0 2 rfl Tryz.underlying25 rfl siz23 rfl ?_
    refine qV (r_load rfl flat23 (B1.cell rfl)) ?_
    refine qV (r_lenSlice Tryz.underlying23 rfl) ?_
    refine qM _ rfl ?_
    refine WpL_nil (Wp_block ?_)
    refine Wp_loop (fun nn_ σ W3 => ∃ (k : Nat) (s' : S), (∃ jj_, σ = upds jj_ [(1, fv), (12, (.slice aa t.args.length ac)), (13, (I6 (t.args.length : Int))), (14, (I6 (k : Int)))]) ∧ Chg M w0 W3 ∧ Blk W3 b1 (R6 t sa sc aa ac) 25 ∧ (k ≤ t.args.length) ∧ (bd ≤ W3.heap.size) ∧ (Inv s' W3) ∧ (walkFs F t.args s1 = walkFs F (t.args.drop k) s') ∧ nn_ = t.args.length - k) (n := t.args.length - 0) ?_ ?_
    · exact ⟨0, s1, Fits.out ⟨rfl, rfl, rfl, rfl, trivial⟩, E, B1, Nat.zero_le _, z2, hI, rfl, rfl⟩
    · clear E B1
      rintro _ _ W3 ⟨k, s', ⟨j3, rfl⟩, E, B1, hk, hz, hI, hrel, rfl⟩
      refine Wp_seq_region ?_
      refine qV (r_lss rfl rfl) ?_
      refine WpL_nil (Wp_seq ?_)
      refine Wp_cond rfl (fun hlt => ?_) (fun hlt => ?_)
      · have khlt := hlt
        replace hlt := of_decide_eq_true hlt
        have hlt' : k < t.args.length := by omega
        obtain ⟨x, hx⟩ : ∃ x, t.args[k]? = some x := ⟨_, List.getElem?_eq_getElem hlt'⟩
        obtain ⟨b, o, rfl, hres⟩ : ∃ b o, aa = some ⟨b, o, none⟩ ∧ ResAt wb b o t.args := by
          rcases hargs with h | h
          · rw [h] at hlt'; simp at hlt'
          · exact h
        obtain ⟨us, hus, hxt⟩ := hres.get hx
        have hEW : Ext wb _ := toExt hE E
        refine Wp_skip (thn_normal (Wp_seq (Wp_block (Wp_seq_region ?_))))
        refine qV (r_indexSlice (b := b) (o := o) (len := t.args.length) (cap := ac) (i := k) (o' := o + k * 6) rfl rfl rfl Tryz.underlying23 siz25 (by omega) (by omega)) ?_
        refine qV (r_loadAgg rfl agg25 siz25 hxt.len (hus.ext hEW)) ?_
        have hsz := Re.size_arg hx
        refine s_allocStore (v := (.agg us.toArray)) (c := us.toArray) (n := 6) (by decide) zer25 rfl siz25 rfl rfl (by simpa using hxt.len) (by simpa using ReAt.one hxt) ?_
        intro b5 w5 N5
        have F5 := N5.ge E
        have O5_b1 := N5.lt B1
        replace B1 := N5.keep B1
        replace hI := hst _ _ _ hI N5.ext
        replace E := E.ext N5.ext
        have B5 := N5.blk
        refine WpL_nil (Wp_seq_region ?_)
        refine qV (r_loadAgg rfl agg25 siz25 hxt.len (B5.cells (by simp))) ?_
        refine qM _ rfl ?_
        refine WpL_enter rfl rfl (by decide) (r_callF Tryz.func41 nm41 bd41 rfl) (ih x (by omega) s' _ us (by have := N5.size; omega) (toExt hE E) hI hxt) ?_
        rintro _ w9 ⟨rfl, C9, hI⟩
        replace B1 := C9.keep (fun h => by have := (hM _ h).2; omega) B1
        replace B5 := C9.keep (fun h => by have := (hM _ h).2; omega) B5
        replace E := E.trans C9
        have hdr : t.args.drop k = x :: t.args.drop (k + 1) := by rw [List.drop_eq_getElem_cons hlt']; rw [List.getElem?_eq_getElem hlt'] at hx; cases hx; rfl
        rw [hdr, walkFs_cons] at hrel
        refine qV (r_not rfl) ?_
        refine WpL_nil ?_
        refine Wp_cond rfl (fun h2 => ?_) (fun h2 => ?_)
        · have kh2 := h2
          replace h2 := by simpa using h2
          refine Wp_seq_region ?_
          refine qA _ rfl ?_
          refine WpL_nil (Wp_ret (inB_ret (thn_ret (thn_ret (inB_ret (thn_ret ?_))))))
          refine fin_tmp Tryz.results41 (v := (.bool false)) rfl ?_
          exact ⟨by rw [hrel, if_neg (by simp [h2])], E, by rw [hrel, if_neg (by simp [h2])]; exact hI⟩
        · have kh2 := h2
          replace h2 := by simpa using h2
          rw [if_pos (by simpa using h2)] at hrel
          refine Wp_skip (inB_normal (thn_normal (Wp_region ?_)))
          refine qV (r_add rfl rfl (wI64 (by omega))) ?_
          refine qM _ rfl ?_
          refine WpL_nil (thn_normal ?_)
          exact ⟨t.args.length - (k + 1), by omega, k + 1, (walkF F x s').2, Fits.out ⟨rfl, rfl, rfl, rfl, trivial⟩, E, B1, (by omega), (by have := C9.size; have := N5.size; omega), hI, hrel, rfl⟩
      · have khlt := hlt
        replace hlt := of_decide_eq_false hlt
        have hkk : k = t.args.length := by omega
        rw [hkk, List.drop_length] at hrel
        refine Wp_exit (thn_exit (thn_exit (inB_here (thn_normal (Wp_seq_region ?_)))))
        refine qA _ rfl ?_
        refine WpL_nil (Wp_ret ?_)
        refine fin_tmp Tryz.results41 (v := (.bool true)) rfl ?_
        exact ⟨by rw [hrel]; rfl, E, by rw [hrel]; exact hI⟩
end Go.Proofs
namespace Go.Proofs
open Go Go.Eng
set_option maxRecDepth 100000
def nodeE (t : Re) : Int := if t.kind < 0 ∨ 10 < t.kind then 1 else if formB t = false then 3 else if t.kind = 2 then (if checkE t.set ≠ 0 then checkE t.set else if (t.set.length : Int) = 0 then 3 else 0)
 else if t.kind = 6 then (if t.mn < 0 ∨ t.mx < t.mn ∨ 8 < t.mx then 1 else 0) else if t.kind = 9 then (if t.mn < 0 ∨ 9 < t.mn then 1 else 0) else 0
set_option maxHeartbeats 800000 in
theorem node_c (wb w0 : World) (t : Re) (vs : List Value) (ht : ReAt wb t vs) (hE : Ext wb w0) :
  Ret Tryz.prog 43 #[.agg vs.toArray] w0 fun v w => v = .int .i64 (nodeE t) ∧ Ext w0 w := by
 have ht0 := ht
 obtain ⟨sa, sc, aa, ac, rfl, hset, hlen, hargs⟩ := ht.form
 refine Ret_of Tryz.func43 rfl Tryz.ntmps43 (Nat.le_of_ble_eq_true rfl) ?_
 have E : Chg none1 w0 w0 := Chg.refl _ _
 refine Wp_seq_region ?_
 refine s_box (v := (.agg (R6 t sa sc aa ac))) (c := (R6 t sa sc aa ac)) (by decide) rfl rfl ?_
 intro b1 w1 N1
 have F1 := N1.ge E
 replace E := E.ext N1.ext
 have B1 := N1.blk
 refine qA _ rfl ?_
 refine WpL_nil (Wp_seq (Wp_seq_region ?_))
 refine qF b1 0 0 rfl Tryz.underlying25 rfl siz3 rfl ?_
 refine qV (r_load rfl flat3 (B1.cell rfl)) ?_
 obtain ⟨e2, he2⟩ : ∃ e, (decide ((t.kind : Int) < 0)) = e := ⟨_, rfl⟩
 refine qV ((r_lss rfl rfl).trans (by rw [he2]; try rfl)) ?_
 refine qM _ rfl ?_
 refine qG (.bool e2) (nU e2 (P6 b1 0)) (by cases e2 <;> first | exact gA | exact gB | exact .inl ⟨rfl, r_fieldAddr rfl Tryz.underlying25 rfl siz3 rfl⟩) ?_
 refine qG (.bool e2) (nU e2 (I6 t.kind)) (by cases e2 <;> first | exact gA | exact gB | exact .inl ⟨rfl, r_load rfl flat3 (B1.cell rfl)⟩) ?_
 obtain ⟨e3, he3⟩ : ∃ e, (decide ((10 : Int) < t.kind)) = e := ⟨_, rfl⟩
 refine qG (.bool e2) (nU e2 (.bool e3)) (by cases e2 <;> first | exact gA | exact gB | exact .inl ⟨rfl, (r_gtr rfl rfl).trans (by rw [he3]; try rfl)⟩) ?_
 obtain ⟨e4, he4⟩ : ∃ e, (e2 || e3) = e := ⟨_, rfl⟩
 refine qV (r_pick (v := .bool e4) rfl (by rw [← he4]; cases e2 <;> rfl)) ?_
 refine WpL_nil ?_
 subst he4
 subst he3
 subst he2
 refine Wp_cond rfl (fun hk => ?_) (fun hk => ?_)
 ·have khk := hk
  simp at hk
  refine Wp_seq_region ?_
  refine qA _ rfl ?_
  refine WpL_nil (Wp_ret (thn_ret ?_))
  refine fin_tmp Tryz.results43 (v := (.int .i64 1)) rfl ?_
  exact ⟨int_eq (by unfold nodeE; rw [if_pos (by omega)]), E⟩
 ·have khk := hk
  simp at hk
  refine Wp_skip (thn_normal (Wp_seq (Wp_seq_region ?_)))
  refine qV (r_loadAgg (vs := [(I6 t.kind), (.slice sa t.set.length sc), (.slice aa t.args.length ac), (I6 t.mn), (I6 t.mx), (.bool t.neg)]) rfl agg25 siz25 rfl (B1.cells rfl)) ?_
  refine WpL_enter rfl rfl (by decide) (r_callF Tryz.func85 nm85 bd85 rfl) (form_c wb _ t _ ht0) ?_
  rintro _ w9 ⟨rfl, X9⟩
  replace B1 := X9.keep B1
  replace E := E.ext X9
  refine qV (r_not rfl) ?_
  refine WpL_nil ?_
  refine Wp_cond rfl (fun hf => ?_) (fun hf => ?_)
  ·have khf := hf
   replace hf := by simpa using hf
   refine Wp_seq_region ?_
   refine qA _ rfl ?_
   refine WpL_nil (Wp_ret (thn_ret ?_))
   refine fin_tmp Tryz.results43 (v := (.int .i64 3)) rfl ?_
   exact ⟨int_eq (by unfold nodeE; rw [if_neg (by omega), if_pos hf]), E⟩
  ·have khf := hf
   replace hf := by simpa using hf
   have hN : nodeE t = if t.kind = 2 then (if checkE t.set ≠ 0 then checkE t.set else if (t.set.length : Int) = 0 then 3 else 0) else if t.kind = 6 then (if t.mn < 0 ∨ t.mx < t.mn ∨ 8 < t.mx then 1 else 0) else if t.kind = 9 then (if t.mn < 0 ∨ 9 < t.mn then 1 else 0) else 0 := by unfold nodeE; rw [if_neg (by omega), if_neg (by simp [hf])]
   rw [hN]
   refine Wp_skip (thn_normal (Wp_seq (Wp_seq_region ?_)))
   refine qF b1 0 0 rfl Tryz.underlying25 rfl siz3 rfl ?_
   refine qV (r_load rfl flat3 (B1.cell rfl)) ?_
   refine WpL_nil (Wp_block (Wp_seq_region ?_))
   refine qV (r_eql rfl rfl) ?_
   refine qA _ rfl ?_
   refine WpL_nil ?_
   refine Wp_cond rfl (fun h2 => ?_) (fun h2 => ?_)
   ·have kh2 := h2
    replace h2 := of_decide_eq_true h2
    rw [if_pos h2]
    refine Wp_seq (Wp_seq_region ?_)
    refine qF b1 0 1 rfl Tryz.underlying25 rfl siz22 rfl ?_
    refine qV (r_load rfl flat22 (B1.cell rfl)) ?_
    refine WpL_enter rfl rfl (by decide) (r_callF Tryz.func78 nm78 bd78 rfl) (rcheck_c _ _ t.set ((hset.ext hE).ext E)) ?_
    rintro _ w10 ⟨rfl, X10⟩
    replace B1 := X10.keep B1
    replace E := E.ext X10
    refine qA _ rfl ?_
    refine WpL_nil (Wp_seq_region ?_)
    refine qM _ rfl ?_
    refine qV (r_neq rfl rfl) ?_
    refine WpL_nil ?_
    refine Wp_cond rfl (fun h3 => ?_) (fun h3 => ?_)
    ·have kh3 := h3
     replace h3 := of_decide_eq_true h3
     refine Wp_seq_region ?_
     refine qM _ rfl ?_
     refine qA _ rfl ?_
     refine WpL_nil (Wp_ret (thn_ret (inB_ret (thn_ret ?_))))
     refine fin_tmp Tryz.results43 (v := (.int .i64 (checkE t.set))) rfl ?_
     exact ⟨int_eq (by rw [if_pos h3]), E⟩
    ·have kh3 := h3
     replace h3 := of_decide_eq_false h3
     rw [if_neg h3]
     refine Wp_skip (thn_normal (Wp_seq_region ?_))
     refine qF b1 0 1 rfl Tryz.underlying25 rfl siz22 rfl ?_
     refine qV (r_load rfl flat22 (B1.cell rfl)) ?_
     refine qV (r_lenSlice Tryz.underlying22 rfl) ?_
     refine qV (r_eql rfl rfl) ?_
     refine WpL_nil ?_
     refine Wp_cond rfl (fun h4 => ?_) (fun h4 => ?_)
     ·have kh4 := h4
      replace h4 := of_decide_eq_true h4
      refine Wp_seq_region ?_
      refine qA _ rfl ?_
      refine WpL_nil (Wp_ret (inB_ret (thn_ret ?_)))
      refine fin_tmp Tryz.results43 (v := (.int .i64 3)) rfl ?_
      exact ⟨int_eq (by rw [if_pos h4]), E⟩
     ·have kh4 := h4
      replace h4 := of_decide_eq_false h4
      refine Wp_skip (inB_normal (thn_normal (Wp_seq_region ?_)))
      refine qA _ rfl ?_
      refine WpL_nil (Wp_ret ?_)
      refine fin_tmp Tryz.results43 (v := (.int .i64 0)) rfl ?_
      exact ⟨int_eq (by rw [if_neg h4]), E⟩
   ·have kh2 := h2
    replace h2 := of_decide_eq_false h2
    rw [if_neg h2]
    refine Wp_seq_region ?_
    refine qV (r_eql rfl rfl) ?_
    refine qA _ rfl ?_
    refine WpL_nil ?_
    refine Wp_cond rfl (fun h6 => ?_) (fun h6 => ?_)
    ·have kh6 := h6
     replace h6 := of_decide_eq_true h6
     rw [if_pos h6]
     refine Wp_seq_region ?_
     refine qF b1 0 3 rfl Tryz.underlying25 rfl siz3 rfl ?_
     refine qV (r_load rfl flat3 (B1.cell rfl)) ?_
     obtain ⟨e11, he11⟩ : ∃ e, (decide ((t.mn : Int) < 0)) = e := ⟨_, rfl⟩
     refine qV ((r_lss rfl rfl).trans (by rw [he11]; try rfl)) ?_
     refine qM _ rfl ?_
     refine qG (.bool e11) (nU e11 (P6 b1 3)) (by cases e11 <;> first | exact gA | exact gB | exact .inl ⟨rfl, r_fieldAddr rfl Tryz.underlying25 rfl siz3 rfl⟩) ?_
     refine qG (.bool e11) (nU e11 (I6 t.mn)) (by cases e11 <;> first | exact gA | exact gB | exact .inl ⟨rfl, r_load rfl flat3 (B1.cell rfl)⟩) ?_
     refine qG (.bool e11) (nU e11 (P6 b1 4)) (by cases e11 <;> first | exact gA | exact gB | exact .inl ⟨rfl, r_fieldAddr rfl Tryz.underlying25 rfl siz3 rfl⟩) ?_
     refine qG (.bool e11) (nU e11 (I6 t.mx)) (by cases e11 <;> first | exact gA | exact gB | exact .inl ⟨rfl, r_load rfl flat3 (B1.cell rfl)⟩) ?_
     obtain ⟨e12, he12⟩ : ∃ e, (decide ((t.mx : Int) < t.mn)) = e := ⟨_, rfl⟩
     refine qG (.bool e11) (nU e11 (.bool e12)) (by cases e11 <;> first | exact gA | exact gB | exact .inl ⟨rfl, (r_gtr rfl rfl).trans (by rw [he12]; try rfl)⟩) ?_
     obtain ⟨e13, he13⟩ : ∃ e, (e11 || e12) = e := ⟨_, rfl⟩
     refine qV (r_pick (v := .bool e13) rfl (by rw [← he13]; cases e11 <;> rfl)) ?_
     refine qM _ rfl ?_
     refine qG (.bool e13) (nU e13 (P6 b1 4)) (by cases e13 <;> first | exact gA | exact gB | exact .inl ⟨rfl, r_fieldAddr rfl Tryz.underlying25 rfl siz3 rfl⟩) ?_
     refine qG (.bool e13) (nU e13 (I6 t.mx)) (by cases e13 <;> first | exact gA | exact gB | exact .inl ⟨rfl, r_load rfl flat3 (B1.cell rfl)⟩) ?_
     obtain ⟨e14, he14⟩ : ∃ e, (decide ((8 : Int) < t.mx)) = e := ⟨_, rfl⟩
     refine qG (.bool e13) (nU e13 (.bool e14)) (by cases e13 <;> first | exact gA | exact gB | exact .inl ⟨rfl, (r_gtr rfl rfl).trans (by rw [he14]; try rfl)⟩) ?_
     obtain ⟨e15, he15⟩ : ∃ e, (e13 || e14) = e := ⟨_, rfl⟩
     refine qV (r_pick (v := .bool e15) rfl (by rw [← he15]; cases e13 <;> rfl)) ?_
     refine WpL_nil ?_
     subst he15
     subst he14
     subst he13
     subst he12
     subst he11
     refine Wp_cond rfl (fun h7 => ?_) (fun h7 => ?_)
     ·have kh7 := h7
      simp at h7
      refine Wp_seq_region ?_
      refine qA _ rfl ?_
      refine WpL_nil (Wp_ret (inB_ret (thn_ret ?_)))
      refine fin_tmp Tryz.results43 (v := (.int .i64 1)) rfl ?_
      exact ⟨int_eq (by rw [if_pos (by omega)]), E⟩
     ·have kh7 := h7
      simp at h7
      refine Wp_skip (inB_normal (thn_normal (Wp_seq_region ?_)))
      refine qA _ rfl ?_
      refine WpL_nil (Wp_ret ?_)
      refine fin_tmp Tryz.results43 (v := (.int .i64 0)) rfl ?_
      exact ⟨int_eq (by rw [if_neg (by omega)]), E⟩
    ·have kh6 := h6
     replace h6 := of_decide_eq_false h6
     rw [if_neg h6]
     refine Wp_seq_region ?_
     refine qV (r_eql rfl rfl) ?_
     refine qA _ rfl ?_
     refine WpL_nil ?_
     refine Wp_cond rfl (fun h9 => ?_) (fun h9 => ?_)
     ·have kh9 := h9
      replace h9 := of_decide_eq_true h9
      rw [if_pos h9]
      refine Wp_seq_region ?_
      refine qF b1 0 3 rfl Tryz.underlying25 rfl siz3 rfl ?_
      refine qV (r_load rfl flat3 (B1.cell rfl)) ?_
      obtain ⟨e18, he18⟩ : ∃ e, (decide ((t.mn : Int) < 0)) = e := ⟨_, rfl⟩
      refine qV ((r_lss rfl rfl).trans (by rw [he18]; try rfl)) ?_
      refine qM _ rfl ?_
      refine qG (.bool e18) (nU e18 (P6 b1 3)) (by cases e18 <;> first | exact gA | exact gB | exact .inl ⟨rfl, r_fieldAddr rfl Tryz.underlying25 rfl siz3 rfl⟩) ?_
      refine qG (.bool e18) (nU e18 (I6 t.mn)) (by cases e18 <;> first | exact gA | exact gB | exact .inl ⟨rfl, r_load rfl flat3 (B1.cell rfl)⟩) ?_
      obtain ⟨e19, he19⟩ : ∃ e, (decide ((9 : Int) < t.mn)) = e := ⟨_, rfl⟩
      refine qG (.bool e18) (nU e18 (.bool e19)) (by cases e18 <;> first | exact gA | exact gB | exact .inl ⟨rfl, (r_gtr rfl rfl).trans (by rw [he19]; try rfl)⟩) ?_
      obtain ⟨e20, he20⟩ : ∃ e, (e18 || e19) = e := ⟨_, rfl⟩
      refine qV (r_pick (v := .bool e20) rfl (by rw [← he20]; cases e18 <;> rfl)) ?_
      refine WpL_nil ?_
      subst he20
      subst he19
      subst he18
      refine Wp_cond rfl (fun h8 => ?_) (fun h8 => ?_)
      ·have kh8 := h8
       simp at h8
       refine Wp_seq_region ?_
       refine qA _ rfl ?_
       refine WpL_nil (Wp_ret (inB_ret (thn_ret ?_)))
       refine fin_tmp Tryz.results43 (v := (.int .i64 1)) rfl ?_
       exact ⟨int_eq (by rw [if_pos (by omega)]), E⟩
      ·have kh8 := h8
       simp at h8
       refine Wp_skip (inB_normal (thn_normal (Wp_seq_region ?_)))
       refine qA _ rfl ?_
       refine WpL_nil (Wp_ret ?_)
       refine fin_tmp Tryz.results43 (v := (.int .i64 0)) rfl ?_
       exact ⟨int_eq (by rw [if_neg (by omega)]), E⟩
     ·have kh9 := h9
      replace h9 := of_decide_eq_false h9
      rw [if_neg h9]
      refine Wp_skip (inB_normal (thn_normal (Wp_seq_region ?_)))
      refine qA _ rfl ?_
      refine WpL_nil (Wp_ret ?_)
      refine fin_tmp Tryz.results43 (v := (.int .i64 0)) rfl ?_
      exact ⟨rfl, E⟩
def cntF : Int → Re → Bool × Int := fun s _ => (true, IntKind.i64.wrap (s + 1))
mutual
theorem walk_cnt : ∀ (t : Re) (s : Int), 0 ≤ s → s + t.size ≤ 9223372036854775807 → walkF cntF t s = (true, s + t.size)
  | .mk k set args mn mx ng, s, h0, h1 => by
    simp only [Re.size] at h1 ⊢
    rw [walkF_eq]
    simp only [cntF, if_true, Re.args]
    rw [wI64 (by omega)]
    rw [walks_cnt args (s + 1) (by omega) (by omega)]
    simp; omega
theorem walks_cnt : ∀ (ts : List Re) (s : Int), 0 ≤ s → s + Re.sizes ts ≤ 9223372036854775807 → walkFs cntF ts s = (true, s + Re.sizes ts)
  | [], s, _, _ => by simp [walkFs, Re.sizes]
  | t :: ts, s, h0, h1 => by
    simp only [Re.sizes] at h1 ⊢
    rw [walkFs_cons, walk_cnt t s h0 (by omega)]
    simp only [if_true]
    rw [walks_cnt ts _ (by omega) (by omega)]
    simp; omega
end
theorem size1_c (wb w0 : World) (t : Re) (vs : List Value) (ht : ReAt wb t vs) (b : Nat) (s : Int) (hB : Blk w0 b #[.int .i64 s] 3) :
  Ret Tryz.prog 44 #[.agg vs.toArray, .pointer (some ⟨b, 0, none⟩)] w0 fun v w => v = .bool true ∧ Chg (fun x => x = b) w0 w ∧ Blk w b #[.int .i64 (IntKind.i64.wrap (s + 1))] 3 := by
 have ht0 := ht
 obtain ⟨sa, sc, aa, ac, rfl, hset, hlen, hargs⟩ := ht.form
 refine Ret_of Tryz.func44 rfl Tryz.ntmps44 (Nat.le_of_ble_eq_true rfl) ?_
 have E : Chg (fun x => x = b) w0 w0 := Chg.refl _ _
 refine Wp_seq_region ?_
 refine s_box (v := (.agg (R6 t sa sc aa ac))) (c := (R6 t sa sc aa ac)) (by decide) rfl rfl ?_
 intro b1 w1 N1
 have F1 := N1.ge E
 have O1_b := N1.lt hB
 replace hB := N1.keep hB
 replace E := E.ext N1.ext
 have B1 := N1.blk
 refine qA _ rfl ?_
 refine WpL_nil (Wp_seq_region ?_)
 refine qV (r_load rfl flat3 (hB.cell rfl)) ?_
 refine qV (r_add (c := IntKind.i64.wrap (s + 1)) rfl rfl (rfl)) ?_
 refine s_store (b := b) (o := 0) (c' := #[(I6 (IntKind.i64.wrap (s + 1)))]) (v := (I6 (IntKind.i64.wrap (s + 1)))) rfl rfl rfl siz3 hB (by simp) rfl ?_
 intro w2 S2
 replace B1 := S2.keep (by omega) B1
 replace E := S2.step E (by first | exact Or.inl (by omega) | exact Or.inr rfl | exact Or.inr (by assumption) | exact Or.inr (by simp) | exact Or.inr (by omega) | exact Or.inr (by dsimp only; omega))
 replace hB := S2.blk
 refine WpL_nil (Wp_seq_region ?_)
 refine qA _ rfl ?_
 refine WpL_nil (Wp_ret ?_)
 refine fin_tmp Tryz.results44 (v := (.bool true)) rfl ?_
 exact ⟨rfl, E, hB⟩
theorem size_c (w0 : World) (t : Re) (vs : List Value) (ht : ReAt w0 t vs) (hs : t.size ≤ 9223372036854775807) :
  Ret Tryz.prog 10 #[.agg vs.toArray] w0 fun v w => v = .int .i64 t.size ∧ Ext w0 w := by
 have ht0 := ht
 have hw := walk_cnt t 0 (by omega) (by omega)
 obtain ⟨sa, sc, aa, ac, rfl, hset, hlen, hargs⟩ := ht.form
 refine Ret_of Tryz.func10 rfl Tryz.ntmps10 (Nat.le_of_ble_eq_true rfl) ?_
 have E : Chg none1 w0 w0 := Chg.refl _ _
 refine Wp_seq_region ?_
 refine s_box (v := (.agg (R6 t sa sc aa ac))) (c := (R6 t sa sc aa ac)) (by decide) rfl rfl ?_
 intro b1 w1 N1
 have F1 := N1.ge E
 replace E := E.ext N1.ext
 have B1 := N1.blk
 refine qA _ rfl ?_
 refine WpL_nil (Wp_seq_region ?_)
 refine s_allocStore (v := (I6 0)) (c := #[(I6 0)]) (n := 1) (by decide) zer3 rfl siz3 rfl rfl rfl (by simp [Value.oneCell']) ?_
 intro b2 w2 N2
 have F2 := N2.ge E
 have O2_b1 := N2.lt B1
 replace B1 := N2.keep B1
 replace E := E.ext N2.ext
 have B2 := N2.blk
 refine WpL_nil (Wp_seq_region ?_)
 refine qV (r_loadAgg (vs := [(I6 t.kind), (.slice sa t.set.length sc), (.slice aa t.args.length ac), (I6 t.mn), (I6 t.mx), (.bool t.neg)]) rfl agg25 siz25 rfl (B1.cells rfl)) ?_
 refine qV (r_makeFunc rfl rfl) ?_
 have hf : ∀ (s : Int) (w : World) (t : Re) (vs : List Value), b2 + 1 ≤ w.heap.size → Ext w0 w → Blk w b2 #[.int .i64 s] 3 → ReAt w0 t vs → CallV Tryz.prog (.func (.func 44) #[] #[.pointer (some ⟨b2, 0, none⟩)]) #[.agg vs.toArray] w fun v w' => v = .bool (cntF s t).1 ∧ Chg (fun x => x = b2) w w' ∧ Blk w' b2 #[.int .i64 (cntF s t).2] 3 := fun s w t vs _ _ hI ht => CallV.mk (first := #[]) (cap := #[.pointer (some ⟨b2, 0, none⟩)]) (args := #[.agg vs.toArray]) Tryz.func44 nm44 bd44 rfl (size1_c w0 w t vs ht b2 s hI)
 refine WpL_enter rfl rfl (by decide) (r_callF Tryz.func41 nm41 bd41 rfl) (walk_c cntF (fun s w => Blk w b2 #[.int .i64 s] 3) (fun x => x = b2) (b2 + 1) _ w0 (fun b hb => by omega) (fun s w w' hI e => e.keep hI) hf t.size t (Nat.le_refl _) 0 _ _ (by have := B2.lt; omega) E B2 ht0) ?_
 rintro _ w3 ⟨rfl, C3, B3⟩
 replace B1 := C3.keep (by omega) B1
 replace E := E.step C3 (by intro x hx hm; omega)
 refine WpL_nil (Wp_seq_region ?_)
 refine qV (r_load rfl flat3 (B3.cell rfl)) ?_
 refine qA _ rfl ?_
 refine WpL_nil (Wp_ret ?_)
 refine fin_tmp Tryz.results10 (v := (.int .i64 ((walkF cntF t 0).2))) rfl ?_
 exact ⟨by rw [hw]; simp, E⟩
end Go.Proofs
namespace Go.Proofs
open Go Go.Eng
set_option maxRecDepth 100000
def fitF (most : Int) : Int × Int → Re → Bool × (Int × Int) := fun s t =>
 let n := IntKind.i64.wrap (s.1 + 1)
 let e := if most < n then 2 else nodeE t
 (decide (e = 0), (n, e))
def fitsE (t : Re) (most : Int) : Int := (walkF (fitF most) t (0, 0)).2.2
theorem fits1_c (wb w0 : World) (t : Re) (vs : List Value) (ht : ReAt wb t vs) (hE : Ext wb w0) (b1' b2' b3' : Nat) (s : Int × Int) (most : Int) (h0 : wb.heap.size ≤ b2') (h12 : b2' < b1') (h13 : b1' < b3')
  (hB1 : Blk w0 b1' #[.int .i64 s.1] 3) (hB2 : Blk w0 b2' #[.int .i64 most] 3) (hB3 : Blk w0 b3' #[.int .i64 s.2] 28) :
  Ret Tryz.prog 42 #[.agg vs.toArray, .pointer (some ⟨b1', 0, none⟩), .pointer (some ⟨b2', 0, none⟩), .pointer (some ⟨b3', 0, none⟩)] w0
   fun v w => v = .bool (fitF most s t).1 ∧ Chg (fun x => x = b1' ∨ x = b3') w0 w ∧ Blk w b1' #[.int .i64 (fitF most s t).2.1] 3 ∧ Blk w b2' #[.int .i64 most] 3 ∧ Blk w b3' #[.int .i64 (fitF most s t).2.2] 28 := by
 have ht0 := ht
 obtain ⟨sa, sc, aa, ac, rfl, hset, hlen, hargs⟩ := ht.form
 refine Ret_of Tryz.func42 rfl Tryz.ntmps42 (Nat.le_of_ble_eq_true rfl) ?_
 have E : Chg (fun x => x = b1' ∨ x = b3') w0 w0 := Chg.refl _ _
 refine Wp_seq_region ?_
 refine s_box (v := (.agg (R6 t sa sc aa ac))) (c := (R6 t sa sc aa ac)) (by decide) rfl rfl ?_
 intro b1 w1 N1
 have F1 := N1.ge E
 have O1_b1' := N1.lt hB1
 have O1_b2' := N1.lt hB2
 have O1_b3' := N1.lt hB3
 replace hB1 := N1.keep hB1
 replace hB2 := N1.keep hB2
 replace hB3 := N1.keep hB3
 replace E := E.ext N1.ext
 have B1 := N1.blk
 refine qA _ rfl ?_
 refine WpL_nil (Wp_seq (Wp_seq_region ?_))
 refine qV (r_load rfl flat3 (hB1.cell rfl)) ?_
 refine qV (r_add (c := IntKind.i64.wrap (s.1 + 1)) rfl rfl (rfl)) ?_
 refine s_store (b := b1') (o := 0) (c' := #[(I6 (IntKind.i64.wrap (s.1 + 1)))]) (v := (I6 (IntKind.i64.wrap (s.1 + 1)))) rfl rfl rfl siz3 hB1 (by simp) rfl ?_
 intro w2 S2
 replace hB2 := S2.keep (by omega) hB2
 replace hB3 := S2.keep (by omega) hB3
 replace B1 := S2.keep (by omega) B1
 replace E := S2.step E (by first | exact Or.inl (by omega) | exact Or.inr rfl | exact Or.inr (by assumption) | exact Or.inr (by simp) | exact Or.inr (by omega) | exact Or.inr (by dsimp only; omega))
 replace hB1 := S2.blk
 refine WpL_nil (Wp_seq_region ?_)
 refine qV (r_load rfl flat3 (hB1.cell rfl)) ?_
 refine qV (r_load rfl flat3 (hB2.cell rfl)) ?_
 refine qV (r_gtr rfl rfl) ?_
 refine WpL_nil ?_
 refine Wp_cond rfl (fun h => ?_) (fun h => ?_)
 ·have kh := h
  replace h := of_decide_eq_true h
  refine Wp_region ?_
  refine s_store (b := b3') (o := 0) (c' := #[(I6 2)]) (v := (I6 2)) rfl rfl rfl siz28 hB3 (by simp) rfl ?_
  intro w4 S4
  replace hB1 := S4.keep (by omega) hB1
  replace hB2 := S4.keep (by omega) hB2
  replace B1 := S4.keep (by omega) B1
  replace E := S4.step E (by first | exact Or.inl (by omega) | exact Or.inr rfl | exact Or.inr (by assumption) | exact Or.inr (by simp) | exact Or.inr (by omega) | exact Or.inr (by dsimp only; omega))
  replace hB3 := S4.blk
  refine WpL_nil (thn_normal (Wp_seq_region ?_))
  refine qV (r_load rfl flat28 (hB3.cell rfl)) ?_
  refine qV (r_eql rfl rfl) ?_
  refine qA _ rfl ?_
  refine WpL_nil (Wp_ret ?_)
  refine fin_tmp Tryz.results42 (v := (.bool false)) rfl ?_
  exact ⟨by simp [fitF, h], E, by simpa [fitF] using hB1, hB2, by simpa [fitF, h] using hB3⟩
 ·have kh := h
  replace h := of_decide_eq_false h
  refine Wp_region ?_
  refine qV (r_loadAgg (vs := [(I6 t.kind), (.slice sa t.set.length sc), (.slice aa t.args.length ac), (I6 t.mn), (I6 t.mx), (.bool t.neg)]) rfl agg25 siz25 rfl (B1.cells rfl)) ?_
  refine WpL_enter rfl rfl (by decide) (r_callF Tryz.func43 nm43 bd43 rfl) (node_c wb _ t _ ht0 (Chg.step hE E fun x hx hm => by rcases hm with hm | hm <;> omega)) ?_
  rintro _ w9 ⟨rfl, X9⟩
  replace hB1 := X9.keep hB1
  replace hB2 := X9.keep hB2
  replace hB3 := X9.keep hB3
  replace B1 := X9.keep B1
  replace E := E.ext X9
  refine s_store (b := b3') (o := 0) (c' := #[(I6 (nodeE t))]) (v := (I6 (nodeE t))) rfl rfl rfl siz28 hB3 (by simp) rfl ?_
  intro w5 S5
  replace hB1 := S5.keep (by omega) hB1
  replace hB2 := S5.keep (by omega) hB2
  replace B1 := S5.keep (by omega) B1
  replace E := S5.step E (by first | exact Or.inl (by omega) | exact Or.inr rfl | exact Or.inr (by assumption) | exact Or.inr (by simp) | exact Or.inr (by omega) | exact Or.inr (by dsimp only; omega))
  replace hB3 := S5.blk
  refine WpL_nil (thn_normal (Wp_seq_region ?_))
  refine qV (r_load rfl flat28 (hB3.cell rfl)) ?_
  refine qV (r_eql rfl rfl) ?_
  refine qA _ rfl ?_
  refine WpL_nil (Wp_ret ?_)
  refine fin_tmp Tryz.results42 (v := (.bool (decide ((nodeE t : Int) = 0)))) rfl ?_
  exact ⟨by simp [fitF, h], E, by simpa [fitF] using hB1, hB2, by simpa [fitF, h] using hB3⟩
theorem fits_c (w0 : World) (t : Re) (vs : List Value) (ht : ReAt w0 t vs) (most : Int) :
  Ret Tryz.prog 9 #[.agg vs.toArray, .int .i64 most] w0 fun v w => v = .int .i64 (fitsE t most) ∧ Ext w0 w := by
 have ht0 := ht
 obtain ⟨sa, sc, aa, ac, rfl, hset, hlen, hargs⟩ := ht.form
 refine Ret_of Tryz.func9 rfl Tryz.ntmps9 (Nat.le_of_ble_eq_true rfl) ?_
 have E : Chg none1 w0 w0 := Chg.refl _ _
 refine Wp_seq_region ?_
 refine s_box (v := (.agg (R6 t sa sc aa ac))) (c := (R6 t sa sc aa ac)) (by decide) rfl rfl ?_
 intro b1 w1 N1
 have F1 := N1.ge E
 replace E := E.ext N1.ext
 have B1 := N1.blk
 refine s_box (v := (I6 most)) (c := #[(I6 most)]) (by decide) rfl rfl ?_
 intro b2 w2 N2
 have F2 := N2.ge E
 have O2_b1 := N2.lt B1
 replace B1 := N2.keep B1
 replace E := E.ext N2.ext
 have B2 := N2.blk
 refine qA _ rfl ?_
 refine WpL_nil (Wp_seq_region ?_)
 refine s_alloc (c := #[(I6 0)]) (by decide) zer3 rfl ?_
 intro b3 w3 N3
 have F3 := N3.ge E
 have O3_b1 := N3.lt B1
 have O3_b2 := N3.lt B2
 replace B1 := N3.keep B1
 replace B2 := N3.keep B2
 replace E := E.ext N3.ext
 have B3 := N3.blk
 refine s_alloc (c := #[(I6 0)]) (by decide) zer28 rfl ?_
 intro b4 w4 N4
 have F4 := N4.ge E
 have O4_b1 := N4.lt B1
 have O4_b2 := N4.lt B2
 have O4_b3 := N4.lt B3
 replace B1 := N4.keep B1
 replace B2 := N4.keep B2
 replace B3 := N4.keep B3
 replace E := E.ext N4.ext
 have B4 := N4.blk
 refine s_store (b := b3) (o := 0) (c' := #[(I6 0)]) (v := (I6 0)) rfl rfl rfl siz3 B3 (by simp) rfl ?_
 intro w5 S5
 replace B1 := S5.keep (by omega) B1
 replace B2 := S5.keep (by omega) B2
 replace B4 := S5.keep (by omega) B4
 replace E := S5.step E (by first | exact Or.inl (by omega) | exact Or.inr rfl | exact Or.inr (by assumption) | exact Or.inr (by simp) | exact Or.inr (by omega) | exact Or.inr (by dsimp only; omega))
 replace B3 := S5.blk
 refine s_store (b := b4) (o := 0) (c' := #[(I6 0)]) (v := (I6 0)) rfl rfl rfl siz28 B4 (by simp) rfl ?_
 intro w6 S6
 replace B1 := S6.keep (by omega) B1
 replace B2 := S6.keep (by omega) B2
 replace B3 := S6.keep (by omega) B3
 replace E := S6.step E (by first | exact Or.inl (by omega) | exact Or.inr rfl | exact Or.inr (by assumption) | exact Or.inr (by simp) | exact Or.inr (by omega) | exact Or.inr (by dsimp only; omega))
 replace B4 := S6.blk
 refine WpL_nil (Wp_seq_region ?_)
 refine qV (r_loadAgg (vs := [(I6 t.kind), (.slice sa t.set.length sc), (.slice aa t.args.length ac), (I6 t.mn), (I6 t.mx), (.bool t.neg)]) rfl agg25 siz25 rfl (B1.cells rfl)) ?_
 refine qV (r_makeFunc rfl rfl) ?_
 have hf : ∀ (s : Int × Int) (w : World) (t : Re) (vs : List Value), b4 + 1 ≤ w.heap.size → Ext w0 w → (Blk w b3 #[.int .i64 s.1] 3 ∧ Blk w b2 #[.int .i64 most] 3 ∧ Blk w b4 #[.int .i64 s.2] 28) → ReAt w0 t vs → CallV Tryz.prog (.func (.func 42) #[] #[.pointer (some ⟨b3, 0, none⟩), .pointer (some ⟨b2, 0, none⟩), .pointer (some ⟨b4, 0, none⟩)]) #[.agg vs.toArray] w fun v w' => v = .bool (fitF most s t).1 ∧ Chg (fun x => x = b3 ∨ x = b4) w w' ∧ (Blk w' b3 #[.int .i64 (fitF most s t).2.1] 3 ∧ Blk w' b2 #[.int .i64 most] 3 ∧ Blk w' b4 #[.int .i64 (fitF most s t).2.2] 28) := fun s w t vs _ hE hI ht => CallV.mk (first := #[]) (cap := #[.pointer (some ⟨b3, 0, none⟩), .pointer (some ⟨b2, 0, none⟩), .pointer (some ⟨b4, 0, none⟩)]) (args := #[.agg vs.toArray]) Tryz.func42 nm42 bd42 rfl (fits1_c w0 w t vs ht hE b3 b2 b4 s most (by omega) (by omega) (by omega) hI.1 hI.2.1 hI.2.2)
 refine WpL_enter rfl rfl (by decide) (r_callF Tryz.func41 nm41 bd41 rfl) (walk_c (fitF most) (fun s w => Blk w b3 #[.int .i64 s.1] 3 ∧ Blk w b2 #[.int .i64 most] 3 ∧ Blk w b4 #[.int .i64 s.2] 28) (fun x => x = b3 ∨ x = b4) (b4 + 1) _ w0 (fun b hb => by omega) (fun s w w' hI e => ⟨e.keep hI.1, e.keep hI.2.1, e.keep hI.2.2⟩) hf t.size t (Nat.le_refl _) (0, 0) _ _ (by have := B4.lt; omega) E ⟨B3, B2, B4⟩ ht0) ?_
 rintro _ w9 ⟨rfl, C9, B3', B2', B4'⟩
 replace B1 := C9.keep (by omega) B1
 replace E := E.step C9 (by intro x hx hm; omega)
 refine WpL_nil (Wp_seq_region ?_)
 refine qV (r_load rfl flat28 (B4'.cell rfl)) ?_
 refine qA _ rfl ?_
 refine WpL_nil (Wp_ret ?_)
 refine fin_tmp Tryz.results9 (v := (.int .i64 ((walkF (fitF most) t (0, 0)).2.2))) rfl ?_
 exact ⟨rfl, E⟩
theorem check_c (w0 : World) (t : Re) (vs : List Value) (ht : ReAt w0 t vs) :
  Ret Tryz.prog 8 #[.agg vs.toArray] w0 fun v w => v = .int .i64 (fitsE t 40) ∧ Ext w0 w := by
 have ht0 := ht
 obtain ⟨sa, sc, aa, ac, rfl, hset, hlen, hargs⟩ := ht.form
 refine Ret_of Tryz.func8 rfl Tryz.ntmps8 (Nat.le_of_ble_eq_true rfl) ?_
 have E : Chg none1 w0 w0 := Chg.refl _ _
 refine Wp_seq_region ?_
 refine s_box (v := (.agg (R6 t sa sc aa ac))) (c := (R6 t sa sc aa ac)) (by decide) rfl rfl ?_
 intro b1 w1 N1
 have F1 := N1.ge E
 replace E := E.ext N1.ext
 have B1 := N1.blk
 refine qA _ rfl ?_
 refine WpL_nil (Wp_seq_region ?_)
 refine qV (r_loadAgg (vs := [(I6 t.kind), (.slice sa t.set.length sc), (.slice aa t.args.length ac), (I6 t.mn), (I6 t.mx), (.bool t.neg)]) rfl agg25 siz25 rfl (B1.cells rfl)) ?_
 refine WpL_enter rfl rfl (by decide) (r_callF Tryz.func9 nm9 bd9 rfl) (fits_c _ t _ (ReAt.ext E t ht0) 40) ?_
 rintro _ w9 ⟨rfl, X9⟩
 replace B1 := X9.keep B1
 replace E := E.ext X9
 refine qA _ rfl ?_
 refine WpL_nil (Wp_ret ?_)
 refine fin_tmp Tryz.results8 (v := (.int .i64 (fitsE t 40))) rfl ?_
 exact ⟨rfl, E⟩
end Go.Proofs
namespace Go.Proofs
open Go Go.Eng
set_option maxRecDepth 100000
mutual
def okRe : Re → Prop
  | .mk k set args mn mx ng => nodeE (.mk k set args mn mx ng) = 0 ∧ okRes args
def okRes : List Re → Prop
  | [] => True
  | t :: ts => okRe t ∧ okRes ts
end
theorem okRes_get {ts : List Re} (h : okRes ts) {i : Nat} {x : Re} (hx : ts[i]? = some x) : okRe x := by
  induction ts generalizing i with
  | nil => simp at hx
  | cons t ts ih =>
    simp only [okRes] at h
    cases i with
    | zero => simp at hx; subst hx; exact h.1
    | succ i => exact ih h.2 (by simpa using hx)
theorem okRe_node {t : Re} (h : okRe t) : nodeE t = 0 := by cases t; simp only [okRe] at h; exact h.1
theorem okRe_args {t : Re} (h : okRe t) : okRes t.args := by cases t; simp only [okRe] at h; exact h.2
theorem okRe_form {t : Re} (h : okRe t) : 0 ≤ t.kind ∧ t.kind ≤ 10 ∧ formB t = true := by
 have := okRe_node h
 unfold nodeE at this
 split at this
 ·omega
 ·rename_i hk
  split at this
  ·omega
  ·rename_i hf; exact ⟨by omega, by omega, by simpa using hf⟩
theorem okRe_one {t : Re} (h : okRe t) (hk : t.kind = 5 ∨ t.kind = 6 ∨ t.kind = 8 ∨ t.kind = 9 ∨ t.kind = 10) : t.args.length = 1 := by
 obtain ⟨_, _, hf⟩ := okRe_form h
 simp only [formB, Bool.and_eq_true] at hf
 have := hf.1.1.1.1
 unfold okB at this
 rw [if_neg (by omega), if_pos hk] at this
 simp at this; omega
theorem okRe_two {t : Re} (h : okRe t) (hk : t.kind = 3 ∨ t.kind = 4 ∨ t.kind = 7) : 2 ≤ t.args.length := by
 obtain ⟨_, _, hf⟩ := okRe_form h
 simp only [formB, Bool.and_eq_true] at hf
 have := hf.1.1.1.1
 unfold okB at this
 rw [if_pos hk] at this
 simp at this; omega
theorem okRe_rep {t : Re} (h : okRe t) (hk : t.kind = 6) : 0 ≤ t.mn ∧ t.mn ≤ t.mx ∧ t.mx ≤ 8 := by
 have := okRe_node h
 obtain ⟨h1, h2, hf⟩ := okRe_form h
 unfold nodeE at this
 rw [if_neg (by omega), if_neg (by simp [hf]), if_neg (by omega), if_pos hk] at this
 split at this <;> omega
theorem args_at {w0 : World} {aa : Option Addr} {ts : List Re} (h : ts = [] ∨ ∃ b o, aa = some ⟨b, o, none⟩ ∧ ResAt w0 b o ts) (h0 : 0 < ts.length) : ∃ b o, aa = some ⟨b, o, none⟩ ∧ ResAt w0 b o ts := by
 rcases h with h | h
 ·rw [h] at h0; simp at h0
 ·exact h
end Go.Proofs
namespace Go.Proofs
open Go Go.Eng
set_option maxRecDepth 100000
theorem fitF_eq {most : Int} {n e : Int} (t : Re) (h0 : 0 ≤ n) (h1 : n ≤ 1000000) : fitF most (n, e) t = (decide ((if most < n + 1 then 2 else nodeE t) = 0), (n + 1, if most < n + 1 then 2 else nodeE t)) := by
 simp only [fitF]; rw [wI64 (by omega)]
mutual
theorem fits_yes {most : Int} (hm : most ≤ 1000000) : ∀ (t : Re) (n e : Int), 0 ≤ n → n + t.size ≤ most → okRe t → walkF (fitF most) t (n, e) = (true, (n + t.size, 0))
  | .mk k set args mn mx ng, n, e, h0, h1, hok => by
    simp only [Re.size] at h1 ⊢
    rw [walkF_eq, fitF_eq _ h0 (by omega)]
    have hn := okRe_node hok
    have hlt : ¬ most < n + 1 := by omega
    simp only [if_neg hlt, hn, decide_true, if_true, Re.args]
    have ha := okRe_args hok
    simp only [Re.args] at ha
    rw [fits_yess hm args (n + 1) 0 (by omega) (by omega) ha rfl]
    simp; omega
theorem fits_yess {most : Int} (hm : most ≤ 1000000) : ∀ (ts : List Re) (n e : Int), 0 ≤ n → n + Re.sizes ts ≤ most → okRes ts → e = 0 → walkFs (fitF most) ts (n, e) = (true, (n + Re.sizes ts, 0))
  | [], n, e, _, _, _, he => by simp [walkFs, Re.sizes, he]
  | t :: ts, n, e, h0, h1, hok, he => by
    simp only [Re.sizes] at h1 ⊢
    simp only [okRes] at hok
    rw [walkFs_cons, fits_yes hm t n e h0 (by omega) hok.1]
    simp only [if_true]
    rw [fits_yess hm ts _ _ (by omega) (by omega) hok.2 rfl]
    simp; omega
end
mutual
theorem fits_no {most : Int} (hm : most ≤ 1000000) : ∀ (t : Re) (n e : Int), 0 ≤ n → n ≤ most → (walkF (fitF most) t (n, e)).1 = true → okRe t ∧ n + t.size ≤ most ∧ (walkF (fitF most) t (n, e)).2 = (n + t.size, 0)
  | .mk k set args mn mx ng, n, e, h0, h1, h => by
    rw [walkF_eq, fitF_eq _ h0 (by omega)] at h ⊢
    by_cases hc : (if most < n + 1 then 2 else nodeE (.mk k set args mn mx ng)) = 0
    · have hlt : ¬ most < n + 1 := by intro h'; rw [if_pos h'] at hc; omega
      rw [if_neg hlt] at hc
      simp only [if_neg hlt, hc, decide_true, if_true, Re.args] at h ⊢
      obtain ⟨a, b, c⟩ := fits_nos hm args (n + 1) 0 (by omega) (by omega) h rfl
      refine ⟨by simp only [okRe]; exact ⟨hc, a⟩, by simp only [Re.size]; omega, by rw [c]; simp only [Re.size]; simp; omega⟩
    · simp [hc] at h
theorem fits_nos {most : Int} (hm : most ≤ 1000000) : ∀ (ts : List Re) (n e : Int), 0 ≤ n → n ≤ most → (walkFs (fitF most) ts (n, e)).1 = true → e = 0 → okRes ts ∧ n + Re.sizes ts ≤ most ∧ (walkFs (fitF most) ts (n, e)).2 = (n + Re.sizes ts, 0)
  | [], n, e, _, h1, _, he => by simp [walkFs, Re.sizes, okRes, he]; omega
  | t :: ts, n, e, h0, h1, h, he => by
    rw [walkFs_cons] at h ⊢
    by_cases hc : (walkF (fitF most) t (n, e)).1 = true
    · rw [if_pos hc] at h ⊢
      obtain ⟨a, b, c⟩ := fits_no hm t n e h0 h1 hc
      rw [c] at h ⊢
      obtain ⟨a', b', c'⟩ := fits_nos hm ts _ _ (by omega) b h rfl
      exact ⟨by simp only [okRes]; exact ⟨a, a'⟩, by simp only [Re.sizes]; omega, by rw [c']; simp only [Re.sizes]; simp; omega⟩
    · rw [if_neg hc] at h; simp at h
end
mutual
theorem fits_last {most : Int} : ∀ (t : Re) (s : Int × Int), (walkF (fitF most) t s).1 = decide ((walkF (fitF most) t s).2.2 = 0)
  | .mk k set args mn mx ng, s => by
    rw [walkF_eq]
    by_cases hc : (fitF most s (.mk k set args mn mx ng)).1 = true
    · rw [if_pos hc]
      exact fits_lasts args _ (by simpa [fitF] using hc)
    · rw [if_neg hc]
      have h2 : (fitF most s (.mk k set args mn mx ng)).1 = false := by simpa using hc
      simp only [fitF] at h2 ⊢
      exact h2.symm
theorem fits_lasts {most : Int} : ∀ (ts : List Re) (s : Int × Int), s.2 = 0 → (walkFs (fitF most) ts s).1 = decide ((walkFs (fitF most) ts s).2.2 = 0)
  | [], s, h => by simp [walkFs, h]
  | t :: ts, s, h => by
    rw [walkFs_cons]
    have := fits_last (most := most) t s
    by_cases hc : (walkF (fitF most) t s).1 = true
    · rw [if_pos hc]
      rw [hc] at this
      exact fits_lasts ts _ (by simpa using this.symm)
    · rw [if_neg hc]
      have h2 : (walkF (fitF most) t s).1 = false := by simpa using hc
      rw [h2] at this
      exact this
end
theorem fitsE_zero {t : Re} {most : Int} (h0 : 0 ≤ most) (hm : most ≤ 1000000) : fitsE t most = 0 ↔ okRe t ∧ (t.size : Int) ≤ most := by
 unfold fitsE
 constructor
 ·intro h
  have h1 := fits_last (most := most) t (0, 0)
  rw [h] at h1
  obtain ⟨a, b, _⟩ := fits_no hm t 0 0 (Int.le_refl 0) h0 (by simpa using h1)
  exact ⟨a, by omega⟩
 ·rintro ⟨a, b⟩
  rw [fits_yes hm t 0 0 (Int.le_refl 0) (by omega) a]
def checkP (t : Re) (text : List Int) : Int := if fitsE t 40 ≠ 0 then fitsE t 40 else if 24 < text.length then 2 else if (text.any fun r => !runeB r) = true then 1 else 0
def rowL (R : Rl) (i p : Nat) : List (Nat × Nat) := ((List.range p).filter (R i)).map fun j => (i, j)
def pairsL (R : Rl) (n : Nat) : List (Nat × Nat) := (List.range n).flatMap fun i => rowL R i 25
end Go.Proofs
namespace Go.Eng
open Go
def SlIn (S : Nat → Prop) (w : World) (k : Nat) (v : Value) (rows : List (List Value)) : Prop :=
 ∃ a cap, v = .slice a rows.length cap ∧ rows.length ≤ 9223372036854775807 ∧ rows.length ≤ cap ∧ (rows = [] ∨ ∃ b o, S b ∧ a = some ⟨b, o, none⟩ ∧ ∀ i r, rows[i]? = some r → CellsAt w b (o + i * k) r)
theorem SlIn.at {S : Nat → Prop} {w : World} {k : Nat} {v : Value} {rows : List (List Value)} (h : SlIn S w k v rows) : SlAt w k v rows := by
 obtain ⟨a, cap, h1, h2, h3, h4⟩ := h
 refine ⟨a, cap, h1, h2, h3, ?_⟩
 rcases h4 with h | ⟨b, o, _, h5, h6⟩
 ·exact .inl h
 ·exact .inr ⟨b, o, h5, h6⟩
theorem SlIn.chg {S M : Nat → Prop} {w w' : World} {k : Nat} {v : Value} {rows : List (List Value)} (h : SlIn S w k v rows) (c : Chg M w w') (hm : ∀ b, S b → ¬ M b) : SlIn S w' k v rows := by
 obtain ⟨a, cap, h1, h2, h3, h4⟩ := h
 refine ⟨a, cap, h1, h2, h3, ?_⟩
 rcases h4 with h | ⟨b, o, hb, h5, h6⟩
 ·exact .inl h
 ·exact .inr ⟨b, o, hb, h5, fun i r hr => (h6 i r hr).chg c (hm b hb)⟩
theorem SlIn.mono {S S' : Nat → Prop} {w : World} {k : Nat} {v : Value} {rows : List (List Value)} (h : SlIn S w k v rows) (hs : ∀ b, S b → S' b) : SlIn S' w k v rows := by
 obtain ⟨a, cap, h1, h2, h3, h4⟩ := h
 refine ⟨a, cap, h1, h2, h3, ?_⟩
 rcases h4 with h | ⟨b, o, hb, h5⟩
 ·exact .inl h
 ·exact .inr ⟨b, o, hs b hb, h5⟩
theorem SlIn.nil (S : Nat → Prop) (w : World) (k : Nat) (a : Option Addr) (cap : Nat) : SlIn S w k (.slice a 0 cap) [] := ⟨a, cap, rfl, by simp, by simp, .inl rfl⟩
theorem SlIn.mk {S : Nat → Prop} {w : World} {k : Nat} {b o n c : Nat} {rows : List (List Value)} (h : SlAt w k (.slice (some ⟨b, o, none⟩) n c) rows) (hs : S b) : SlIn S w k (.slice (some ⟨b, o, none⟩) n c) rows := by
 obtain ⟨a, cap, h1, h2, h3, h4⟩ := h
 refine ⟨a, cap, h1, h2, h3, ?_⟩
 rcases h4 with h | ⟨b', o', h5, h6⟩
 ·exact .inl h
 ·simp only [Value.slice.injEq] at h1
  have : b' = b := by rw [← h1.1] at h5; simp at h5; exact h5.1.symm
  exact .inr ⟨b', o', this ▸ hs, h5, h6⟩
mutual
def ReIn (S : Nat → Prop) (w : World) : Re → List Value → Prop
  | .mk k set args mn mx ng, vs => ∃ sa sc aa ac, vs = [.int .i64 k, .slice sa set.length sc, .slice aa args.length ac, .int .i64 mn, .int .i64 mx, .bool ng] ∧ SlIn S w 2 (.slice sa set.length sc) (set.map spanV) ∧ (args.length ≤ ac ∧ ac ≤ 9223372036854775807) ∧
      (args = [] ∨ ∃ b o, S b ∧ aa = some ⟨b, o, none⟩ ∧ ResIn S w b o args)
def ResIn (S : Nat → Prop) (w : World) (b : Nat) : Nat → List Re → Prop
  | _, [] => True
  | o, t :: ts => (∃ vs, CellsAt w b o vs ∧ ReIn S w t vs) ∧ ResIn S w b (o + 6) ts
end
mutual
theorem ReIn.at {S : Nat → Prop} {w : World} : ∀ (t : Re) {vs : List Value}, ReIn S w t vs → ReAt w t vs
  | .mk k set args mn mx ng, vs, h => by
    simp only [ReIn] at h
    simp only [ReAt]
    obtain ⟨sa, sc, aa, ac, hv, hs, hl, ha⟩ := h
    refine ⟨sa, sc, aa, ac, hv, hs.at, hl, ?_⟩
    rcases ha with h | ⟨b, o, _, h1, h2⟩
    · exact .inl h
    · exact .inr ⟨b, o, h1, ResIn.at args h2⟩
theorem ResIn.at {S : Nat → Prop} {w : World} {b : Nat} : ∀ (ts : List Re) {o : Nat}, ResIn S w b o ts → ResAt w b o ts
  | [], _, _ => by simp only [ResAt]
  | t :: ts, o, h => by
    simp only [ResIn] at h
    simp only [ResAt]
    obtain ⟨⟨vs, h1, h2⟩, h3⟩ := h
    exact ⟨⟨vs, h1, ReIn.at t h2⟩, ResIn.at ts h3⟩
end
mutual
theorem ReIn.chg {S M : Nat → Prop} {w w' : World} (c : Chg M w w') (hm : ∀ b, S b → ¬ M b) : ∀ (t : Re) {vs : List Value}, ReIn S w t vs → ReIn S w' t vs
  | .mk k set args mn mx ng, vs, h => by
    simp only [ReIn] at h ⊢
    obtain ⟨sa, sc, aa, ac, hv, hs, hl, ha⟩ := h
    refine ⟨sa, sc, aa, ac, hv, hs.chg c hm, hl, ?_⟩
    rcases ha with h | ⟨b, o, hb, h1, h2⟩
    · exact .inl h
    · exact .inr ⟨b, o, hb, h1, ResIn.chg c hm args hb h2⟩
theorem ResIn.chg {S M : Nat → Prop} {w w' : World} (c : Chg M w w') (hm : ∀ b, S b → ¬ M b) {b : Nat} : ∀ (ts : List Re) {o : Nat}, S b → ResIn S w b o ts → ResIn S w' b o ts
  | [], _, _, _ => by simp only [ResIn]
  | t :: ts, o, hb, h => by
    simp only [ResIn] at h ⊢
    obtain ⟨⟨vs, h1, h2⟩, h3⟩ := h
    exact ⟨⟨vs, h1.chg c (hm b hb), ReIn.chg c hm t h2⟩, ResIn.chg c hm ts hb h3⟩
end
mutual
theorem ReIn.mono {S S' : Nat → Prop} {w : World} (hs : ∀ b, S b → S' b) : ∀ (t : Re) {vs : List Value}, ReIn S w t vs → ReIn S' w t vs
  | .mk k set args mn mx ng, vs, h => by
    simp only [ReIn] at h ⊢
    obtain ⟨sa, sc, aa, ac, hv, h0, hl, ha⟩ := h
    refine ⟨sa, sc, aa, ac, hv, h0.mono hs, hl, ?_⟩
    rcases ha with h | ⟨b, o, hb, h1, h2⟩
    · exact .inl h
    · exact .inr ⟨b, o, hs b hb, h1, ResIn.mono hs args h2⟩
theorem ResIn.mono {S S' : Nat → Prop} {w : World} (hs : ∀ b, S b → S' b) {b : Nat} : ∀ (ts : List Re) {o : Nat}, ResIn S w b o ts → ResIn S' w b o ts
  | [], _, _ => by simp only [ResIn]
  | t :: ts, o, h => by
    simp only [ResIn] at h ⊢
    obtain ⟨⟨vs, h1, h2⟩, h3⟩ := h
    exact ⟨⟨vs, h1, ReIn.mono hs t h2⟩, ResIn.mono hs ts h3⟩
end
theorem ReIn.ext {S : Nat → Prop} {w w' : World} (e : Ext w w') (t : Re) {vs : List Value} (h : ReIn S w t vs) : ReIn S w' t vs := ReIn.chg e (fun _ _ f => f) t h
theorem ReIn.form {S : Nat → Prop} {w : World} {t : Re} {vs : List Value} (h : ReIn S w t vs) : ∃ sa sc aa ac, vs = [.int .i64 t.kind, .slice sa t.set.length sc, .slice aa t.args.length ac, .int .i64 t.mn, .int .i64 t.mx, .bool t.neg] ∧ SlIn S w 2 (.slice sa t.set.length sc) (t.set.map spanV) ∧ (t.args.length ≤ ac ∧ ac ≤ 9223372036854775807) ∧
  (t.args = [] ∨ ∃ b o, S b ∧ aa = some ⟨b, o, none⟩ ∧ ResIn S w b o t.args) := by
 cases t; simp only [ReIn] at h; exact h
theorem ReIn.of {S : Nat → Prop} {w : World} {k : Int} {set : List (Int × Int)} {args : List Re} {mn mx : Int} {ng : Bool} {sa aa : Option Addr} {sc ac : Nat} (hs : SlIn S w 2 (.slice sa set.length sc) (set.map spanV)) (hl : (args.length ≤ ac ∧ ac ≤ 9223372036854775807)) (ha : args = [] ∨ ∃ b o, S b ∧ aa = some ⟨b, o, none⟩ ∧ ResIn S w b o args) :
  ReIn S w (.mk k set args mn mx ng) [.int .i64 k, .slice sa set.length sc, .slice aa args.length ac, .int .i64 mn, .int .i64 mx, .bool ng] := by
 simp only [ReIn]; exact ⟨sa, sc, aa, ac, rfl, hs, hl, ha⟩
theorem ResIn.get {S : Nat → Prop} {w : World} {b : Nat} : ∀ {ts : List Re} {o i : Nat} {t : Re}, ResIn S w b o ts → ts[i]? = some t → ∃ vs, CellsAt w b (o + i * 6) vs ∧ ReIn S w t vs
  | [], _, _, _, _, h => by simp at h
  | x :: ts, o, 0, t, h, hi => by
    simp only [ResIn] at h
    simp at hi
    subst hi
    simpa using h.1
  | x :: ts, o, i + 1, t, h, hi => by
    simp only [ResIn] at h
    have := ResIn.get h.2 (i := i) (by simpa using hi)
    rwa [show o + (i + 1) * 6 = o + 6 + i * 6 from by omega]
theorem ReIn.len {S : Nat → Prop} {w : World} {t : Re} {vs : List Value} (h : ReIn S w t vs) : vs.length = 6 := (ReIn.at t h).len
theorem ReIn.of_at {w : World} : ∀ (t : Re) {vs : List Value}, ReAt w t vs → ReIn (fun b => b < w.heap.size) w t vs := by
  intro t
  have key : ∀ n, (∀ t : Re, t.size ≤ n → ∀ vs, ReAt w t vs → ReIn (fun b => b < w.heap.size) w t vs) := by
    intro n
    induction n with
    | zero => intro t ht; have := t.size_pos; omega
    | succ n ih =>
      intro t hn vs h
      obtain ⟨sa, sc, aa, ac, rfl, hs, hl, ha⟩ := h.form
      have hsz := t.size_eq
      cases t with
      | mk k set args mn mx ng =>
      simp only [Re.kind, Re.set, Re.args, Re.mn, Re.mx, Re.neg] at *
      refine ReIn.of ?_ hl ?_
      · obtain ⟨a, cap, h1, h2, h3, h4⟩ := hs
        refine ⟨a, cap, h1, h2, h3, ?_⟩
        rcases h4 with h | ⟨b, o, h5, h6⟩
        · exact .inl h
        · cases set with
          | nil => exact .inl rfl
          | cons s r =>
            have := h6 0 (spanV s) rfl 0 _ rfl
            exact .inr ⟨b, o, World.block_lt_of_cell? w _ this, h5, h6⟩
      · rcases ha with h | ⟨b, o, h1, h2⟩
        · exact .inl h
        · have key2 : ∀ (ts : List Re) (o : Nat), Re.sizes ts ≤ n → ResAt w b o ts → ResIn (fun b => b < w.heap.size) w b o ts := by
            intro ts
            induction ts with
            | nil => intro _ _ _; simp only [ResIn]
            | cons t ts ih2 =>
              intro o hz h
              simp only [Re.sizes] at hz
              simp only [ResAt] at h
              simp only [ResIn]
              obtain ⟨⟨vs, h3, h4⟩, h5⟩ := h
              exact ⟨⟨vs, h3, ih t (by omega) vs h4⟩, ih2 _ (by omega) h5⟩
          cases args with
          | nil => exact .inl rfl
          | cons t ts =>
            have h3 := h2
            simp only [ResAt] at h3
            obtain ⟨⟨vs, h4, h5⟩, _⟩ := h3
            obtain ⟨_, _, _, _, rfl, _⟩ := h5.form
            have := h4 0 _ rfl
            exact .inr ⟨b, o, World.block_lt_of_cell? w _ this, h1, key2 _ o (by omega) h2⟩
  exact fun {vs} h => key t.size t (Nat.le_refl _) vs h
end Go.Eng
namespace Go.Proofs
open Go Go.Eng
set_option maxRecDepth 100000
def oneT (r : Int) : Re := .mk 2 [(r, r)] [] 0 0 false
theorem one_at {w : World} {b : Nat} {r : Int} (h : SpansAt w (.slice (some ⟨b, 0, none⟩) 1 1) [(r, r)]) : ReAt w (oneT r) [.int .i64 2, .slice (some ⟨b, 0, none⟩) 1 1, .slice none 0 0, .int .i64 0, .int .i64 0, .bool false] :=
 ReAt.of (set := [(r, r)]) (args := []) h (by simp) (.inl rfl)
end Go.Proofs
namespace Go.Proofs
open Go Go.Eng
set_option maxRecDepth 100000
mutual
def allRe (p : Re → Prop) : Re → Prop
  | .mk k set args mn mx ng => p (.mk k set args mn mx ng) ∧ allRes p args
def allRes (p : Re → Prop) : List Re → Prop
  | [] => True
  | t :: ts => allRe p t ∧ allRes p ts
end
theorem node_leaf {k : Int} (h : k = 0 ∨ k = 1) : nodeE (.mk k [] [] 0 0 false) = 0 := by
 rcases h with rfl | rfl <;> decide
theorem node_two {k : Int} (h : k = 3 ∨ k = 4 ∨ k = 7) (t u : Re) : nodeE (.mk k [] [t, u] 0 0 false) = 0 := by
 rcases h with rfl | rfl | rfl <;> simp [nodeE, formB, okB, Re.kind, Re.set, Re.args, Re.mn, Re.mx, Re.neg]
theorem node_rep {mn mx : Int} (h0 : 0 ≤ mn) (h1 : mn ≤ mx) (h2 : mx ≤ 8) (t : Re) : nodeE (.mk 6 [] [t] mn mx false) = 0 := by
 simp [nodeE, formB, okB, Re.kind, Re.set, Re.args, Re.mn, Re.mx, Re.neg]; omega
end Go.Proofs
namespace Go.Proofs
open Go Go.Eng
set_option maxRecDepth 100000
mutual
def usesB (ks : List Int) : Re → Bool
  | .mk k _ args _ _ _ => ks.contains k || usesBs ks args
def usesBs (ks : List Int) : List Re → Bool
  | [] => false
  | t :: ts => usesB ks t || usesBs ks ts
end
def useF (ks : List Int) : Unit → Re → Bool × Unit := fun _ t => (!ks.contains t.kind, ())
mutual
theorem walk_use (ks : List Int) : ∀ (t : Re), (walkF (useF ks) t ()).1 = !usesB ks t
  | .mk k set args mn mx ng => by
    have h := walks_use ks args
    rw [walkF_eq]
    split
    · rename_i hk
      have hk : ks.contains k = false := by simpa only [useF, Re.kind, Bool.not_eq_true'] using hk
      show (walkFs (useF ks) args ()).1 = _
      rw [h]
      simp only [usesB, hk, Bool.false_or]
    · rename_i hk
      have hk : ks.contains k = true := by
        cases hc : ks.contains k with
        | true => rfl
        | false => exact absurd (show (useF ks () (.mk k set args mn mx ng)).1 = true by simp only [useF, Re.kind, hc, Bool.not_false]) hk
      simp only [usesB, hk, Bool.true_or, Bool.not_true]
theorem walks_use (ks : List Int) : ∀ (ts : List Re), (walkFs (useF ks) ts ()).1 = !usesBs ks ts
  | [] => rfl
  | t :: ts => by
    have h1 := walk_use ks t
    have h := walks_use ks ts
    rw [walkFs_cons]
    split
    · rename_i hk
      rw [hk] at h1
      have hu : usesB ks t = false := by simpa using h1.symm
      show (walkFs (useF ks) ts ()).1 = _
      rw [h]
      simp only [usesBs, hu, Bool.false_or]
    · rename_i hk
      have hu : usesB ks t = true := by
        cases hc : usesB ks t with
        | true => rfl
        | false => rw [hc] at h1; exact absurd h1 hk
      simp only [usesBs, hu, Bool.true_or, Bool.not_true]
end
theorem uses1_c (w0 : World) (t : Re) (vs : List Value) (ks : List Int) (v : Value) (b : Nat) (ht : ReAt w0 t vs) (hB : Blk w0 b #[v] 46) (hks : IntsAt w0 v ks) :
  Ret Tryz.prog 49 #[.agg vs.toArray, .pointer (some ⟨b, 0, none⟩)] w0 fun r w => r = .bool (!ks.contains t.kind) ∧ Ext w0 w := by
 obtain ⟨sa, sc, aa, ac, rfl, _, _, _⟩ := ht.form
 refine Ret_of Tryz.func49 rfl Tryz.ntmps49 (Nat.le_of_ble_eq_true rfl) ?_
 have E : Chg none1 w0 w0 := Chg.refl _ _
 refine Wp_seq_region ?_
 refine s_box (v := (.agg (R6 t sa sc aa ac))) (c := (R6 t sa sc aa ac)) (by decide) rfl rfl ?_
 intro b1 w1 N1
 have F1 := N1.ge E
 have O1_b := N1.lt hB
 replace hB := N1.keep hB
 replace E := E.ext N1.ext
 have B1 := N1.blk
 refine qA _ rfl ?_
 refine WpL_nil (Wp_seq_region ?_)
 refine qV (r_load rfl flat46 (hB.cell rfl)) ?_
 refine qF b1 0 0 rfl Tryz.underlying25 rfl siz3 rfl ?_
 refine qV (r_load rfl flat3 (B1.cell rfl)) ?_
 refine WpL_enter rfl rfl (by decide) (r_callF Tryz.func50 nm50 bd50 rfl) (hasi_c _ v t.kind ks (hks.ext E)) ?_
 rintro _ w9 ⟨rfl, X9⟩
 replace hB := X9.keep hB
 replace B1 := X9.keep B1
 replace E := E.ext X9
 refine qV (r_not rfl) ?_
 refine qA _ rfl ?_
 refine WpL_nil (Wp_ret ?_)
 refine fin_tmp Tryz.results49 (v := (.bool (!(ks.contains t.kind)))) rfl ?_
 exact ⟨rfl, E⟩
set_option maxHeartbeats 1000000 in
theorem uses_c (w0 : World) (t : Re) (vs : List Value) (ks : List Int) (v : Value) (ht : ReAt w0 t vs) (hks : IntsAt w0 v ks) :
  Ret Tryz.prog 15 #[.agg vs.toArray, v] w0 fun r w => r = .bool (usesB ks t) ∧ Ext w0 w := by
 have ht0 := ht
 obtain ⟨sa, sc, aa, ac, rfl, _, _, _⟩ := ht.form
 obtain ⟨ka, kc, rfl⟩ := SlAt.form hks
 simp only [List.length_map] at hks ⊢
 refine Ret_of Tryz.func15 rfl Tryz.ntmps15 (Nat.le_of_ble_eq_true rfl) ?_
 have E : Chg none1 w0 w0 := Chg.refl _ _
 refine Wp_seq_region ?_
 refine s_box (v := (.agg (R6 t sa sc aa ac))) (c := (R6 t sa sc aa ac)) (by decide) rfl rfl ?_
 intro br wr Nr
 have Fr := Nr.ge E
 replace E := E.ext Nr.ext
 have Br := Nr.blk
 refine s_box (v := (.slice ka ks.length kc)) (c := #[(.slice ka ks.length kc)]) (by decide) rfl rfl ?_
 intro bp wp Np
 have Fp := Np.ge E
 have Op_br := Np.lt Br
 replace Br := Np.keep Br
 replace E := E.ext Np.ext
 have Bp := Np.blk
 refine qA _ rfl ?_
 refine WpL_nil (Wp_seq_region ?_)
 refine qV (r_loadAgg (vs := [(I6 t.kind), (.slice sa t.set.length sc), (.slice aa t.args.length ac), (I6 t.mn), (I6 t.mx), (.bool t.neg)]) rfl agg25 siz25 rfl (Br.cells rfl)) ?_
 refine qV (r_makeFunc rfl rfl) ?_
 have hf : ∀ (s : Unit) (w : World) (t : Re) (vs : List Value), bp + 1 ≤ w.heap.size → Ext wp w → Blk w bp #[.slice ka ks.length kc] 46 → ReAt wp t vs → CallV Tryz.prog (.func (.func 49) #[] #[.pointer (some ⟨bp, 0, none⟩)]) #[.agg vs.toArray] w fun r w' => r = .bool (useF ks s t).1 ∧ Chg none1 w w' ∧ Blk w' bp #[.slice ka ks.length kc] 46 := fun s w t vs _ hE hI ht => CallV.mk (first := #[]) (cap := #[.pointer (some ⟨bp, 0, none⟩)]) Tryz.func49 nm49 bd49 rfl ((uses1_c w t vs ks (.slice ka ks.length kc) bp (ReAt.ext hE t ht) hI ((hks.ext E).ext hE)).mono fun r w' h => ⟨h.1, h.2, Ext.keep h.2 hI⟩)
 refine WpL_enter rfl rfl (by decide) (r_callF Tryz.func41 nm41 bd41 rfl) ((walk_c (useF ks) (fun _ w => Blk w bp #[.slice ka ks.length kc] 46) none1 (bp + 1) _ wp (fun b hb => hb.elim) (fun s w w' hI e => e.keep hI) hf t.size t (Nat.le_refl _) () _ _ (by have := Bp.lt; omega) (Ext.refl _) Bp (ReAt.ext E t ht0)).mono (R' := fun r w => r = .bool (walkF (useF ks) t ()).1 ∧ Ext wp w) (fun r w h => ⟨h.1, h.2.1⟩)) ?_
 rintro _ w9 ⟨rfl, X9⟩
 replace Br := X9.keep Br
 replace Bp := X9.keep Bp
 replace E := E.ext X9
 refine qV (r_not rfl) ?_
 refine qA _ rfl ?_
 refine WpL_nil (Wp_ret ?_)
 refine fin_tmp Tryz.results15 (v := (.bool (!((walkF (useF ks) t ()).1)))) rfl ?_
 exact ⟨bool_eq (by rw [walk_use]; simp), E⟩
structure NodeI (t : Re) : Prop where
 k : 0 ≤ t.kind ∧ t.kind ≤ 10
 two : t.kind = 3 ∨ t.kind = 4 ∨ t.kind = 7 → 2 ≤ t.args.length
 one : t.kind = 5 ∨ t.kind = 6 ∨ t.kind = 8 ∨ t.kind = 9 ∨ t.kind = 10 → t.args.length = 1
 rep : t.kind = 6 → 0 ≤ t.mn ∧ t.mn ≤ t.mx ∧ t.mx ≤ 8
 grp : t.kind = 9 → 0 ≤ t.mn ∧ t.mn ≤ 9
 sett : t.kind = 2 → t.set ≠ []
theorem node_inv {t : Re} (h : nodeE t = 0) : NodeI t := by
 unfold nodeE at h
 split at h
 ·cases h
 rename_i h1
 split at h
 ·cases h
 rename_i h2
 have h3 : formB t = true := by simpa using h2
 unfold formB at h3
 simp only [Bool.and_eq_true] at h3
 have h4 := h3.1.1.1.1
 unfold okB at h4
 refine ⟨by omega, fun hk => ?_, fun hk => ?_, fun hk => ?_, fun hk => ?_, fun hk => ?_⟩
 ·rw [if_pos hk] at h4
  have := of_decide_eq_true h4; omega
 ·rw [if_neg (by omega), if_pos hk] at h4
  have := of_decide_eq_true h4; omega
 ·rw [if_neg (by omega), if_pos hk] at h
  split at h
  ·cases h
  ·omega
 ·rw [if_neg (by omega), if_neg (by omega), if_pos hk] at h
  split at h
  ·cases h
  ·omega
 ·rw [if_pos hk] at h
  intro e
  rw [e] at h
  simp [checkE, checkL] at h
end Go.Proofs
namespace Go.Proofs
open Go Go.Eng
set_option maxRecDepth 100000
theorem gspan_c (s : Int × Int) (w0 : World) :
  Ret Tryz.prog 96 #[.agg #[.int .i64 s.1, .int .i64 s.2]] w0 fun v w => v = .bool (validB s) ∧ Ext w0 w := by
 refine Ret_of Tryz.func96 rfl Tryz.ntmps96 (Nat.le_of_ble_eq_true rfl) ?_
 have E : Chg none1 w0 w0 := Chg.refl _ _
 refine Wp_seq_region ?_
 refine s_box (v := (.agg #[(I6 s.1), (I6 s.2)])) (c := #[(I6 s.1), (I6 s.2)]) (by decide) rfl rfl ?_
 intro b1 w1 N1
 have F1 := N1.ge E
 replace E := E.ext N1.ext
 have B1 := N1.blk
 refine qA _ rfl ?_
 refine WpL_nil (Wp_seq_region ?_)
 refine qF b1 0 0 rfl Tryz.underlying67 rfl siz3 rfl ?_
 refine qV (r_load rfl flat3 (B1.cell rfl)) ?_
 obtain ⟨e2, he2⟩ : ∃ e, (decide ((0 : Int) ≤ s.1)) = e := ⟨_, rfl⟩
 refine qV ((r_leq rfl rfl).trans (by rw [he2]; try rfl)) ?_
 refine qM _ rfl ?_
 refine qG (.bool e2) (yU e2 (P6 b1 0)) (by cases e2 <;> first | exact gA | exact gB | exact .inl ⟨rfl, r_fieldAddr rfl Tryz.underlying67 rfl siz3 rfl⟩) ?_
 refine qG (.bool e2) (yU e2 (I6 s.1)) (by cases e2 <;> first | exact gA | exact gB | exact .inl ⟨rfl, r_load rfl flat3 (B1.cell rfl)⟩) ?_
 refine qG (.bool e2) (yU e2 (P6 b1 1)) (by cases e2 <;> first | exact gA | exact gB | exact .inl ⟨rfl, r_fieldAddr rfl Tryz.underlying67 rfl siz3 rfl⟩) ?_
 refine qG (.bool e2) (yU e2 (I6 s.2)) (by cases e2 <;> first | exact gA | exact gB | exact .inl ⟨rfl, r_load rfl flat3 (B1.cell rfl)⟩) ?_
 obtain ⟨e3, he3⟩ : ∃ e, (decide ((s.1 : Int) ≤ s.2)) = e := ⟨_, rfl⟩
 refine qG (.bool e2) (yU e2 (.bool e3)) (by cases e2 <;> first | exact gA | exact gB | exact .inl ⟨rfl, (r_leq rfl rfl).trans (by rw [he3]; try rfl)⟩) ?_
 obtain ⟨e4, he4⟩ : ∃ e, (e2 && e3) = e := ⟨_, rfl⟩
 refine qV (r_pick (v := .bool e4) rfl (by rw [← he4]; cases e2 <;> rfl)) ?_
 refine qM _ rfl ?_
 refine qG (.bool e4) (yU e4 (P6 b1 1)) (by cases e4 <;> first | exact gA | exact gB | exact .inl ⟨rfl, r_fieldAddr rfl Tryz.underlying67 rfl siz3 rfl⟩) ?_
 refine qG (.bool e4) (yU e4 (I6 s.2)) (by cases e4 <;> first | exact gA | exact gB | exact .inl ⟨rfl, r_load rfl flat3 (B1.cell rfl)⟩) ?_
 obtain ⟨e5, he5⟩ : ∃ e, (decide ((s.2 : Int) ≤ 1114111)) = e := ⟨_, rfl⟩
 refine qG (.bool e4) (yU e4 (.bool e5)) (by cases e4 <;> first | exact gA | exact gB | exact .inl ⟨rfl, (r_leq rfl rfl).trans (by rw [he5]; try rfl)⟩) ?_
 obtain ⟨e6, he6⟩ : ∃ e, (e4 && e5) = e := ⟨_, rfl⟩
 refine qV (r_pick (v := .bool e6) rfl (by rw [← he6]; cases e4 <;> rfl)) ?_
 refine qA _ rfl ?_
 refine WpL_nil ?_
 subst he6
 subst he5
 subst he4
 subst he3
 subst he2
 refine Wp_ret ?_
 refine fin_tmp Tryz.results96 (v := (.bool (((decide ((0 : Int) ≤ s.1)) && (decide ((s.1 : Int) ≤ s.2))) && (decide ((s.2 : Int) ≤ 1114111))))) rfl ?_
 exact ⟨bool_eq (by unfold validB; rfl), E⟩
theorem first_c : ∀ (l : List (Int × Int)), checkL none l = checkL (some (-2)) (l.drop 0)
  | [] => rfl
  | s :: r => by
    simp only [List.drop]
    rw [checkL_cons, checkL_cons]
    by_cases hv : validB s = false
    · rw [if_pos hv, if_pos hv]
    · rw [if_neg hv, if_neg hv]
      have : ¬ s.1 < 0 := by simp [validB] at hv; omega
      simp [this]
theorem cset_c (w0 : World) (v : Value) (l : List (Int × Int)) (hs : SpansAt w0 v l) :
  Ret Tryz.prog 59 #[v] w0 fun v w => v = .int .i64 (checkE l) ∧ Ext w0 w := by
 obtain ⟨a, c, rfl⟩ := SlAt.form hs
 simp only [List.length_map] at hs ⊢
 refine Ret_of Tryz.func59 rfl Tryz.ntmps59 (Nat.le_of_ble_eq_true rfl) ?_
 have E : Chg none1 w0 w0 := Chg.refl _ _
 refine Wp_seq_region ?_
 refine qA _ rfl ?_
 refine WpL_nil (Wp_seq (Wp_seq_region ?_))
 refine qM _ rfl ?_
 refine qV (r_lenSlice Tryz.underlying22 rfl) ?_
 refine qV (r_gtr rfl rfl) ?_
 refine WpL_nil ?_
 refine Wp_cond rfl (fun h16 => ?_) (fun h16 => ?_)
 ·have kh16 := h16
  replace h16 := of_decide_eq_true h16
  refine Wp_seq_region ?_
  refine qA _ rfl ?_
  refine WpL_nil (Wp_ret (thn_ret ?_))
  refine fin_tmp Tryz.results59 (v := (.int .i64 2)) rfl ?_
  exact ⟨int_eq (by unfold checkE; rw [if_pos (by omega)]), E⟩
 ·have kh16 := h16
  replace h16 := of_decide_eq_false h16
  have hE16 : checkE l = checkL none l := by unfold checkE; rw [if_neg (by omega)]
  rw [hE16]
  refine Wp_skip (thn_normal (Wp_seq_region ?_))
  refine qA _ rfl ?_
  refine WpL_nil (Wp_seq (Wp_seq_region ?_))
  refine qM _ rfl ?_
  refine qV (r_lenSlice Tryz.underlying22 rfl) ?_
  refine qM _ rfl ?_
  refine WpL_nil (Wp_block ?_)
  refine Wp_loop (fun nn_ σ W2 => ∃ (k : Nat) (p : Int), (∃ jj_, σ = upds jj_ [(9, (.slice a l.length c)), (10, (I6 (l.length : Int))), (11, (I6 (k : Int))), (3, (I6 p))]) ∧ Chg none1 w0 W2 ∧ (k ≤ l.length) ∧ (-2 ≤ p ∧ p ≤ 1114111 ∧ (checkL none l = checkL (some p) (l.drop k))) ∧ nn_ = l.length - k) (n := l.length - 0) ?_ ?_
  ·exact ⟨0, -2, Fits.out ⟨rfl, rfl, rfl, rfl, trivial⟩, E, Nat.zero_le _, ⟨by omega, by omega, first_c l⟩, rfl⟩
  ·clear E
   rintro _ _ W2 ⟨k, p, ⟨j2, rfl⟩, E, hk, hp, rfl⟩
   refine Wp_seq_region ?_
   refine qV (r_lss rfl rfl) ?_
   refine WpL_nil (Wp_seq ?_)
   refine Wp_cond rfl (fun hlt => ?_) (fun hlt => ?_)
   ·have khlt := hlt
    replace hlt := of_decide_eq_true hlt
    obtain ⟨s, hx⟩ := get_of_lt (l := l) (i := k) (by omega)
    obtain ⟨b, o, rfl, hcl⟩ := spans_cells hs (by omega)
    have hd := drop_cons hx
    refine Wp_skip (thn_normal (Wp_seq (Wp_block (Wp_seq_region ?_))))
    refine qV (r_indexSlice (b := b) (o := o) (len := l.length) (cap := c) (i := k) (o' := o + k * 2) rfl rfl rfl Tryz.underlying22 siz67 (by omega) (by omega)) ?_
    refine qV (r_loadAgg rfl agg67 siz67 rfl ((hcl k s hx).ext E)) ?_
    refine s_allocStore (v := (.agg #[(I6 s.1), (I6 s.2)])) (c := #[(I6 s.1), (I6 s.2)]) (n := 2) (by decide) zer67 rfl siz67 rfl rfl rfl (by simp [Value.oneCell']) ?_
    intro b4 w4 N4
    have F4 := N4.ge E
    replace E := E.ext N4.ext
    have B4 := N4.blk
    refine WpL_nil (Wp_seq (Wp_seq_region ?_))
    refine qV (r_loadAgg (vs := [(I6 s.1), (I6 s.2)]) rfl agg67 siz67 rfl (B4.cells rfl)) ?_
    refine WpL_enter rfl rfl (by decide) (r_callF Tryz.func96 nm96 bd96 rfl) (gspan_c s _) ?_
    rintro _ w9 ⟨rfl, X9⟩
    replace B4 := X9.keep B4
    replace E := E.ext X9
    refine qV (r_not rfl) ?_
    refine WpL_nil ?_
    refine Wp_cond rfl (fun hv => ?_) (fun hv => ?_)
    ·have khv := hv
     replace hv := by simpa using hv
     refine Wp_seq_region ?_
     refine qA _ rfl ?_
     refine WpL_nil (Wp_ret (thn_ret (inB_ret (thn_ret (thn_ret (inB_ret (thn_ret ?_)))))))
     refine fin_tmp Tryz.results59 (v := (.int .i64 1)) rfl ?_
     exact ⟨int_eq (by rw [hp.2.2, hd, checkL_cons, if_pos hv]), E⟩
    ·have khv := hv
     replace hv := by simpa using hv
     have hv2 : 0 ≤ s.1 ∧ s.1 ≤ s.2 ∧ s.2 ≤ 1114111 := by simp [validB] at hv; omega
     refine Wp_skip (thn_normal (Wp_seq (Wp_seq_region ?_)))
     refine qF b4 0 0 rfl Tryz.underlying67 rfl siz3 rfl ?_
     refine qV (r_load rfl flat3 (B4.cell rfl)) ?_
     refine qM _ rfl ?_
     refine qV (r_add rfl rfl (wI64 (by omega))) ?_
     refine qV (r_lss rfl rfl) ?_
     refine WpL_nil ?_
     refine Wp_cond rfl (fun ho => ?_) (fun ho => ?_)
     ·have kho := ho
      replace ho := of_decide_eq_true ho
      refine Wp_seq_region ?_
      refine qA _ rfl ?_
      refine WpL_nil (Wp_ret (thn_ret (inB_ret (thn_ret (thn_ret (inB_ret (thn_ret ?_)))))))
      refine fin_tmp Tryz.results59 (v := (.int .i64 3)) rfl ?_
      exact ⟨int_eq (by rw [hp.2.2, hd, checkL_cons, if_neg (by simp [hv]), if_pos (by simpa using ho)]), E⟩
     ·have kho := ho
      replace ho := of_decide_eq_false ho
      refine Wp_skip (thn_normal (Wp_region ?_))
      refine qF b4 0 1 rfl Tryz.underlying67 rfl siz3 rfl ?_
      refine qV (r_load rfl flat3 (B4.cell rfl)) ?_
      refine qA _ rfl ?_
      refine WpL_nil (inB_normal (thn_normal (Wp_region ?_)))
      refine qV (r_add rfl rfl (wI64 (by omega))) ?_
      refine qM _ rfl ?_
      refine WpL_nil (thn_normal ?_)
      exact ⟨l.length - (k + 1), by omega, k + 1, s.2, Fits.out ⟨rfl, rfl, rfl, rfl, trivial⟩, E, (by omega), ⟨by omega, by omega, by rw [hp.2.2, hd, checkL_cons, if_neg (by simp [hv]), if_neg (by simpa using ho)]⟩, rfl⟩
   ·have khlt := hlt
    replace hlt := of_decide_eq_false hlt
    have hkl : l.drop k = [] := List.drop_eq_nil_of_le (by omega)
    refine Wp_exit (thn_exit (thn_exit (inB_here (thn_normal (Wp_seq_region ?_)))))
    refine qA _ rfl ?_
    refine WpL_nil (Wp_ret ?_)
    refine fin_tmp Tryz.results59 (v := (.int .i64 0)) rfl ?_
    exact ⟨int_eq (by rw [hp.2.2, hkl]; rfl), E⟩
theorem inset_c (w0 : World) (v : Value) (l : List (Int × Int)) (r : Int) (hs : SpansAt w0 v l) :
  Ret Tryz.prog 82 #[v, .int .i64 r] w0 fun v w => v = .bool (inS l r) ∧ Ext w0 w := by
 obtain ⟨a, c, rfl⟩ := SlAt.form hs
 have hle : l.length ≤ 9223372036854775807 := by simpa using SlAt.le hs
 simp only [List.length_map] at hs ⊢
 refine Ret_of Tryz.func82 rfl Tryz.ntmps82 (Nat.le_of_ble_eq_true rfl) ?_
 have E : Chg none1 w0 w0 := Chg.refl _ _
 refine Wp_seq_region ?_
 refine qA _ rfl ?_
 refine WpL_nil (Wp_seq (Wp_seq_region ?_))
 refine qM _ rfl ?_
 refine qV (r_lenSlice Tryz.underlying22 rfl) ?_
 refine qM _ rfl ?_
 refine WpL_nil (Wp_block ?_)
 refine Wp_loop (fun nn_ σ W1 => ∃ (k : Nat), (∃ jj_, σ = upds jj_ [(1, (I6 r)), (7, (.slice a l.length c)), (8, (I6 (l.length : Int))), (9, (I6 (k : Int)))]) ∧ Chg none1 w0 W1 ∧ (k ≤ l.length) ∧ (inS l r = inS (l.drop k) r) ∧ nn_ = l.length - k) (n := l.length - 0) ?_ ?_
 ·exact ⟨0, Fits.out ⟨rfl, rfl, rfl, rfl, trivial⟩, E, Nat.zero_le _, rfl, rfl⟩
 ·clear E
  rintro _ _ W1 ⟨k, ⟨j1, rfl⟩, E, hk, hp, rfl⟩
  refine Wp_seq_region ?_
  refine qV (r_lss rfl rfl) ?_
  refine WpL_nil (Wp_seq ?_)
  refine Wp_cond rfl (fun hlt => ?_) (fun hlt => ?_)
  ·have khlt := hlt
   replace hlt := of_decide_eq_true hlt
   obtain ⟨s, hx⟩ := get_of_lt (l := l) (i := k) (by omega)
   obtain ⟨b, o, rfl, hcl⟩ := spans_cells hs (by omega)
   have hd := drop_cons hx
   refine Wp_skip (thn_normal (Wp_seq (Wp_block (Wp_seq_region ?_))))
   refine qV (r_indexSlice (b := b) (o := o) (len := l.length) (cap := c) (i := k) (o' := o + k * 2) rfl rfl rfl Tryz.underlying22 siz67 (by omega) (by omega)) ?_
   refine qV (r_loadAgg rfl agg67 siz67 rfl ((hcl k s hx).ext E)) ?_
   refine s_allocStore (v := (.agg #[(I6 s.1), (I6 s.2)])) (c := #[(I6 s.1), (I6 s.2)]) (n := 2) (by decide) zer67 rfl siz67 rfl rfl rfl (by simp [Value.oneCell']) ?_
   intro b3 w3 N3
   have F3 := N3.ge E
   replace E := E.ext N3.ext
   have B3 := N3.blk
   refine WpL_nil (Wp_seq_region ?_)
   refine qF b3 0 0 rfl Tryz.underlying67 rfl siz3 rfl ?_
   refine qV (r_load rfl flat3 (B3.cell rfl)) ?_
   refine qM _ rfl ?_
   obtain ⟨e4, he4⟩ : ∃ e, (decide ((s.1 : Int) ≤ r)) = e := ⟨_, rfl⟩
   refine qV ((r_leq rfl rfl).trans (by rw [he4]; try rfl)) ?_
   refine qM _ rfl ?_
   refine qG (.bool e4) (yU e4 (I6 r)) (by cases e4 <;> first | exact gA | exact gB | exact .inl ⟨rfl, r_move rfl⟩) ?_
   refine qG (.bool e4) (yU e4 (P6 b3 1)) (by cases e4 <;> first | exact gA | exact gB | exact .inl ⟨rfl, r_fieldAddr rfl Tryz.underlying67 rfl siz3 rfl⟩) ?_
   refine qG (.bool e4) (yU e4 (I6 s.2)) (by cases e4 <;> first | exact gA | exact gB | exact .inl ⟨rfl, r_load rfl flat3 (B3.cell rfl)⟩) ?_
   obtain ⟨e5, he5⟩ : ∃ e, (decide ((r : Int) ≤ s.2)) = e := ⟨_, rfl⟩
   refine qG (.bool e4) (yU e4 (.bool e5)) (by cases e4 <;> first | exact gA | exact gB | exact .inl ⟨rfl, (r_leq rfl rfl).trans (by rw [he5]; try rfl)⟩) ?_
   obtain ⟨e6, he6⟩ : ∃ e, (e4 && e5) = e := ⟨_, rfl⟩
   refine qV (r_pick (v := .bool e6) rfl (by rw [← he6]; cases e4 <;> rfl)) ?_
   refine WpL_nil ?_
   subst he6
   subst he5
   subst he4
   refine Wp_cond rfl (fun hv => ?_) (fun hv => ?_)
   ·have khv := hv
    refine Wp_seq_region ?_
    refine qA _ rfl ?_
    refine WpL_nil (Wp_ret (inB_ret (thn_ret (thn_ret (inB_ret (thn_ret ?_))))))
    refine fin_tmp Tryz.results82 (v := (.bool true)) rfl ?_
    exact ⟨bool_eq (by rw [hp, hd]; unfold inS; rw [List.any_cons, hv]; rfl), E⟩
   ·have khv := hv
    refine Wp_skip (inB_normal (thn_normal (Wp_region ?_)))
    refine qV (r_add rfl rfl (wI64 (by omega))) ?_
    refine qM _ rfl ?_
    refine WpL_nil (thn_normal ?_)
    exact ⟨l.length - (k + 1), by omega, k + 1, Fits.out ⟨rfl, rfl, rfl, rfl, trivial⟩, E, (by omega), (by rw [hp, hd]; unfold inS; rw [List.any_cons, hv]; rfl), rfl⟩
  ·have khlt := hlt
   replace hlt := of_decide_eq_false hlt
   have hkl : l.drop k = [] := List.drop_eq_nil_of_le (by omega)
   refine Wp_exit (thn_exit (thn_exit (inB_here (thn_normal (Wp_seq_region ?_)))))
   refine qA _ rfl ?_
   refine WpL_nil (Wp_ret ?_)
   refine fin_tmp Tryz.results82 (v := (.bool false)) rfl ?_
   exact ⟨bool_eq (by rw [hp, hkl]; rfl), E⟩
set_option maxHeartbeats 400000 in
theorem rspeq_c (w0 : World) (v1 v2 : Value) (l1 l2 : List (Int × Int)) (h1 : SpansAt w0 v1 l1) (h2 : SpansAt w0 v2 l2) :
  Ret Tryz.prog 47 #[v1, v2] w0 fun v w => v = .bool (decide (l1 = l2)) ∧ Ext w0 w := by
 obtain ⟨a1, c1, rfl⟩ := SlAt.form h1
 obtain ⟨a2, c2, rfl⟩ := SlAt.form h2
 have hb1 : l1.length ≤ 9223372036854775807 := by simpa using SlAt.le h1
 simp only [List.length_map] at h1 h2 ⊢
 refine Ret_of Tryz.func47 rfl Tryz.ntmps47 (Nat.le_of_ble_eq_true rfl) ?_
 have E : Chg none1 w0 w0 := Chg.refl _ _
 refine Wp_seq_region ?_
 refine qA _ rfl ?_
 refine WpL_nil (Wp_seq (Wp_seq_region ?_))
 refine qM _ rfl ?_
 refine qV (r_lenSlice Tryz.underlying22 rfl) ?_
 refine qM _ rfl ?_
 refine qV (r_lenSlice Tryz.underlying22 rfl) ?_
 refine qV (r_neq rfl rfl) ?_
 refine WpL_nil ?_
 refine Wp_cond rfl (fun hl => ?_) (fun hl => ?_)
 ·have khl := hl
  replace hl := of_decide_eq_true hl
  refine Wp_seq_region ?_
  refine qA _ rfl ?_
  refine WpL_nil (Wp_ret (thn_ret ?_))
  refine fin_tmp Tryz.results47 (v := (.bool false)) rfl ?_
  exact ⟨bool_eq (by symm; rw [decide_eq_false_iff_not]; intro h; rw [h] at hl; exact hl rfl), E⟩
 ·have khl := hl
  replace hl := of_decide_eq_false hl
  refine Wp_skip (thn_normal (Wp_seq (Wp_seq_region ?_)))
  refine qM _ rfl ?_
  refine qV (r_lenSlice Tryz.underlying22 rfl) ?_
  refine qM _ rfl ?_
  refine WpL_nil (Wp_block ?_)
  refine Wp_loop (fun nn_ σ W2 => ∃ (k : Nat), (∃ jj_, σ = upds jj_ [(0, (.slice a1 l1.length c1)), (1, (.slice a2 l2.length c2)), (12, (I6 (l1.length : Int))), (13, (I6 (k : Int)))]) ∧ Chg none1 w0 W2 ∧ (k ≤ l1.length) ∧ (∀ (i : Nat), i < k → l1[i]? = l2[i]?) ∧ nn_ = l1.length - k) (n := l1.length - 0) ?_ ?_
  ·exact ⟨0, Fits.out ⟨rfl, rfl, rfl, rfl, trivial⟩, E, Nat.zero_le _, (fun i h => absurd h (Nat.not_lt_zero _)), rfl⟩
  ·clear E
   rintro _ _ W2 ⟨k, ⟨j2, rfl⟩, E, hk, heq, rfl⟩
   refine Wp_seq_region ?_
   refine qV (r_lss rfl rfl) ?_
   refine WpL_nil (Wp_seq ?_)
   refine Wp_cond rfl (fun hlt => ?_) (fun hlt => ?_)
   ·have khlt := hlt
    replace hlt := of_decide_eq_true hlt
    obtain ⟨p, hp⟩ := get_of_lt (l := l1) (i := k) (by omega)
    obtain ⟨q, hq⟩ := get_of_lt (l := l2) (i := k) (by omega)
    obtain ⟨b1, o1, rfl, hc1⟩ := spans_cells h1 (by omega)
    obtain ⟨b2, o2, rfl, hc2⟩ := spans_cells h2 (by omega)
    refine Wp_skip (thn_normal (Wp_seq (Wp_block (Wp_seq_region ?_))))
    refine qM _ rfl ?_
    refine qA _ rfl ?_
    refine WpL_nil ?_
    refine Wp_seq_draw 8 mixed (by kernel_rfl) ?_
    intro w4 X4 _
    replace E := E.ext X4
    refine qT (r_move rfl) ?_
    refine qT (r_move rfl) ?_
    refine qT (r_indexSlice (b := b1) (o := o1) (len := l1.length) (cap := c1) (i := k) (o' := o1 + k * 2) rfl rfl rfl Tryz.underlying22 siz67 (by omega) (by omega)) ?_
    refine qT (r_loadAgg rfl agg67 siz67 rfl ((hc1 k p hp).ext E)) ?_
    refine qT (r_move rfl) ?_
    refine qT (r_move rfl) ?_
    refine qT (r_indexSlice (b := b2) (o := o2) (len := l2.length) (cap := c2) (i := k) (o' := o2 + k * 2) rfl rfl rfl Tryz.underlying22 siz67 (by omega) (by omega)) ?_
    refine qT (r_loadAgg rfl agg67 siz67 rfl ((hc2 k q hq).ext E)) ?_
    refine WpT_zero ?_
    refine WpL_val (v := (.bool (!(decide (p.1 = q.1) && decide (p.2 = q.2))))) rfl rfl (by decide) (r_neqSpan stoodSpan Tryz.underlying67 (by decide) (by decide) rfl rfl rfl rfl Tryz.underlying3 flat3 eqgSpan rfl rfl) ?_
    refine WpL_nil ?_
    refine Wp_cond rfl (fun hpq => ?_) (fun hpq => ?_)
    ·have khpq := hpq
     replace hpq := by simpa using hpq
     refine Wp_seq_region ?_
     refine qA _ rfl ?_
     refine WpL_nil (Wp_ret (inB_ret (thn_ret (thn_ret (inB_ret (thn_ret ?_))))))
     refine fin_tmp Tryz.results47 (v := (.bool false)) rfl ?_
     exact ⟨bool_eq (by symm; rw [decide_eq_false_iff_not]; intro h; subst h; rw [hp] at hq; cases hq; simp at hpq), E⟩
    ·have khpq := hpq
     replace hpq := by simpa using hpq
     have hpq2 : p = q := by obtain ⟨p1, p2⟩ := p; obtain ⟨q1, q2⟩ := q; simp at hpq; simp; exact hpq
     refine Wp_skip (inB_normal (thn_normal (Wp_region ?_)))
     refine qV (r_add rfl rfl (wI64 (by omega))) ?_
     refine qM _ rfl ?_
     refine WpL_nil (thn_normal ?_)
     exact ⟨l1.length - (k + 1), by omega, k + 1, Fits.out ⟨rfl, rfl, rfl, rfl, trivial⟩, E, (by omega), (fun i hi => by rcases Nat.lt_or_ge i k with h | h; exact heq i h; obtain rfl : i = k := (by omega); rw [hp, hq, hpq2]), rfl⟩
   ·have khlt := hlt
    replace hlt := of_decide_eq_false hlt
    have hkk : k = l1.length := by omega
    refine Wp_exit (thn_exit (thn_exit (inB_here (thn_normal (Wp_seq_region ?_)))))
    refine qA _ rfl ?_
    refine WpL_nil (Wp_ret ?_)
    refine fin_tmp Tryz.results47 (v := (.bool true)) rfl ?_
    exact ⟨bool_eq (by symm; rw [decide_eq_true_eq]; exact get_ext (by omega) (fun i hi => heq i (by omega))), E⟩
end Go.Proofs
namespace Go.Proofs
open Go Go.Eng
set_option maxRecDepth 100000
def needF (k : Int) : Int := if k = 3 ∨ k = 4 ∨ k = 7 then 2 else if k = 5 ∨ k = 6 ∨ k = 8 ∨ k = 9 ∨ k = 10 then 1 else 0
def needA : Array Value := #[.int .i64 0, .int .i64 0, .int .i64 0, .int .i64 2, .int .i64 2, .int .i64 1, .int .i64 1, .int .i64 2, .int .i64 1, .int .i64 1, .int .i64 1]
theorem need_tab : ∀ i, i < 11 → needA[i]? = some (.int .i64 (needF ((i : Nat) : Int))) := by
  intro i h
  match i, h with
  | 0, _ => rfl
  | 1, _ => rfl
  | 2, _ => rfl
  | 3, _ => rfl
  | 4, _ => rfl
  | 5, _ => rfl
  | 6, _ => rfl
  | 7, _ => rfl
  | 8, _ => rfl
  | 9, _ => rfl
  | 10, _ => rfl
theorem need_c (k : Int) (h0 : 0 ≤ k) (h1 : k ≤ 10) (w0 : World) : Ret Tryz.prog 84 #[.int .i64 k] w0 fun v w => v = .int .i64 (needF k) ∧ Ext w0 w := by
 refine Ret_of Tryz.func84 rfl Tryz.ntmps84 (Nat.le_of_ble_eq_true rfl) ?_
 have E : Chg none1 w0 w0 := Chg.refl _ _
 refine Wp_seq_region ?_
 refine qA (I6 0) rfl ?_
 refine WpL_nil (Wp_seq_region ?_)
 refine s_buildSlice (ps := [(0, (I6 0)), (1, (I6 0)), (2, (I6 0)), (3, (I6 2)), (4, (I6 2)), (5, (I6 1)), (6, (I6 1)), (7, (I6 2)), (8, (I6 1)), (9, (I6 1)), (10, (I6 1))]) (c := #[(I6 0), (I6 0), (I6 0), (I6 2), (I6 2), (I6 1), (I6 1), (I6 2), (I6 1), (I6 1), (I6 1)]) (by decide) rfl Tryz.underlying46 siz3 zer3 (by decide) (by decide) (by kernel_rfl) ?_
 intro bq wq Nq
 have Fq := Nq.ge E
 replace E := E.ext Nq.ext
 have Bq := Nq.blk
 refine qM (I6 k) rfl ?_
 refine qV (r_indexSlice (b := bq) (o := 0) (len := 11) (cap := 11) (i := k.toNat) (o' := 0 + k.toNat) rfl rfl (by omega) Tryz.underlying46 siz3 (by omega) (by omega)) ?_
 refine qV (r_load (v := (I6 (needF k))) rfl flat3 (Bq.cell (by have := need_tab k.toNat (by omega); rw [Int.toNat_of_nonneg h0] at this; rw [Nat.zero_add]; exact this))) ?_
 refine qA (I6 (needF k)) rfl ?_
 refine WpL_nil (Wp_ret ?_)
 refine fin_tmp Tryz.results84 (v := (.int .i64 (needF k))) rfl ?_
 exact ⟨rfl, E⟩
theorem form_need {t : Re} (h0 : 0 ≤ t.kind) (h1 : t.kind ≤ 10) : okB t.kind t.args.length = !(decide ((t.args.length : Int) < needF t.kind) || (decide (needF t.kind < 2) && decide (needF t.kind < t.args.length))) := by
 unfold okB needF
 by_cases h3 : t.kind = 3 ∨ t.kind = 4 ∨ t.kind = 7
 ·simp only [if_pos h3]; rw [Bool.eq_iff_iff]; simp
 ·by_cases h5 : t.kind = 5 ∨ t.kind = 6 ∨ t.kind = 8 ∨ t.kind = 9 ∨ t.kind = 10
  ·simp only [if_neg h3, if_pos h5]; rw [Bool.eq_iff_iff]; simp; omega
  ·simp only [if_neg h3, if_neg h5]; rw [Bool.eq_iff_iff]; simp
set_option maxHeartbeats 2000000 in
theorem cnode_c (wb w0 : World) (t : Re) (vs : List Value) (ht : ReAt wb t vs) (hE : Ext wb w0) :
  Ret Tryz.prog 40 #[.agg vs.toArray] w0 fun v w => v = .int .i64 (nodeE t) ∧ Ext w0 w := by
 have ht0 := ht
 obtain ⟨sa, sc, aa, ac, rfl, hset, hlen, hargs⟩ := ht.form
 have hslen : t.set.length ≤ 9223372036854775807 := by simpa using SlAt.le hset
 refine Ret_of Tryz.func40 rfl Tryz.ntmps40 (Nat.le_of_ble_eq_true rfl) ?_
 have E : Chg none1 w0 w0 := Chg.refl _ _
 refine Wp_seq_region ?_
 refine s_box (v := (.agg (R6 t sa sc aa ac))) (c := (R6 t sa sc aa ac)) (by decide) rfl rfl ?_
 intro b1 w1 N1
 have F1 := N1.ge E
 replace E := E.ext N1.ext
 have B1 := N1.blk
 refine qA _ rfl ?_
 refine WpL_nil (Wp_seq (Wp_seq_region ?_))
 refine qF b1 0 0 rfl Tryz.underlying25 rfl siz3 rfl ?_
 refine qV (r_load rfl flat3 (B1.cell rfl)) ?_
 obtain ⟨e2, he2⟩ : ∃ e, (decide ((t.kind : Int) < 0)) = e := ⟨_, rfl⟩
 refine qV ((r_lss rfl rfl).trans (by rw [he2]; try rfl)) ?_
 refine qM _ rfl ?_
 refine qG (.bool e2) (nU e2 (P6 b1 0)) (by cases e2 <;> first | exact gA | exact gB | exact .inl ⟨rfl, r_fieldAddr rfl Tryz.underlying25 rfl siz3 rfl⟩) ?_
 refine qG (.bool e2) (nU e2 (I6 t.kind)) (by cases e2 <;> first | exact gA | exact gB | exact .inl ⟨rfl, r_load rfl flat3 (B1.cell rfl)⟩) ?_
 obtain ⟨e3, he3⟩ : ∃ e, (decide ((10 : Int) < t.kind)) = e := ⟨_, rfl⟩
 refine qG (.bool e2) (nU e2 (.bool e3)) (by cases e2 <;> first | exact gA | exact gB | exact .inl ⟨rfl, (r_gtr rfl rfl).trans (by rw [he3]; try rfl)⟩) ?_
 obtain ⟨e4, he4⟩ : ∃ e, (e2 || e3) = e := ⟨_, rfl⟩
 refine qV (r_pick (v := .bool e4) rfl (by rw [← he4]; cases e2 <;> rfl)) ?_
 refine WpL_nil ?_
 subst he4
 subst he3
 subst he2
 refine Wp_cond rfl (fun hk => ?_) (fun hk => ?_)
 ·have khk := hk
  simp at hk
  refine Wp_seq_region ?_
  refine qA _ rfl ?_
  refine WpL_nil (Wp_ret (thn_ret ?_))
  refine fin_tmp Tryz.results40 (v := (.int .i64 1)) rfl ?_
  exact ⟨int_eq (by unfold nodeE; rw [if_pos (by omega)]), E⟩
 ·have khk := hk
  simp at hk
  refine Wp_skip (thn_normal (Wp_seq_region ?_))
  refine qF b1 0 2 rfl Tryz.underlying25 rfl siz23 rfl ?_
  refine qV (r_load rfl flat23 (B1.cell rfl)) ?_
  refine qV (r_lenSlice Tryz.underlying23 rfl) ?_
  refine qA _ rfl ?_
  refine WpL_nil (Wp_seq (Wp_seq_region ?_))
  refine qM _ rfl ?_
  refine qF b1 0 0 rfl Tryz.underlying25 rfl siz3 rfl ?_
  refine qV (r_load rfl flat3 (B1.cell rfl)) ?_
  refine WpL_enter rfl rfl (by decide) (r_callF Tryz.func84 nm84 bd84 rfl) (need_c t.kind (by omega) (by omega) _) ?_
  rintro _ w1 ⟨rfl, X1⟩
  replace B1 := X1.keep B1
  replace E := E.ext X1
  refine qV (r_lss rfl rfl) ?_
  refine qM _ rfl ?_
  rcases Bool.eq_false_or_eq_true (decide ((((t.args.length : Nat) : Int) : Int) < needF t.kind)) with hg6 | hg6
  ·have khg6 := hg6
   replace khg6 := of_decide_eq_true khg6
   refine WpL_guard_no rfl rfl (by decide) (v := .bool true) (congrArg Value.bool hg6) (Or.inl rfl) ?_
   refine WpL_guard_no rfl rfl (by decide) (v := .bool true) (congrArg Value.bool hg6) (Or.inl rfl) ?_
   refine WpL_guard_no rfl rfl (by decide) (v := .bool true) (congrArg Value.bool hg6) (Or.inl rfl) ?_
   refine WpL_guard_no rfl rfl (by decide) (v := .bool true) (congrArg Value.bool hg6) (Or.inl rfl) ?_
   refine WpL_guard_no rfl rfl (by decide) (v := .bool true) (congrArg Value.bool hg6) (Or.inl rfl) ?_
   refine WpL_guard_no rfl rfl (by decide) (v := undef) rfl (Or.inr rfl) ?_
   refine WpL_guard_no rfl rfl (by decide) (v := undef) rfl (Or.inr rfl) ?_
   refine WpL_guard_no rfl rfl (by decide) (v := undef) rfl (Or.inr rfl) ?_
   refine WpL_guard_no rfl rfl (by decide) (v := undef) rfl (Or.inr rfl) ?_
   refine WpL_guard_no rfl rfl (by decide) (v := undef) rfl (Or.inr rfl) ?_
   refine WpL_guard_no rfl rfl (by decide) (v := .bool true) (congrArg Value.bool hg6) (Or.inl rfl) ?_
   refine qV (r_pick (v := (.bool true)) rfl (by rw [hg6]; rfl)) ?_
   refine WpL_nil ?_
   refine Wp_cond_true rfl ?_
   refine Wp_seq_region ?_
   refine qA _ rfl ?_
   refine WpL_nil (Wp_ret (thn_ret ?_))
   refine fin_tmp Tryz.results40 (v := (.int .i64 3)) rfl ?_
   have hff : okB t.kind t.args.length = false := by rw [form_need (by omega) (by omega)]; simp; omega
   exact ⟨int_eq (by unfold nodeE; rw [if_neg (by omega), if_pos (by simp [formB, hff])]), E⟩
  ·have khg6 := hg6
   replace khg6 := of_decide_eq_false khg6
   refine WpL_guard_yes rfl rfl (by decide) (congrArg Value.bool hg6) ?_
   refine qF b1 0 0 rfl Tryz.underlying25 rfl siz3 rfl ?_
   refine WpL_guard_yes rfl rfl (by decide) (congrArg Value.bool hg6) ?_
   refine qV (r_load rfl flat3 (B1.cell rfl)) ?_
   refine WpL_guard_yes rfl rfl (by decide) (congrArg Value.bool hg6) ?_
   refine WpL_enter rfl rfl (by decide) (r_callF Tryz.func84 nm84 bd84 rfl) (need_c t.kind (by omega) (by omega) _) ?_
   rintro _ w2 ⟨rfl, X2⟩
   replace B1 := X2.keep B1
   replace E := E.ext X2
   refine WpL_guard_yes rfl rfl (by decide) (congrArg Value.bool hg6) ?_
   refine qV (r_lss rfl rfl) ?_
   refine WpL_guard_yes rfl rfl (by decide) (congrArg Value.bool hg6) ?_
   refine qM _ rfl ?_
   rcases Bool.eq_false_or_eq_true (decide ((needF t.kind : Int) < 2)) with hg7 | hg7
   ·have khg7 := hg7
    replace khg7 := of_decide_eq_true khg7
    refine WpL_guard_yes rfl rfl (by decide) (congrArg Value.bool hg7) ?_
    refine qM _ rfl ?_
    refine WpL_guard_yes rfl rfl (by decide) (congrArg Value.bool hg7) ?_
    refine qF b1 0 0 rfl Tryz.underlying25 rfl siz3 rfl ?_
    refine WpL_guard_yes rfl rfl (by decide) (congrArg Value.bool hg7) ?_
    refine qV (r_load rfl flat3 (B1.cell rfl)) ?_
    refine WpL_guard_yes rfl rfl (by decide) (congrArg Value.bool hg7) ?_
    refine WpL_enter rfl rfl (by decide) (r_callF Tryz.func84 nm84 bd84 rfl) (need_c t.kind (by omega) (by omega) _) ?_
    rintro _ w3 ⟨rfl, X3⟩
    replace B1 := X3.keep B1
    replace E := E.ext X3
    refine WpL_guard_yes rfl rfl (by decide) (congrArg Value.bool hg7) ?_
    refine qV (r_gtr rfl rfl) ?_
    refine WpL_guard_yes rfl rfl (by decide) (congrArg Value.bool hg6) ?_
    refine qV (r_pick (v := (.bool (decide ((needF t.kind : Int) < (t.args.length : Int))))) rfl (by rw [hg7]; rfl)) ?_
    refine qV (r_pick (v := (.bool (decide ((needF t.kind : Int) < (t.args.length : Int))))) rfl (by rw [hg6]; rfl)) ?_
    refine WpL_nil ?_
    refine Wp_cond rfl (fun hn => ?_) (fun hn => ?_)
    ·have khn := hn
     replace hn := of_decide_eq_true hn
     refine Wp_seq_region ?_
     refine qA _ rfl ?_
     refine WpL_nil (Wp_ret (thn_ret ?_))
     refine fin_tmp Tryz.results40 (v := (.int .i64 3)) rfl ?_
     have hff : okB t.kind t.args.length = false := by rw [form_need (by omega) (by omega)]; simp; omega
     exact ⟨int_eq (by unfold nodeE; rw [if_neg (by omega), if_pos (by simp [formB, hff])]), E⟩
    ·have khn := hn
     replace hn := of_decide_eq_false hn
     have hoB : okB t.kind t.args.length = true := by rw [form_need (by omega) (by omega)]; simp; omega
     refine Wp_skip (thn_normal (Wp_seq (Wp_seq_region ?_)))
     refine qF b1 0 0 rfl Tryz.underlying25 rfl siz3 rfl ?_
     refine qV (r_load rfl flat3 (B1.cell rfl)) ?_
     obtain ⟨e9, he9⟩ : ∃ e, (decide ((t.kind : Int) ≠ 2)) = e := ⟨_, rfl⟩
     refine qV ((r_neq rfl rfl).trans (by rw [he9]; try rfl)) ?_
     refine qM _ rfl ?_
     refine qG (.bool e9) (yU e9 (P6 b1 1)) (by cases e9 <;> first | exact gA | exact gB | exact .inl ⟨rfl, r_fieldAddr rfl Tryz.underlying25 rfl siz22 rfl⟩) ?_
     refine qG (.bool e9) (yU e9 (.slice sa t.set.length sc)) (by cases e9 <;> first | exact gA | exact gB | exact .inl ⟨rfl, r_load rfl flat22 (B1.cell rfl)⟩) ?_
     refine qG (.bool e9) (yU e9 (I6 (t.set.length : Int))) (by cases e9 <;> first | exact gA | exact gB | exact .inl ⟨rfl, r_lenSlice Tryz.underlying22 rfl⟩) ?_
     obtain ⟨e10, he10⟩ : ∃ e, (decide ((0 : Int) < ((t.set.length : Nat) : Int))) = e := ⟨_, rfl⟩
     refine qG (.bool e9) (yU e9 (.bool e10)) (by cases e9 <;> first | exact gA | exact gB | exact .inl ⟨rfl, (r_gtr rfl rfl).trans (by rw [he10]; try rfl)⟩) ?_
     obtain ⟨e11, he11⟩ : ∃ e, (e9 && e10) = e := ⟨_, rfl⟩
     refine qV (r_pick (v := .bool e11) rfl (by rw [← he11]; cases e9 <;> rfl)) ?_
     refine qM _ rfl ?_
     refine qG (.bool e11) (nU e11 (P6 b1 0)) (by cases e11 <;> first | exact gA | exact gB | exact .inl ⟨rfl, r_fieldAddr rfl Tryz.underlying25 rfl siz3 rfl⟩) ?_
     refine qG (.bool e11) (nU e11 (I6 t.kind)) (by cases e11 <;> first | exact gA | exact gB | exact .inl ⟨rfl, r_load rfl flat3 (B1.cell rfl)⟩) ?_
     obtain ⟨e12, he12⟩ : ∃ e, (decide ((t.kind : Int) ≠ 6)) = e := ⟨_, rfl⟩
     refine qG (.bool e11) (nU e11 (.bool e12)) (by cases e11 <;> first | exact gA | exact gB | exact .inl ⟨rfl, (r_neq rfl rfl).trans (by rw [he12]; try rfl)⟩) ?_
     refine qG (.bool e11) (nU e11 (.bool e12)) (by cases e11 <;> first | exact gA | exact gB | exact .inl ⟨rfl, r_move rfl⟩) ?_
     refine qG (nU e11 (.bool e12)) (nU e11 (yU e12 (P6 b1 4))) (by cases e11 <;> cases e12 <;> first | exact gA | exact gB | exact .inl ⟨rfl, r_fieldAddr rfl Tryz.underlying25 rfl siz3 rfl⟩) ?_
     refine qG (nU e11 (.bool e12)) (nU e11 (yU e12 (I6 t.mx))) (by cases e11 <;> cases e12 <;> first | exact gA | exact gB | exact .inl ⟨rfl, r_load rfl flat3 (B1.cell rfl)⟩) ?_
     obtain ⟨e13, he13⟩ : ∃ e, (decide ((t.mx : Int) ≠ 0)) = e := ⟨_, rfl⟩
     refine qG (nU e11 (.bool e12)) (nU e11 (yU e12 (.bool e13))) (by cases e11 <;> cases e12 <;> first | exact gA | exact gB | exact .inl ⟨rfl, (r_neq rfl rfl).trans (by rw [he13]; try rfl)⟩) ?_
     obtain ⟨e14, he14⟩ : ∃ e, (e12 && e13) = e := ⟨_, rfl⟩
     refine qG (.bool e11) (nU e11 (.bool e14)) (by cases e11 <;> first | exact gA | exact gB | exact .inl ⟨rfl, r_pick (v := .bool e14) rfl (by rw [← he14]; cases e12 <;> rfl)⟩) ?_
     obtain ⟨e15, he15⟩ : ∃ e, (e11 || e14) = e := ⟨_, rfl⟩
     refine qV (r_pick (v := .bool e15) rfl (by rw [← he15]; cases e11 <;> rfl)) ?_
     refine qM _ rfl ?_
     refine qG (.bool e15) (nU e15 (P6 b1 0)) (by cases e15 <;> first | exact gA | exact gB | exact .inl ⟨rfl, r_fieldAddr rfl Tryz.underlying25 rfl siz3 rfl⟩) ?_
     refine qG (.bool e15) (nU e15 (I6 t.kind)) (by cases e15 <;> first | exact gA | exact gB | exact .inl ⟨rfl, r_load rfl flat3 (B1.cell rfl)⟩) ?_
     obtain ⟨e16, he16⟩ : ∃ e, (decide ((t.kind : Int) ≠ 6)) = e := ⟨_, rfl⟩
     refine qG (.bool e15) (nU e15 (.bool e16)) (by cases e15 <;> first | exact gA | exact gB | exact .inl ⟨rfl, (r_neq rfl rfl).trans (by rw [he16]; try rfl)⟩) ?_
     refine qG (.bool e15) (nU e15 (.bool e16)) (by cases e15 <;> first | exact gA | exact gB | exact .inl ⟨rfl, r_move rfl⟩) ?_
     refine qG (nU e15 (.bool e16)) (nU e15 (yU e16 (P6 b1 0))) (by cases e15 <;> cases e16 <;> first | exact gA | exact gB | exact .inl ⟨rfl, r_fieldAddr rfl Tryz.underlying25 rfl siz3 rfl⟩) ?_
     refine qG (nU e15 (.bool e16)) (nU e15 (yU e16 (I6 t.kind))) (by cases e15 <;> cases e16 <;> first | exact gA | exact gB | exact .inl ⟨rfl, r_load rfl flat3 (B1.cell rfl)⟩) ?_
     obtain ⟨e17, he17⟩ : ∃ e, (decide ((t.kind : Int) ≠ 9)) = e := ⟨_, rfl⟩
     refine qG (nU e15 (.bool e16)) (nU e15 (yU e16 (.bool e17))) (by cases e15 <;> cases e16 <;> first | exact gA | exact gB | exact .inl ⟨rfl, (r_neq rfl rfl).trans (by rw [he17]; try rfl)⟩) ?_
     obtain ⟨e18, he18⟩ : ∃ e, (e16 && e17) = e := ⟨_, rfl⟩
     refine qG (.bool e15) (nU e15 (.bool e18)) (by cases e15 <;> first | exact gA | exact gB | exact .inl ⟨rfl, r_pick (v := .bool e18) rfl (by rw [← he18]; cases e16 <;> rfl)⟩) ?_
     refine qG (.bool e15) (nU e15 (.bool e18)) (by cases e15 <;> first | exact gA | exact gB | exact .inl ⟨rfl, r_move rfl⟩) ?_
     refine qG (nU e15 (.bool e18)) (nU e15 (yU e18 (P6 b1 3))) (by cases e15 <;> cases e18 <;> first | exact gA | exact gB | exact .inl ⟨rfl, r_fieldAddr rfl Tryz.underlying25 rfl siz3 rfl⟩) ?_
     refine qG (nU e15 (.bool e18)) (nU e15 (yU e18 (I6 t.mn))) (by cases e15 <;> cases e18 <;> first | exact gA | exact gB | exact .inl ⟨rfl, r_load rfl flat3 (B1.cell rfl)⟩) ?_
     obtain ⟨e19, he19⟩ : ∃ e, (decide ((t.mn : Int) ≠ 0)) = e := ⟨_, rfl⟩
     refine qG (nU e15 (.bool e18)) (nU e15 (yU e18 (.bool e19))) (by cases e15 <;> cases e18 <;> first | exact gA | exact gB | exact .inl ⟨rfl, (r_neq rfl rfl).trans (by rw [he19]; try rfl)⟩) ?_
     obtain ⟨e20, he20⟩ : ∃ e, (e18 && e19) = e := ⟨_, rfl⟩
     refine qG (.bool e15) (nU e15 (.bool e20)) (by cases e15 <;> first | exact gA | exact gB | exact .inl ⟨rfl, r_pick (v := .bool e20) rfl (by rw [← he20]; cases e18 <;> rfl)⟩) ?_
     obtain ⟨e21, he21⟩ : ∃ e, (e15 || e20) = e := ⟨_, rfl⟩
     refine qV (r_pick (v := .bool e21) rfl (by rw [← he21]; cases e15 <;> rfl)) ?_
     refine qM _ rfl ?_
     refine qG (.bool e21) (nU e21 (P6 b1 0)) (by cases e21 <;> first | exact gA | exact gB | exact .inl ⟨rfl, r_fieldAddr rfl Tryz.underlying25 rfl siz3 rfl⟩) ?_
     refine qG (.bool e21) (nU e21 (I6 t.kind)) (by cases e21 <;> first | exact gA | exact gB | exact .inl ⟨rfl, r_load rfl flat3 (B1.cell rfl)⟩) ?_
     obtain ⟨e22, he22⟩ : ∃ e, (decide ((t.kind : Int) ≠ 10)) = e := ⟨_, rfl⟩
     refine qG (.bool e21) (nU e21 (.bool e22)) (by cases e21 <;> first | exact gA | exact gB | exact .inl ⟨rfl, (r_neq rfl rfl).trans (by rw [he22]; try rfl)⟩) ?_
     refine qG (.bool e21) (nU e21 (.bool e22)) (by cases e21 <;> first | exact gA | exact gB | exact .inl ⟨rfl, r_move rfl⟩) ?_
     refine qG (nU e21 (.bool e22)) (nU e21 (yU e22 (P6 b1 5))) (by cases e21 <;> cases e22 <;> first | exact gA | exact gB | exact .inl ⟨rfl, r_fieldAddr rfl Tryz.underlying25 rfl siz4 rfl⟩) ?_
     refine qG (nU e21 (.bool e22)) (nU e21 (yU e22 (.bool t.neg))) (by cases e21 <;> cases e22 <;> first | exact gA | exact gB | exact .inl ⟨rfl, r_load rfl flat4 (B1.cell rfl)⟩) ?_
     obtain ⟨e23, he23⟩ : ∃ e, (e22 && t.neg) = e := ⟨_, rfl⟩
     refine qG (.bool e21) (nU e21 (.bool e23)) (by cases e21 <;> first | exact gA | exact gB | exact .inl ⟨rfl, r_pick (v := .bool e23) rfl (by rw [← he23]; cases e22 <;> rfl)⟩) ?_
     obtain ⟨e24, he24⟩ : ∃ e, (e21 || e23) = e := ⟨_, rfl⟩
     refine qV (r_pick (v := .bool e24) rfl (by rw [← he24]; cases e21 <;> rfl)) ?_
     refine WpL_nil ?_
     subst he24
     subst he23
     subst he22
     subst he21
     subst he20
     subst he19
     subst he18
     subst he17
     subst he16
     subst he15
     subst he14
     subst he13
     subst he12
     subst he11
     subst he10
     subst he9
     refine Wp_cond rfl (fun hf => ?_) (fun hf => ?_)
     ·have khf := hf
      have hfB : formB t = false := by rw [← Bool.not_eq_true]; intro h; unfold formB at h; generalize t.set.length = sl at h hf; cases hng : t.neg <;> simp [hng] at h hf <;> omega
      refine Wp_seq_region ?_
      refine qA _ rfl ?_
      refine WpL_nil (Wp_ret (thn_ret ?_))
      refine fin_tmp Tryz.results40 (v := (.int .i64 3)) rfl ?_
      exact ⟨int_eq (by unfold nodeE; rw [if_neg (by omega), if_pos hfB]), E⟩
     ·have khf := hf
      have hfB : formB t = true := by unfold formB; rw [hoB]; generalize t.set.length = sl at hf; cases hng : t.neg <;> simp [hng] at hf ⊢ <;> omega
      have hN : nodeE t = if t.kind = 2 then (if checkE t.set ≠ 0 then checkE t.set else if (t.set.length : Int) = 0 then 3 else 0) else if t.kind = 6 then (if t.mn < 0 ∨ t.mx < t.mn ∨ 8 < t.mx then 1 else 0) else if t.kind = 9 then (if t.mn < 0 ∨ 9 < t.mn then 1 else 0) else 0 := by unfold nodeE; rw [if_neg (by omega), if_neg (by simp [hfB])]
      rw [hN]
      refine Wp_skip (thn_normal (Wp_seq (Wp_seq_region ?_)))
      refine qF b1 0 0 rfl Tryz.underlying25 rfl siz3 rfl ?_
      refine qV (r_load rfl flat3 (B1.cell rfl)) ?_
      refine qV (r_eql rfl rfl) ?_
      refine WpL_nil ?_
      refine Wp_cond rfl (fun h2 => ?_) (fun h2 => ?_)
      ·have kh2 := h2
       replace h2 := of_decide_eq_true h2
       rw [if_pos h2]
       refine Wp_seq (Wp_seq_region ?_)
       refine qF b1 0 1 rfl Tryz.underlying25 rfl siz22 rfl ?_
       refine qV (r_load rfl flat22 (B1.cell rfl)) ?_
       refine WpL_enter rfl rfl (by decide) (r_callF Tryz.func59 nm59 bd59 rfl) (cset_c _ _ t.set ((hset.ext hE).ext E)) ?_
       rintro _ w10 ⟨rfl, X10⟩
       replace B1 := X10.keep B1
       replace E := E.ext X10
       refine qA _ rfl ?_
       refine WpL_nil (Wp_seq_region ?_)
       refine qM _ rfl ?_
       refine qV (r_neq rfl rfl) ?_
       refine WpL_nil ?_
       refine Wp_cond rfl (fun h3 => ?_) (fun h3 => ?_)
       ·have kh3 := h3
        replace h3 := of_decide_eq_true h3
        refine Wp_seq_region ?_
        refine qM _ rfl ?_
        refine qA _ rfl ?_
        refine WpL_nil (Wp_ret (thn_ret (thn_ret ?_)))
        refine fin_tmp Tryz.results40 (v := (.int .i64 (checkE t.set))) rfl ?_
        exact ⟨int_eq (by rw [if_pos h3]), E⟩
       ·have kh3 := h3
        replace h3 := of_decide_eq_false h3
        rw [if_neg h3]
        refine Wp_skip (thn_normal (Wp_seq_region ?_))
        refine qF b1 0 1 rfl Tryz.underlying25 rfl siz22 rfl ?_
        refine qV (r_load rfl flat22 (B1.cell rfl)) ?_
        refine qV (r_lenSlice Tryz.underlying22 rfl) ?_
        refine qV (r_eql rfl rfl) ?_
        refine WpL_nil ?_
        refine Wp_cond rfl (fun h4 => ?_) (fun h4 => ?_)
        ·have kh4 := h4
         replace h4 := of_decide_eq_true h4
         refine Wp_seq_region ?_
         refine qA _ rfl ?_
         refine WpL_nil (Wp_ret (thn_ret ?_))
         refine fin_tmp Tryz.results40 (v := (.int .i64 3)) rfl ?_
         exact ⟨int_eq (by rw [if_pos h4]), E⟩
        ·have kh4 := h4
         replace h4 := of_decide_eq_false h4
         rw [if_neg h4]
         refine Wp_skip (thn_normal (Wp_seq (Wp_seq_region ?_)))
         refine qF b1 0 0 rfl Tryz.underlying25 rfl siz3 rfl ?_
         refine qV (r_load rfl flat3 (B1.cell rfl)) ?_
         obtain ⟨e29, he29⟩ : ∃ e, (decide ((t.kind : Int) = 6)) = e := ⟨_, rfl⟩
         refine qV ((r_eql rfl rfl).trans (by rw [he29]; try rfl)) ?_
         refine qM _ rfl ?_
         refine qG (.bool e29) (yU e29 (P6 b1 3)) (by cases e29 <;> first | exact gA | exact gB | exact .inl ⟨rfl, r_fieldAddr rfl Tryz.underlying25 rfl siz3 rfl⟩) ?_
         refine qG (.bool e29) (yU e29 (I6 t.mn)) (by cases e29 <;> first | exact gA | exact gB | exact .inl ⟨rfl, r_load rfl flat3 (B1.cell rfl)⟩) ?_
         obtain ⟨e30, he30⟩ : ∃ e, (decide ((t.mn : Int) < 0)) = e := ⟨_, rfl⟩
         refine qG (.bool e29) (yU e29 (.bool e30)) (by cases e29 <;> first | exact gA | exact gB | exact .inl ⟨rfl, (r_lss rfl rfl).trans (by rw [he30]; try rfl)⟩) ?_
         refine qG (.bool e29) (yU e29 (.bool e30)) (by cases e29 <;> first | exact gA | exact gB | exact .inl ⟨rfl, r_move rfl⟩) ?_
         refine qG (yU e29 (.bool e30)) (yU e29 (nU e30 (P6 b1 4))) (by cases e29 <;> cases e30 <;> first | exact gA | exact gB | exact .inl ⟨rfl, r_fieldAddr rfl Tryz.underlying25 rfl siz3 rfl⟩) ?_
         refine qG (yU e29 (.bool e30)) (yU e29 (nU e30 (I6 t.mx))) (by cases e29 <;> cases e30 <;> first | exact gA | exact gB | exact .inl ⟨rfl, r_load rfl flat3 (B1.cell rfl)⟩) ?_
         obtain ⟨e31, he31⟩ : ∃ e, (decide ((8 : Int) < t.mx)) = e := ⟨_, rfl⟩
         refine qG (yU e29 (.bool e30)) (yU e29 (nU e30 (.bool e31))) (by cases e29 <;> cases e30 <;> first | exact gA | exact gB | exact .inl ⟨rfl, (r_gtr rfl rfl).trans (by rw [he31]; try rfl)⟩) ?_
         obtain ⟨e32, he32⟩ : ∃ e, (e30 || e31) = e := ⟨_, rfl⟩
         refine qG (.bool e29) (yU e29 (.bool e32)) (by cases e29 <;> first | exact gA | exact gB | exact .inl ⟨rfl, r_pick (v := .bool e32) rfl (by rw [← he32]; cases e30 <;> rfl)⟩) ?_
         refine qG (.bool e29) (yU e29 (.bool e32)) (by cases e29 <;> first | exact gA | exact gB | exact .inl ⟨rfl, r_move rfl⟩) ?_
         refine qG (yU e29 (.bool e32)) (yU e29 (nU e32 (P6 b1 3))) (by cases e29 <;> cases e32 <;> first | exact gA | exact gB | exact .inl ⟨rfl, r_fieldAddr rfl Tryz.underlying25 rfl siz3 rfl⟩) ?_
         refine qG (yU e29 (.bool e32)) (yU e29 (nU e32 (I6 t.mn))) (by cases e29 <;> cases e32 <;> first | exact gA | exact gB | exact .inl ⟨rfl, r_load rfl flat3 (B1.cell rfl)⟩) ?_
         refine qG (yU e29 (.bool e32)) (yU e29 (nU e32 (P6 b1 4))) (by cases e29 <;> cases e32 <;> first | exact gA | exact gB | exact .inl ⟨rfl, r_fieldAddr rfl Tryz.underlying25 rfl siz3 rfl⟩) ?_
         refine qG (yU e29 (.bool e32)) (yU e29 (nU e32 (I6 t.mx))) (by cases e29 <;> cases e32 <;> first | exact gA | exact gB | exact .inl ⟨rfl, r_load rfl flat3 (B1.cell rfl)⟩) ?_
         obtain ⟨e33, he33⟩ : ∃ e, (decide ((t.mx : Int) < t.mn)) = e := ⟨_, rfl⟩
         refine qG (yU e29 (.bool e32)) (yU e29 (nU e32 (.bool e33))) (by cases e29 <;> cases e32 <;> first | exact gA | exact gB | exact .inl ⟨rfl, (r_gtr rfl rfl).trans (by rw [he33]; try rfl)⟩) ?_
         obtain ⟨e34, he34⟩ : ∃ e, (e32 || e33) = e := ⟨_, rfl⟩
         refine qG (.bool e29) (yU e29 (.bool e34)) (by cases e29 <;> first | exact gA | exact gB | exact .inl ⟨rfl, r_pick (v := .bool e34) rfl (by rw [← he34]; cases e32 <;> rfl)⟩) ?_
         obtain ⟨e35, he35⟩ : ∃ e, (e29 && e34) = e := ⟨_, rfl⟩
         refine qV (r_pick (v := .bool e35) rfl (by rw [← he35]; cases e29 <;> rfl)) ?_
         refine qM _ rfl ?_
         refine qG (.bool e35) (nU e35 (P6 b1 0)) (by cases e35 <;> first | exact gA | exact gB | exact .inl ⟨rfl, r_fieldAddr rfl Tryz.underlying25 rfl siz3 rfl⟩) ?_
         refine qG (.bool e35) (nU e35 (I6 t.kind)) (by cases e35 <;> first | exact gA | exact gB | exact .inl ⟨rfl, r_load rfl flat3 (B1.cell rfl)⟩) ?_
         obtain ⟨e36, he36⟩ : ∃ e, (decide ((t.kind : Int) = 9)) = e := ⟨_, rfl⟩
         refine qG (.bool e35) (nU e35 (.bool e36)) (by cases e35 <;> first | exact gA | exact gB | exact .inl ⟨rfl, (r_eql rfl rfl).trans (by rw [he36]; try rfl)⟩) ?_
         refine qG (.bool e35) (nU e35 (.bool e36)) (by cases e35 <;> first | exact gA | exact gB | exact .inl ⟨rfl, r_move rfl⟩) ?_
         refine qG (nU e35 (.bool e36)) (nU e35 (yU e36 (P6 b1 3))) (by cases e35 <;> cases e36 <;> first | exact gA | exact gB | exact .inl ⟨rfl, r_fieldAddr rfl Tryz.underlying25 rfl siz3 rfl⟩) ?_
         refine qG (nU e35 (.bool e36)) (nU e35 (yU e36 (I6 t.mn))) (by cases e35 <;> cases e36 <;> first | exact gA | exact gB | exact .inl ⟨rfl, r_load rfl flat3 (B1.cell rfl)⟩) ?_
         obtain ⟨e37, he37⟩ : ∃ e, (decide ((t.mn : Int) < 0)) = e := ⟨_, rfl⟩
         refine qG (nU e35 (.bool e36)) (nU e35 (yU e36 (.bool e37))) (by cases e35 <;> cases e36 <;> first | exact gA | exact gB | exact .inl ⟨rfl, (r_lss rfl rfl).trans (by rw [he37]; try rfl)⟩) ?_
         refine qG (nU e35 (.bool e36)) (nU e35 (yU e36 (.bool e37))) (by cases e35 <;> cases e36 <;> first | exact gA | exact gB | exact .inl ⟨rfl, r_move rfl⟩) ?_
         refine qG (nU e35 (yU e36 (.bool e37))) (nU e35 (yU e36 (nU e37 (P6 b1 3)))) (by cases e35 <;> cases e36 <;> cases e37 <;> first | exact gA | exact gB | exact .inl ⟨rfl, r_fieldAddr rfl Tryz.underlying25 rfl siz3 rfl⟩) ?_
         refine qG (nU e35 (yU e36 (.bool e37))) (nU e35 (yU e36 (nU e37 (I6 t.mn)))) (by cases e35 <;> cases e36 <;> cases e37 <;> first | exact gA | exact gB | exact .inl ⟨rfl, r_load rfl flat3 (B1.cell rfl)⟩) ?_
         obtain ⟨e38, he38⟩ : ∃ e, (decide ((9 : Int) < t.mn)) = e := ⟨_, rfl⟩
         refine qG (nU e35 (yU e36 (.bool e37))) (nU e35 (yU e36 (nU e37 (.bool e38)))) (by cases e35 <;> cases e36 <;> cases e37 <;> first | exact gA | exact gB | exact .inl ⟨rfl, (r_gtr rfl rfl).trans (by rw [he38]; try rfl)⟩) ?_
         obtain ⟨e39, he39⟩ : ∃ e, (e37 || e38) = e := ⟨_, rfl⟩
         refine qG (nU e35 (.bool e36)) (nU e35 (yU e36 (.bool e39))) (by cases e35 <;> cases e36 <;> first | exact gA | exact gB | exact .inl ⟨rfl, r_pick (v := .bool e39) rfl (by rw [← he39]; cases e37 <;> rfl)⟩) ?_
         obtain ⟨e40, he40⟩ : ∃ e, (e36 && e39) = e := ⟨_, rfl⟩
         refine qG (.bool e35) (nU e35 (.bool e40)) (by cases e35 <;> first | exact gA | exact gB | exact .inl ⟨rfl, r_pick (v := .bool e40) rfl (by rw [← he40]; cases e36 <;> rfl)⟩) ?_
         obtain ⟨e41, he41⟩ : ∃ e, (e35 || e40) = e := ⟨_, rfl⟩
         refine qV (r_pick (v := .bool e41) rfl (by rw [← he41]; cases e35 <;> rfl)) ?_
         refine WpL_nil ?_
         subst he41
         subst he40
         subst he39
         subst he38
         subst he37
         subst he36
         subst he35
         subst he34
         subst he33
         subst he32
         subst he31
         subst he30
         subst he29
         have hc42 : ((((decide ((t.kind : Int) = 6)) && (((decide ((t.mn : Int) < 0)) || (decide ((8 : Int) < t.mx))) || (decide ((t.mx : Int) < t.mn)))) || ((decide ((t.kind : Int) = 9)) && ((decide ((t.mn : Int) < 0)) || (decide ((9 : Int) < t.mn)))))) = false := by simp [h2]
         refine Wp_cond_false (congrArg Value.bool hc42) ?_
         refine Wp_skip (thn_normal (Wp_seq_region ?_))
         refine qA _ rfl ?_
         refine WpL_nil (Wp_ret ?_)
         refine fin_tmp Tryz.results40 (v := (.int .i64 0)) rfl ?_
         exact ⟨rfl, E⟩
      ·have kh2 := h2
       replace h2 := of_decide_eq_false h2
       rw [if_neg h2]
       refine Wp_skip (thn_normal (Wp_seq (Wp_seq_region ?_)))
       refine qF b1 0 0 rfl Tryz.underlying25 rfl siz3 rfl ?_
       refine qV (r_load rfl flat3 (B1.cell rfl)) ?_
       obtain ⟨e43, he43⟩ : ∃ e, (decide ((t.kind : Int) = 6)) = e := ⟨_, rfl⟩
       refine qV ((r_eql rfl rfl).trans (by rw [he43]; try rfl)) ?_
       refine qM _ rfl ?_
       refine qG (.bool e43) (yU e43 (P6 b1 3)) (by cases e43 <;> first | exact gA | exact gB | exact .inl ⟨rfl, r_fieldAddr rfl Tryz.underlying25 rfl siz3 rfl⟩) ?_
       refine qG (.bool e43) (yU e43 (I6 t.mn)) (by cases e43 <;> first | exact gA | exact gB | exact .inl ⟨rfl, r_load rfl flat3 (B1.cell rfl)⟩) ?_
       obtain ⟨e44, he44⟩ : ∃ e, (decide ((t.mn : Int) < 0)) = e := ⟨_, rfl⟩
       refine qG (.bool e43) (yU e43 (.bool e44)) (by cases e43 <;> first | exact gA | exact gB | exact .inl ⟨rfl, (r_lss rfl rfl).trans (by rw [he44]; try rfl)⟩) ?_
       refine qG (.bool e43) (yU e43 (.bool e44)) (by cases e43 <;> first | exact gA | exact gB | exact .inl ⟨rfl, r_move rfl⟩) ?_
       refine qG (yU e43 (.bool e44)) (yU e43 (nU e44 (P6 b1 4))) (by cases e43 <;> cases e44 <;> first | exact gA | exact gB | exact .inl ⟨rfl, r_fieldAddr rfl Tryz.underlying25 rfl siz3 rfl⟩) ?_
       refine qG (yU e43 (.bool e44)) (yU e43 (nU e44 (I6 t.mx))) (by cases e43 <;> cases e44 <;> first | exact gA | exact gB | exact .inl ⟨rfl, r_load rfl flat3 (B1.cell rfl)⟩) ?_
       obtain ⟨e45, he45⟩ : ∃ e, (decide ((8 : Int) < t.mx)) = e := ⟨_, rfl⟩
       refine qG (yU e43 (.bool e44)) (yU e43 (nU e44 (.bool e45))) (by cases e43 <;> cases e44 <;> first | exact gA | exact gB | exact .inl ⟨rfl, (r_gtr rfl rfl).trans (by rw [he45]; try rfl)⟩) ?_
       obtain ⟨e46, he46⟩ : ∃ e, (e44 || e45) = e := ⟨_, rfl⟩
       refine qG (.bool e43) (yU e43 (.bool e46)) (by cases e43 <;> first | exact gA | exact gB | exact .inl ⟨rfl, r_pick (v := .bool e46) rfl (by rw [← he46]; cases e44 <;> rfl)⟩) ?_
       refine qG (.bool e43) (yU e43 (.bool e46)) (by cases e43 <;> first | exact gA | exact gB | exact .inl ⟨rfl, r_move rfl⟩) ?_
       refine qG (yU e43 (.bool e46)) (yU e43 (nU e46 (P6 b1 3))) (by cases e43 <;> cases e46 <;> first | exact gA | exact gB | exact .inl ⟨rfl, r_fieldAddr rfl Tryz.underlying25 rfl siz3 rfl⟩) ?_
       refine qG (yU e43 (.bool e46)) (yU e43 (nU e46 (I6 t.mn))) (by cases e43 <;> cases e46 <;> first | exact gA | exact gB | exact .inl ⟨rfl, r_load rfl flat3 (B1.cell rfl)⟩) ?_
       refine qG (yU e43 (.bool e46)) (yU e43 (nU e46 (P6 b1 4))) (by cases e43 <;> cases e46 <;> first | exact gA | exact gB | exact .inl ⟨rfl, r_fieldAddr rfl Tryz.underlying25 rfl siz3 rfl⟩) ?_
       refine qG (yU e43 (.bool e46)) (yU e43 (nU e46 (I6 t.mx))) (by cases e43 <;> cases e46 <;> first | exact gA | exact gB | exact .inl ⟨rfl, r_load rfl flat3 (B1.cell rfl)⟩) ?_
       obtain ⟨e47, he47⟩ : ∃ e, (decide ((t.mx : Int) < t.mn)) = e := ⟨_, rfl⟩
       refine qG (yU e43 (.bool e46)) (yU e43 (nU e46 (.bool e47))) (by cases e43 <;> cases e46 <;> first | exact gA | exact gB | exact .inl ⟨rfl, (r_gtr rfl rfl).trans (by rw [he47]; try rfl)⟩) ?_
       obtain ⟨e48, he48⟩ : ∃ e, (e46 || e47) = e := ⟨_, rfl⟩
       refine qG (.bool e43) (yU e43 (.bool e48)) (by cases e43 <;> first | exact gA | exact gB | exact .inl ⟨rfl, r_pick (v := .bool e48) rfl (by rw [← he48]; cases e46 <;> rfl)⟩) ?_
       obtain ⟨e49, he49⟩ : ∃ e, (e43 && e48) = e := ⟨_, rfl⟩
       refine qV (r_pick (v := .bool e49) rfl (by rw [← he49]; cases e43 <;> rfl)) ?_
       refine qM _ rfl ?_
       refine qG (.bool e49) (nU e49 (P6 b1 0)) (by cases e49 <;> first | exact gA | exact gB | exact .inl ⟨rfl, r_fieldAddr rfl Tryz.underlying25 rfl siz3 rfl⟩) ?_
       refine qG (.bool e49) (nU e49 (I6 t.kind)) (by cases e49 <;> first | exact gA | exact gB | exact .inl ⟨rfl, r_load rfl flat3 (B1.cell rfl)⟩) ?_
       obtain ⟨e50, he50⟩ : ∃ e, (decide ((t.kind : Int) = 9)) = e := ⟨_, rfl⟩
       refine qG (.bool e49) (nU e49 (.bool e50)) (by cases e49 <;> first | exact gA | exact gB | exact .inl ⟨rfl, (r_eql rfl rfl).trans (by rw [he50]; try rfl)⟩) ?_
       refine qG (.bool e49) (nU e49 (.bool e50)) (by cases e49 <;> first | exact gA | exact gB | exact .inl ⟨rfl, r_move rfl⟩) ?_
       refine qG (nU e49 (.bool e50)) (nU e49 (yU e50 (P6 b1 3))) (by cases e49 <;> cases e50 <;> first | exact gA | exact gB | exact .inl ⟨rfl, r_fieldAddr rfl Tryz.underlying25 rfl siz3 rfl⟩) ?_
       refine qG (nU e49 (.bool e50)) (nU e49 (yU e50 (I6 t.mn))) (by cases e49 <;> cases e50 <;> first | exact gA | exact gB | exact .inl ⟨rfl, r_load rfl flat3 (B1.cell rfl)⟩) ?_
       obtain ⟨e51, he51⟩ : ∃ e, (decide ((t.mn : Int) < 0)) = e := ⟨_, rfl⟩
       refine qG (nU e49 (.bool e50)) (nU e49 (yU e50 (.bool e51))) (by cases e49 <;> cases e50 <;> first | exact gA | exact gB | exact .inl ⟨rfl, (r_lss rfl rfl).trans (by rw [he51]; try rfl)⟩) ?_
       refine qG (nU e49 (.bool e50)) (nU e49 (yU e50 (.bool e51))) (by cases e49 <;> cases e50 <;> first | exact gA | exact gB | exact .inl ⟨rfl, r_move rfl⟩) ?_
       refine qG (nU e49 (yU e50 (.bool e51))) (nU e49 (yU e50 (nU e51 (P6 b1 3)))) (by cases e49 <;> cases e50 <;> cases e51 <;> first | exact gA | exact gB | exact .inl ⟨rfl, r_fieldAddr rfl Tryz.underlying25 rfl siz3 rfl⟩) ?_
       refine qG (nU e49 (yU e50 (.bool e51))) (nU e49 (yU e50 (nU e51 (I6 t.mn)))) (by cases e49 <;> cases e50 <;> cases e51 <;> first | exact gA | exact gB | exact .inl ⟨rfl, r_load rfl flat3 (B1.cell rfl)⟩) ?_
       obtain ⟨e52, he52⟩ : ∃ e, (decide ((9 : Int) < t.mn)) = e := ⟨_, rfl⟩
       refine qG (nU e49 (yU e50 (.bool e51))) (nU e49 (yU e50 (nU e51 (.bool e52)))) (by cases e49 <;> cases e50 <;> cases e51 <;> first | exact gA | exact gB | exact .inl ⟨rfl, (r_gtr rfl rfl).trans (by rw [he52]; try rfl)⟩) ?_
       obtain ⟨e53, he53⟩ : ∃ e, (e51 || e52) = e := ⟨_, rfl⟩
       refine qG (nU e49 (.bool e50)) (nU e49 (yU e50 (.bool e53))) (by cases e49 <;> cases e50 <;> first | exact gA | exact gB | exact .inl ⟨rfl, r_pick (v := .bool e53) rfl (by rw [← he53]; cases e51 <;> rfl)⟩) ?_
       obtain ⟨e54, he54⟩ : ∃ e, (e50 && e53) = e := ⟨_, rfl⟩
       refine qG (.bool e49) (nU e49 (.bool e54)) (by cases e49 <;> first | exact gA | exact gB | exact .inl ⟨rfl, r_pick (v := .bool e54) rfl (by rw [← he54]; cases e50 <;> rfl)⟩) ?_
       obtain ⟨e55, he55⟩ : ∃ e, (e49 || e54) = e := ⟨_, rfl⟩
       refine qV (r_pick (v := .bool e55) rfl (by rw [← he55]; cases e49 <;> rfl)) ?_
       refine WpL_nil ?_
       subst he55
       subst he54
       subst he53
       subst he52
       subst he51
       subst he50
       subst he49
       subst he48
       subst he47
       subst he46
       subst he45
       subst he44
       subst he43
       refine Wp_cond rfl (fun h6 => ?_) (fun h6 => ?_)
       ·have kh6 := h6
        simp at h6
        refine Wp_seq_region ?_
        refine qA _ rfl ?_
        refine WpL_nil (Wp_ret (thn_ret ?_))
        refine fin_tmp Tryz.results40 (v := (.int .i64 1)) rfl ?_
        exact ⟨int_eq (by by_cases h66 : t.kind = 6; rw [if_pos h66, if_pos (by omega)]; rw [if_neg h66, if_pos (by omega), if_pos (by omega)]), E⟩
       ·have kh6 := h6
        simp at h6
        refine Wp_skip (thn_normal (Wp_seq_region ?_))
        refine qA _ rfl ?_
        refine WpL_nil (Wp_ret ?_)
        refine fin_tmp Tryz.results40 (v := (.int .i64 0)) rfl ?_
        exact ⟨int_eq (by by_cases h66 : t.kind = 6; rw [if_pos h66, if_neg (by omega)]; rw [if_neg h66]; by_cases h9 : t.kind = 9; rw [if_pos h9, if_neg (by omega)]; rw [if_neg h9]), E⟩
   ·have khg7 := hg7
    replace khg7 := of_decide_eq_false khg7
    have hoB : okB t.kind t.args.length = true := by rw [form_need (by omega) (by omega)]; simp; omega
    refine WpL_guard_no rfl rfl (by decide) (v := .bool false) (congrArg Value.bool hg7) (Or.inl rfl) ?_
    refine WpL_guard_no rfl rfl (by decide) (v := .bool false) (congrArg Value.bool hg7) (Or.inl rfl) ?_
    refine WpL_guard_no rfl rfl (by decide) (v := .bool false) (congrArg Value.bool hg7) (Or.inl rfl) ?_
    refine WpL_guard_no rfl rfl (by decide) (v := .bool false) (congrArg Value.bool hg7) (Or.inl rfl) ?_
    refine WpL_guard_no rfl rfl (by decide) (v := .bool false) (congrArg Value.bool hg7) (Or.inl rfl) ?_
    refine WpL_guard_yes rfl rfl (by decide) (congrArg Value.bool hg6) ?_
    refine qV (r_pick (v := (.bool false)) rfl (by rw [hg7]; rfl)) ?_
    refine qV (r_pick (v := (.bool false)) rfl (by rw [hg6]; rfl)) ?_
    refine WpL_nil ?_
    refine Wp_cond_false rfl ?_
    refine Wp_skip (thn_normal (Wp_seq (Wp_seq_region ?_)))
    refine qF b1 0 0 rfl Tryz.underlying25 rfl siz3 rfl ?_
    refine qV (r_load rfl flat3 (B1.cell rfl)) ?_
    obtain ⟨e57, he57⟩ : ∃ e, (decide ((t.kind : Int) ≠ 2)) = e := ⟨_, rfl⟩
    refine qV ((r_neq rfl rfl).trans (by rw [he57]; try rfl)) ?_
    refine qM _ rfl ?_
    refine qG (.bool e57) (yU e57 (P6 b1 1)) (by cases e57 <;> first | exact gA | exact gB | exact .inl ⟨rfl, r_fieldAddr rfl Tryz.underlying25 rfl siz22 rfl⟩) ?_
    refine qG (.bool e57) (yU e57 (.slice sa t.set.length sc)) (by cases e57 <;> first | exact gA | exact gB | exact .inl ⟨rfl, r_load rfl flat22 (B1.cell rfl)⟩) ?_
    refine qG (.bool e57) (yU e57 (I6 (t.set.length : Int))) (by cases e57 <;> first | exact gA | exact gB | exact .inl ⟨rfl, r_lenSlice Tryz.underlying22 rfl⟩) ?_
    obtain ⟨e58, he58⟩ : ∃ e, (decide ((0 : Int) < ((t.set.length : Nat) : Int))) = e := ⟨_, rfl⟩
    refine qG (.bool e57) (yU e57 (.bool e58)) (by cases e57 <;> first | exact gA | exact gB | exact .inl ⟨rfl, (r_gtr rfl rfl).trans (by rw [he58]; try rfl)⟩) ?_
    obtain ⟨e59, he59⟩ : ∃ e, (e57 && e58) = e := ⟨_, rfl⟩
    refine qV (r_pick (v := .bool e59) rfl (by rw [← he59]; cases e57 <;> rfl)) ?_
    refine qM _ rfl ?_
    refine qG (.bool e59) (nU e59 (P6 b1 0)) (by cases e59 <;> first | exact gA | exact gB | exact .inl ⟨rfl, r_fieldAddr rfl Tryz.underlying25 rfl siz3 rfl⟩) ?_
    refine qG (.bool e59) (nU e59 (I6 t.kind)) (by cases e59 <;> first | exact gA | exact gB | exact .inl ⟨rfl, r_load rfl flat3 (B1.cell rfl)⟩) ?_
    obtain ⟨e60, he60⟩ : ∃ e, (decide ((t.kind : Int) ≠ 6)) = e := ⟨_, rfl⟩
    refine qG (.bool e59) (nU e59 (.bool e60)) (by cases e59 <;> first | exact gA | exact gB | exact .inl ⟨rfl, (r_neq rfl rfl).trans (by rw [he60]; try rfl)⟩) ?_
    refine qG (.bool e59) (nU e59 (.bool e60)) (by cases e59 <;> first | exact gA | exact gB | exact .inl ⟨rfl, r_move rfl⟩) ?_
    refine qG (nU e59 (.bool e60)) (nU e59 (yU e60 (P6 b1 4))) (by cases e59 <;> cases e60 <;> first | exact gA | exact gB | exact .inl ⟨rfl, r_fieldAddr rfl Tryz.underlying25 rfl siz3 rfl⟩) ?_
    refine qG (nU e59 (.bool e60)) (nU e59 (yU e60 (I6 t.mx))) (by cases e59 <;> cases e60 <;> first | exact gA | exact gB | exact .inl ⟨rfl, r_load rfl flat3 (B1.cell rfl)⟩) ?_
    obtain ⟨e61, he61⟩ : ∃ e, (decide ((t.mx : Int) ≠ 0)) = e := ⟨_, rfl⟩
    refine qG (nU e59 (.bool e60)) (nU e59 (yU e60 (.bool e61))) (by cases e59 <;> cases e60 <;> first | exact gA | exact gB | exact .inl ⟨rfl, (r_neq rfl rfl).trans (by rw [he61]; try rfl)⟩) ?_
    obtain ⟨e62, he62⟩ : ∃ e, (e60 && e61) = e := ⟨_, rfl⟩
    refine qG (.bool e59) (nU e59 (.bool e62)) (by cases e59 <;> first | exact gA | exact gB | exact .inl ⟨rfl, r_pick (v := .bool e62) rfl (by rw [← he62]; cases e60 <;> rfl)⟩) ?_
    obtain ⟨e63, he63⟩ : ∃ e, (e59 || e62) = e := ⟨_, rfl⟩
    refine qV (r_pick (v := .bool e63) rfl (by rw [← he63]; cases e59 <;> rfl)) ?_
    refine qM _ rfl ?_
    refine qG (.bool e63) (nU e63 (P6 b1 0)) (by cases e63 <;> first | exact gA | exact gB | exact .inl ⟨rfl, r_fieldAddr rfl Tryz.underlying25 rfl siz3 rfl⟩) ?_
    refine qG (.bool e63) (nU e63 (I6 t.kind)) (by cases e63 <;> first | exact gA | exact gB | exact .inl ⟨rfl, r_load rfl flat3 (B1.cell rfl)⟩) ?_
    obtain ⟨e64, he64⟩ : ∃ e, (decide ((t.kind : Int) ≠ 6)) = e := ⟨_, rfl⟩
    refine qG (.bool e63) (nU e63 (.bool e64)) (by cases e63 <;> first | exact gA | exact gB | exact .inl ⟨rfl, (r_neq rfl rfl).trans (by rw [he64]; try rfl)⟩) ?_
    refine qG (.bool e63) (nU e63 (.bool e64)) (by cases e63 <;> first | exact gA | exact gB | exact .inl ⟨rfl, r_move rfl⟩) ?_
    refine qG (nU e63 (.bool e64)) (nU e63 (yU e64 (P6 b1 0))) (by cases e63 <;> cases e64 <;> first | exact gA | exact gB | exact .inl ⟨rfl, r_fieldAddr rfl Tryz.underlying25 rfl siz3 rfl⟩) ?_
    refine qG (nU e63 (.bool e64)) (nU e63 (yU e64 (I6 t.kind))) (by cases e63 <;> cases e64 <;> first | exact gA | exact gB | exact .inl ⟨rfl, r_load rfl flat3 (B1.cell rfl)⟩) ?_
    obtain ⟨e65, he65⟩ : ∃ e, (decide ((t.kind : Int) ≠ 9)) = e := ⟨_, rfl⟩
    refine qG (nU e63 (.bool e64)) (nU e63 (yU e64 (.bool e65))) (by cases e63 <;> cases e64 <;> first | exact gA | exact gB | exact .inl ⟨rfl, (r_neq rfl rfl).trans (by rw [he65]; try rfl)⟩) ?_
    obtain ⟨e66, he66⟩ : ∃ e, (e64 && e65) = e := ⟨_, rfl⟩
    refine qG (.bool e63) (nU e63 (.bool e66)) (by cases e63 <;> first | exact gA | exact gB | exact .inl ⟨rfl, r_pick (v := .bool e66) rfl (by rw [← he66]; cases e64 <;> rfl)⟩) ?_
    refine qG (.bool e63) (nU e63 (.bool e66)) (by cases e63 <;> first | exact gA | exact gB | exact .inl ⟨rfl, r_move rfl⟩) ?_
    refine qG (nU e63 (.bool e66)) (nU e63 (yU e66 (P6 b1 3))) (by cases e63 <;> cases e66 <;> first | exact gA | exact gB | exact .inl ⟨rfl, r_fieldAddr rfl Tryz.underlying25 rfl siz3 rfl⟩) ?_
    refine qG (nU e63 (.bool e66)) (nU e63 (yU e66 (I6 t.mn))) (by cases e63 <;> cases e66 <;> first | exact gA | exact gB | exact .inl ⟨rfl, r_load rfl flat3 (B1.cell rfl)⟩) ?_
    obtain ⟨e67, he67⟩ : ∃ e, (decide ((t.mn : Int) ≠ 0)) = e := ⟨_, rfl⟩
    refine qG (nU e63 (.bool e66)) (nU e63 (yU e66 (.bool e67))) (by cases e63 <;> cases e66 <;> first | exact gA | exact gB | exact .inl ⟨rfl, (r_neq rfl rfl).trans (by rw [he67]; try rfl)⟩) ?_
    obtain ⟨e68, he68⟩ : ∃ e, (e66 && e67) = e := ⟨_, rfl⟩
    refine qG (.bool e63) (nU e63 (.bool e68)) (by cases e63 <;> first | exact gA | exact gB | exact .inl ⟨rfl, r_pick (v := .bool e68) rfl (by rw [← he68]; cases e66 <;> rfl)⟩) ?_
    obtain ⟨e69, he69⟩ : ∃ e, (e63 || e68) = e := ⟨_, rfl⟩
    refine qV (r_pick (v := .bool e69) rfl (by rw [← he69]; cases e63 <;> rfl)) ?_
    refine qM _ rfl ?_
    refine qG (.bool e69) (nU e69 (P6 b1 0)) (by cases e69 <;> first | exact gA | exact gB | exact .inl ⟨rfl, r_fieldAddr rfl Tryz.underlying25 rfl siz3 rfl⟩) ?_
    refine qG (.bool e69) (nU e69 (I6 t.kind)) (by cases e69 <;> first | exact gA | exact gB | exact .inl ⟨rfl, r_load rfl flat3 (B1.cell rfl)⟩) ?_
    obtain ⟨e70, he70⟩ : ∃ e, (decide ((t.kind : Int) ≠ 10)) = e := ⟨_, rfl⟩
    refine qG (.bool e69) (nU e69 (.bool e70)) (by cases e69 <;> first | exact gA | exact gB | exact .inl ⟨rfl, (r_neq rfl rfl).trans (by rw [he70]; try rfl)⟩) ?_
    refine qG (.bool e69) (nU e69 (.bool e70)) (by cases e69 <;> first | exact gA | exact gB | exact .inl ⟨rfl, r_move rfl⟩) ?_
    refine qG (nU e69 (.bool e70)) (nU e69 (yU e70 (P6 b1 5))) (by cases e69 <;> cases e70 <;> first | exact gA | exact gB | exact .inl ⟨rfl, r_fieldAddr rfl Tryz.underlying25 rfl siz4 rfl⟩) ?_
    refine qG (nU e69 (.bool e70)) (nU e69 (yU e70 (.bool t.neg))) (by cases e69 <;> cases e70 <;> first | exact gA | exact gB | exact .inl ⟨rfl, r_load rfl flat4 (B1.cell rfl)⟩) ?_
    obtain ⟨e71, he71⟩ : ∃ e, (e70 && t.neg) = e := ⟨_, rfl⟩
    refine qG (.bool e69) (nU e69 (.bool e71)) (by cases e69 <;> first | exact gA | exact gB | exact .inl ⟨rfl, r_pick (v := .bool e71) rfl (by rw [← he71]; cases e70 <;> rfl)⟩) ?_
    obtain ⟨e72, he72⟩ : ∃ e, (e69 || e71) = e := ⟨_, rfl⟩
    refine qV (r_pick (v := .bool e72) rfl (by rw [← he72]; cases e69 <;> rfl)) ?_
    refine WpL_nil ?_
    subst he72
    subst he71
    subst he70
    subst he69
    subst he68
    subst he67
    subst he66
    subst he65
    subst he64
    subst he63
    subst he62
    subst he61
    subst he60
    subst he59
    subst he58
    subst he57
    refine Wp_cond rfl (fun hf => ?_) (fun hf => ?_)
    ·have khf := hf
     have hfB : formB t = false := by rw [← Bool.not_eq_true]; intro h; unfold formB at h; generalize t.set.length = sl at h hf; cases hng : t.neg <;> simp [hng] at h hf <;> omega
     refine Wp_seq_region ?_
     refine qA _ rfl ?_
     refine WpL_nil (Wp_ret (thn_ret ?_))
     refine fin_tmp Tryz.results40 (v := (.int .i64 3)) rfl ?_
     exact ⟨int_eq (by unfold nodeE; rw [if_neg (by omega), if_pos hfB]), E⟩
    ·have khf := hf
     have hfB : formB t = true := by unfold formB; rw [hoB]; generalize t.set.length = sl at hf; cases hng : t.neg <;> simp [hng] at hf ⊢ <;> omega
     have hN : nodeE t = if t.kind = 2 then (if checkE t.set ≠ 0 then checkE t.set else if (t.set.length : Int) = 0 then 3 else 0) else if t.kind = 6 then (if t.mn < 0 ∨ t.mx < t.mn ∨ 8 < t.mx then 1 else 0) else if t.kind = 9 then (if t.mn < 0 ∨ 9 < t.mn then 1 else 0) else 0 := by unfold nodeE; rw [if_neg (by omega), if_neg (by simp [hfB])]
     rw [hN]
     refine Wp_skip (thn_normal (Wp_seq (Wp_seq_region ?_)))
     refine qF b1 0 0 rfl Tryz.underlying25 rfl siz3 rfl ?_
     refine qV (r_load rfl flat3 (B1.cell rfl)) ?_
     refine qV (r_eql rfl rfl) ?_
     refine WpL_nil ?_
     refine Wp_cond rfl (fun h2 => ?_) (fun h2 => ?_)
     ·have kh2 := h2
      replace h2 := of_decide_eq_true h2
      rw [if_pos h2]
      refine Wp_seq (Wp_seq_region ?_)
      refine qF b1 0 1 rfl Tryz.underlying25 rfl siz22 rfl ?_
      refine qV (r_load rfl flat22 (B1.cell rfl)) ?_
      refine WpL_enter rfl rfl (by decide) (r_callF Tryz.func59 nm59 bd59 rfl) (cset_c _ _ t.set ((hset.ext hE).ext E)) ?_
      rintro _ w10 ⟨rfl, X10⟩
      replace B1 := X10.keep B1
      replace E := E.ext X10
      refine qA _ rfl ?_
      refine WpL_nil (Wp_seq_region ?_)
      refine qM _ rfl ?_
      refine qV (r_neq rfl rfl) ?_
      refine WpL_nil ?_
      refine Wp_cond rfl (fun h3 => ?_) (fun h3 => ?_)
      ·have kh3 := h3
       replace h3 := of_decide_eq_true h3
       refine Wp_seq_region ?_
       refine qM _ rfl ?_
       refine qA _ rfl ?_
       refine WpL_nil (Wp_ret (thn_ret (thn_ret ?_)))
       refine fin_tmp Tryz.results40 (v := (.int .i64 (checkE t.set))) rfl ?_
       exact ⟨int_eq (by rw [if_pos h3]), E⟩
      ·have kh3 := h3
       replace h3 := of_decide_eq_false h3
       rw [if_neg h3]
       refine Wp_skip (thn_normal (Wp_seq_region ?_))
       refine qF b1 0 1 rfl Tryz.underlying25 rfl siz22 rfl ?_
       refine qV (r_load rfl flat22 (B1.cell rfl)) ?_
       refine qV (r_lenSlice Tryz.underlying22 rfl) ?_
       refine qV (r_eql rfl rfl) ?_
       refine WpL_nil ?_
       refine Wp_cond rfl (fun h4 => ?_) (fun h4 => ?_)
       ·have kh4 := h4
        replace h4 := of_decide_eq_true h4
        refine Wp_seq_region ?_
        refine qA _ rfl ?_
        refine WpL_nil (Wp_ret (thn_ret ?_))
        refine fin_tmp Tryz.results40 (v := (.int .i64 3)) rfl ?_
        exact ⟨int_eq (by rw [if_pos h4]), E⟩
       ·have kh4 := h4
        replace h4 := of_decide_eq_false h4
        rw [if_neg h4]
        refine Wp_skip (thn_normal (Wp_seq (Wp_seq_region ?_)))
        refine qF b1 0 0 rfl Tryz.underlying25 rfl siz3 rfl ?_
        refine qV (r_load rfl flat3 (B1.cell rfl)) ?_
        obtain ⟨e77, he77⟩ : ∃ e, (decide ((t.kind : Int) = 6)) = e := ⟨_, rfl⟩
        refine qV ((r_eql rfl rfl).trans (by rw [he77]; try rfl)) ?_
        refine qM _ rfl ?_
        refine qG (.bool e77) (yU e77 (P6 b1 3)) (by cases e77 <;> first | exact gA | exact gB | exact .inl ⟨rfl, r_fieldAddr rfl Tryz.underlying25 rfl siz3 rfl⟩) ?_
        refine qG (.bool e77) (yU e77 (I6 t.mn)) (by cases e77 <;> first | exact gA | exact gB | exact .inl ⟨rfl, r_load rfl flat3 (B1.cell rfl)⟩) ?_
        obtain ⟨e78, he78⟩ : ∃ e, (decide ((t.mn : Int) < 0)) = e := ⟨_, rfl⟩
        refine qG (.bool e77) (yU e77 (.bool e78)) (by cases e77 <;> first | exact gA | exact gB | exact .inl ⟨rfl, (r_lss rfl rfl).trans (by rw [he78]; try rfl)⟩) ?_
        refine qG (.bool e77) (yU e77 (.bool e78)) (by cases e77 <;> first | exact gA | exact gB | exact .inl ⟨rfl, r_move rfl⟩) ?_
        refine qG (yU e77 (.bool e78)) (yU e77 (nU e78 (P6 b1 4))) (by cases e77 <;> cases e78 <;> first | exact gA | exact gB | exact .inl ⟨rfl, r_fieldAddr rfl Tryz.underlying25 rfl siz3 rfl⟩) ?_
        refine qG (yU e77 (.bool e78)) (yU e77 (nU e78 (I6 t.mx))) (by cases e77 <;> cases e78 <;> first | exact gA | exact gB | exact .inl ⟨rfl, r_load rfl flat3 (B1.cell rfl)⟩) ?_
        obtain ⟨e79, he79⟩ : ∃ e, (decide ((8 : Int) < t.mx)) = e := ⟨_, rfl⟩
        refine qG (yU e77 (.bool e78)) (yU e77 (nU e78 (.bool e79))) (by cases e77 <;> cases e78 <;> first | exact gA | exact gB | exact .inl ⟨rfl, (r_gtr rfl rfl).trans (by rw [he79]; try rfl)⟩) ?_
        obtain ⟨e80, he80⟩ : ∃ e, (e78 || e79) = e := ⟨_, rfl⟩
        refine qG (.bool e77) (yU e77 (.bool e80)) (by cases e77 <;> first | exact gA | exact gB | exact .inl ⟨rfl, r_pick (v := .bool e80) rfl (by rw [← he80]; cases e78 <;> rfl)⟩) ?_
        refine qG (.bool e77) (yU e77 (.bool e80)) (by cases e77 <;> first | exact gA | exact gB | exact .inl ⟨rfl, r_move rfl⟩) ?_
        refine qG (yU e77 (.bool e80)) (yU e77 (nU e80 (P6 b1 3))) (by cases e77 <;> cases e80 <;> first | exact gA | exact gB | exact .inl ⟨rfl, r_fieldAddr rfl Tryz.underlying25 rfl siz3 rfl⟩) ?_
        refine qG (yU e77 (.bool e80)) (yU e77 (nU e80 (I6 t.mn))) (by cases e77 <;> cases e80 <;> first | exact gA | exact gB | exact .inl ⟨rfl, r_load rfl flat3 (B1.cell rfl)⟩) ?_
        refine qG (yU e77 (.bool e80)) (yU e77 (nU e80 (P6 b1 4))) (by cases e77 <;> cases e80 <;> first | exact gA | exact gB | exact .inl ⟨rfl, r_fieldAddr rfl Tryz.underlying25 rfl siz3 rfl⟩) ?_
        refine qG (yU e77 (.bool e80)) (yU e77 (nU e80 (I6 t.mx))) (by cases e77 <;> cases e80 <;> first | exact gA | exact gB | exact .inl ⟨rfl, r_load rfl flat3 (B1.cell rfl)⟩) ?_
        obtain ⟨e81, he81⟩ : ∃ e, (decide ((t.mx : Int) < t.mn)) = e := ⟨_, rfl⟩
        refine qG (yU e77 (.bool e80)) (yU e77 (nU e80 (.bool e81))) (by cases e77 <;> cases e80 <;> first | exact gA | exact gB | exact .inl ⟨rfl, (r_gtr rfl rfl).trans (by rw [he81]; try rfl)⟩) ?_
        obtain ⟨e82, he82⟩ : ∃ e, (e80 || e81) = e := ⟨_, rfl⟩
        refine qG (.bool e77) (yU e77 (.bool e82)) (by cases e77 <;> first | exact gA | exact gB | exact .inl ⟨rfl, r_pick (v := .bool e82) rfl (by rw [← he82]; cases e80 <;> rfl)⟩) ?_
        obtain ⟨e83, he83⟩ : ∃ e, (e77 && e82) = e := ⟨_, rfl⟩
        refine qV (r_pick (v := .bool e83) rfl (by rw [← he83]; cases e77 <;> rfl)) ?_
        refine qM _ rfl ?_
        refine qG (.bool e83) (nU e83 (P6 b1 0)) (by cases e83 <;> first | exact gA | exact gB | exact .inl ⟨rfl, r_fieldAddr rfl Tryz.underlying25 rfl siz3 rfl⟩) ?_
        refine qG (.bool e83) (nU e83 (I6 t.kind)) (by cases e83 <;> first | exact gA | exact gB | exact .inl ⟨rfl, r_load rfl flat3 (B1.cell rfl)⟩) ?_
        obtain ⟨e84, he84⟩ : ∃ e, (decide ((t.kind : Int) = 9)) = e := ⟨_, rfl⟩
        refine qG (.bool e83) (nU e83 (.bool e84)) (by cases e83 <;> first | exact gA | exact gB | exact .inl ⟨rfl, (r_eql rfl rfl).trans (by rw [he84]; try rfl)⟩) ?_
        refine qG (.bool e83) (nU e83 (.bool e84)) (by cases e83 <;> first | exact gA | exact gB | exact .inl ⟨rfl, r_move rfl⟩) ?_
        refine qG (nU e83 (.bool e84)) (nU e83 (yU e84 (P6 b1 3))) (by cases e83 <;> cases e84 <;> first | exact gA | exact gB | exact .inl ⟨rfl, r_fieldAddr rfl Tryz.underlying25 rfl siz3 rfl⟩) ?_
        refine qG (nU e83 (.bool e84)) (nU e83 (yU e84 (I6 t.mn))) (by cases e83 <;> cases e84 <;> first | exact gA | exact gB | exact .inl ⟨rfl, r_load rfl flat3 (B1.cell rfl)⟩) ?_
        obtain ⟨e85, he85⟩ : ∃ e, (decide ((t.mn : Int) < 0)) = e := ⟨_, rfl⟩
        refine qG (nU e83 (.bool e84)) (nU e83 (yU e84 (.bool e85))) (by cases e83 <;> cases e84 <;> first | exact gA | exact gB | exact .inl ⟨rfl, (r_lss rfl rfl).trans (by rw [he85]; try rfl)⟩) ?_
        refine qG (nU e83 (.bool e84)) (nU e83 (yU e84 (.bool e85))) (by cases e83 <;> cases e84 <;> first | exact gA | exact gB | exact .inl ⟨rfl, r_move rfl⟩) ?_
        refine qG (nU e83 (yU e84 (.bool e85))) (nU e83 (yU e84 (nU e85 (P6 b1 3)))) (by cases e83 <;> cases e84 <;> cases e85 <;> first | exact gA | exact gB | exact .inl ⟨rfl, r_fieldAddr rfl Tryz.underlying25 rfl siz3 rfl⟩) ?_
        refine qG (nU e83 (yU e84 (.bool e85))) (nU e83 (yU e84 (nU e85 (I6 t.mn)))) (by cases e83 <;> cases e84 <;> cases e85 <;> first | exact gA | exact gB | exact .inl ⟨rfl, r_load rfl flat3 (B1.cell rfl)⟩) ?_
        obtain ⟨e86, he86⟩ : ∃ e, (decide ((9 : Int) < t.mn)) = e := ⟨_, rfl⟩
        refine qG (nU e83 (yU e84 (.bool e85))) (nU e83 (yU e84 (nU e85 (.bool e86)))) (by cases e83 <;> cases e84 <;> cases e85 <;> first | exact gA | exact gB | exact .inl ⟨rfl, (r_gtr rfl rfl).trans (by rw [he86]; try rfl)⟩) ?_
        obtain ⟨e87, he87⟩ : ∃ e, (e85 || e86) = e := ⟨_, rfl⟩
        refine qG (nU e83 (.bool e84)) (nU e83 (yU e84 (.bool e87))) (by cases e83 <;> cases e84 <;> first | exact gA | exact gB | exact .inl ⟨rfl, r_pick (v := .bool e87) rfl (by rw [← he87]; cases e85 <;> rfl)⟩) ?_
        obtain ⟨e88, he88⟩ : ∃ e, (e84 && e87) = e := ⟨_, rfl⟩
        refine qG (.bool e83) (nU e83 (.bool e88)) (by cases e83 <;> first | exact gA | exact gB | exact .inl ⟨rfl, r_pick (v := .bool e88) rfl (by rw [← he88]; cases e84 <;> rfl)⟩) ?_
        obtain ⟨e89, he89⟩ : ∃ e, (e83 || e88) = e := ⟨_, rfl⟩
        refine qV (r_pick (v := .bool e89) rfl (by rw [← he89]; cases e83 <;> rfl)) ?_
        refine WpL_nil ?_
        subst he89
        subst he88
        subst he87
        subst he86
        subst he85
        subst he84
        subst he83
        subst he82
        subst he81
        subst he80
        subst he79
        subst he78
        subst he77
        have hc90 : ((((decide ((t.kind : Int) = 6)) && (((decide ((t.mn : Int) < 0)) || (decide ((8 : Int) < t.mx))) || (decide ((t.mx : Int) < t.mn)))) || ((decide ((t.kind : Int) = 9)) && ((decide ((t.mn : Int) < 0)) || (decide ((9 : Int) < t.mn)))))) = false := by simp [h2]
        refine Wp_cond_false (congrArg Value.bool hc90) ?_
        refine Wp_skip (thn_normal (Wp_seq_region ?_))
        refine qA _ rfl ?_
        refine WpL_nil (Wp_ret ?_)
        refine fin_tmp Tryz.results40 (v := (.int .i64 0)) rfl ?_
        exact ⟨rfl, E⟩
     ·have kh2 := h2
      replace h2 := of_decide_eq_false h2
      rw [if_neg h2]
      refine Wp_skip (thn_normal (Wp_seq (Wp_seq_region ?_)))
      refine qF b1 0 0 rfl Tryz.underlying25 rfl siz3 rfl ?_
      refine qV (r_load rfl flat3 (B1.cell rfl)) ?_
      obtain ⟨e91, he91⟩ : ∃ e, (decide ((t.kind : Int) = 6)) = e := ⟨_, rfl⟩
      refine qV ((r_eql rfl rfl).trans (by rw [he91]; try rfl)) ?_
      refine qM _ rfl ?_
      refine qG (.bool e91) (yU e91 (P6 b1 3)) (by cases e91 <;> first | exact gA | exact gB | exact .inl ⟨rfl, r_fieldAddr rfl Tryz.underlying25 rfl siz3 rfl⟩) ?_
      refine qG (.bool e91) (yU e91 (I6 t.mn)) (by cases e91 <;> first | exact gA | exact gB | exact .inl ⟨rfl, r_load rfl flat3 (B1.cell rfl)⟩) ?_
      obtain ⟨e92, he92⟩ : ∃ e, (decide ((t.mn : Int) < 0)) = e := ⟨_, rfl⟩
      refine qG (.bool e91) (yU e91 (.bool e92)) (by cases e91 <;> first | exact gA | exact gB | exact .inl ⟨rfl, (r_lss rfl rfl).trans (by rw [he92]; try rfl)⟩) ?_
      refine qG (.bool e91) (yU e91 (.bool e92)) (by cases e91 <;> first | exact gA | exact gB | exact .inl ⟨rfl, r_move rfl⟩) ?_
      refine qG (yU e91 (.bool e92)) (yU e91 (nU e92 (P6 b1 4))) (by cases e91 <;> cases e92 <;> first | exact gA | exact gB | exact .inl ⟨rfl, r_fieldAddr rfl Tryz.underlying25 rfl siz3 rfl⟩) ?_
      refine qG (yU e91 (.bool e92)) (yU e91 (nU e92 (I6 t.mx))) (by cases e91 <;> cases e92 <;> first | exact gA | exact gB | exact .inl ⟨rfl, r_load rfl flat3 (B1.cell rfl)⟩) ?_
      obtain ⟨e93, he93⟩ : ∃ e, (decide ((8 : Int) < t.mx)) = e := ⟨_, rfl⟩
      refine qG (yU e91 (.bool e92)) (yU e91 (nU e92 (.bool e93))) (by cases e91 <;> cases e92 <;> first | exact gA | exact gB | exact .inl ⟨rfl, (r_gtr rfl rfl).trans (by rw [he93]; try rfl)⟩) ?_
      obtain ⟨e94, he94⟩ : ∃ e, (e92 || e93) = e := ⟨_, rfl⟩
      refine qG (.bool e91) (yU e91 (.bool e94)) (by cases e91 <;> first | exact gA | exact gB | exact .inl ⟨rfl, r_pick (v := .bool e94) rfl (by rw [← he94]; cases e92 <;> rfl)⟩) ?_
      refine qG (.bool e91) (yU e91 (.bool e94)) (by cases e91 <;> first | exact gA | exact gB | exact .inl ⟨rfl, r_move rfl⟩) ?_
      refine qG (yU e91 (.bool e94)) (yU e91 (nU e94 (P6 b1 3))) (by cases e91 <;> cases e94 <;> first | exact gA | exact gB | exact .inl ⟨rfl, r_fieldAddr rfl Tryz.underlying25 rfl siz3 rfl⟩) ?_
      refine qG (yU e91 (.bool e94)) (yU e91 (nU e94 (I6 t.mn))) (by cases e91 <;> cases e94 <;> first | exact gA | exact gB | exact .inl ⟨rfl, r_load rfl flat3 (B1.cell rfl)⟩) ?_
      refine qG (yU e91 (.bool e94)) (yU e91 (nU e94 (P6 b1 4))) (by cases e91 <;> cases e94 <;> first | exact gA | exact gB | exact .inl ⟨rfl, r_fieldAddr rfl Tryz.underlying25 rfl siz3 rfl⟩) ?_
      refine qG (yU e91 (.bool e94)) (yU e91 (nU e94 (I6 t.mx))) (by cases e91 <;> cases e94 <;> first | exact gA | exact gB | exact .inl ⟨rfl, r_load rfl flat3 (B1.cell rfl)⟩) ?_
      obtain ⟨e95, he95⟩ : ∃ e, (decide ((t.mx : Int) < t.mn)) = e := ⟨_, rfl⟩
      refine qG (yU e91 (.bool e94)) (yU e91 (nU e94 (.bool e95))) (by cases e91 <;> cases e94 <;> first | exact gA | exact gB | exact .inl ⟨rfl, (r_gtr rfl rfl).trans (by rw [he95]; try rfl)⟩) ?_
      obtain ⟨e96, he96⟩ : ∃ e, (e94 || e95) = e := ⟨_, rfl⟩
      refine qG (.bool e91) (yU e91 (.bool e96)) (by cases e91 <;> first | exact gA | exact gB | exact .inl ⟨rfl, r_pick (v := .bool e96) rfl (by rw [← he96]; cases e94 <;> rfl)⟩) ?_
      obtain ⟨e97, he97⟩ : ∃ e, (e91 && e96) = e := ⟨_, rfl⟩
      refine qV (r_pick (v := .bool e97) rfl (by rw [← he97]; cases e91 <;> rfl)) ?_
      refine qM _ rfl ?_
      refine qG (.bool e97) (nU e97 (P6 b1 0)) (by cases e97 <;> first | exact gA | exact gB | exact .inl ⟨rfl, r_fieldAddr rfl Tryz.underlying25 rfl siz3 rfl⟩) ?_
      refine qG (.bool e97) (nU e97 (I6 t.kind)) (by cases e97 <;> first | exact gA | exact gB | exact .inl ⟨rfl, r_load rfl flat3 (B1.cell rfl)⟩) ?_
      obtain ⟨e98, he98⟩ : ∃ e, (decide ((t.kind : Int) = 9)) = e := ⟨_, rfl⟩
      refine qG (.bool e97) (nU e97 (.bool e98)) (by cases e97 <;> first | exact gA | exact gB | exact .inl ⟨rfl, (r_eql rfl rfl).trans (by rw [he98]; try rfl)⟩) ?_
      refine qG (.bool e97) (nU e97 (.bool e98)) (by cases e97 <;> first | exact gA | exact gB | exact .inl ⟨rfl, r_move rfl⟩) ?_
      refine qG (nU e97 (.bool e98)) (nU e97 (yU e98 (P6 b1 3))) (by cases e97 <;> cases e98 <;> first | exact gA | exact gB | exact .inl ⟨rfl, r_fieldAddr rfl Tryz.underlying25 rfl siz3 rfl⟩) ?_
      refine qG (nU e97 (.bool e98)) (nU e97 (yU e98 (I6 t.mn))) (by cases e97 <;> cases e98 <;> first | exact gA | exact gB | exact .inl ⟨rfl, r_load rfl flat3 (B1.cell rfl)⟩) ?_
      obtain ⟨e99, he99⟩ : ∃ e, (decide ((t.mn : Int) < 0)) = e := ⟨_, rfl⟩
      refine qG (nU e97 (.bool e98)) (nU e97 (yU e98 (.bool e99))) (by cases e97 <;> cases e98 <;> first | exact gA | exact gB | exact .inl ⟨rfl, (r_lss rfl rfl).trans (by rw [he99]; try rfl)⟩) ?_
      refine qG (nU e97 (.bool e98)) (nU e97 (yU e98 (.bool e99))) (by cases e97 <;> cases e98 <;> first | exact gA | exact gB | exact .inl ⟨rfl, r_move rfl⟩) ?_
      refine qG (nU e97 (yU e98 (.bool e99))) (nU e97 (yU e98 (nU e99 (P6 b1 3)))) (by cases e97 <;> cases e98 <;> cases e99 <;> first | exact gA | exact gB | exact .inl ⟨rfl, r_fieldAddr rfl Tryz.underlying25 rfl siz3 rfl⟩) ?_
      refine qG (nU e97 (yU e98 (.bool e99))) (nU e97 (yU e98 (nU e99 (I6 t.mn)))) (by cases e97 <;> cases e98 <;> cases e99 <;> first | exact gA | exact gB | exact .inl ⟨rfl, r_load rfl flat3 (B1.cell rfl)⟩) ?_
      obtain ⟨e100, he100⟩ : ∃ e, (decide ((9 : Int) < t.mn)) = e := ⟨_, rfl⟩
      refine qG (nU e97 (yU e98 (.bool e99))) (nU e97 (yU e98 (nU e99 (.bool e100)))) (by cases e97 <;> cases e98 <;> cases e99 <;> first | exact gA | exact gB | exact .inl ⟨rfl, (r_gtr rfl rfl).trans (by rw [he100]; try rfl)⟩) ?_
      obtain ⟨e101, he101⟩ : ∃ e, (e99 || e100) = e := ⟨_, rfl⟩
      refine qG (nU e97 (.bool e98)) (nU e97 (yU e98 (.bool e101))) (by cases e97 <;> cases e98 <;> first | exact gA | exact gB | exact .inl ⟨rfl, r_pick (v := .bool e101) rfl (by rw [← he101]; cases e99 <;> rfl)⟩) ?_
      obtain ⟨e102, he102⟩ : ∃ e, (e98 && e101) = e := ⟨_, rfl⟩
      refine qG (.bool e97) (nU e97 (.bool e102)) (by cases e97 <;> first | exact gA | exact gB | exact .inl ⟨rfl, r_pick (v := .bool e102) rfl (by rw [← he102]; cases e98 <;> rfl)⟩) ?_
      obtain ⟨e103, he103⟩ : ∃ e, (e97 || e102) = e := ⟨_, rfl⟩
      refine qV (r_pick (v := .bool e103) rfl (by rw [← he103]; cases e97 <;> rfl)) ?_
      refine WpL_nil ?_
      subst he103
      subst he102
      subst he101
      subst he100
      subst he99
      subst he98
      subst he97
      subst he96
      subst he95
      subst he94
      subst he93
      subst he92
      subst he91
      refine Wp_cond rfl (fun h6 => ?_) (fun h6 => ?_)
      ·have kh6 := h6
       simp at h6
       refine Wp_seq_region ?_
       refine qA _ rfl ?_
       refine WpL_nil (Wp_ret (thn_ret ?_))
       refine fin_tmp Tryz.results40 (v := (.int .i64 1)) rfl ?_
       exact ⟨int_eq (by by_cases h66 : t.kind = 6; rw [if_pos h66, if_pos (by omega)]; rw [if_neg h66, if_pos (by omega), if_pos (by omega)]), E⟩
      ·have kh6 := h6
       simp at h6
       refine Wp_skip (thn_normal (Wp_seq_region ?_))
       refine qA _ rfl ?_
       refine WpL_nil (Wp_ret ?_)
       refine fin_tmp Tryz.results40 (v := (.int .i64 0)) rfl ?_
       exact ⟨int_eq (by by_cases h66 : t.kind = 6; rw [if_pos h66, if_neg (by omega)]; rw [if_neg h66]; by_cases h9 : t.kind = 9; rw [if_pos h9, if_neg (by omega)]; rw [if_neg h9]), E⟩
end Go.Proofs
