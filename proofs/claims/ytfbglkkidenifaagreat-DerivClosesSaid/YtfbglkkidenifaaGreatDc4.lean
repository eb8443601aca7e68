/- Contracts and plain lemmas, part 4. -/
import Derived.Tactics
import Derived.Deep.Quiet
import Derived.Laws.AppendOwn
import Derived.KernelRfl
import Derived.Laws.Entries
import Derived.Laws.Build
import Derived.Below
import Derived.RowKit3
import Derived.StillTail
import Derived.Sort.Grow
import Derived.Deep.Draws
import Derived.Test.YtfbglkkidenifaaGreatChecked
import Derived.Laws.StructEq
import Derived.Shelf.SlSortCmp.WholeK
import Derived.Shelf.Sort.Plain
import Derived.Shelf.Slices.CompactI
import Derived.Test.YtfbglkkidenifaaGreatProg
import Derived.MapKept
import Derived.Laws.BytesArg
import Derived.Test.YtfbglkkidenifaaGreatDc3
namespace Go.Proofs
open Go Go.Eng Go.Sort
section
variable {P : Program} {N : Nat} {Q : Post} {σ : Env} {w : World} {K : Env → World → Prop} {ops : Array Oper} {rest : List Oper} {d : Nat} {ty : TypeId} {pos : String} {af : Array Edge} {t : TypeId} {x y : Operand}
theorem s_make {e bytes n : Nat} {z : Value} (hN : d < N) (hu : P.underlying t = some (.slice e)) (hsz : Siz P e 1) (hby : Byt P e bytes) (hz : Zer P e z) (hz1 : z.cells = #[z]) (hx : ev σ x = .int .i64 ((n : Nat) : Int)) (hy : ev σ y = .int .i64 ((n : Nat) : Int)) (hb : n * bytes ≤ 140737488355328) (hn : n ≤ 140737488355328)
    (k : ∀ b w', New w w' b (List.replicate n z).toArray e → WpL P N ops K Q rest (upd σ d (.slice (some ⟨b, 0, none⟩) n n)) w') : WpL P N ops K Q (⟨some d, .makeSlice t x y, ty, pos, af, none⟩ :: rest) σ w := by
  refine WpL_val (v := .slice (some ⟨w.heap.size, 0, none⟩) n n) (w' := { w with heap := w.heap.push (.cells (List.replicate n z).toArray e (0, 0)) }) rfl rfl hN ?_ (k _ _ (New.mk' w _ e))
  unfold Siz at hsz; unfold Byt at hby; unfold Zer at hz
  cases hi : P.info? e with
  | none => rw [hi] at hsz; simp at hsz
  | some i =>
  rw [hi] at hsz hby hz
  simp at hsz hby hz
  have h := run_make (P := P) w t e i _ hu hi hz .i64 .i64 ((n : Nat) : Int) ((n : Nat) : Int) (by omega) (Int.le_refl _) (by rw [hby]; have : ((bytes : Nat) : Int) * ((n : Nat) : Int) = (((n * bytes : Nat) : Nat) : Int) := (by rw [Int.natCast_mul, Int.mul_comm]); rw [this]; omega) (by omega)
  have hc : madeCells z.cells (n * i.size) = (List.replicate n z).toArray := by
    rw [hsz, Nat.mul_one, hz1]
    apply Array.ext'
    simp only [madeCells]
    apply List.ext_getElem?
    intro j
    simp only [Array.toList_map, List.getElem?_map, List.getElem?_replicate]
    rcases Nat.lt_or_ge j n with hj | hj
    · have h1 : (Array.range n).toList[j]? = some j := by simp [hj]
      rw [h1, if_pos hj]
      simp [Nat.mod_one]
    · have h1 : (Array.range n).toList[j]? = none := by simp; omega
      rw [h1, if_neg (by omega)]; rfl
  simp only [Int.toNat_natCast, hc] at h
  simp only [execOp, hx, hy, Sem.run_bind, h, Result.andThen_ok]
  rfl
/-- A slice without elements and with room for n is made. -/
theorem s_makeOwn {e bytes n size base : Nat} {z : Value} (hN : d < N) (hu : P.underlying t = some (.slice e)) (hsz : Siz P e size) (hby : Byt P e bytes) (hz : Zer P e z) (hx : ev σ x = .int .i64 0) (hy : ev σ y = .int .i64 ((n : Nat) : Int)) (hb : n * bytes ≤ 140737488355328) (hn : n ≤ 140737488355328) (hbase : base ≤ w.heap.size)
    (k : ∀ w', Ext w w' → w'.ownsRow base e size (.slice (some ⟨w.heap.size, 0, none⟩) 0 n) 0 [] → WpL P N ops K Q rest (upd σ d (.slice (some ⟨w.heap.size, 0, none⟩) 0 n)) w') : WpL P N ops K Q (⟨some d, .makeSlice t x y, ty, pos, af, none⟩ :: rest) σ w := by
  unfold Siz at hsz; unfold Byt at hby; unfold Zer at hz
  cases hi : P.info? e with
  | none => rw [hi] at hsz; simp at hsz
  | some i =>
  rw [hi] at hsz hby hz
  simp at hsz hby hz
  have h := run_make (P := P) w t e i _ hu hi hz .i64 .i64 0 ((n : Nat) : Int) (by omega) (by omega) (by rw [hby]; have : ((bytes : Nat) : Int) * ((n : Nat) : Int) = (((n * bytes : Nat) : Nat) : Int) := (by rw [Int.natCast_mul, Int.mul_comm]); rw [this]; omega) (by omega)
  have hnew := New.mk' w (madeCells z.cells (n * size)) e
  refine WpL_val (v := .slice (some ⟨w.heap.size, 0, none⟩) 0 n) (w' := { w with heap := w.heap.push (.cells (madeCells z.cells (n * size)) e (0, 0)) }) rfl rfl hN ?_ (k _ hnew.ext ⟨by simp, .inr ⟨w.heap.size, n, madeCells z.cells (n * size), rfl, hbase, hnew.blk, Nat.zero_le _, by simp only [maxLen]; omega, by simp [madeCells], by simp⟩⟩)
  simp only [Int.toNat_natCast, hsz] at h
  simp only [execOp, hx, hy, Sem.run_bind, h, Result.andThen_ok]
  rfl
theorem r_bytesStr {dst : Option Tmp} {g : Option (Nat × Bool)} {s : TypeId} {e : TypeId} {b n c : Nat} {l : List Int} (hs : P.underlying s = some (.slice e)) (he : P.underlying e = some (.int .u8)) (ht : P.underlying t = some .string) (hx : ev σ x = .slice (some ⟨b, 0, none⟩) n c)
  (hB : Blk w b (l.map (Value.int .u8)).toArray e) (hl : l.length = n) : (execOp (ev σ) ⟨dst, .convert s t x, ty, pos, af, g⟩).run P w = .ok (.value (.string (strOfNums l))) w := by
 have h := run_convert_bytes_arg (P := P) w s e hs he b 0 n c l hl (fun i hi => by
  rw [Nat.zero_add]
  have h1 : l[i]? = some l[i] := List.getElem?_eq_getElem (by omega)
  have h2 := hB.cell (o := i) (v := .int .u8 (l.getD i 0)) (by simp [List.getD, h1])
  exact h2) t ht
 simp only [execOp, hx, Sem.run_bind, h, Result.andThen_ok]
 rfl
end
def appF (base e size n : Nat) (xs : List Value) (old : Value) (hs : Nat) : Fct := fun v w => (∃ a c, v = .slice a n c) ∧ w.ownsRow base e size v n xs ∧ ∀ k, v.ownBlock = some k → old.ownBlock = some k ∨ hs ≤ k
theorem appF_ext (base e size n : Nat) (xs : List Value) (old : Value) (hs : Nat) : ∀ v w w', Ext w w' → appF base e size n xs old hs v w → appF base e size n xs old hs v w' := by
 rintro v w w' e ⟨h1, h2, h3⟩
 exact ⟨h1, own_ext h2 e, h3⟩
/-- The append to a slice of one's own, in a region that draws its order. -/
theorem DoesT_append {P : Program} {N : Nat} {σ : Env} {w : World} {dst : Option Tmp} {ty : TypeId} {pos : String} {af : Array Edge} {g : Option (Nat × Bool)} {M : Nat → Prop} {t : TypeId} {s x : Operand} {base e size bytes n m c bx ox hs : Nat} {z v : Value} {xs news : List Value} (hu : P.underlying t = some (.slice e)) (hsz : Siz P e size) (hby : Byt P e bytes) (hz : Zer P e z) (hzs : z.cells.size = size) (h0 : 0 < size)
    (he : ev σ s = v) (hown : w.ownsRow base e size v n xs) (hx : ev σ x = .slice (some ⟨bx, ox, none⟩) m c) (hl : news.length = m * size) (hnews : CellsAt w bx ox news) (h1 : ∀ u ∈ news, u.oneCell' = true)
    (h63 : n + m ≤ maxLen) (hbytes : (n + m) * bytes ≤ 140737488355328) (hbase : base ≤ w.heap.size) (hM : ∀ y, v.ownBlock = some y → M y) (hhs : hs ≤ w.heap.size) :
    DoesT M P N ⟨dst, .call ⟨.builtin .append, #[s, x], #[t, t]⟩, ty, pos, af, g⟩ (appF base e size (n + m) (xs ++ news) v hs) σ w := by
  unfold Siz at hsz; unfold Byt at hby; unfold Zer at hz
  cases hi : P.info? e with
  | none => rw [hi] at hsz; simp at hsz
  | some i =>
  rw [hi] at hsz hby hz
  simp at hsz hby hz
  have hcells : ∀ j u, news[j]? = some u → w.cell? ((⟨bx, ox, none⟩ : Addr).add j) = some u := fun j u hj => by rw [Addr.add_lit]; exact hnews j u hj
  obtain ⟨v', w', hr, h2, h3, _⟩ := run_append_own (P := P) w base t ty e i z size bytes hu hi hz hsz hby hzs h0 v n xs hown ⟨bx, ox, none⟩ m c news hl hcells h1 h63 hbytes hbase
  have hC : Chg (fun x => v.ownBlock = some x) w w' := ⟨h3.os, h3.tape, h3.output, append_drawn (P := P) hu hi hz hsz hby hown hl hcells h1 h63 hbytes hr, h3.size, fun b hb hn => h3.block b hb (fun h => hn h.symm)⟩
  have hW := append_where (P := P) hu hi hz hsz hby hzs h0 hown hl hcells h1 h63 hbytes hr
  refine DoesT_val (v := v') (w' := w') (by simp [execOp, resolve, invoke, builtin, he, hx, hr]) (hC.mono fun y _ hy => hM y hy) ⟨own_form h2, h2, fun k hk => ?_⟩
  rcases hW k hk with h4 | h4
  · exact .inl h4
  · exact .inr (Nat.le_trans hhs h4)
/-- A slice of one new element, whose cells are known. -/
def litF (e : Nat) (c : Array Value) (hs : Nat) : Fct := fun v w => ∃ b, v = .slice (some ⟨b, 0, none⟩) 1 1 ∧ Blk w b c e ∧ hs ≤ b
theorem litF_ext (e : Nat) (c : Array Value) (hs : Nat) : ∀ v w w', Ext w w' → litF e c hs v w → litF e c hs v w' := by
 rintro v w w' x ⟨b, h1, h2, h3⟩
 exact ⟨b, h1, Ext.keep x h2, h3⟩
theorem DoesT_lit {P : Program} {N : Nat} {σ : Env} {w : World} {dst : Option Tmp} {ty : TypeId} {pos : String} {af : Array Edge} {g : Option (Nat × Bool)} {M : Nat → Prop} {t e n hs : Nat} {x : Operand} {v z : Value} {c : Array Value} (hu : P.underlying t = some (.slice e)) (hsz : Siz P e n) (hz : Zer P e z) (hx : ev σ x = v)
  (hl : ¬ (1 * n > 2 ^ 24)) (h0 : 1 * n ≠ 0) (hc : Instr.fill (fun i => some (i * n, n)) ((Array.range (1 * n)).map (z.cells[· % z.cells.size]!)) [(0, v)] = some c) (hhs : hs ≤ w.heap.size) :
  DoesT M P N ⟨dst, .buildSlice t 1 #[(0, x)], ty, pos, af, g⟩ (litF e c hs) σ w := by
 have hn := New.mk' w c e
 exact DoesT_val (run_buildSlice (parts := [(0, x)]) (ps := [(0, v)]) (by simp only [List.map, hx]) hu hsz hz hl h0 hc) (Ext.chg hn.ext) ⟨_, rfl, hn.blk, hhs⟩
theorem own_lit1 {w : World} {b e base : Nat} {v : Value} (h : Blk w b #[v] e) (hb : base ≤ b) : w.ownsRow base e 1 (.slice (some ⟨b, 0, none⟩) 1 1) 1 [v] :=
 ⟨rfl, .inr ⟨b, 1, #[v], rfl, hb, h, Nat.le_refl _, by decide, rfl, rfl⟩⟩
structure LSt (To e sz : Nat) (w : World) (base : Nat) (vo : Value) (vs : List Value) (ns : List (Nat × List Value)) : Prop where
 o : w.ownsRow base To 1 vo ns.length vs
 len : vs.length = ns.length
 inn : ∀ (i : Nat) v p, vs[i]? = some v → ns[i]? = some p → w.ownsRow base e sz v p.1 p.2
 apo : ∀ (i : Nat) v b, vs[i]? = some v → v.ownBlock = some b → vo.ownBlock ≠ some b
theorem LSt.start (To e sz : Nat) (w : World) (base : Nat) : LSt To e sz w base (.slice none 0 0) [] [] :=
 ⟨World.ownsRow_nil _ _ _ _, rfl, fun i v p h => by simp at h, fun i v b h => by simp at h⟩
theorem LSt.chg {M : Nat → Prop} {To e sz base : Nat} {w w' : World} {vo : Value} {vs : List Value} {ns : List (Nat × List Value)} (h : LSt To e sz w base vo vs ns) (c : Chg M w w') (hM : ∀ b, base ≤ b → b < w.heap.size → ¬ M b) : LSt To e sz w' base vo vs ns :=
 ⟨own_chg h.o c fun k hk => hM k (h.o.lt k hk).1 (h.o.lt k hk).2, h.len, fun i v l hv hl => own_chg (h.inn i v l hv hl) c fun k hk => hM k ((h.inn i v l hv hl).lt k hk).1 ((h.inn i v l hv hl).lt k hk).2, h.apo⟩
theorem LSt.ext {To e sz base : Nat} {w w' : World} {vo : Value} {vs : List Value} {ns : List (Nat × List Value)} (h : LSt To e sz w base vo vs ns) (c : Ext w w') : LSt To e sz w' base vo vs ns := h.chg c fun _ _ _ f => f
theorem LSt.on {To e sz base n : Nat} {w : World} {vo : Value} {vs : List Value} {ns : List (Nat × List Value)} (h : LSt To e sz w base vo vs ns) (hn : n = ns.length) : w.ownsRow base To 1 vo n vs := by subst hn; exact h.o
/-- A slice that was made later is appended. -/
theorem LSt.push {To e sz base bu n m : Nat} {w w' : World} {vo v' u : Value} {vs us : List Value} {ns : List (Nat × List Value)} (h : LSt To e sz w base vo vs ns) (hn : n = ns.length) (hu : w.ownsRow bu e sz u m us) (hb : base ≤ bu) (hbu : ∀ k, vo.ownBlock = some k → k < bu)
  (Ov : w'.ownsRow base To 1 v' (n + 1) (vs ++ [u])) (Cv : Chg (fun x => vo.ownBlock = some x) w w') (Wv : ∀ k, v'.ownBlock = some k → vo.ownBlock = some k ∨ w.heap.size ≤ k) : LSt To e sz w' base v' (vs ++ [u]) (ns ++ [(m, us)]) := by
 have hold : ∀ (i : Nat) v, (vs ++ [u])[i]? = some v → vs[i]? = some v ∨ (i = vs.length ∧ v = u) := by
  intro i v hv
  rcases Nat.lt_or_ge i vs.length with h1 | h1
  ·left; rwa [List.getElem?_append_left h1] at hv
  ·right
   rw [List.getElem?_append_right h1] at hv
   have h2 := lt_of_get hv
   simp at h2
   obtain rfl : i = vs.length := by omega
   simp at hv
   exact ⟨rfl, hv.symm⟩
 have hun : ∀ b, u.ownBlock = some b → vo.ownBlock ≠ some b := fun b hb' e' => by
  have h1 := hbu b e'
  have h2 := (hu.lt b hb').1
  omega
 refine ⟨by rw [List.length_append, ← hn]; exact Ov, by simp [h.len], ?_, ?_⟩
 ·intro i v p hv hp
  rcases hold i v hv with h1 | ⟨h1, rfl⟩
  ·rw [List.getElem?_append_left (by have := lt_of_get h1; have := h.len; omega)] at hp
   exact own_chg (h.inn i v p h1 hp) Cv fun k hk => h.apo i v k h1 hk
  ·rw [h1, h.len] at hp
   simp at hp
   subst hp
   exact own_low (own_chg hu Cv fun k hk => hun k hk) hb
 ·intro i v b hv hb1 hb2
  rcases hold i v hv with h1 | ⟨_, rfl⟩
  ·rcases Wv b hb2 with h2 | h2
   ·exact h.apo i v b h1 hb1 h2
   ·obtain ⟨p, hp⟩ := get_of_lt (l := ns) (i := i) (by have := lt_of_get h1; have := h.len; omega)
    have := ((h.inn i v p h1 hp).lt b hb1).2
    omega
  ·rcases Wv b hb2 with h2 | h2
   ·exact hun b hb1 h2
   ·have := (hu.lt b hb1).2; omega
theorem own_writeG {w w' : World} {base e size n cap g i : Nat} {xs : List Value} {cur : Array Value} {v : Value} (h : w.ownsRow base e size (.slice (some ⟨g, 0, none⟩) n cap) n xs) (hB : Blk w g cur e) (hi : i < n * size) (hB' : Blk w' g (cur.setIfInBounds i v) e) : w'.ownsRow base e size (.slice (some ⟨g, 0, none⟩) n cap) n (xs.set i v) := by
 rcases h.2 with ⟨h1, _⟩ | ⟨g', cap', cur', hv, hbg, hg, hnc, hcm, hcs, htake⟩
 ·simp at h1
 ·simp only [Value.slice.injEq, Option.some.injEq, Addr.mk.injEq, and_true] at hv
  obtain ⟨rfl, _, rfl⟩ := hv
  unfold Blk at hB hB'
  rw [hB] at hg
  simp only [Option.some.injEq, Obj.cells.injEq, and_true] at hg
  obtain ⟨rfl, _⟩ := hg
  refine ⟨by simpa using h.1, .inr ⟨g, cap, _, rfl, hbg, hB', hnc, hcm, by simpa using hcs, ?_⟩⟩
  rw [← htake, Array.toList_setIfInBounds, List.take_set]
/-- The same, and no two members share a block: a member may grow. -/
structure GSt (To e sz : Nat) (w : World) (base : Nat) (vo : Value) (vs : List Value) (ns : List (Nat × List Value)) : Prop where
 l : LSt To e sz w base vo vs ns
 ap : ∀ (i j : Nat) v u b, vs[i]? = some v → vs[j]? = some u → v.ownBlock = some b → u.ownBlock = some b → i = j
theorem GSt.chg {M : Nat → Prop} {To e sz base : Nat} {w w' : World} {vo : Value} {vs : List Value} {ns : List (Nat × List Value)} (h : GSt To e sz w base vo vs ns) (c : Chg M w w') (hM : ∀ b, base ≤ b → b < w.heap.size → ¬ M b) : GSt To e sz w' base vo vs ns := ⟨h.l.chg c hM, h.ap⟩
theorem GSt.ext {To e sz base : Nat} {w w' : World} {vo : Value} {vs : List Value} {ns : List (Nat × List Value)} (h : GSt To e sz w base vo vs ns) (c : Ext w w') : GSt To e sz w' base vo vs ns := ⟨h.l.ext c, h.ap⟩
/-- One member grows, and its new slice is stored in the outer one. -/
theorem GSt.grow {To e sz : Nat} {w w' w2 : World} {base g cap k n m m' : Nat} {v v' : Value} {vs : List Value} {ns : List (Nat × List Value)} {xs xs' : List Value} {cur : Array Value} (h : GSt To e sz w base (.slice (some ⟨g, 0, none⟩) n cap) vs ns) (hn : n = ns.length) (hv : vs[k]? = some v) (hp : ns[k]? = some (m, xs))
  (Ov : w'.ownsRow base e sz v' m' xs') (Cv : Chg (fun x => v.ownBlock = some x) w w') (Wv : ∀ k, v'.ownBlock = some k → v.ownBlock = some k ∨ w.heap.size ≤ k)
  (hB : Blk w' g cur To) (P2 : Put w' w2 g (cur.setIfInBounds k v') To) : GSt To e sz w2 base (.slice (some ⟨g, 0, none⟩) n cap) (vs.set k v') (ns.set k (m', xs')) := by
 have hkl := lt_of_get hv
 have hgv : v.ownBlock ≠ some g := fun e => h.l.apo k v g hv e rfl
 have hgl := (h.l.o.lt g rfl).2
 have hv'g : v'.ownBlock ≠ some g := fun e => by rcases Wv g e with h1 | h1; exact hgv h1; omega
 have ho1 : w'.ownsRow base To 1 (.slice (some ⟨g, 0, none⟩) n cap) ns.length vs := own_chg h.l.o Cv fun q hq => by cases hq; exact hgv
 rw [← hn] at ho1
 have ho2 := own_writeG ho1 hB (i := k) (by have := h.l.len; omega) P2.blk
 have hset : ∀ (i : Nat) u, (vs.set k v')[i]? = some u → (i = k ∧ u = v') ∨ (i ≠ k ∧ vs[i]? = some u) := by
  intro i u hu
  rw [List.getElem?_set] at hu
  split at hu
  ·rename_i he
   exact .inl ⟨he.symm, (Option.some.inj hu).symm⟩
  ·rename_i he
   exact .inr ⟨fun e => he e.symm, hu⟩
 have hsome : ∀ (i : Nat) u, vs[i]? = some u → ∃ q, ns[i]? = some q := fun i u hu => get_of_lt (by have := lt_of_get hu; have := h.l.len; omega)
 have hne : ∀ (i : Nat) u b, i ≠ k → vs[i]? = some u → u.ownBlock = some b → v.ownBlock ≠ some b ∧ v'.ownBlock ≠ some b ∧ b ≠ g := by
  intro i u b hi hu hb
  have h1 : v.ownBlock ≠ some b := fun e => hi (h.ap i k u v b hu hv hb e)
  refine ⟨h1, fun e => ?_, fun e => h.l.apo i u b hu hb (by rw [e]; rfl)⟩
  rcases Wv b e with h2 | h2
  ·exact h1 h2
  ·obtain ⟨q, hq⟩ := hsome i u hu
   have := ((h.l.inn i u q hu hq).lt b hb).2
   omega
 refine ⟨⟨by rw [List.length_set, ← hn]; exact ho2, by simp [h.l.len], ?_, ?_⟩, ?_⟩
 ·intro i u q hu hq
  rcases hset i u hu with ⟨rfl, rfl⟩ | ⟨h1, h2⟩
  ·rw [List.getElem?_set, if_pos rfl, if_pos (by have := h.l.len; omega)] at hq
   have hq' := Option.some.inj hq
   subst hq'
   exact own_chg Ov P2.chg fun b hb e => hv'g (e ▸ hb)
  ·rw [List.getElem?_set, if_neg (fun e => h1 e.symm)] at hq
   exact own_chg (own_chg (h.l.inn i u q h2 hq) Cv fun b hb => (hne i u b h1 h2 hb).1) P2.chg fun b hb e => (hne i u b h1 h2 hb).2.2 e
 ·intro i u b hu hb
  rcases hset i u hu with ⟨rfl, rfl⟩ | ⟨h1, h2⟩
  ·intro e; cases e; exact hv'g hb
  ·exact h.l.apo i u b h2 hb
 ·intro i j u z b hu hz hb hb'
  rcases hset i u hu with ⟨rfl, rfl⟩ | ⟨h1, h2⟩ <;> rcases hset j z hz with ⟨rfl, rfl⟩ | ⟨h3, h4⟩
  ·rfl
  ·exact absurd hb (hne j z b h3 h4 hb').2.1
  ·exact absurd hb' (hne i u b h1 h2 hb).2.1
  ·exact h.ap i j u z b h2 h4 hb hb'
end Go.Proofs
namespace Go.Proofs
open Go Go.Eng Go.Sort
def InO (vo : Value) (w : World) (u : Value) (l : List Sp) : Prop := (∃ a c, u = .slice a l.length c) ∧ SlIn (fun b => vo.ownBlock ≠ some b) w 2 u (l.map spanV)
theorem own_ino {w : World} {base : Nat} {vo v : Value} {l : List Sp} (h : w.ownsRow base TSp 2 v l.length (l.map spanV).flatten) (hb : ∀ b, v.ownBlock = some b → vo.ownBlock ≠ some b) : InO vo w v l := by
 obtain ⟨a, c, rfl⟩ := own_form h
 refine ⟨⟨a, c, rfl⟩, ?_⟩
 rcases Nat.eq_zero_or_pos l.length with h0 | h0
 ·have := List.eq_nil_of_length_eq_zero h0
  subst this
  exact SlIn.nil _ _ _ _ _
 ·have hS : OwnS w base (.slice a l.length c) l := ⟨⟨a, c, rfl⟩, h⟩
  have hat := hS.at
  obtain ⟨g, rfl, _, _⟩ := own_cells h h0
  exact SlIn.mk hat (hb g rfl)
structure JSt (w : World) (base : Nat) (vo : Value) (us : List Value) (outs cs : List (List Sp)) (k : Nat) : Prop where
 o : w.ownsRow base TSs 1 vo outs.length us
 len : us.length = outs.length
 cl : cs.length = k
 don : ∀ (i : Nat) u c, i < k → us[i]? = some u → cs[i]? = some c → InO vo w u c
 rst : ∀ (i : Nat) u l, k ≤ i → us[i]? = some u → outs[i]? = some l → InO vo w u l
 jn : ∀ (i : Nat) q c, outs[i]? = some q → cs[i]? = some c → JoinOf q c
theorem CSt.join {w : World} {base : Nat} {vo : Value} {vs : List Value} {outs : List (List Sp)} (h : CSt w base vo vs outs) : JSt w base vo vs outs [] 0 :=
 ⟨h.o, h.len, rfl, fun i u c hi => absurd hi (Nat.not_lt_zero _), fun i u l _ hu hl => own_ino (h.inn i u l hu hl) fun b hb => h.apo i u b hu hb, fun i q c _ hc => by simp at hc⟩
theorem InO.ext {vo u : Value} {w w' : World} {l : List Sp} (h : InO vo w u l) (e : Ext w w') : InO vo w' u l := ⟨h.1, h.2.chg e fun _ _ f => f⟩
theorem JSt.ext {w w' : World} {base k : Nat} {vo : Value} {us : List Value} {outs cs : List (List Sp)} (h : JSt w base vo us outs cs k) (e : Ext w w') : JSt w' base vo us outs cs k :=
 ⟨own_ext h.o e, h.len, h.cl, fun i u c hi hu hc => (h.don i u c hi hu hc).ext e, fun i u l hi hu hl => (h.rst i u l hi hu hl).ext e, h.jn⟩
theorem JSt.step {w w2 : World} {base n1 g cap k n : Nat} {u' : Value} {us : List Value} {outs cs : List (List Sp)} {q c' : List Sp} {cur : Array Value} (h : JSt w base (.slice (some ⟨g, 0, none⟩) n cap) us outs cs k) (hn : n = outs.length) (hq : outs[k]? = some q)
  (hO : OwnS w n1 u' c') (hn1 : g < n1) (hj : JoinOf q c') (hB : Blk w g cur TSs) (P2 : Put w w2 g (cur.setIfInBounds k u') TSs) : JSt w2 base (.slice (some ⟨g, 0, none⟩) n cap) (us.set k u') outs (cs ++ [c']) (k + 1) := by
 have hkl := lt_of_get hq
 have hin : InO (.slice (some ⟨g, 0, none⟩) n cap) w u' c' := own_ino hO.2 fun b hb e => by cases e; have := (hO.2.lt g hb).1; omega
 have hput : ∀ u l, InO (.slice (some ⟨g, 0, none⟩) n cap) w u l → InO (.slice (some ⟨g, 0, none⟩) n cap) w2 u l := fun u l h1 => ⟨h1.1, h1.2.chg P2.chg fun b hb e => hb (by rw [e]; rfl)⟩
 have ho := h.o
 rw [← hn] at ho
 have ho2 := own_write ho hB (i := k) (by omega) P2.blk
 have hset : ∀ (i : Nat) u, (us.set k u')[i]? = some u → (i = k ∧ u = u') ∨ (i ≠ k ∧ us[i]? = some u) := by
  intro i u hu
  rw [List.getElem?_set] at hu
  split at hu
  ·rename_i he
   split at hu
   ·exact .inl ⟨he.symm, (Option.some.inj hu).symm⟩
   ·cases hu
  ·rename_i he
   exact .inr ⟨fun e => he e.symm, hu⟩
 refine ⟨by rw [← hn]; exact ho2, by simp [h.len], by simp [h.cl], ?_, ?_, ?_⟩
 ·intro i u c hi hu hc
  rcases hset i u hu with ⟨rfl, rfl⟩ | ⟨h1, h2⟩
  ·rw [List.getElem?_append_right (by have := h.cl; omega), h.cl, Nat.sub_self] at hc
   simp at hc
   subst hc
   exact hput _ _ hin
  ·rw [List.getElem?_append_left (by have := h.cl; omega)] at hc
   exact hput _ _ (h.don i u c (by omega) h2 hc)
 ·intro i u l hi hu hl
  rcases hset i u hu with ⟨rfl, rfl⟩ | ⟨h1, h2⟩
  ·omega
  ·exact hput _ _ (h.rst i u l (by omega) h2 hl)
 ·intro i r c hr hc
  rcases Nat.lt_or_ge i k with h1 | h1
  ·rw [List.getElem?_append_left (by have := h.cl; omega)] at hc
   exact h.jn i r c hr hc
  ·rw [List.getElem?_append_right (by have := h.cl; omega)] at hc
   have h2 := lt_of_get hc
   simp at h2
   have h3 := h.cl
   obtain rfl : i = k := by omega
   rw [h3, Nat.sub_self] at hc
   simp at hc
   subst hc
   rw [hq] at hr
   cases hr
   exact hj
theorem JSt.done {w : World} {base k : Nat} {vo : Value} {us : List Value} {outs cs : List (List Sp)} (h : JSt w base vo us outs cs k) (hk : k = outs.length) : SpssAt w vo cs := by
 refine ⟨us, ?_, by rw [h.len, h.cl, hk], fun i u l hu hl => (h.don i u l (by have := lt_of_get hl; have := h.cl; omega) hu hl).2.at⟩
 have ho := h.o
 rw [show us = (us.map fun x => [x]).flatten by simp [List.flatten_eq_flatMap, List.flatMap_map]] at ho
 exact own_slat ho (by intro r hr; simp only [List.mem_map] at hr; obtain ⟨x, _, rfl⟩ := hr; rfl) (by simp [h.len]) (by decide)
theorem join_ex (o : List Sp) : ∃ c, JoinOf o c := by
 let le : Sp → Sp → Bool := fun s t => decide (s.1 ≤ t.1)
 refine ⟨_, o.mergeSort le, List.mergeSort_perm o le, ?_, rfl⟩
 have := List.pairwise_mergeSort (le := le) (fun a b c h1 h2 => by simp [le] at *; omega) (fun a b => by simp [le]; omega) o
 exact this.imp fun h => by simpa [le] using h
theorem joins_ex : ∀ outs : List (List Sp), ∃ cs : List (List Sp), cs.length = outs.length ∧ ∀ (k : Nat) o c, outs[k]? = some o → cs[k]? = some c → JoinOf o c
  | [] => ⟨[], rfl, fun k o c h => by simp at h⟩
  | o :: outs => by
    obtain ⟨c, hc⟩ := join_ex o
    obtain ⟨cs, h1, h2⟩ := joins_ex outs
    refine ⟨c :: cs, by simp [h1], fun k q r hq hr => ?_⟩
    cases k with
    | zero => simp at hq hr; subst hq; subst hr; exact hc
    | succ k => exact h2 k q r (by simpa using hq) (by simpa using hr)
theorem cls_large {ll : List (List Sp)} {p : List Int} {ks : List (List Bool)} {outs : List (List Sp)} {o c : List Sp} {k : Nat} (h : GInv ll p p.length ks outs) (hp : PcsOf ll.flatten p) (ho : outs[k]? = some o) (hj : JoinOf o c) (hc : 16 < c.length) : ∃ cs, clsL ll cs ∧ largeB cs := by
 obtain ⟨cs, h1, h2⟩ := joins_ex outs
 refine ⟨cs, h.done hp h1 h2, .inl ?_⟩
 obtain ⟨d, hd⟩ := get_of_lt (l := cs) (i := k) (by have := lt_of_get ho; omega)
 refine ⟨d, List.mem_of_getElem? hd, ?_⟩
 have hv := (h.ok k o ho).1
 rw [IsSet.eq (IsSet.join (h2 k o d ho hd) hv).1 (IsSet.join hj hv).1 fun _ _ _ => rfl]
 exact hc
end Go.Proofs
namespace Go.Proofs
open Go Go.Eng Go.Sort
def isPart (ll : List (List Sp)) : Prop := ∀ r, 0 ≤ r → r ≤ 1114111 → ll.countP (fun l => inS l r) = 1
def headLo : List Sp → Int
  | [] => -1
  | s :: _ => s.1
def lastLo (ll : List (List Sp)) : Nat → Int
  | 0 => -1
  | k + 1 => headLo (ll.getD k [])
def hdOk (ll : List (List Sp)) (k : Nat) : Prop := ll.getD k [] ≠ [] ∧ lastLo ll k < headLo (ll.getD k [])
def headsP (ll : List (List Sp)) : Prop := ∀ k, k < ll.length → hdOk ll k
open Classical in
noncomputable def partE (ll : List (List Sp)) : Int := if 16 < ll.length then 2 else if badE ll ≠ 0 then badE ll else if headsP ll ∧ isPart ll then 0 else 3
/-- Each rune has the marks of the piece that it lies in. -/
theorem pcs_cover {ll : List (List Sp)} {p : List Int} (hp : PcsOf ll.flatten p) (hok : ∀ s ∈ ll.flatten, vSp s) : ∀ i, i ≤ p.length → ∀ r, 0 ≤ r → r < nx p i → ∃ k lo, p[k]? = some lo ∧ lo ≤ r ∧ r < nx p (k + 1) ∧ markL ll r = markL ll lo
  | 0, _, r, h0, h1 => by rw [pcs_first hp hok] at h1; omega
  | i + 1, hi, r, h0, h1 => by
    obtain ⟨lo, hlo⟩ := get_of_lt (l := p) (i := i) (by omega)
    rcases ltLe r lo with h2 | h2
    · exact pcs_cover hp hok i (by omega) r h0 (by rw [nx_at hlo]; exact h2)
    · exact ⟨i, lo, hlo, h2, h1, same_piece hp hok hlo h2 h1⟩
theorem pcs_some {ll : List (List Sp)} {p : List Int} (hp : PcsOf ll.flatten p) (hok : ∀ s ∈ ll.flatten, vSp s) {r : Int} (h0 : 0 ≤ r) (h1 : r ≤ 1114111) : ∃ lo ∈ p, markL ll r = markL ll lo := by
 obtain ⟨k, lo, h2, _, _, h3⟩ := pcs_cover hp hok p.length (Nat.le_refl _) r h0 (by unfold nx; rw [List.getElem?_eq_none (Nat.le_refl _)]; simp; omega)
 exact ⟨lo, List.mem_of_getElem? h2, h3⟩
def leastL (ll : List (List Sp)) : List Int := ll.map headLo
end Go.Proofs
namespace Go.Proofs
open Go Go.Eng Go.Sort
theorem nodup_le {α : Type} [DecidableEq α] : ∀ {l m : List α}, l.Nodup → (∀ x ∈ l, x ∈ m) → l.length ≤ m.length
  | [], _, _, _ => Nat.zero_le _
  | x :: l, m, hd, h => by
    have hd' := List.nodup_cons.1 hd
    have hx := h x List.mem_cons_self
    have h1 := nodup_le (l := l) (m := m.erase x) hd'.2 fun y hy => (List.mem_erase_of_ne (show y ≠ x from fun e => hd'.1 (by rw [← e]; exact hy))).2 (h y (List.mem_cons_of_mem _ hy))
    rw [List.length_erase_of_mem hx] at h1
    have := List.length_pos_of_mem hx
    simp only [List.length_cons]
    omega
/-- The marks in the order of their first place. -/
structure FirstAt (l : List (List Bool)) (ks : List (List Bool)) (js : List Nat) : Prop where
 len : js.length = ks.length
 lt : js.Pairwise (· < ·)
 at' : ∀ (k j : Nat) key, js[k]? = some j → ks[k]? = some key → l[j]? = some key ∧ ∀ i, i < j → l[i]? ≠ some key
theorem first_at (l : List (List Bool)) : ∃ js, FirstAt l (firsts l) js ∧ (∀ j ∈ js, j < l.length) ∧ ∀ m ∈ l, m ∈ firsts l := by
  suffices h : ∀ n, n ≤ l.length → ∃ js, FirstAt (l.take n) (firsts (l.take n)) js ∧ (∀ j ∈ js, j < n) ∧ ∀ m ∈ l.take n, m ∈ firsts (l.take n) by
    have := h l.length (Nat.le_refl _)
    rwa [List.take_length] at this
  intro n
  induction n with
  | zero => intro _; exact ⟨[], ⟨rfl, List.Pairwise.nil, fun k j key h => by simp at h⟩, fun j h => (by cases h), fun m h => (by simp at h)⟩
  | succ n ih =>
    intro hn
    obtain ⟨js, hF, hb, hm⟩ := ih (by omega)
    obtain ⟨x, hx⟩ := get_of_lt (l := l) (i := n) (by omega)
    rw [take_snoc hx, firsts_snoc]
    have hlen : (l.take n).length = n := by simp; omega
    have hold : ∀ (i : Nat) key, i < n → ((l.take n ++ [x])[i]? = some key ↔ (l.take n)[i]? = some key) := fun i key hi => by rw [List.getElem?_append_left (by omega)]
    unfold addF
    split
    · rename_i hmem
      refine ⟨js, ⟨hF.len, hF.lt, fun k j key h1 h2 => ?_⟩, fun j hj => by have := hb j hj; omega, fun m h => ?_⟩
      · have hjn := hb j (List.mem_of_getElem? h1)
        obtain ⟨h3, h4⟩ := hF.at' k j key h1 h2
        exact ⟨(hold j key hjn).2 h3, fun i hi h5 => h4 i hi ((hold i key (by omega)).1 h5)⟩
      · rcases List.mem_append.1 h with h1 | h1
        · exact hm m h1
        · rw [List.mem_singleton] at h1; rw [h1]; exact hmem
    · rename_i hmem
      refine ⟨js ++ [n], ⟨by simp [hF.len], ?_, fun k j key h1 h2 => ?_⟩, fun j hj => ?_, fun m h => ?_⟩
      · rw [List.pairwise_append]
        exact ⟨hF.lt, List.pairwise_singleton _ _, fun a ha b hb' => by rw [List.mem_singleton] at hb'; subst hb'; exact hb a ha⟩
      · rcases Nat.lt_or_ge k js.length with h3 | h3
        · rw [List.getElem?_append_left h3] at h1
          rw [List.getElem?_append_left (by rw [← hF.len]; exact h3)] at h2
          have hjn := hb j (List.mem_of_getElem? h1)
          obtain ⟨h4, h5⟩ := hF.at' k j key h1 h2
          exact ⟨(hold j key hjn).2 h4, fun i hi h6 => h5 i hi ((hold i key (by omega)).1 h6)⟩
        · rw [List.getElem?_append_right h3] at h1
          rw [List.getElem?_append_right (by rw [← hF.len]; exact h3)] at h2
          have h4 := lt_of_get h1
          simp at h4
          rw [show k - js.length = 0 by omega] at h1
          rw [show k - (firsts (l.take n)).length = 0 by have := hF.len; omega] at h2
          simp at h1 h2
          subst h1; subst h2
          refine ⟨by rw [List.getElem?_append_right (by omega), hlen, Nat.sub_self]; rfl, fun i hi h5 => hmem (hm _ (List.mem_of_getElem? ((hold i _ hi).1 h5)))⟩
      · rcases List.mem_append.1 hj with h1 | h1
        · have := hb j h1; omega
        · rw [List.mem_singleton] at h1; omega
      · rcases List.mem_append.1 h with h1 | h1
        · exact List.mem_append_left _ (hm m h1)
        · exact List.mem_append_right _ h1
theorem head_least {c : List Sp} {m : Int} (h : Canon c) (hm : inS c m = true) (hl : ∀ r, 0 ≤ r → r < m → inS c r = false) : c ≠ [] ∧ headLo c = m := by
  cases c with
  | nil => cases hm
  | cons s l =>
    refine ⟨fun e => (by cases e), ?_⟩
    have hv := h.head
    unfold vSp at hv
    show s.1 = m
    rcases Int.lt_trichotomy s.1 m with h1 | h1 | h1
    · have := hl s.1 (by omega) h1
      have h2 : inS (s :: l) s.1 = true := inS_iff.2 ⟨s, List.mem_cons_self, Int.le_refl _, hv.2.1⟩
      rw [this] at h2; cases h2
    · exact h1
    · rw [canon_below h h1] at hm; cases hm
structure Parted (ll cs : List (List Sp)) : Prop where
 can : ∀ c ∈ cs, Canon c
 part : isPart cs
 heads : headsP cs
 mark : ∀ (k : Nat) c r, cs[k]? = some c → 0 ≤ r → r ≤ 1114111 → (inS c r = true ↔ markL ll r = markL ll (headLo c))
 low : ∀ c ∈ cs, 0 ≤ headLo c ∧ headLo c ≤ 1114111
 inj : ∀ (i j : Nat) c d, cs[i]? = some c → cs[j]? = some d → markL ll (headLo c) = markL ll (headLo d) → i = j
theorem clsL.parted {ll cs : List (List Sp)} (h : clsL ll cs) (hok : ∀ s ∈ ll.flatten, vSp s) : Parted ll cs := by
  obtain ⟨p, hp, hl, hm⟩ := h
  obtain ⟨js, hF, hb, hall⟩ := first_at (p.map (markL ll))
  have hset : ∀ (k : Nat) c, cs[k]? = some c → ∃ key j lo, (firsts (p.map (markL ll)))[k]? = some key ∧ js[k]? = some j ∧ p[j]? = some lo ∧ markL ll lo = key ∧ IsSet c (fun r => decide (markL ll r = key)) ∧ c ≠ [] ∧ headLo c = lo ∧ 0 ≤ lo ∧ lo ≤ 1114111 := by
    intro k c hc
    obtain ⟨key, hk⟩ := get_of_lt (l := firsts (p.map (markL ll))) (i := k) (by have := lt_of_get hc; omega)
    obtain ⟨j, hj⟩ := get_of_lt (l := js) (i := k) (by have := lt_of_get hk; have := hF.len; omega)
    obtain ⟨h1, h2⟩ := hF.at' k j key hj hk
    rw [List.getElem?_map] at h1
    obtain ⟨lo, hlo, he⟩ := Option.map_eq_some_iff.1 h1
    have hS := hm k key c hk hc
    have hrg := pcs_range hp hok (List.mem_of_getElem? hlo)
    obtain ⟨e1, e2⟩ := head_least (m := lo) hS.1 (by rw [hS.2 lo hrg.1 hrg.2]; exact decide_eq_true he) fun r r0 r1 => by
      rw [hS.2 r r0 (by omega), decide_eq_false_iff_not]
      intro hr
      obtain ⟨i, li, h4, h5, _, h6⟩ := pcs_cover hp hok j (by have := lt_of_get hlo; omega) r r0 (by rw [nx_at hlo]; exact r1)
      have hij : i < j := by
        rcases Nat.lt_or_ge i j with h7 | h7
        · exact h7
        · exfalso
          have h8 : lo ≤ li := by
            rcases Nat.lt_or_ge j i with h9 | h9
            · have hjl := lt_of_get hlo
              have hil := lt_of_get h4
              rw [List.getElem?_eq_getElem hjl] at hlo
              rw [List.getElem?_eq_getElem hil] at h4
              cases hlo; cases h4
              exact Int.le_of_lt (List.pairwise_iff_getElem.1 hp.1 j i hjl hil h9)
            · obtain rfl : i = j := by omega
              rw [hlo] at h4; cases h4; exact Int.le_refl _
          omega
      exact h2 i hij (by rw [List.getElem?_map, h4, Option.map_some, ← h6, hr])
    exact ⟨key, j, lo, hk, hj, hlo, he, hS, e1, e2, hrg.1, hrg.2⟩
  have hnd : ∀ (i j : Nat) key, (firsts (p.map (markL ll)))[i]? = some key → (firsts (p.map (markL ll)))[j]? = some key → i = j := by
    intro i j key hi hj
    obtain ⟨a, ha⟩ := get_of_lt (l := js) (i := i) (by have := lt_of_get hi; have := hF.len; omega)
    obtain ⟨b, hb'⟩ := get_of_lt (l := js) (i := j) (by have := lt_of_get hj; have := hF.len; omega)
    obtain ⟨h1, h2⟩ := hF.at' i a key ha hi
    obtain ⟨h3, h4⟩ := hF.at' j b key hb' hj
    have hab : a = b := by
      rcases Nat.lt_trichotomy a b with h5 | h5 | h5
      · exact absurd h1 (h4 a h5)
      · exact h5
      · exact absurd h3 (h2 b h5)
    subst hab
    have hil := lt_of_get ha
    have hjl := lt_of_get hb'
    rw [List.getElem?_eq_getElem hil] at ha
    rw [List.getElem?_eq_getElem hjl] at hb'
    have e := (Option.some.inj ha).trans (Option.some.inj hb').symm
    rcases Nat.lt_trichotomy i j with h3 | h3 | h3
    · have := List.pairwise_iff_getElem.1 hF.lt i j hil hjl h3; omega
    · exact h3
    · have := List.pairwise_iff_getElem.1 hF.lt j i hjl hil h3; omega
  have hinj : ∀ (i j : Nat) c d, cs[i]? = some c → cs[j]? = some d → markL ll (headLo c) = markL ll (headLo d) → i = j := by
    intro i j c d hc hd he
    obtain ⟨key, _, lo, h1, _, _, h2, _, _, h3, _⟩ := hset i c hc
    obtain ⟨key', _, lo', h1', _, _, h2', _, _, h3', _⟩ := hset j d hd
    rw [h3, h3', h2, h2'] at he
    subst he
    exact hnd i j key h1 h1'
  have hmk : ∀ (k : Nat) c r, cs[k]? = some c → 0 ≤ r → r ≤ 1114111 → (inS c r = true ↔ markL ll r = markL ll (headLo c)) := by
    intro k c r hc r0 r1
    obtain ⟨key, _, lo, _, _, _, h2, hS, _, h3, _⟩ := hset k c hc
    rw [hS.2 r r0 r1, decide_eq_true_eq, h3, h2]
  refine ⟨?_, ?_, ?_, hmk, ?_, hinj⟩
  · intro c hc
    obtain ⟨k, hk⟩ := List.getElem?_of_mem hc
    obtain ⟨_, _, _, _, _, _, _, hS, _⟩ := hset k c hk
    exact hS.1
  · intro r r0 r1
    obtain ⟨lo, hlo, hml⟩ := pcs_some hp hok r0 r1
    have hin := hall (markL ll lo) (List.mem_map.2 ⟨lo, hlo, rfl⟩)
    obtain ⟨k, hk⟩ := List.getElem?_of_mem hin
    obtain ⟨c, hc⟩ := get_of_lt (l := cs) (i := k) (by have := lt_of_get hk; omega)
    have hS := hm k _ c hk hc
    have h1 : inS c r = true := by rw [hS.2 r r0 r1]; exact decide_eq_true hml
    have huni : ∀ (j : Nat) d, cs[j]? = some d → inS d r = true → j = k := fun j d hd h2 =>
      hinj j k d c hd hc (((hmk j d r hd r0 r1).1 h2).symm.trans ((hmk k c r hc r0 r1).1 h1))
    have hkl := lt_of_get hc
    rw [show cs = cs.take k ++ c :: cs.drop (k + 1) by rw [← drop_cons hc, List.take_append_drop], List.countP_append, List.countP_cons, h1]
    have z1 : (cs.take k).countP (fun l => inS l r) = 0 := by
      rw [List.countP_eq_zero]
      intro d hd h2
      obtain ⟨j, hj⟩ := List.getElem?_of_mem hd
      have hjl := lt_of_get hj
      simp at hjl
      rw [List.getElem?_take_of_lt (by omega)] at hj
      have := huni j d hj h2; omega
    have z2 : (cs.drop (k + 1)).countP (fun l => inS l r) = 0 := by
      rw [List.countP_eq_zero]
      intro d hd h2
      obtain ⟨j, hj⟩ := List.getElem?_of_mem hd
      rw [List.getElem?_drop] at hj
      have := huni _ d hj h2; omega
    rw [z1, z2]; rfl
  · intro k hk
    obtain ⟨c, hc⟩ := get_of_lt hk
    obtain ⟨_, j, lo, _, hj, hlo, _, _, hne, hh, h0, _⟩ := hset k c hc
    have hgd : cs.getD k [] = c := by simp [List.getD, hc]
    refine ⟨by rw [hgd]; exact hne, ?_⟩
    rw [hgd, hh]
    cases k with
    | zero => show (-1 : Int) < lo; omega
    | succ k =>
      obtain ⟨d, hd⟩ := get_of_lt (l := cs) (i := k) (by omega)
      obtain ⟨_, j', lo', _, hj', hlo', _, _, _, hh', _⟩ := hset k d hd
      have hgd' : cs.getD k [] = d := by simp [List.getD, hd]
      show headLo (cs.getD k []) < lo
      rw [hgd', hh']
      have a1 := lt_of_get hj
      have a2 := lt_of_get hj'
      rw [List.getElem?_eq_getElem a1] at hj
      rw [List.getElem?_eq_getElem a2] at hj'
      cases hj; cases hj'
      have h9 := List.pairwise_iff_getElem.1 hF.lt k (k + 1) a2 a1 (by omega)
      have b1 := lt_of_get hlo
      have b2 := lt_of_get hlo'
      rw [List.getElem?_eq_getElem b1] at hlo
      rw [List.getElem?_eq_getElem b2] at hlo'
      cases hlo; cases hlo'
      exact List.pairwise_iff_getElem.1 hp.1 _ _ b2 b1 h9
  · intro c hc
    obtain ⟨k, hk⟩ := List.getElem?_of_mem hc
    obtain ⟨_, _, lo, _, _, _, _, _, _, h3, h4, h5⟩ := hset k c hk
    rw [h3]; exact ⟨h4, h5⟩
end Go.Proofs
namespace Go.Proofs
open Go Go.Eng
set_option maxRecDepth 100000
mutual
def preL : Re → List Re
  | .mk k set args mn mx ng => .mk k set args mn mx ng :: preLs args
def preLs : List Re → List Re
  | [] => []
  | t :: ts => preL t ++ preLs ts
end
theorem preL_eq (t : Re) : preL t = t :: preLs t.args := by cases t; simp only [preL, Re.args]
mutual
theorem preL_len : ∀ (t : Re), (preL t).length = t.size
  | .mk k set args mn mx ng => by simp only [preL, Re.size, List.length_cons, preLs_len args]
theorem preLs_len : ∀ (ts : List Re), (preLs ts).length = Re.sizes ts
  | [] => by simp [preLs, Re.sizes]
  | t :: ts => by simp only [preLs, Re.sizes, List.length_append, preL_len t, preLs_len ts]
end
def RowsOf (w : World) : List Re → List (List Value) → Prop
  | [], [] => True
  | t :: ts, r :: rs => ReAt w t r ∧ RowsOf w ts rs
  | _, _ => False
theorem RowsOf.ext {w w' : World} (e : Ext w w') : ∀ {ts : List Re} {rs : List (List Value)}, RowsOf w ts rs → RowsOf w' ts rs
  | [], [], _ => trivial
  | t :: ts, r :: rs, h => ⟨ReAt.ext e t h.1, RowsOf.ext e h.2⟩
  | [], _ :: _, h => h.elim
  | _ :: _, [], h => h.elim
theorem RowsOf.len {w : World} : ∀ {ts : List Re} {rs : List (List Value)}, RowsOf w ts rs → rs.length = ts.length
  | [], [], _ => rfl
  | t :: ts, r :: rs, h => by simp only [List.length_cons, RowsOf.len h.2]
  | [], _ :: _, h => h.elim
  | _ :: _, [], h => h.elim
theorem RowsOf.six {w : World} : ∀ {ts : List Re} {rs : List (List Value)}, RowsOf w ts rs → ∀ r ∈ rs, r.length = 6
  | [], [], _, r, hr => by cases hr
  | t :: ts, r :: rs, h, r', hr => by
    rcases List.mem_cons.1 hr with rfl | hr
    · exact h.1.len
    · exact RowsOf.six h.2 r' hr
  | [], _ :: _, h, _, _ => h.elim
  | _ :: _, [], h, _, _ => h.elim
theorem RowsOf.snoc {w : World} : ∀ {ts : List Re} {rs : List (List Value)}, RowsOf w ts rs → ∀ {t : Re} {r : List Value}, ReAt w t r → RowsOf w (ts ++ [t]) (rs ++ [r])
  | [], [], _, _, _, h => ⟨h, trivial⟩
  | t :: ts, r :: rs, h, _, _, h' => ⟨h.1, RowsOf.snoc h.2 h'⟩
  | [], _ :: _, h, _, _, _ => h.elim
  | _ :: _, [], h, _, _, _ => h.elim
theorem RowsOf.get {w : World} : ∀ {ts : List Re} {rs : List (List Value)}, RowsOf w ts rs → ∀ {i : Nat} {t : Re}, ts[i]? = some t → ∃ r, rs[i]? = some r ∧ ReAt w t r
  | [], [], _, _, _, h => by simp at h
  | t :: ts, r :: rs, h, 0, _, h' => by simp at h'; subst h'; exact ⟨r, rfl, h.1⟩
  | t :: ts, r :: rs, h, i + 1, _, h' => by
    obtain ⟨r', h1, h2⟩ := RowsOf.get h.2 (i := i) (by simpa using h')
    exact ⟨r', by simpa using h1, h2⟩
  | [], _ :: _, h, _, _, _ => h.elim
  | _ :: _, [], h, _, _, _ => h.elim
def Apart (u v : Value) : Prop := ∀ k, u.ownBlock = some k → v.ownBlock ≠ some k
theorem Apart.symm {u v : Value} (h : Apart u v) : Apart v u := fun k h1 h2 => h k h2 h1
theorem Apart.nil (v : Value) : Apart (.slice none 0 0) v := fun k h => by cases h
end Go.Proofs
namespace Go.Proofs
open Go Go.Eng Go.Sort
set_option maxRecDepth 100000
def addS (s : List (List Sp)) (t : Re) : List (List Sp) := if t.kind = 2 ∧ t.set ∉ s then s ++ [t.set] else s
def setsL (t : Re) : List (List Sp) := (preL t).foldl addS []
theorem addS_mem {x : List Sp} : ∀ {l : List Re} {s : List (List Sp)}, x ∈ l.foldl addS s ↔ x ∈ s ∨ ∃ t ∈ l, t.kind = 2 ∧ x = t.set
  | [], s => by simp
  | t :: l, s => by
    rw [List.foldl_cons, addS_mem]
    have e : x ∈ addS s t ↔ x ∈ s ∨ (t.kind = 2 ∧ x = t.set) := by
      unfold addS
      split
      · rename_i h
        simp [h.1]
      · rename_i h
        constructor
        · exact .inl
        · rintro (h1 | ⟨h1, rfl⟩)
          · exact h1
          · exact Classical.byContradiction fun h2 => h ⟨h1, h2⟩
    rw [e]
    constructor
    · rintro ((h | h) | ⟨u, hu, h⟩)
      · exact .inl h
      · exact .inr ⟨t, by simp, h⟩
      · exact .inr ⟨u, by simp [hu], h⟩
    · rintro (h | ⟨u, hu, h⟩)
      · exact .inl (.inl h)
      · rcases List.mem_cons.1 hu with rfl | hu
        · exact .inl (.inr h)
        · exact .inr ⟨u, hu, h⟩
theorem addS_len : ∀ (l : List Re) (s : List (List Sp)), (l.foldl addS s).length ≤ s.length + l.length
  | [], s => by simp
  | t :: l, s => by
    have h := addS_len l (addS s t)
    have h2 : (addS s t).length ≤ s.length + 1 := by
      unfold addS
      split
      · simp
      · omega
    rw [List.foldl_cons, List.length_cons]
    omega
mutual
theorem allS_pre {P : List Sp → Prop} : ∀ {t : Re}, (∀ u ∈ preL t, u.kind = 2 → P u.set) → AllS P t
  | .mk k s a m x g, h => by
    rw [preL_eq] at h
    exact ⟨h (.mk k s a m x g) (by simp), allS_pres fun u hu => h u (by simp only [List.mem_cons]; exact .inr hu)⟩
theorem allS_pres {P : List Sp → Prop} : ∀ {ts : List Re}, (∀ u ∈ preLs ts, u.kind = 2 → P u.set) → AllSs P ts
  | [], _ => trivial
  | t :: ts, h => by
    simp only [preLs, List.mem_append] at h
    exact ⟨allS_pre fun u hu => h u (.inl hu), allS_pres fun u hu => h u (.inr hu)⟩
end
mutual
theorem pre_allS {P : List Sp → Prop} : ∀ {t : Re}, AllS P t → ∀ u ∈ preL t, u.kind = 2 → P u.set
  | .mk k s a m x g, h, u, hu => by
    rw [preL_eq] at hu
    rcases List.mem_cons.1 hu with rfl | hu
    · exact h.1
    · exact pres_allS h.2 u hu
theorem pres_allS {P : List Sp → Prop} : ∀ {ts : List Re}, AllSs P ts → ∀ u ∈ preLs ts, u.kind = 2 → P u.set
  | [], _, u, hu => by simp [preLs] at hu
  | t :: ts, h, u, hu => by
    simp only [preLs, List.mem_append] at hu
    rcases hu with hu | hu
    · exact pre_allS h.1 u hu
    · exact pres_allS h.2 u hu
end
theorem sets_all {P : List Sp → Prop} {t : Re} (h : ∀ s ∈ setsL t, P s) : AllS P t :=
 allS_pre fun u hu hk => h u.set (addS_mem.2 (.inr ⟨u, hu, hk, rfl⟩))
theorem all_sets {P : List Sp → Prop} {t : Re} (h : AllS P t) : ∀ s ∈ setsL t, P s := fun s hs => by
 rcases addS_mem.1 hs with h1 | ⟨u, hu, hk, rfl⟩
 ·cases h1
 ·exact pre_allS h u hu hk
theorem sets_len (t : Re) : (setsL t).length ≤ t.size := by
 have := addS_len (preL t) []
 rw [preL_len] at this
 simpa [setsL] using this
mutual
theorem valid_sets : ∀ {t : Re}, okRe t → usesB [9, 10] t = false → AllS (fun s => checkE s = 0) t
  | .mk k s a m x g, h, hu => by
    obtain ⟨h1, h2⟩ := uses_cons hu
    have h9 : k ≠ 9 := fun e => by subst e; simp at h1
    have h10 : k ≠ 10 := fun e => by subst e; simp at h1
    exact ⟨fun hk => ((pre_of (t := .mk k s a m x g) h h9 h10 rfl).k2 hk).2, valids_sets (okRe_args h) h2⟩
theorem valids_sets : ∀ {ts : List Re}, okRes ts → usesBs [9, 10] ts = false → AllSs (fun s => checkE s = 0) ts
  | [], _, _ => trivial
  | t :: ts, h, hu => by
    simp only [okRes] at h
    simp only [usesBs, Bool.or_eq_false_iff] at hu
    exact ⟨valid_sets h.1 hu.1, valids_sets h.2 hu.2⟩
end
theorem checkL_v : ∀ (l : List (Int × Int)) (p : Option Int), checkL p l = 0 → ∀ s ∈ l, vSp s := by
  intro l
  induction l with
  | nil => simp
  | cons a l ih =>
    intro p h s hs
    rw [checkL_cons] at h
    by_cases h1 : validB a = false
    · rw [if_pos h1] at h; simp at h
    rw [if_neg h1] at h
    have h2 : checkL (some a.2) l = 0 := by
      split at h
      · split at h
        · simp at h
        · exact h
      · simpa using h
    rcases List.mem_cons.1 hs with rfl | hs
    · simp [validB] at h1
      exact ⟨by omega, by omega, by omega⟩
    · exact ih _ h2 s hs
theorem checkE_v {s : List Sp} (h : checkE s = 0) : (∀ p ∈ s, vSp p) ∧ s.length ≤ 16 := by
 unfold checkE at h
 split at h
 ·cases h
 ·exact ⟨checkL_v _ _ h, by omega⟩
theorem badE_zeroY : ∀ {ll : List (List Sp)}, (∀ l ∈ ll, checkE l = 0) → badE ll = 0
  | [], _ => rfl
  | l :: ll, h => by
    unfold badE
    rw [if_neg (by simp [h l (by simp)])]
    exact badE_zeroY fun x hx => h x (by simp [hx])
theorem flat_v {ll : List (List Sp)} (h : ∀ l ∈ ll, checkE l = 0) : ∀ s ∈ ll.flatten, vSp s := fun s hs => by
 obtain ⟨l, hl, h1⟩ := List.mem_flatten.1 hs
 exact (checkE_v (h l hl)).1 s h1
theorem flat_few {ll : List (List Sp)} (h : ∀ l ∈ ll, checkE l = 0) : ll.flatten.length ≤ 16 * ll.length := by
  induction ll with
  | nil => simp
  | cons l ll ih =>
    have h1 := (checkE_v (h l (by simp))).2
    have h2 := ih fun x hx => h x (by simp [hx])
    rw [List.flatten_cons, List.length_append, List.length_cons]
    omega
/-- Every rune has a class whose first rune no set tells from it. -/
theorem cls_rep {ll cs : List (List Sp)} {c : Int} (h : clsL ll cs) (hok : ∀ s ∈ ll.flatten, vSp s) (h0 : 0 ≤ c) (h1 : c ≤ 1114111) : ∃ cl ∈ cs, ∀ s ∈ ll, inS s c = inS s (headLo cl) := by
 have hp := h.parted hok
 have h2 := hp.part c h0 h1
 obtain ⟨cl, hm, hin⟩ := List.countP_pos_iff.1 (show 0 < cs.countP fun l => inS l c by omega)
 obtain ⟨k, hk⟩ := List.mem_iff_getElem?.1 hm
 have hmk := (hp.mark k cl c hk h0 h1).1 hin
 refine ⟨cl, hm, fun s hs => ?_⟩
 unfold markL at hmk
 exact List.map_inj_left.1 hmk s hs
theorem cls_head {ll cs : List (List Sp)} (h : clsL ll cs) (hok : ∀ s ∈ ll.flatten, vSp s) : ∀ cl ∈ cs, cl ≠ [] ∧ 0 ≤ headLo cl ∧ headLo cl ≤ 1114111 := fun cl hm => by
 have hp := h.parted hok
 obtain ⟨k, hk⟩ := List.mem_iff_getElem?.1 hm
 have h1 := (hp.heads k (lt_of_get hk)).1
 rw [List.getD_eq_getElem?_getD, hk] at h1
 exact ⟨h1, hp.low cl hm⟩
/-- What the list of derivatives is. -/
structure Fam (r : Re) (L : List Re) : Prop where
 ok : ∀ x ∈ L, SimOk x ∧ x.size ≤ 300
 nd : L.Nodup
 ne : L ≠ []
 cl : ∀ P, AllS P r → ∀ x ∈ L, AllS P x
/-- The first ones have their derivatives in it. -/
def FamD (cs : List (List Sp)) (n : Nat) (L : List Re) : Prop := ∀ (j : Nat) x, j < n → L[j]? = some x → ∀ cl ∈ cs, (stepR (headLo cl) x).size ≤ 300 ∧ ((stepR (headLo cl) x).kind = 0 ∨ stepR (headLo cl) x ∈ L)
theorem FamD.push {cs : List (List Sp)} {n : Nat} {L : List Re} {y : Re} (h : FamD cs n L) (hn : n ≤ L.length) : FamD cs n (L ++ [y]) := fun j x hj hx cl hc => by
 rw [List.getElem?_append_left (by omega)] at hx
 obtain ⟨h1, h2⟩ := h j x hj hx cl hc
 exact ⟨h1, h2.imp id fun h3 => List.mem_append_left _ h3⟩
theorem Fam.push {r y : Re} {L : List Re} (h : Fam r L) (ho : SimOk y ∧ y.size ≤ 300) (hn : y ∉ L) (hc : ∀ P, AllS P r → AllS P y) : Fam r (L ++ [y]) := by
 refine ⟨fun x hx => ?_, ?_, by simp, fun P hP x hx => ?_⟩
 ·rcases List.mem_append.1 hx with h1 | h1
  ·exact h.ok x h1
  ·rw [List.mem_singleton.1 h1]; exact ho
 ·rw [List.nodup_append]
  exact ⟨h.nd, by simp, fun a ha b hb => by rw [List.mem_singleton.1 hb]; rintro rfl; exact hn ha⟩
 ·rcases List.mem_append.1 hx with h1 | h1
  ·exact h.cl P hP x h1
  ·rw [List.mem_singleton.1 h1]; exact hc P hP
theorem Fam.first {r : Re} (ho : SimOk (simR r)) (hz : (simR r).size ≤ 300) : Fam r [simR r] :=
 ⟨fun x hx => by rw [List.mem_singleton.1 hx]; exact ⟨ho, hz⟩, by simp, by simp, fun P hP x hx => by rw [List.mem_singleton.1 hx]; exact allS_sim hP⟩
/-- Derivatives of derivatives are among them. -/
theorem fam_by {r x : Re} {L : List Re} {cs : List (List Sp)} {c : Int} (h : Fam r L) (hd : FamD cs L.length L) (hc : clsL (setsL r) cs) (hv : AllS (fun s => checkE s = 0) r) (hx : x ∈ L) (h0 : 0 ≤ c) (h1 : c ≤ 1114111) : chkD x = 0 ∧ simR x = x ∧ byE x c = 0 ∧ byD x c = stepR c x ∧ ((stepR c x).kind = 0 ∨ stepR c x ∈ L) := by
 obtain ⟨ho, hz⟩ := h.ok x hx
 obtain ⟨cl, hcl, hin⟩ := cls_rep hc (flat_v (all_sets hv)) h0 h1
 have hs : stepR c x = stepR (headLo cl) x := step_same (h.cl _ (sets_all hin) x hx)
 obtain ⟨j, hj⟩ := List.mem_iff_getElem?.1 hx
 obtain ⟨h2, h3⟩ := hd j x (lt_of_get hj) hj cl hcl
 rw [← hs] at h2 h3
 have hk := sim_chkD ho hz
 have hi := simR_id ho
 have hb : byE x c = 0 := by
  unfold byE
  rw [if_neg (by omega), if_neg (by simp [runeB]; omega), hi, if_neg (by omega)]
 refine ⟨hk, hi, hb, ?_, h3⟩
 unfold byD
 rw [if_pos hb, hi]
end Go.Proofs
namespace Go.Proofs
open Go Go.Eng Go.Sort
set_option maxRecDepth 100000
theorem badE_at : ∀ {ll : List (List Sp)} {k : Nat} {l : List Sp}, (∀ x ∈ ll.take k, checkE x = 0) → ll[k]? = some l → checkE l ≠ 0 → badE ll = checkE l
  | [], _, _, _, h, _ => by simp at h
  | x :: ll, 0, l, _, h, hc => by simp at h; subst h; unfold badE; rw [if_pos hc]
  | x :: ll, k + 1, l, hz, h, hc => by
    unfold badE
    rw [if_neg (by simpa using hz x (by simp))]
    exact badE_at (k := k) (fun y hy => hz y (by simp [hy])) (by simpa using h) hc
theorem badE_zero : ∀ {ll : List (List Sp)}, (∀ x ∈ ll, checkE x = 0) → badE ll = 0
  | [], _ => rfl
  | x :: ll, h => by
    unfold badE
    rw [if_neg (by simpa using h x (by simp))]
    exact badE_zero fun y hy => h y (by simp [hy])
theorem own_caps {w : World} {base e size n c : Nat} {a : Option Addr} {xs : List Value} (h : w.ownsRow base e size (.slice a n c) n xs) : n ≤ c ∧ c ≤ 9223372036854775807 := by
 rcases h.2 with ⟨h1, h0⟩ | ⟨g, cap, cur, hv, _, _, hnc, hcm, _⟩
 ·simp only [Value.slice.injEq] at h1; omega
 ·simp only [Value.slice.injEq] at hv
  obtain ⟨_, _, rfl⟩ := hv
  exact ⟨hnc, hcm⟩
def ClsRes (w : World) (r : Value) (out : List (List Sp)) (e : Int) : Prop := ∃ a c, r = .tuple #[.slice a out.length c, .int .i64 e] ∧ SpssAt w (.slice a out.length c) out
theorem spss_nil (w : World) : SpssAt w (.slice none 0 0) [] := ⟨[], SlAt.nil _ _ _ _, rfl, fun i u l h => by simp at h⟩
theorem raw_take {ll : List (List Sp)} {i : Nat} {l : List Sp} (h : ll[i]? = some l) : rawC (ll.take (i + 1)).flatten = rawC (ll.take i).flatten ++ l.flatMap fun s => [s.1, s.2 + 1] := by
 rw [lens_take h]
 unfold rawC
 rw [List.flatMap_append, List.cons_append]
theorem raw_snoc {l : List Sp} {j : Nat} {s : Sp} (h : l[j]? = some s) : (l.take (j + 1)).flatMap (fun s => [s.1, s.2 + 1]) = (l.take j).flatMap (fun s => [s.1, s.2 + 1]) ++ [s.1, s.2 + 1] := by
 rw [take_snoc h, List.flatMap_append]; simp
theorem cut_at {p q : List Int} {i : Nat} {c : Int} (hqp : q = p ∨ q = p ++ [1114112]) (hc : q[i]? = some c) (hb : ∀ x ∈ p, x ≤ 1114111) : (c ≤ 1114111 → p[i]? = some c) ∧ (1114111 < c → p.length ≤ i) := by
 rcases hqp with rfl | rfl
 ·exact ⟨fun _ => hc, fun h => absurd (hb c (List.mem_of_getElem? hc)) (by omega)⟩
 ·rcases Nat.lt_or_ge i p.length with h1 | h1
  ·rw [List.getElem?_append_left h1] at hc
   exact ⟨fun _ => hc, fun h => absurd (hb c (List.mem_of_getElem? hc)) (by omega)⟩
  ·rw [List.getElem?_append_right h1] at hc
   have h2 := lt_of_get hc
   simp at h2
   rw [show i - p.length = 0 by omega] at hc
   simp at hc
   exact ⟨fun h => by omega, fun _ => h1⟩
theorem cut_len {p q : List Int} (hqp : q = p ∨ q = p ++ [1114112]) : p.length ≤ q.length ∧ q.length ≤ p.length + 1 := by
 rcases hqp with rfl | rfl <;> simp
theorem cut_next {p q : List Int} {i : Nat} {c : Int} (hqp : q = p ∨ q = p ++ [1114112]) (hi : i ≤ p.length) (hc : q[i]? = some c) : nx p i = c := by
 unfold nx
 rcases hqp with rfl | rfl
 ·rw [hc]; rfl
 ·rcases Nat.lt_or_ge i p.length with h1 | h1
  ·rw [List.getElem?_append_left h1] at hc; rw [hc]; rfl
  ·rw [List.getElem?_append_right h1] at hc
   rw [show i - p.length = 0 by omega] at hc
   simp at hc
   rw [List.getElem?_eq_none h1]; simpa using hc
theorem cut_last {p q : List Int} {i : Nat} (hqp : q = p ∨ q = p ++ [1114112]) (hi : q.length ≤ i) : nx p i = 1114112 := by
 have := cut_len hqp
 unfold nx
 rw [List.getElem?_eq_none (by omega)]; rfl
theorem CSt.on {w : World} {base n : Nat} {vo : Value} {vs : List Value} {outs : List (List Sp)} (h : CSt w base vo vs outs) (hn : n = outs.length) : w.ownsRow base TSs 1 vo n vs := by subst hn; exact h.o
theorem snoc_old {outs : List (List Sp)} {ks : List (List Bool)} {m : List Bool} (hl : outs.length = ks.length) (hn : m ∉ ks) : ∀ (j : Nat) q, (outs ++ [[]])[j]? = some q → outs[j]? = some q ∨ (j = ks.length ∧ q = [] ∧ m ∉ ks) := by
 intro j q hq
 rcases Nat.lt_or_ge j outs.length with h1 | h1
 ·left; rwa [List.getElem?_append_left h1] at hq
 ·right
  rw [List.getElem?_append_right h1] at hq
  have h2 := lt_of_get hq
  simp at h2
  rw [show j - outs.length = 0 by omega] at hq
  simp at hq
  exact ⟨by omega, by simp [hq], hn⟩
theorem snoc_blk {vs : List Value} {z : Nat} (h : ∀ (i : Nat) v b, vs[i]? = some v → v.ownBlock = some b → b < z) : ∀ (i : Nat) v b, (vs ++ [.slice none 0 0])[i]? = some v → v.ownBlock = some b → b < z := by
 intro i v b hv hb
 rcases Nat.lt_or_ge i vs.length with h1 | h1
 ·rw [List.getElem?_append_left h1] at hv; exact h i v b hv hb
 ·rw [List.getElem?_append_right h1] at hv
  have h2 := lt_of_get hv
  simp at h2
  rw [show i - vs.length = 0 by omega] at hv
  simp at hv
  subst hv
  cases hb
def marksN (ll : List (List Sp)) (c : Int) (e : Nat) : List Int := (markL (ll.take e) c).map bitN ++ List.replicate (ll.length - e) 0
theorem marksN_zero (ll : List (List Sp)) (c : Int) : marksN ll c 0 = List.replicate ll.length 0 := by simp [marksN, markL]
theorem marksN_len {ll : List (List Sp)} {c : Int} {e : Nat} (h : e ≤ ll.length) : (marksN ll c e).length = ll.length := by
 simp [marksN, markL]; omega
theorem marksN_succ {ll : List (List Sp)} {c : Int} {e : Nat} {l : List Sp} (h : ll[e]? = some l) : marksN ll c (e + 1) = (marksN ll c e).set e (bitN (inS l c)) := by
 have hl := lt_of_get h
 unfold marksN markL
 rw [take_snoc h, show ll.length - e = (ll.length - (e + 1)) + 1 by omega, List.replicate_succ, List.map_append, List.map_append, List.append_assoc]
 have h1 : (((ll.take e).map fun l => inS l c).map bitN).length = e := by simp; omega
 rw [List.set_append_right _ _ (by omega), h1, Nat.sub_self]
 simp
theorem marksN_same {ll : List (List Sp)} {c : Int} {e : Nat} {l : List Sp} (h : ll[e]? = some l) (hi : inS l c = false) : marksN ll c (e + 1) = marksN ll c e := by
 have hl := lt_of_get h
 unfold marksN markL
 rw [take_snoc h, show ll.length - e = (ll.length - (e + 1)) + 1 by omega, List.replicate_succ, List.map_append, List.map_append, List.append_assoc]
 simp [hi, bitN]
theorem marksN_all (ll : List (List Sp)) (c : Int) : marksN ll c ll.length = (markL ll c).map bitN := by simp [marksN]
theorem compi_m (w0 : World) (g c n : Nat) (l q : List Int) (hH : Sort.Holds (Value.int .i64) w0 g 0 l.toArray) (hc : l.length ≤ c ∧ c ≤ 9223372036854775807) (hn : l.length = n) (hq : q = Lib.compact l) :
  Ret Tryz.prog 148 #[.slice (some ⟨g, 0, none⟩) n c] w0 fun r w => r = .slice (some ⟨g, 0, none⟩) q.length c ∧ IntsAt w r q ∧ Chg (fun x => x = g) w0 w := by
 subst hn; subst hq; exact compi_c w0 g c l hH hc
set_option maxHeartbeats 8000000 in
theorem clsOf_c (w0 : World) (v : Value) (ll : List (List Sp)) (h : SpssAt w0 v ll) (hL : ll.flatten.length ≤ 1048576) (hL2 : ll.length ≤ 1048576) :
  Ret Tryz.prog 103 #[v] w0 fun r w => (∃ out e, clsP ll out e ∧ ClsRes w r out e) ∧ Ext w0 w := by
 obtain ⟨a, c, rfl, _, hle⟩ := h.form
 obtain ⟨base, hbase⟩ : ∃ base, base = w0.heap.size := ⟨_, rfl⟩
 refine Ret_of Tryz.func103 rfl Tryz.ntmps103 (Nat.le_of_ble_eq_true rfl) ?_
 have E : Chg none1 w0 w0 := Chg.refl _ _
 refine Wp_seq_region ?_
 refine qA (.slice none 0 0) rfl ?_
 refine qA (I6 0) rfl ?_
 refine WpL_nil (Wp_seq (Wp_seq_region ?_))
 refine qM (.slice a ll.length c) rfl ?_
 refine qV (r_lenSlice (ad := a) (n := ll.length) (cap := c) Tryz.underlying50 rfl) ?_
 refine qM (I6 0) rfl ?_
 refine WpL_nil (Wp_block ?_)
 refine Wp_loop (fun nn_ σ W1 => ∃ (k : Nat), (∃ jj_, σ = upds jj_ [(0, (.slice a ll.length c)), (23, (.slice a ll.length c)), (24, (I6 (ll.length : Int))), (25, (I6 (k : Int)))]) ∧ Chg none1 w0 W1 ∧ (k ≤ ll.length) ∧ (∀ l ∈ ll.take k, checkE l = 0) ∧ nn_ = ll.length - k) (n := ll.length - 0) ?_ ?_
 ·exact ⟨0, Fits.out ⟨rfl, rfl, rfl, rfl, trivial⟩, E, Nat.zero_le _, (by simp), rfl⟩
 ·clear E
  rintro _ _ W1 ⟨k, ⟨j1, rfl⟩, E, hk, hz, rfl⟩
  refine Wp_seq_region ?_
  refine qV (r_lss (k := .i64) (a := (k : Int)) (b := (ll.length : Int)) rfl rfl) ?_
  refine WpL_nil (Wp_seq ?_)
  refine Wp_cond (b := decide (((k : Int) : Int) < (ll.length : Int))) rfl (fun hlt => ?_) (fun hlt => ?_)
  ·have khlt := hlt
   replace hlt := of_decide_eq_true hlt
   obtain ⟨l, hx⟩ := get_of_lt (l := ll) (i := k) (by omega)
   obtain ⟨b, o, rfl, hcl⟩ := spss_cells h (by omega)
   obtain ⟨ra, rc, hcell, hsp⟩ := hcl k l hx
   refine Wp_skip (thn_normal (Wp_seq (Wp_block (Wp_seq_region ?_))))
   refine qV (r_indexSlice (b := b) (o := o) (len := ll.length) (cap := c) (i := k) (o' := o + k) rfl rfl rfl Tryz.underlying50 siz22 (by omega) (by omega)) ?_
   refine qV (r_load (v := (.slice ra l.length rc)) rfl flat22 (E.cell (fun f => f) hcell)) ?_
   refine qA (.slice ra l.length rc) rfl ?_
   refine WpL_nil (Wp_seq_region ?_)
   refine qM (.slice ra l.length rc) rfl ?_
   refine WpL_enter rfl rfl (by decide) (r_callF (vs := [(.slice ra l.length rc)]) Tryz.func146 nm146 bd146 rfl) (rcheck_c _ _ l (hsp.ext E)) ?_
   rintro _ w9 ⟨rfl, X9⟩
   replace E := E.ext X9
   refine qA (I6 (checkE l)) rfl ?_
   refine WpL_nil (Wp_seq_region ?_)
   refine qM (I6 (checkE l)) rfl ?_
   refine qV (r_neq (k := .i64) (a := checkE l) (b := 0) rfl rfl) ?_
   refine WpL_nil ?_
   refine Wp_cond (b := decide ((checkE l : Int) ≠ 0)) rfl (fun hc => ?_) (fun hc => ?_)
   ·have khc := hc
    replace hc := of_decide_eq_true hc
    refine Wp_seq_region ?_
    refine qM (I6 (checkE l)) rfl ?_
    refine qA (.slice none 0 0) rfl ?_
    refine qA (I6 (checkE l)) rfl ?_
    refine WpL_nil (Wp_ret (inB_ret (thn_ret (thn_ret (inB_ret (thn_ret ?_))))))
    refine fin_tmp2 Tryz.results103 (v := (.slice none 0 0)) (v' := (.int .i64 (checkE l))) rfl rfl ?_
    exact ⟨⟨[], checkE l, .inl ⟨by rw [badE_at hz hx hc]; exact hc, (badE_at hz hx hc).symm, rfl⟩, none, 0, rfl, spss_nil _⟩, E⟩
   ·have khc := hc
    replace hc := of_decide_eq_false hc
    refine Wp_skip (inB_normal (thn_normal (Wp_region ?_)))
    refine qV (r_add (k := .i64) (a := (k : Int)) (b := 1) (c := (k : Int) + 1) rfl rfl (wI64 (by omega))) ?_
    refine qM (I6 ((k : Int) + 1)) rfl ?_
    refine WpL_nil (thn_normal ?_)
    exact ⟨ll.length - (k + 1), by omega, k + 1, Fits.out ⟨rfl, rfl, rfl, rfl, trivial⟩, E, (by omega), (fun y hy => by rw [take_snoc hx] at hy; rcases List.mem_append.1 hy with h1 | h1; exact hz y h1; rw [List.mem_singleton] at h1; subst h1; omega), rfl⟩
  ·have khlt := hlt
   replace hlt := of_decide_eq_false hlt
   have hkk : k = ll.length := by omega
   rw [hkk, List.take_length] at hz
   have hz0 := badE_zero hz
   have hok : ∀ s ∈ ll.flatten, vSp s := fun s hs => by obtain ⟨l, hl, hs⟩ := List.mem_flatten.1 hs; exact (checkE_canon (hz l hl)).1.ok s hs
   refine Wp_exit (thn_exit (thn_exit (inB_here (thn_normal (Wp_seq_region ?_)))))
   refine s_buildSlice (ps := [(0, (I6 0))]) (c := #[(I6 0)]) (by decide) rfl Tryz.underlying26 siz3 zer3 (by decide) (by decide) (by kernel_rfl) ?_
   intro bq wq Nq
   have Fq := Nq.ge E
   replace E := E.ext Nq.ext
   have Bq := Nq.blk
   refine qA (.slice (some ⟨bq, 0, none⟩) 1 1) rfl ?_
   refine WpL_nil (Wp_seq (Wp_seq_region ?_))
   refine qM (.slice a ll.length c) rfl ?_
   refine qV (r_lenSlice (ad := a) (n := ll.length) (cap := c) Tryz.underlying50 rfl) ?_
   refine qM (I6 0) rfl ?_
   refine WpL_nil (Wp_block ?_)
   have hown0 := own_lit1 (base := base) Bq (by omega)
   have hbs0 : base ≤ wq.heap.size := by have := E.size; omega
   refine Wp_loop (fun nn_ σ W4 => ∃ (i : Nat) (la : Option Addr) (lc : Nat) (n : Nat) (rs : List Int), (∃ jj_, σ = upds jj_ [(0, (.slice a ll.length c)), (36, (.slice a ll.length c)), (37, (I6 (ll.length : Int))), (38, (I6 (i : Int))), (7, (.slice la n lc))]) ∧ Chg none1 w0 W4 ∧ (i ≤ ll.length) ∧ (rs = rawC (ll.take i).flatten) ∧ (n = rs.length) ∧ (W4.ownsRow base TInt 1 (.slice la n lc) n (rs.map (Value.int .i64))) ∧ (base ≤ W4.heap.size) ∧ nn_ = ll.length - i) (n := ll.length - 0) ?_ ?_
   ·exact ⟨0, some ⟨bq, 0, none⟩, 1, 1, [0], Fits.out ⟨rfl, rfl, rfl, rfl, rfl, trivial⟩, E, Nat.zero_le _, rfl, rfl, hown0, hbs0, rfl⟩
   ·clear E
    rintro _ _ W4 ⟨i, la, lc, n, rs, ⟨j4, rfl⟩, E, hi, hrs, hn, hown, hbs, rfl⟩
    refine Wp_seq_region ?_
    refine qV (r_lss (k := .i64) (a := (i : Int)) (b := (ll.length : Int)) rfl rfl) ?_
    refine WpL_nil (Wp_seq ?_)
    refine Wp_cond (b := decide (((i : Int) : Int) < (ll.length : Int))) rfl (fun hlt2 => ?_) (fun hlt2 => ?_)
    ·have khlt2 := hlt2
     replace hlt2 := of_decide_eq_true hlt2
     obtain ⟨l, hx⟩ := get_of_lt (l := ll) (i := i) (by omega)
     obtain ⟨b, o, rfl, hcl⟩ := spss_cells h (by omega)
     obtain ⟨ra, rc, hcell, hsp⟩ := hcl i l hx
     have hn1 := lens_le ll (i + 1)
     rw [lens_take hx, List.length_append] at hn1
     have hrl := rawC_len (ll.take i).flatten
     rw [← hrs] at hrl
     refine Wp_skip (thn_normal (Wp_seq (Wp_block (Wp_seq_region ?_))))
     refine qV (r_indexSlice (b := b) (o := o) (len := ll.length) (cap := c) (i := i) (o' := o + i) rfl rfl rfl Tryz.underlying50 siz22 (by omega) (by omega)) ?_
     refine qV (r_load (v := (.slice ra l.length rc)) rfl flat22 (E.cell (fun f => f) hcell)) ?_
     refine qA (.slice ra l.length rc) rfl ?_
     refine WpL_nil (Wp_seq_region ?_)
     refine qM (.slice ra l.length rc) rfl ?_
     refine qV (r_lenSlice (ad := ra) (n := l.length) (cap := rc) Tryz.underlying22 rfl) ?_
     refine qM (I6 0) rfl ?_
     refine WpL_nil (Wp_block ?_)
     refine Wp_loop (fun nn_ σ W6 => ∃ (j : Nat) (la2 : Option Addr) (lc2 : Nat) (n2 : Nat), (∃ jj_, σ = upds jj_ [(0, (.slice (some ⟨b, o, none⟩) ll.length c)), (36, (.slice (some ⟨b, o, none⟩) ll.length c)), (37, (I6 (ll.length : Int))), (38, (I6 (i : Int))), (42, (.slice ra l.length rc)), (43, (I6 (l.length : Int))), (44, (I6 (j : Int))), (7, (.slice la2 n2 lc2))]) ∧ Chg none1 w0 W6 ∧ (j ≤ l.length) ∧ (n2 = rs.length + 2 * j) ∧ (W6.ownsRow base TInt 1 (.slice la2 n2 lc2) n2 ((rs ++ (l.take j).flatMap fun s => [s.1, s.2 + 1]).map (Value.int .i64))) ∧ (base ≤ W6.heap.size) ∧ nn_ = l.length - j) (n := l.length - 0) ?_ ?_
     ·exact ⟨0, la, lc, n, Fits.out ⟨rfl, rfl, rfl, rfl, rfl, rfl, rfl, rfl, trivial⟩, E, Nat.zero_le _, (by omega), (by simpa using hown), hbs, rfl⟩
     ·clear E
      rintro _ _ W6 ⟨j, la2, lc2, n2, ⟨j6, rfl⟩, E, hj, hn2, hown2, hbs2, rfl⟩
      refine Wp_seq_region ?_
      refine qV (r_lss (k := .i64) (a := (j : Int)) (b := (l.length : Int)) rfl rfl) ?_
      refine WpL_nil (Wp_seq ?_)
      refine Wp_cond (b := decide (((j : Int) : Int) < (l.length : Int))) rfl (fun hlt3 => ?_) (fun hlt3 => ?_)
      ·have khlt3 := hlt3
       replace hlt3 := of_decide_eq_true hlt3
       obtain ⟨s, hs⟩ := get_of_lt (l := l) (i := j) (by omega)
       obtain ⟨sb, so, rfl, hsc⟩ := spans_cells hsp (by omega)
       have hvs := hok s (List.mem_flatten.2 ⟨l, List.mem_of_getElem? hx, List.mem_of_getElem? hs⟩)
       unfold vSp at hvs
       have hownb := hown2
       refine Wp_skip (thn_normal (Wp_seq (Wp_block (Wp_seq_region ?_))))
       refine qV (r_indexSlice (b := sb) (o := so) (len := l.length) (cap := rc) (i := j) (o' := so + j * 2) rfl rfl rfl Tryz.underlying22 siz103 (by omega) (by omega)) ?_
       refine qV (r_loadAgg (vs := [(I6 s.1), (I6 s.2)]) rfl agg103 siz103 rfl ((hsc j s hs).ext E)) ?_
       refine s_allocStore (v := (.agg #[(I6 s.1), (I6 s.2)])) (c := #[(I6 s.1), (I6 s.2)]) (n := 2) (by decide) zer103 rfl siz103 rfl rfl rfl (by simp [Value.oneCell']) ?_
       intro bt wt Nt
       have Ft := Nt.ge E
       replace hown2 := own_ext hown2 Nt.ext
       replace hbs2 := Nat.le_trans hbs2 Nt.ext.size
       replace E := E.ext Nt.ext
       have Bt := Nt.blk
       refine WpL_nil (Wp_region ?_)
       refine qM (.slice la2 n2 lc2) rfl ?_
       refine qF bt 0 0 rfl Tryz.underlying103 rfl siz3 rfl ?_
       refine qV (r_load (v := (I6 s.1)) rfl flat3 (Bt.cell rfl)) ?_
       refine qF bt 0 1 rfl Tryz.underlying103 rfl siz3 rfl ?_
       refine qV (r_load (v := (I6 s.2)) rfl flat3 (Bt.cell rfl)) ?_
       refine qV (r_add (k := .i64) (a := s.2) (b := 1) (c := s.2 + 1) rfl rfl (wI64 (by omega))) ?_
       refine s_buildSlice (ps := [(0, (I6 s.1)), (1, (I6 (s.2 + 1)))]) (c := #[(I6 s.1), (I6 (s.2 + 1))]) (by decide) rfl Tryz.underlying26 siz3 zer3 (by decide) (by decide) (by kernel_rfl) ?_
       intro b8 w8 N8
       have F8 := N8.ge E
       have O8_bt := N8.lt Bt
       replace Bt := N8.keep Bt
       replace hown2 := own_ext hown2 N8.ext
       replace hbs2 := Nat.le_trans hbs2 N8.ext.size
       replace E := E.ext N8.ext
       have B8 := N8.blk
       refine s_append (base := base) (n := n2) (m := 2) (xs := ((rs ++ (l.take j).flatMap fun s => [s.1, s.2 + 1]).map (Value.int .i64))) (news := [(I6 s.1), (I6 (s.2 + 1))]) (size := 1) (bytes := 8) (v := (.slice la2 n2 lc2)) (by decide) Tryz.underlying26 siz3 byt3 zer3 rfl (by decide) rfl hown2 rfl (rfl) (B8.cells rfl) (by simp [Value.oneCell']) (by unfold maxLen; omega) (by omega) (hbs2) ?_
       intro v9 w29 Ov9 Cv9 Dv9
       replace E := E.step Cv9 (fun x hx h => absurd (hown2.lt x h).1 (by omega))
       obtain ⟨la3, lc3, rfl⟩ := own_form Ov9
       refine qA (.slice la3 (n2 + 2) lc3) rfl ?_
       refine WpL_nil (inB_normal (thn_normal (Wp_region ?_)))
       refine qV (r_add (k := .i64) (a := (j : Int)) (b := 1) (c := (j : Int) + 1) rfl rfl (wI64 (by omega))) ?_
       refine qM (I6 ((j : Int) + 1)) rfl ?_
       refine WpL_nil (thn_normal ?_)
       exact ⟨l.length - (j + 1), by omega, j + 1, la3, lc3, n2 + 2, Fits.out ⟨rfl, rfl, rfl, rfl, rfl, rfl, rfl, rfl, trivial⟩, E, (by omega), (by omega), (by rw [raw_snoc hs, ← List.append_assoc]; simpa using Ov9), Nat.le_trans hbs2 Cv9.size, rfl⟩
      ·have khlt3 := hlt3
       replace hlt3 := of_decide_eq_false hlt3
       have hjj : j = l.length := by omega
       rw [hjj, List.take_length] at hown2
       refine Wp_exit (thn_exit (thn_exit (inB_here (inB_normal (thn_normal (Wp_region ?_))))))
       refine qV (r_add (k := .i64) (a := (i : Int)) (b := 1) (c := (i : Int) + 1) rfl rfl (wI64 (by omega))) ?_
       refine qM (I6 ((i : Int) + 1)) rfl ?_
       refine WpL_nil (thn_normal ?_)
       exact ⟨ll.length - (i + 1), by omega, i + 1, la2, lc2, n2, rawC (ll.take (i + 1)).flatten, Fits.out ⟨rfl, rfl, rfl, rfl, rfl, trivial⟩, E, (by omega), rfl, (by rw [rawC_len, lens_take hx, List.length_append]; omega), (by rw [raw_take hx, ← hrs]; exact hown2), hbs2, rfl⟩
    ·have khlt2 := hlt2
     replace hlt2 := of_decide_eq_false hlt2
     have hii : i = ll.length := by omega
     rw [hii, List.take_length] at hrs
     have hrl := rawC_len ll.flatten
     rw [← hrs] at hrl
     obtain ⟨hncap, hcmax⟩ : n ≤ lc ∧ lc ≤ 9223372036854775807 := own_caps hown
     obtain ⟨g, rfl, hgb, hgc⟩ := own_cells hown (by omega)
     have hgl := hown.lt g rfl
     obtain ⟨q, hq⟩ : ∃ q, q = Lib.compact (rs.mergeSort leB) := ⟨_, rfl⟩
     obtain ⟨hq1, hq2⟩ : q.Pairwise (· < ·) ∧ ∀ x, x ∈ q ↔ x ∈ rawC ll.flatten := by rw [hq, ← hrs]; exact compact_sorted rs
     obtain ⟨p, hP, hqp⟩ := cuts_pcs hok hq1 hq2
     subst hn
     refine Wp_exit (thn_exit (thn_exit (inB_here (thn_normal (Wp_seq_region ?_)))))
     refine qM (.slice (some ⟨g, 0, none⟩) rs.length lc) rfl ?_
     refine WpL_enter rfl rfl (by decide) (r_callF (vs := [(.slice (some ⟨g, 0, none⟩) rs.length lc)]) Tryz.func147 nm147 bd147 rfl) (sorti_h _ base g lc rs hown (by omega)) ?_
     rintro _ w31 ⟨rfl, H31, C31⟩
     replace E := E.step C31 (fun x hx hm => absurd (hown.lt g rfl).1 (by omega))
     refine WpL_nil (Wp_seq_region ?_)
     refine qM (.slice (some ⟨g, 0, none⟩) rs.length lc) rfl ?_
     refine WpL_enter rfl rfl (by decide) (r_callF (vs := [(.slice (some ⟨g, 0, none⟩) rs.length lc)]) Tryz.func148 nm148 bd148 rfl) (compi_m _ g lc rs.length (rs.mergeSort leB) q H31 (by simp; omega) (by simp) hq) ?_
     rintro _ w32 ⟨rfl, I32, C32⟩
     replace E := E.step C32 (fun x hx hm => absurd (hown.lt g rfl).1 (by omega))
     refine qA (.slice (some ⟨g, 0, none⟩) q.length lc) rfl ?_
     refine WpL_nil (Wp_seq_region ?_)
     refine qA (.slice none 0 0) rfl ?_
     refine WpL_nil (Wp_seq_region ?_)
     refine s_makeMap kStr kInt (by decide) ?_
     intro bm wm Nm
     have Fm := Nm.ge E
     replace E := E.ext Nm.ext
     intro Mm
     refine qA (.map (some bm)) rfl ?_
     refine WpL_nil (Wp_seq (Wp_seq_region ?_))
     refine qM (.slice (some ⟨g, 0, none⟩) q.length lc) rfl ?_
     refine qV (r_lenSlice (ad := some ⟨g, 0, none⟩) (n := q.length) (cap := lc) Tryz.underlying26 rfl) ?_
     refine qM (I6 0) rfl ?_
     refine WpL_nil (Wp_block ?_)
     obtain ⟨n1, hn1e⟩ : ∃ n, n = wm.heap.size := ⟨_, rfl⟩
     have hI0 : SlIn (fun b => b = g) wm 1 (.slice (some ⟨g, 0, none⟩) q.length lc) (q.map intV) := SlIn.mk (I32.ext Nm.ext) rfl
     have hbmn : bm < n1 := by have := Mm.lt; omega
     have hgm0 : g < bm := by have := C32.size; have := C31.size; have := Nm.eq; omega
     have hbn1 : w0.heap.size ≤ n1 := by have := E.size; omega
     have hpb : ∀ x ∈ p, x ≤ 1114111 := fun x hx => (pcs_range hP hok hx).2
     have hpl : p.length ≤ 1114112 := pcs_len hP.1 (fun x hx => pcs_range hP hok hx)
     have hql := cut_len hqp
     have hqb : ∀ x ∈ q, 0 ≤ x ∧ x ≤ 1114112 := fun x hx => by rcases rawC_mem.1 ((hq2 x).1 hx) with h1 | ⟨s, hs, h1⟩; omega; have := hok s hs; unfold vSp at this; omega
     refine Wp_loop (fun nn_ σ W9 => ∃ (i2 : Nat) (ks : List (List Bool)) (outs : List (List Sp)) (vs : List Value) (oa : Option Addr) (oc : Nat) (on : Nat), (∃ jj_, σ = upds jj_ [(0, (.slice a ll.length c)), (7, (.slice (some ⟨g, 0, none⟩) q.length lc)), (13, (.map (some bm))), (63, (.slice (some ⟨g, 0, none⟩) q.length lc)), (64, (I6 (q.length : Int))), (65, (I6 (i2 : Int))), (12, (.slice oa on oc))]) ∧ Chg none1 w0 W9 ∧ MapAt W9 bm kStr kInt (keysM ks 0) ∧ (GInv ll p i2 ks outs) ∧ (i2 ≤ p.length) ∧ (CSt W9 n1 (.slice oa on oc) vs outs) ∧ (on = outs.length) ∧ (SlIn (fun b => b = g) W9 1 (.slice (some ⟨g, 0, none⟩) q.length lc) (q.map intV)) ∧ (n1 ≤ W9.heap.size) ∧ nn_ = p.length - i2) (n := p.length - 0) ?_ ?_
     ·exact ⟨0, [], [], [], none, 0, 0, Fits.out ⟨rfl, rfl, rfl, rfl, rfl, rfl, rfl, trivial⟩, E, Mm, GInv.start hP hok, Nat.zero_le _, CSt.start _ _, rfl, hI0, (by omega), rfl⟩
     ·clear E Mm
      rintro _ _ W9 ⟨i2, ks, outs, vs, oa, oc, on, ⟨j9, rfl⟩, E, Mm, hG, hi2, hC, hon, hI, hs1, rfl⟩
      refine Wp_seq_region ?_
      refine qV (r_lss (k := .i64) (a := (i2 : Int)) (b := (q.length : Int)) rfl rfl) ?_
      refine WpL_nil (Wp_seq ?_)
      refine Wp_cond (b := decide (((i2 : Int) : Int) < (q.length : Int))) rfl (fun hlt4 => ?_) (fun hlt4 => ?_)
      ·have khlt4 := hlt4
       replace hlt4 := of_decide_eq_true hlt4
       obtain ⟨c1, hc1⟩ := get_of_lt (l := q) (i := i2) (by omega)
       obtain ⟨qb, qo, hqab, hqc⟩ := ints_cells (l := q) hI.at (by omega)
       simp only [Option.some.injEq, Addr.mk.injEq, and_true] at hqab
       obtain ⟨rfl, rfl⟩ := hqab
       refine Wp_skip (thn_normal (Wp_seq (Wp_block (Wp_seq_region ?_))))
       refine qM (I6 (i2 : Int)) rfl ?_
       refine qV (r_indexSlice (b := g) (o := 0) (len := q.length) (cap := lc) (i := i2) (o' := 0 + i2) rfl rfl rfl Tryz.underlying26 siz3 (by omega) (by omega)) ?_
       refine qV (r_load (v := (I6 c1)) rfl flat3 (hqc i2 c1 hc1)) ?_
       refine qA (I6 (i2 : Int)) rfl ?_
       refine qA (I6 c1) rfl ?_
       refine WpL_nil (Wp_seq (Wp_seq_region ?_))
       refine qM (I6 c1) rfl ?_
       refine qV (r_gtr (k := .i64) (a := c1) (b := 1114111) rfl rfl) ?_
       refine WpL_nil ?_
       refine Wp_cond (b := decide ((1114111 : Int) < c1)) rfl (fun hbig => ?_) (fun hbig => ?_)
       ·have khbig := hbig
        replace hbig := of_decide_eq_true hbig
        have hie : i2 = p.length := by have := (cut_at hqp hc1 hpb).2 hbig; omega
        have hG2 := hG
        rw [hie] at hG2
        have hJ0 := hC.join
        have hcnt := hG.cnt
        have hcl9 := hG.len
        refine Wp_exit (thn_exit ?_)
        refine inB_there (by decide) ?_
        refine thn_exit (thn_exit (inB_here (thn_normal (Wp_seq (Wp_seq_region ?_)))))
        refine qM (.slice oa on oc) rfl ?_
        refine qV (r_lenSlice (ad := oa) (n := on) (cap := oc) Tryz.underlying50 rfl) ?_
        refine qM (I6 0) rfl ?_
        refine WpL_nil (Wp_block ?_)
        refine Wp_loop (fun nn_ σ W12 => ∃ (k3 : Nat) (cs : List (List Sp)) (us : List Value), (∃ jj_, σ = upds jj_ [(12, (.slice oa on oc)), (133, (I6 (on : Int))), (134, (I6 (k3 : Int)))]) ∧ Chg none1 w0 W12 ∧ (k3 ≤ outs.length) ∧ (JSt W12 n1 (.slice oa on oc) us outs cs k3) ∧ (∀ c ∈ cs, c.length ≤ 16) ∧ (n1 ≤ W12.heap.size) ∧ nn_ = outs.length - k3) (n := outs.length - 0) ?_ ?_
        ·exact ⟨0, [], vs, Fits.out ⟨rfl, rfl, rfl, trivial⟩, E, Nat.zero_le _, hJ0, (by simp), hs1, rfl⟩
        ·clear E
         rintro _ _ W12 ⟨k3, cs, us, ⟨j12, rfl⟩, E, hk3, hJ, hsm, hs3, rfl⟩
         refine Wp_seq_region ?_
         refine qV (r_lss (k := .i64) (a := (k3 : Int)) (b := (on : Int)) rfl rfl) ?_
         refine WpL_nil (Wp_seq ?_)
         refine Wp_cond (b := decide (((k3 : Int) : Int) < (on : Int))) rfl (fun hlt5 => ?_) (fun hlt5 => ?_)
         ·have khlt5 := hlt5
          replace hlt5 := of_decide_eq_true hlt5
          obtain ⟨o1, ho1⟩ := get_of_lt (l := outs) (i := k3) (by omega)
          obtain ⟨u1, hu1⟩ := get_of_lt (l := us) (i := k3) (by have := hJ.len; omega)
          obtain ⟨⟨ua, uc, rfl⟩, hui⟩ := hJ.rst k3 u1 o1 (Nat.le_refl _) hu1 ho1
          have hJo := hJ.o
          rw [← hon] at hJo
          obtain ⟨gg, rfl, hg1, hg2⟩ := own_cells hJo (by omega)
          have hggl := hJo.lt gg rfl
          have hol := (hG2.ok k3 o1 ho1)
          refine Wp_skip (thn_normal (Wp_seq (Wp_block (Wp_seq_region ?_))))
          refine qM (I6 (k3 : Int)) rfl ?_
          refine qA (I6 (k3 : Int)) rfl ?_
          refine WpL_nil (Wp_seq_region ?_)
          refine qM (.slice (some ⟨gg, 0, none⟩) on oc) rfl ?_
          refine qM (I6 (k3 : Int)) rfl ?_
          refine qM (.slice (some ⟨gg, 0, none⟩) on oc) rfl ?_
          refine qM (I6 (k3 : Int)) rfl ?_
          refine qV (r_indexSlice (b := gg) (o := 0) (len := on) (cap := oc) (i := k3) (o' := 0 + k3) rfl rfl rfl Tryz.underlying50 siz22 (by omega) (by omega)) ?_
          refine qV (r_load (v := (.slice ua o1.length uc)) rfl flat22 ((by have h1 := (hJo.cells (g := gg) rfl) k3 _ hu1; rwa [Addr.add_lit] at h1))) ?_
          refine WpL_enter rfl rfl (by decide) (r_callF (vs := [(.slice ua o1.length uc)]) Tryz.func149 nm149 bd149 rfl) (join_c _ _ o1 hui.at (by omega) hol.1) ?_
          rintro _ w41 ⟨⟨j1, hj1, ⟨⟨ja, jc, rfl⟩, O41⟩⟩, X41⟩
          replace E := E.ext X41
          obtain ⟨cur, hBo, hcs⟩ := own_blk (own_ext hJo X41)
          refine qV (r_indexSlice (b := gg) (o := 0) (len := on) (cap := oc) (i := k3) (o' := 0 + k3) rfl rfl rfl Tryz.underlying50 siz22 (by omega) (by omega)) ?_
          have hBo0 := hBo
          have hPx : True := trivial
          refine s_store (b := gg) (o := 0 + k3) (c' := cur.setIfInBounds (0 + k3) (.slice ja j1.length jc)) (v := (.slice ja j1.length jc)) rfl rfl rfl siz22 hBo (by omega) (rfl) ?_
          intro w14 S14
          replace hPx := S14
          replace E := S14.step E (by first | exact Or.inl (by omega) | exact Or.inr rfl | exact Or.inr (by assumption) | exact Or.inr (by simp) | exact Or.inr (by omega) | exact Or.inr (by dsimp only; omega))
          replace hBo := S14.blk
          refine WpL_nil (Wp_seq_region ?_)
          refine qM (.slice (some ⟨gg, 0, none⟩) on oc) rfl ?_
          refine qM (I6 (k3 : Int)) rfl ?_
          refine qV (r_indexSlice (b := gg) (o := 0) (len := on) (cap := oc) (i := k3) (o' := 0 + k3) rfl rfl rfl Tryz.underlying50 siz22 (by omega) (by omega)) ?_
          refine qV (r_load (v := (.slice ja j1.length jc)) rfl flat22 (hBo.cell (by rw [Array.getElem?_setIfInBounds_self_of_lt (by omega)]))) ?_
          refine qV (r_lenSlice (ad := ja) (n := j1.length) (cap := jc) Tryz.underlying22 rfl) ?_
          refine qV (r_gtr (k := .i64) (a := (j1.length : Int)) (b := 16) rfl rfl) ?_
          refine WpL_nil ?_
          refine Wp_cond (b := decide ((16 : Int) < (j1.length : Int))) rfl (fun hlg => ?_) (fun hlg => ?_)
          ·have khlg := hlg
           replace hlg := of_decide_eq_true hlg
           refine Wp_seq_region ?_
           refine qA (.slice none 0 0) rfl ?_
           refine qA (I6 2) rfl ?_
           refine WpL_nil (Wp_ret (inB_ret (thn_ret (thn_ret (inB_ret (thn_ret ?_))))))
           refine fin_tmp2 Tryz.results103 (v := (.slice none 0 0)) (v' := (.int .i64 2)) rfl rfl ?_
           obtain ⟨cF, hF1, hF2⟩ := cls_large hG2 hP ho1 hj1 (by omega)
           exact ⟨⟨[], 2, .inr ⟨hz0, cF, hF1, .inl ⟨hF2, rfl, rfl⟩⟩, none, 0, rfl, spss_nil _⟩, E⟩
          ·have khlg := hlg
           replace hlg := of_decide_eq_false hlg
           refine Wp_skip (inB_normal (thn_normal (Wp_region ?_)))
           refine qV (r_add (k := .i64) (a := (k3 : Int)) (b := 1) (c := (k3 : Int) + 1) rfl rfl (wI64 (by omega))) ?_
           refine qM (I6 ((k3 : Int) + 1)) rfl ?_
           refine WpL_nil (thn_normal ?_)
           exact ⟨outs.length - (k3 + 1), by omega, k3 + 1, cs ++ [j1], us.set k3 (.slice ja j1.length jc), Fits.out ⟨rfl, rfl, rfl, trivial⟩, E, (by omega), (by have hS := JSt.step (hJ.ext X41) hon ho1 (⟨⟨_, _, rfl⟩, O41⟩ : OwnS _ _ _ j1) hggl.2 hj1 hBo0 (by simpa using hPx); exact hS), (fun c hc => by rcases List.mem_append.1 hc with h1 | h1; exact hsm c h1; rw [List.mem_singleton] at h1; subst h1; omega), (by have := X41.size; have := hPx.chg.size; omega), rfl⟩
         ·have khlt5 := hlt5
          replace hlt5 := of_decide_eq_false hlt5
          have hk33 : k3 = outs.length := by omega
          have hcls := hG2.done hP (by rw [hJ.cl, hk33]) hJ.jn
          have hsp := hJ.done hk33
          have hcl3 : cs.length = on := by rw [hJ.cl, hk33, hon]
          refine Wp_exit (thn_exit (thn_exit (inB_here (thn_normal (Wp_seq (Wp_seq_region ?_))))))
          refine qM (.slice oa on oc) rfl ?_
          refine qV (r_lenSlice (ad := oa) (n := on) (cap := oc) Tryz.underlying50 rfl) ?_
          refine qV (r_gtr (k := .i64) (a := (on : Int)) (b := 16) rfl rfl) ?_
          refine WpL_nil ?_
          refine Wp_cond (b := decide ((16 : Int) < (on : Int))) rfl (fun hlg2 => ?_) (fun hlg2 => ?_)
          ·have khlg2 := hlg2
           replace hlg2 := of_decide_eq_true hlg2
           refine Wp_seq_region ?_
           refine qA (.slice none 0 0) rfl ?_
           refine qA (I6 2) rfl ?_
           refine WpL_nil (Wp_ret (thn_ret ?_))
           refine fin_tmp2 Tryz.results103 (v := (.slice none 0 0)) (v' := (.int .i64 2)) rfl rfl ?_
           exact ⟨⟨[], 2, .inr ⟨hz0, cs, hcls, .inl ⟨.inr (by omega), rfl, rfl⟩⟩, none, 0, rfl, spss_nil _⟩, E⟩
          ·have khlg2 := hlg2
           replace hlg2 := of_decide_eq_false hlg2
           refine Wp_skip (thn_normal (Wp_seq_region ?_))
           refine qM (.slice oa on oc) rfl ?_
           refine qA (.slice oa on oc) rfl ?_
           refine qA (I6 0) rfl ?_
           refine WpL_nil (Wp_ret ?_)
           refine fin_tmp2 Tryz.results103 (v := (.slice oa on oc)) (v' := (.int .i64 0)) rfl rfl ?_
           rw [← hcl3] at hsp
           exact ⟨⟨cs, 0, .inr ⟨hz0, cs, hcls, .inr ⟨fun hl9 => by rcases hl9 with ⟨c, h1, h2⟩ | h2; have := hsm c h1; omega; omega, rfl, rfl⟩⟩, oa, oc, by rw [hcl3], hsp⟩, E⟩
       ·have khbig := hbig
        replace hbig := of_decide_eq_false hbig
        have E6 : Chg none1 W9 W9 := Chg.refl _ _
        obtain ⟨z0, hz0e⟩ : ∃ z0, z0 = (W9).heap.size := ⟨_, rfl⟩
        have hblk : ∀ (i : Nat) v b, vs[i]? = some v → v.ownBlock = some b → b < z0 := fun i v b hv hb => by obtain ⟨l, hl⟩ := hC.some hv; have := ((hC.inn i v l hv hl).lt b hb).2; omega
        have hpc := (cut_at hqp hc1 hpb).1 (by omega)
        have hlp := lt_of_get hpc
        refine Wp_skip (thn_normal (Wp_seq_region ?_))
        refine qM (I6 c1) rfl ?_
        refine qV (r_build (ps := [(0, (I6 c1)), (1, (I6 1114111))]) (v := (.agg #[(I6 c1), (I6 1114111)])) rfl (by kernel_rfl)) ?_
        refine s_allocStore (v := (.agg #[(I6 c1), (I6 1114111)])) (c := #[(I6 c1), (I6 1114111)]) (n := 2) (by decide) zer103 rfl siz103 rfl rfl rfl (by simp [Value.oneCell']) ?_
        intro bx wx Nx
        have Fx := Nx.ge E
        have Fx_E6 := Nx.ge E6
        have Ox_bm := Nx.ltM Mm
        replace Mm := Nx.keepM Mm
        replace E := E.ext Nx.ext
        have Bx := Nx.blk
        replace E6 := E6.ext Nx.ext
        refine WpL_nil ?_
        refine Wp_cut (fun σ W17 => ∃ (hi : Int), (∃ jj_, σ = upds jj_ [(0, (.slice a ll.length c)), (7, (.slice (some ⟨g, 0, none⟩) q.length lc)), (12, (.slice oa on oc)), (13, (.map (some bm))), (15, (I6 c1)), (16, (P6 bx 0)), (63, (.slice (some ⟨g, 0, none⟩) q.length lc)), (64, (I6 (q.length : Int))), (65, (I6 (i2 : Int)))]) ∧ Chg none1 w0 W17 ∧ Chg none1 W9 W17 ∧ MapAt W17 bm kStr kInt (keysM ks 0) ∧ Blk W17 bx (#[Value.int .i64 c1, Value.int .i64 hi]) 103 ∧ (hi = nx p (i2 + 1) - 1)) ?_ ?_
        ·skip
         refine Wp_seq_region ?_
         refine qM (I6 (i2 : Int)) rfl ?_
         refine qV (r_add (k := .i64) (a := (i2 : Int)) (b := 1) (c := (i2 : Int) + 1) rfl rfl (wI64 (by omega))) ?_
         refine qM (.slice (some ⟨g, 0, none⟩) q.length lc) rfl ?_
         refine qV (r_lenSlice (ad := some ⟨g, 0, none⟩) (n := q.length) (cap := lc) Tryz.underlying26 rfl) ?_
         refine qV (r_lss (k := .i64) (a := (i2 : Int) + 1) (b := (q.length : Int)) rfl rfl) ?_
         refine WpL_nil ?_
         refine Wp_cond (b := decide (((i2 : Int) + 1 : Int) < (q.length : Int))) rfl (fun hnx => ?_) (fun hnx => ?_)
         ·have khnx := hnx
          replace hnx := of_decide_eq_true hnx
          obtain ⟨d1, hd1⟩ := get_of_lt (l := q) (i := i2 + 1) (by omega)
          have hdn := cut_next hqp (by omega) hd1
          have hdb := hqb d1 (List.mem_of_getElem? hd1)
          refine Wp_region ?_
          refine qM (.slice (some ⟨g, 0, none⟩) q.length lc) rfl ?_
          refine qM (I6 (i2 : Int)) rfl ?_
          refine qV (r_add (k := .i64) (a := (i2 : Int)) (b := 1) (c := (i2 : Int) + 1) rfl rfl (wI64 (by omega))) ?_
          refine qV (r_indexSlice (b := g) (o := 0) (len := q.length) (cap := lc) (i := i2 + 1) (o' := 0 + (i2 + 1)) rfl rfl (by omega) Tryz.underlying26 siz3 (by omega) (by omega)) ?_
          refine qV (r_load (v := (I6 d1)) rfl flat3 (((hI.chg E6 fun _ _ f => f).at |> fun hh => by obtain ⟨qb, qo, hab, hqd⟩ := ints_cells (l := q) hh (by omega); simp only [Option.some.injEq, Addr.mk.injEq, and_true] at hab; obtain ⟨rfl, rfl⟩ := hab; exact hqd (i2 + 1) d1 hd1))) ?_
          refine qV (r_sub (k := .i64) (a := d1) (b := 1) (c := d1 - 1) rfl rfl (wI64 (by omega))) ?_
          refine qF bx 0 1 rfl Tryz.underlying103 rfl siz3 rfl ?_
          refine s_store (b := bx) (o := 1) (c' := #[(I6 c1), (I6 (d1 - 1))]) (v := (I6 (d1 - 1))) rfl rfl rfl siz3 Bx (by simp) rfl ?_
          intro w19 S19
          replace Mm := S19.keepM (by omega) Mm
          replace E := S19.step E (by first | exact Or.inl (by omega) | exact Or.inr rfl | exact Or.inr (by assumption) | exact Or.inr (by simp) | exact Or.inr (by omega) | exact Or.inr (by dsimp only; omega))
          replace E6 := S19.step E6 (Or.inl (by omega))
          replace Bx := S19.blk
          refine WpL_nil (thn_normal ?_)
          exact ⟨d1 - 1, Fits.out ⟨rfl, rfl, rfl, rfl, rfl, rfl, rfl, rfl, rfl, trivial⟩, E, E6, Mm, Bx, (by omega)⟩
         ·have khnx := hnx
          replace hnx := of_decide_eq_false hnx
          refine Wp_skip (thn_normal ?_)
          exact ⟨1114111, Fits.out ⟨rfl, rfl, rfl, rfl, rfl, rfl, rfl, rfl, rfl, trivial⟩, E, E6, Mm, Bx, (by rw [cut_last hqp (by omega)]; rfl)⟩
        ·clear E E6 Mm Bx
         rintro _ W17 ⟨hi, ⟨j17, rfl⟩, E, E6, Mm, Bx, hhi⟩
         refine Wp_seq_region ?_
         refine qM (.slice a ll.length c) rfl ?_
         refine qV (r_lenSlice (ad := a) (n := ll.length) (cap := c) Tryz.underlying50 rfl) ?_
         refine s_make (n := ll.length) (z := (.int .u8 0)) (bytes := 1) (by decide) Tryz.underlying147 siz5 byt5 zer5 rfl rfl rfl (by omega) (by omega) ?_
         intro bk wk Nk
         have Fk := Nk.ge E
         have Fk_E6 := Nk.ge E6
         have Ok_bm := Nk.ltM Mm
         have Ok_bx := Nk.lt Bx
         replace Mm := Nk.keepM Mm
         replace Bx := Nk.keep Bx
         replace E := E.ext Nk.ext
         have Bk := Nk.blk
         replace E6 := E6.ext Nk.ext
         refine qA (.slice (some ⟨bk, 0, none⟩) ll.length ll.length) rfl ?_
         refine WpL_nil (Wp_seq (Wp_seq_region ?_))
         refine qM (.slice a ll.length c) rfl ?_
         refine qV (r_lenSlice (ad := a) (n := ll.length) (cap := c) Tryz.underlying50 rfl) ?_
         refine qM (I6 0) rfl ?_
         refine WpL_nil (Wp_block ?_)
         rw [show (List.replicate ll.length (Value.int .u8 0)) = (marksN ll c1 0).map (Value.int .u8) from by rw [marksN_zero, List.map_replicate]] at Bk
         refine Wp_loop (fun nn_ σ W20 => ∃ (e1 : Nat), (∃ jj_, σ = upds jj_ [(0, (.slice a ll.length c)), (7, (.slice (some ⟨g, 0, none⟩) q.length lc)), (12, (.slice oa on oc)), (13, (.map (some bm))), (15, (I6 c1)), (16, (P6 bx 0)), (17, (.slice (some ⟨bk, 0, none⟩) ll.length ll.length)), (63, (.slice (some ⟨g, 0, none⟩) q.length lc)), (64, (I6 (q.length : Int))), (65, (I6 (i2 : Int))), (89, (.slice a ll.length c)), (90, (I6 (ll.length : Int))), (91, (I6 (e1 : Int)))]) ∧ Chg none1 w0 W20 ∧ Chg none1 W9 W20 ∧ MapAt W20 bm kStr kInt (keysM ks 0) ∧ Blk W20 bx #[(I6 c1), (I6 hi)] 103 ∧ Blk W20 bk (((marksN ll c1 e1).map (Value.int .u8)).toArray) 5 ∧ (e1 ≤ ll.length) ∧ nn_ = ll.length - e1) (n := ll.length - 0) ?_ ?_
         ·exact ⟨0, Fits.out ⟨rfl, rfl, rfl, rfl, rfl, rfl, rfl, rfl, rfl, rfl, rfl, rfl, rfl, trivial⟩, E, E6, Mm, Bx, Bk, Nat.zero_le _, rfl⟩
         ·clear E E6 Mm Bx Bk
          rintro _ _ W20 ⟨e1, ⟨j20, rfl⟩, E, E6, Mm, Bx, Bk, he1, rfl⟩
          refine Wp_seq_region ?_
          refine qV (r_lss (k := .i64) (a := (e1 : Int)) (b := (ll.length : Int)) rfl rfl) ?_
          refine WpL_nil (Wp_seq ?_)
          refine Wp_cond (b := decide (((e1 : Int) : Int) < (ll.length : Int))) rfl (fun hlt6 => ?_) (fun hlt6 => ?_)
          ·have khlt6 := hlt6
           replace hlt6 := of_decide_eq_true hlt6
           obtain ⟨l6, hx6⟩ := get_of_lt (l := ll) (i := e1) (by omega)
           obtain ⟨b, o, rfl, hcl⟩ := spss_cells h (by omega)
           obtain ⟨ra, rc, hcell, hsp⟩ := hcl e1 l6 hx6
           refine Wp_skip (thn_normal (Wp_seq (Wp_block (Wp_seq_region ?_))))
           refine qM (I6 (e1 : Int)) rfl ?_
           refine qV (r_indexSlice (b := b) (o := o) (len := ll.length) (cap := c) (i := e1) (o' := o + e1) rfl rfl rfl Tryz.underlying50 siz22 (by omega) (by omega)) ?_
           refine qV (r_load (v := (.slice ra l6.length rc)) rfl flat22 (E.cell (fun f => f) hcell)) ?_
           refine qA (I6 (e1 : Int)) rfl ?_
           refine qA (.slice ra l6.length rc) rfl ?_
           refine WpL_nil (Wp_seq_region ?_)
           refine qM (.slice ra l6.length rc) rfl ?_
           refine qM (I6 c1) rfl ?_
           refine WpL_enter rfl rfl (by decide) (r_callF (vs := [(.slice ra l6.length rc), (I6 c1)]) Tryz.func116 nm116 bd116 rfl) (in_c _ _ l6 c1 (hsp.ext E)) ?_
           rintro _ w51 ⟨rfl, X51⟩
           replace Mm := X51.keepM Mm
           replace Bx := X51.keep Bx
           replace Bk := X51.keep Bk
           replace E := E.ext X51
           replace E6 := E6.ext X51
           refine WpL_nil ?_
           refine Wp_cond (b := inS l6 c1) rfl (fun hin => ?_) (fun hin => ?_)
           ·have khin := hin
            have hml := marksN_len (c := c1) he1
            refine Wp_region ?_
            refine qM (.slice (some ⟨bk, 0, none⟩) ll.length ll.length) rfl ?_
            refine qM (I6 (e1 : Int)) rfl ?_
            refine qV (r_indexSlice (b := bk) (o := 0) (len := ll.length) (cap := ll.length) (i := e1) (o' := 0 + e1) rfl rfl rfl Tryz.underlying147 siz5 (by omega) (by omega)) ?_
            refine s_store (b := bk) (o := 0 + e1) (c' := ((marksN ll c1 (e1 + 1)).map (Value.int .u8)).toArray) (v := (.int .u8 1)) rfl rfl rfl siz5 Bk (by simp; omega) (by rw [marksN_succ hx6, hin]; simp [bitN, List.map_set]) ?_
            intro w23 S23
            replace Mm := S23.keepM (by omega) Mm
            replace Bx := S23.keep (by omega) Bx
            replace E := S23.step E (by first | exact Or.inl (by omega) | exact Or.inr rfl | exact Or.inr (by assumption) | exact Or.inr (by simp) | exact Or.inr (by omega) | exact Or.inr (by dsimp only; omega))
            replace E6 := S23.step E6 (Or.inl (by omega))
            replace Bk := S23.blk
            refine WpL_nil (inB_normal (thn_normal (Wp_region ?_)))
            refine qV (r_add (k := .i64) (a := (e1 : Int)) (b := 1) (c := (e1 : Int) + 1) rfl rfl (wI64 (by omega))) ?_
            refine qM (I6 ((e1 : Int) + 1)) rfl ?_
            refine WpL_nil (thn_normal ?_)
            exact ⟨ll.length - (e1 + 1), by omega, e1 + 1, Fits.out ⟨rfl, rfl, rfl, rfl, rfl, rfl, rfl, rfl, rfl, rfl, rfl, rfl, rfl, trivial⟩, E, E6, Mm, Bx, Bk, (by omega), rfl⟩
           ·have khin := hin
            have hsm6 : marksN ll c1 (e1 + 1) = marksN ll c1 e1 := marksN_same hx6 hin
            rw [← hsm6] at Bk
            refine Wp_skip (inB_normal (thn_normal (Wp_region ?_)))
            refine qV (r_add (k := .i64) (a := (e1 : Int)) (b := 1) (c := (e1 : Int) + 1) rfl rfl (wI64 (by omega))) ?_
            refine qM (I6 ((e1 : Int) + 1)) rfl ?_
            refine WpL_nil (thn_normal ?_)
            exact ⟨ll.length - (e1 + 1), by omega, e1 + 1, Fits.out ⟨rfl, rfl, rfl, rfl, rfl, rfl, rfl, rfl, rfl, rfl, rfl, rfl, rfl, trivial⟩, E, E6, Mm, Bx, Bk, (by omega), rfl⟩
          ·have khlt6 := hlt6
           replace hlt6 := of_decide_eq_false hlt6
           have hee : e1 = ll.length := by omega
           rw [hee, marksN_all] at Bk
           refine Wp_exit (thn_exit (thn_exit (inB_here (thn_normal (Wp_seq_region ?_)))))
           refine qM (.map (some bm)) rfl ?_
           refine qM (.slice (some ⟨bk, 0, none⟩) ll.length ll.length) rfl ?_
           refine qV (r_bytesStr Tryz.underlying147 Tryz.underlying5 Tryz.underlying9 rfl Bk (by simp [markL])) ?_
           refine WpL_val (v := (.tuple #[(I6 ((getM (keysM ks 0) (encB (markL ll c1))).getD 0)), (.bool ((getM (keysM ks 0) (encB (markL ll c1))).isSome))])) rfl rfl (by decide) (r_lookup2 (k := (encB (markL ll c1))) (z := 0) Tryz.underlying146 (keyStr Tryz.underlying9) zer3 Mm rfl rfl) ?_
           refine qM (.tuple #[(I6 ((getM (keysM ks 0) (encB (markL ll c1))).getD 0)), (.bool ((getM (keysM ks 0) (encB (markL ll c1))).isSome))]) rfl ?_
           refine qV (r_extract (vs := #[(I6 ((getM (keysM ks 0) (encB (markL ll c1))).getD 0)), (.bool ((getM (keysM ks 0) (encB (markL ll c1))).isSome))]) (v := (I6 ((getM (keysM ks 0) (encB (markL ll c1))).getD 0))) rfl rfl) ?_
           refine qV (r_extract (vs := #[(I6 ((getM (keysM ks 0) (encB (markL ll c1))).getD 0)), (.bool ((getM (keysM ks 0) (encB (markL ll c1))).isSome))]) (v := (.bool ((getM (keysM ks 0) (encB (markL ll c1))).isSome))) rfl rfl) ?_
           refine qA (I6 ((getM (keysM ks 0) (encB (markL ll c1))).getD 0)) rfl ?_
           refine qA (.bool ((getM (keysM ks 0) (encB (markL ll c1))).isSome)) rfl ?_
           refine WpL_nil ?_
           have hC6 := hC.ext E6
           have hI6 := hI.chg E6 fun _ _ f => f
           have hs6 := Nat.le_trans hs1 E6.size
           have hcnt := hG.cnt
           have hkon : on = ks.length := by rw [hon, hG.len]
           refine Wp_cut (fun σ W24 => ∃ (kk : Nat) (ks1 : List (List Bool)) (outs1 : List (List Sp)) (vs1 : List Value) (oa1 : Option Addr) (oc1 on1 : Nat), (∃ jj_, σ = upds jj_ [(0, (.slice a ll.length c)), (7, (.slice (some ⟨g, 0, none⟩) q.length lc)), (13, (.map (some bm))), (16, (P6 bx 0)), (63, (.slice (some ⟨g, 0, none⟩) q.length lc)), (64, (I6 (q.length : Int))), (65, (I6 (i2 : Int))), (12, (.slice oa1 on1 oc1)), (20, (I6 (kk : Int)))]) ∧ Chg none1 w0 W24 ∧ MapAt W24 bm kStr kInt (keysM ks1 0) ∧ Blk W24 bx #[(I6 c1), (I6 hi)] 103 ∧ Blk W24 bk ((((markL ll c1).map bitN).map (Value.int .u8)).toArray) 5 ∧ (ks1 = addF ks (markL ll c1)) ∧ (outs1.length = ks1.length) ∧ (∀ (j : Nat) q, outs1[j]? = some q → outs[j]? = some q ∨ (j = ks.length ∧ q = [] ∧ markL ll c1 ∉ ks)) ∧ (ks1[kk]? = some (markL ll c1)) ∧ (CSt W24 n1 (.slice oa1 on1 oc1) vs1 outs1) ∧ (on1 = outs1.length) ∧ (SlIn (fun b => b = g) W24 1 (.slice (some ⟨g, 0, none⟩) q.length lc) (q.map intV)) ∧ (n1 ≤ W24.heap.size) ∧ (∀ (i : Nat) v b, vs1[i]? = some v → v.ownBlock = some b → b < z0)) ?_ ?_
           ·skip
            refine Wp_seq_region ?_
            refine qM (.bool ((getM (keysM ks 0) (encB (markL ll c1))).isSome)) rfl ?_
            refine qV (r_not (b := (getM (keysM ks 0) (encB (markL ll c1))).isSome) rfl) ?_
            refine WpL_nil ?_
            refine Wp_cond (b := !((getM (keysM ks 0) (encB (markL ll c1))).isSome)) rfl (fun hnew => ?_) (fun hnew => ?_)
            ·have khnew := hnew
             replace hnew := by simpa using hnew
             have hgm : getM (keysM ks 0) (encB (markL ll c1)) = none := by simpa using hnew
             obtain ⟨hnin, hput⟩ := keysM_none hgm
             refine Wp_seq_region ?_
             refine qM (.slice oa on oc) rfl ?_
             refine qV (r_lenSlice (ad := oa) (n := on) (cap := oc) Tryz.underlying50 rfl) ?_
             refine qA (I6 (on : Int)) rfl ?_
             refine WpL_nil (Wp_seq_region ?_)
             refine qM (.map (some bm)) rfl ?_
             refine qM (.slice (some ⟨bk, 0, none⟩) ll.length ll.length) rfl ?_
             refine qV (r_bytesStr Tryz.underlying147 Tryz.underlying5 Tryz.underlying9 rfl Bk (by simp [markL])) ?_
             refine qM (I6 (on : Int)) rfl ?_
             refine s_mapUpdate (k := (encB (markL ll c1))) (v := (on : Int)) Tryz.underlying146 (keyStr Tryz.underlying9) Mm rfl rfl rfl ?_
             intro w26 S26 H26
             replace hs6 := Nat.le_trans hs6 S26.chg.size
             replace hC6 := hC6.chg S26.chg fun b h1 _ h2 => absurd h2 (by omega)
             replace hI6 := hI6.chg S26.chg fun b h1 h2 => by subst h1; omega
             replace Bx := S26.keep (by omega) Bx
             replace Bk := S26.keep (by omega) Bk
             replace E := S26.step E (by first | exact Or.inl (by omega) | exact Or.inr rfl | exact Or.inr (by assumption) | exact Or.inr (by simp) | exact Or.inr (by omega) | exact Or.inr (by dsimp only; omega))
             replace Mm := H26
             refine WpL_nil (Wp_region ?_)
             refine qM (.slice oa on oc) rfl ?_
             refine s_buildSlice (ps := [(0, (.slice none 0 0))]) (c := #[(.slice none 0 0)]) (by decide) rfl Tryz.underlying50 siz22 zer22 (by decide) (by decide) (by kernel_rfl) ?_
             intro b27 w27 N27
             have F27 := N27.ge E
             have O27_bm := N27.ltM Mm
             have O27_bx := N27.lt Bx
             have O27_bk := N27.lt Bk
             replace Mm := N27.keepM Mm
             replace Bx := N27.keep Bx
             replace Bk := N27.keep Bk
             replace hC6 := hC6.ext N27.ext
             replace hI6 := hI6.chg N27.ext fun _ _ f => f
             replace hs6 := Nat.le_trans hs6 N27.ext.size
             replace E := E.ext N27.ext
             have B27 := N27.blk
             refine s_append (base := n1) (n := on) (m := 1) (xs := vs) (news := [(.slice none 0 0)]) (size := 1) (bytes := 24) (v := (.slice oa on oc)) (by decide) Tryz.underlying50 siz22 byt22 zer22 rfl (by decide) rfl (hC6.on hon) rfl (rfl) (B27.cells rfl) (by simp [Value.oneCell']) (by unfold maxLen; omega) (by omega) (hs6) ?_
             intro v7 w59 Ov7 Cv7 Dv7
             replace Mm := Cv7.keepM (fun h => by have := (hC6.o.lt _ h).1; omega) Mm
             replace Bx := Cv7.keep (fun h => by have := (hC.o.lt _ h).2; omega) Bx
             replace Bk := Cv7.keep (fun h => by have := (hC.o.lt _ h).2; omega) Bk
             replace E := E.step Cv7 (fun x hx h => absurd ((hC6.on hon).lt x h).1 (by omega))
             obtain ⟨oa2, oc2, rfl⟩ := own_form Ov7
             rw [hkon, hput] at Mm
             refine qA (.slice oa2 (on + 1) oc2) rfl ?_
             refine WpL_nil (thn_normal ?_)
             exact ⟨on, ks ++ [markL ll c1], outs ++ [[]], vs ++ [.slice none 0 0], oa2, oc2, on + 1, Fits.out ⟨rfl, rfl, rfl, rfl, rfl, rfl, rfl, rfl, rfl, trivial⟩, E, Mm, Bx, Bk, (by unfold addF; rw [if_neg hnin]), (by simp; omega), snoc_old hG.len hnin, (by rw [hkon]; simp), hC6.push (by rw [← hon]; exact Ov7) Cv7 Dv7, (by simp; omega), hI6.chg Cv7 fun b h1 h2 => by subst h1; have := (hC6.o.lt _ h2).1; omega, Nat.le_trans hs6 Cv7.size, snoc_blk hblk⟩
            ·have khnew := hnew
             replace hnew := by simpa using hnew
             have hgs : (getM (keysM ks 0) (encB (markL ll c1))).isSome = true := by simpa using hnew
             obtain ⟨v9, hv9⟩ := Option.isSome_iff_exists.1 hgs
             obtain ⟨j9, rfl, hj9⟩ := keysM_get hv9
             rw [show (getM (keysM ks 0) (encB (markL ll c1))).getD 0 = ((j9 : Nat) : Int) from by rw [hv9]; rfl]
             refine Wp_skip (thn_normal ?_)
             exact ⟨j9, ks, outs, vs, oa, oc, on, Fits.out ⟨rfl, rfl, rfl, rfl, rfl, rfl, rfl, rfl, rfl, trivial⟩, E, Mm, Bx, Bk, (by unfold addF; rw [if_pos (List.mem_of_getElem? hj9)]), (by omega), (fun j q h => .inl h), hj9, hC6, hon, hI6, hs6, hblk⟩
           ·clear E Mm Bx Bk
            rintro _ W24 ⟨kk, ks1, outs1, vs1, oa1, oc1, on1, ⟨j24, rfl⟩, E, Mm, Bx, Bk, hks1, hol1, hsm1, hkm1, hC1, hon1, hI1, hs7, hbl⟩
            obtain ⟨o1, ho1⟩ := get_of_lt (l := outs1) (i := kk) (by have := lt_of_get hkm1; omega)
            obtain ⟨v1, hv1⟩ := get_of_lt (l := vs1) (i := kk) (by have := hC1.len; have := lt_of_get hkm1; omega)
            obtain ⟨va, vc, rfl⟩ := own_form (hC1.inn kk v1 o1 hv1 ho1)
            have hko := lt_of_get ho1
            have hol8 : o1.length ≤ i2 := by rcases hsm1 kk o1 ho1 with h1 | ⟨_, h1, _⟩; exact (hG.ok kk o1 h1).2; subst h1; exact Nat.zero_le _
            obtain ⟨gg, rfl, hg1, hg2⟩ := own_cells (hC1.on hon1) (by omega)
            have hggl := hC1.o.lt gg rfl
            have hinn := hC1.inn kk _ o1 hv1 ho1
            obtain ⟨h0, hh0⟩ : ∃ h0, h0 = (W24).heap.size := ⟨_, rfl⟩
            obtain ⟨Fs28, hFs28⟩ : ∃ Fs : List (FactT ((fun y => (Value.slice va o1.length vc).ownBlock = some y))), Fs = [.eq (.slice (some ⟨gg, 0, none⟩) on1 oc1), .eq (I6 (kk : Int)), .eq (.slice (some ⟨gg, 0, none⟩) on1 oc1), .eq (I6 (kk : Int)), .eq (.pointer (some ⟨gg, 0 + kk, none⟩)), .eq (.slice va o1.length vc), .eq (.agg #[(I6 c1), (I6 hi)]), .till (litF TSp #[.int .i64 c1, .int .i64 hi] 0) (litF_ext _ _ _), .own (appF n1 TSp 2 (o1.length + 1) ((o1.map spanV).flatten ++ [Value.int .i64 c1, Value.int .i64 hi]) (.slice va o1.length vc) h0) (appF_ext _ _ _ _ _ _ _)] := ⟨_, rfl⟩
            refine Wp_dagT ((fun y => (Value.slice va o1.length vc).ownBlock = some y)) 9 8 [121, 122, 123, 124, 125, 126, 127, 128, 129] [[], [], [], [], [2, 3], [4], [], [6], [5, 7]] Fs28 hFs28 rfl mixed (by kernel_rfl) (by kernel_rfl) (by kernel_rfl) ?_ ?_
            ·intro wd X0
             refine DagStepsT.cons (fun s' w' X U H => ?_) ?_
             ·exact DoesT_val (r_move (v := (.slice (some ⟨gg, 0, none⟩) on1 oc1)) (U 12 rfl)) (Chg.refl _ _) rfl
             refine DagStepsT.cons (fun s' w' X U H => ?_) ?_
             ·exact DoesT_val (r_move (v := (I6 (kk : Int))) (U 20 rfl)) (Chg.refl _ _) rfl
             refine DagStepsT.cons (fun s' w' X U H => ?_) ?_
             ·exact DoesT_val (r_move (v := (.slice (some ⟨gg, 0, none⟩) on1 oc1)) (U 12 rfl)) (Chg.refl _ _) rfl
             refine DagStepsT.cons (fun s' w' X U H => ?_) ?_
             ·exact DoesT_val (r_move (v := (I6 (kk : Int))) (U 20 rfl)) (Chg.refl _ _) rfl
             refine DagStepsT.cons (fun s' w' X U H => ?_) ?_
             ·have e123 : s' 123 = (.slice (some ⟨gg, 0, none⟩) on1 oc1) := H 2 rfl 123 (.eq (.slice (some ⟨gg, 0, none⟩) on1 oc1)) rfl (by rw [hFs28]; rfl)
              have e124 : s' 124 = (.int .i64 ((kk : Nat) : Int)) := H 3 rfl 124 (.eq (.int .i64 ((kk : Nat) : Int))) rfl (by rw [hFs28]; rfl)
              exact DoesT_val (r_indexSlice (b := gg) (o := 0) (len := on1) (cap := oc1) (i := kk) (o' := 0 + kk) e123 e124 rfl Tryz.underlying50 siz22 (by omega) (by omega)) (Chg.refl _ _) rfl
             refine DagStepsT.cons (fun s' w' X U H => ?_) ?_
             ·have e125 : s' 125 = (.pointer (some ⟨gg, 0 + kk, none⟩)) := H 4 rfl 125 (.eq (.pointer (some ⟨gg, 0 + kk, none⟩))) rfl (by rw [hFs28]; rfl)
              exact DoesT_val (r_load (v := (.slice va o1.length vc)) e125 flat22 (by have h1 := hg2 kk _ hv1; exact (Ext.cell X (X0.cell h1)))) (Chg.refl _ _) rfl
             refine DagStepsT.cons (fun s' w' X U H => ?_) ?_
             ·exact DoesT_val (r_loadAgg (vs := [(I6 c1), (I6 hi)]) (U 16 rfl) agg103 siz103 rfl ((Chg.keep X (fun h => by have := hbl kk _ _ hv1 h; omega) (X0.keep Bx)).cells rfl)) (Chg.refl _ _) rfl
             refine DagStepsT.cons (fun s' w' X U H => ?_) ?_
             ·have e127 : s' 127 = (.agg #[(.int .i64 c1), (.int .i64 hi)]) := H 6 rfl 127 (.eq (.agg #[(.int .i64 c1), (.int .i64 hi)])) rfl (by rw [hFs28]; rfl)
              exact DoesT_lit Tryz.underlying22 siz103 zer103 e127 (by decide) (by decide) (by kernel_rfl) (Nat.zero_le _)
             refine DagStepsT.cons (fun s' w' X U H => ?_) ?_
             ·have e126 : s' 126 = (.slice va o1.length vc) := H 5 rfl 126 (.eq (.slice va o1.length vc)) rfl (by rw [hFs28]; rfl)
              obtain ⟨b128, e128, B128, _⟩ := (show (.till (litF TSp #[.int .i64 c1, .int .i64 hi] 0) (litF_ext _ _ _) : FactT ((fun y => (Value.slice va o1.length vc).ownBlock = some y))).In (s' 128) w' from FactT.at_false (H 7 rfl 128 (.till (litF TSp #[.int .i64 c1, .int .i64 hi] 0) (litF_ext _ _ _)) rfl (by rw [hFs28]; rfl)))
              exact DoesT_append Tryz.underlying22 siz103 byt103 zer103 rfl (by decide) e126 (own_ext (own_ext hinn X0) X) e128 rfl (B128.cells rfl) (by simp [Value.oneCell']) (by unfold maxLen; omega) (by omega) (by have := X0.size; have := X.size; omega) (fun y h => h) (by have := X0.size; have := X.size; omega)
             exact DagStepsT.nil
            ·intro s' wd28 w28 X0 X28 U H
             have e121 : s' 121 = (.slice (some ⟨gg, 0, none⟩) on1 oc1) := H 0 121 (.eq (.slice (some ⟨gg, 0, none⟩) on1 oc1)) rfl (by rw [hFs28]; rfl)
             have e122 : s' 122 = (.int .i64 ((kk : Nat) : Int)) := H 1 122 (.eq (.int .i64 ((kk : Nat) : Int))) rfl (by rw [hFs28]; rfl)
             obtain ⟨⟨a129, c129, e129⟩, O129, D129⟩ := (show (.own (appF n1 TSp 2 (o1.length + 1) ((o1.map spanV).flatten ++ [Value.int .i64 c1, Value.int .i64 hi]) (.slice va o1.length vc) h0) (appF_ext _ _ _ _ _ _ _) : FactT ((fun y => (Value.slice va o1.length vc).ownBlock = some y))).In (s' 129) w28 from H 8 129 (.own (appF n1 TSp 2 (o1.length + 1) ((o1.map spanV).flatten ++ [Value.int .i64 c1, Value.int .i64 hi]) (.slice va o1.length vc) h0) (appF_ext _ _ _ _ _ _ _)) rfl (by rw [hFs28]; rfl))
             obtain ⟨j28, rfl⟩ := Fits.out (σ := s') (l := [(0, (.slice a ll.length c)), (7, (.slice (some ⟨g, 0, none⟩) q.length lc)), (12, (.slice (some ⟨gg, 0, none⟩) on1 oc1)), (13, (.map (some bm))), (63, (.slice (some ⟨g, 0, none⟩) q.length lc)), (64, (.int .i64 ((q.length : Nat) : Int))), (65, (.int .i64 ((i2 : Nat) : Int))), (121, (.slice (some ⟨gg, 0, none⟩) on1 oc1)), (122, (.int .i64 ((kk : Nat) : Int))), (129, (.slice a129 (o1.length + 1) c129))]) ⟨U 0 rfl, U 7 rfl, U 12 rfl, U 13 rfl, U 63 rfl, U 64 rfl, U 65 rfl, e121, e122, e129, trivial⟩
             clear U H
             replace Mm := Chg.keepM X28 (fun h => by have := (hinn.lt _ h).1; omega) (X0.keepM Mm)
             replace Bx := Chg.keep X28 (fun h => by have := hbl kk _ _ hv1 h; omega) (X0.keep Bx)
             have hXm := Chg.trans (Ext.chg X0) X28
             replace E := (E.ext X0).step X28 (fun y hy h => by have := (hinn.lt _ h).1; omega)
             obtain ⟨cur, hBo, hcs⟩ := own_blk (own_chg (hC1.on hon1) hXm (fun b hb hm => hC1.apo kk _ _ hv1 hm hb))
             have hI8 := hI1.chg hXm fun b h1 h2 => by subst h1; have := (hinn.lt _ h2).1; omega
             have hs9 := Nat.le_trans hs7 hXm.size
             refine qV (r_indexSlice (b := gg) (o := 0) (len := on1) (cap := oc1) (i := kk) (o' := 0 + kk) rfl rfl rfl Tryz.underlying50 siz22 (by omega) (by omega)) ?_
             have hBo0 := hBo
             have hPx : True := trivial
             refine s_store (b := gg) (o := 0 + kk) (c' := cur.setIfInBounds (0 + kk) (.slice a129 (o1.length + 1) c129)) (v := (.slice a129 (o1.length + 1) c129)) rfl rfl rfl siz22 hBo (by omega) (rfl) ?_
             intro w29 S29
             replace hI8 := hI8.chg S29.chg fun b h1 h2 => by subst h1; omega
             replace hs9 := Nat.le_trans hs9 S29.chg.size
             replace hPx := S29
             replace Mm := S29.keepM (by omega) Mm
             replace E := S29.step E (by first | exact Or.inl (by omega) | exact Or.inr rfl | exact Or.inr (by assumption) | exact Or.inr (by simp) | exact Or.inr (by omega) | exact Or.inr (by dsimp only; omega))
             replace hBo := S29.blk
             have hC9 := hC1.grow hon1 hv1 ho1 (x := (c1, hi)) (v' := .slice a129 (o1.length + 1) c129) (by rw [e129] at O129; simpa [spanV] using O129) hXm (by rw [e129, hh0] at D129; exact D129) hBo0 (by simpa using hPx)
             refine WpL_nil (inB_normal (thn_normal (Wp_region ?_)))
             refine qV (r_add (k := .i64) (a := (i2 : Int)) (b := 1) (c := (i2 : Int) + 1) rfl rfl (wI64 (by omega))) ?_
             refine qM (I6 ((i2 : Int) + 1)) rfl ?_
             refine WpL_nil (thn_normal ?_)
             exact ⟨p.length - (i2 + 1), by omega, i2 + 1, ks1, outs1.set kk (o1 ++ [(c1, hi)]), vs1.set kk (.slice a129 (o1.length + 1) c129), some ⟨gg, 0, none⟩, oc1, on1, Fits.out ⟨rfl, rfl, rfl, rfl, rfl, rfl, rfl, trivial⟩, E, Mm, (by rw [hhi]; exact hG.step hP hok hpc hks1 hol1 hsm1 hkm1 ho1), (by omega), hC9, (by simp; omega), hI8, hs9, rfl⟩
      ·have khlt4 := hlt4
       replace hlt4 := of_decide_eq_false hlt4
       have hie : i2 = p.length := by omega
       have hG2 := hG
       rw [hie] at hG2
       have hJ0 := hC.join
       have hcnt := hG.cnt
       have hcl9 := hG.len
       refine Wp_exit (thn_exit (thn_exit (inB_here (thn_normal (Wp_seq (Wp_seq_region ?_))))))
       refine qM (.slice oa on oc) rfl ?_
       refine qV (r_lenSlice (ad := oa) (n := on) (cap := oc) Tryz.underlying50 rfl) ?_
       refine qM (I6 0) rfl ?_
       refine WpL_nil (Wp_block ?_)
       refine Wp_loop (fun nn_ σ W30 => ∃ (k3 : Nat) (cs : List (List Sp)) (us : List Value), (∃ jj_, σ = upds jj_ [(12, (.slice oa on oc)), (133, (I6 (on : Int))), (134, (I6 (k3 : Int)))]) ∧ Chg none1 w0 W30 ∧ (k3 ≤ outs.length) ∧ (JSt W30 n1 (.slice oa on oc) us outs cs k3) ∧ (∀ c ∈ cs, c.length ≤ 16) ∧ (n1 ≤ W30.heap.size) ∧ nn_ = outs.length - k3) (n := outs.length - 0) ?_ ?_
       ·exact ⟨0, [], vs, Fits.out ⟨rfl, rfl, rfl, trivial⟩, E, Nat.zero_le _, hJ0, (by simp), hs1, rfl⟩
       ·clear E
        rintro _ _ W30 ⟨k3, cs, us, ⟨j30, rfl⟩, E, hk3, hJ, hsm, hs3, rfl⟩
        refine Wp_seq_region ?_
        refine qV (r_lss (k := .i64) (a := (k3 : Int)) (b := (on : Int)) rfl rfl) ?_
        refine WpL_nil (Wp_seq ?_)
        refine Wp_cond (b := decide (((k3 : Int) : Int) < (on : Int))) rfl (fun hlt5 => ?_) (fun hlt5 => ?_)
        ·have khlt5 := hlt5
         replace hlt5 := of_decide_eq_true hlt5
         obtain ⟨o1, ho1⟩ := get_of_lt (l := outs) (i := k3) (by omega)
         obtain ⟨u1, hu1⟩ := get_of_lt (l := us) (i := k3) (by have := hJ.len; omega)
         obtain ⟨⟨ua, uc, rfl⟩, hui⟩ := hJ.rst k3 u1 o1 (Nat.le_refl _) hu1 ho1
         have hJo := hJ.o
         rw [← hon] at hJo
         obtain ⟨gg, rfl, hg1, hg2⟩ := own_cells hJo (by omega)
         have hggl := hJo.lt gg rfl
         have hol := (hG2.ok k3 o1 ho1)
         refine Wp_skip (thn_normal (Wp_seq (Wp_block (Wp_seq_region ?_))))
         refine qM (I6 (k3 : Int)) rfl ?_
         refine qA (I6 (k3 : Int)) rfl ?_
         refine WpL_nil (Wp_seq_region ?_)
         refine qM (.slice (some ⟨gg, 0, none⟩) on oc) rfl ?_
         refine qM (I6 (k3 : Int)) rfl ?_
         refine qM (.slice (some ⟨gg, 0, none⟩) on oc) rfl ?_
         refine qM (I6 (k3 : Int)) rfl ?_
         refine qV (r_indexSlice (b := gg) (o := 0) (len := on) (cap := oc) (i := k3) (o' := 0 + k3) rfl rfl rfl Tryz.underlying50 siz22 (by omega) (by omega)) ?_
         refine qV (r_load (v := (.slice ua o1.length uc)) rfl flat22 ((by have h1 := (hJo.cells (g := gg) rfl) k3 _ hu1; rwa [Addr.add_lit] at h1))) ?_
         refine WpL_enter rfl rfl (by decide) (r_callF (vs := [(.slice ua o1.length uc)]) Tryz.func149 nm149 bd149 rfl) (join_c _ _ o1 hui.at (by omega) hol.1) ?_
         rintro _ w41 ⟨⟨j1, hj1, ⟨⟨ja, jc, rfl⟩, O41⟩⟩, X41⟩
         replace E := E.ext X41
         obtain ⟨cur, hBo, hcs⟩ := own_blk (own_ext hJo X41)
         refine qV (r_indexSlice (b := gg) (o := 0) (len := on) (cap := oc) (i := k3) (o' := 0 + k3) rfl rfl rfl Tryz.underlying50 siz22 (by omega) (by omega)) ?_
         have hBo0 := hBo
         have hPx : True := trivial
         refine s_store (b := gg) (o := 0 + k3) (c' := cur.setIfInBounds (0 + k3) (.slice ja j1.length jc)) (v := (.slice ja j1.length jc)) rfl rfl rfl siz22 hBo (by omega) (rfl) ?_
         intro w32 S32
         replace hPx := S32
         replace E := S32.step E (by first | exact Or.inl (by omega) | exact Or.inr rfl | exact Or.inr (by assumption) | exact Or.inr (by simp) | exact Or.inr (by omega) | exact Or.inr (by dsimp only; omega))
         replace hBo := S32.blk
         refine WpL_nil (Wp_seq_region ?_)
         refine qM (.slice (some ⟨gg, 0, none⟩) on oc) rfl ?_
         refine qM (I6 (k3 : Int)) rfl ?_
         refine qV (r_indexSlice (b := gg) (o := 0) (len := on) (cap := oc) (i := k3) (o' := 0 + k3) rfl rfl rfl Tryz.underlying50 siz22 (by omega) (by omega)) ?_
         refine qV (r_load (v := (.slice ja j1.length jc)) rfl flat22 (hBo.cell (by rw [Array.getElem?_setIfInBounds_self_of_lt (by omega)]))) ?_
         refine qV (r_lenSlice (ad := ja) (n := j1.length) (cap := jc) Tryz.underlying22 rfl) ?_
         refine qV (r_gtr (k := .i64) (a := (j1.length : Int)) (b := 16) rfl rfl) ?_
         refine WpL_nil ?_
         refine Wp_cond (b := decide ((16 : Int) < (j1.length : Int))) rfl (fun hlg => ?_) (fun hlg => ?_)
         ·have khlg := hlg
          replace hlg := of_decide_eq_true hlg
          refine Wp_seq_region ?_
          refine qA (.slice none 0 0) rfl ?_
          refine qA (I6 2) rfl ?_
          refine WpL_nil (Wp_ret (inB_ret (thn_ret (thn_ret (inB_ret (thn_ret ?_))))))
          refine fin_tmp2 Tryz.results103 (v := (.slice none 0 0)) (v' := (.int .i64 2)) rfl rfl ?_
          obtain ⟨cF, hF1, hF2⟩ := cls_large hG2 hP ho1 hj1 (by omega)
          exact ⟨⟨[], 2, .inr ⟨hz0, cF, hF1, .inl ⟨hF2, rfl, rfl⟩⟩, none, 0, rfl, spss_nil _⟩, E⟩
         ·have khlg := hlg
          replace hlg := of_decide_eq_false hlg
          refine Wp_skip (inB_normal (thn_normal (Wp_region ?_)))
          refine qV (r_add (k := .i64) (a := (k3 : Int)) (b := 1) (c := (k3 : Int) + 1) rfl rfl (wI64 (by omega))) ?_
          refine qM (I6 ((k3 : Int) + 1)) rfl ?_
          refine WpL_nil (thn_normal ?_)
          exact ⟨outs.length - (k3 + 1), by omega, k3 + 1, cs ++ [j1], us.set k3 (.slice ja j1.length jc), Fits.out ⟨rfl, rfl, rfl, trivial⟩, E, (by omega), (by have hS := JSt.step (hJ.ext X41) hon ho1 (⟨⟨_, _, rfl⟩, O41⟩ : OwnS _ _ _ j1) hggl.2 hj1 hBo0 (by simpa using hPx); exact hS), (fun c hc => by rcases List.mem_append.1 hc with h1 | h1; exact hsm c h1; rw [List.mem_singleton] at h1; subst h1; omega), (by have := X41.size; have := hPx.chg.size; omega), rfl⟩
        ·have khlt5 := hlt5
         replace hlt5 := of_decide_eq_false hlt5
         have hk33 : k3 = outs.length := by omega
         have hcls := hG2.done hP (by rw [hJ.cl, hk33]) hJ.jn
         have hsp := hJ.done hk33
         have hcl3 : cs.length = on := by rw [hJ.cl, hk33, hon]
         refine Wp_exit (thn_exit (thn_exit (inB_here (thn_normal (Wp_seq (Wp_seq_region ?_))))))
         refine qM (.slice oa on oc) rfl ?_
         refine qV (r_lenSlice (ad := oa) (n := on) (cap := oc) Tryz.underlying50 rfl) ?_
         refine qV (r_gtr (k := .i64) (a := (on : Int)) (b := 16) rfl rfl) ?_
         refine WpL_nil ?_
         refine Wp_cond (b := decide ((16 : Int) < (on : Int))) rfl (fun hlg2 => ?_) (fun hlg2 => ?_)
         ·have khlg2 := hlg2
          replace hlg2 := of_decide_eq_true hlg2
          refine Wp_seq_region ?_
          refine qA (.slice none 0 0) rfl ?_
          refine qA (I6 2) rfl ?_
          refine WpL_nil (Wp_ret (thn_ret ?_))
          refine fin_tmp2 Tryz.results103 (v := (.slice none 0 0)) (v' := (.int .i64 2)) rfl rfl ?_
          exact ⟨⟨[], 2, .inr ⟨hz0, cs, hcls, .inl ⟨.inr (by omega), rfl, rfl⟩⟩, none, 0, rfl, spss_nil _⟩, E⟩
         ·have khlg2 := hlg2
          replace hlg2 := of_decide_eq_false hlg2
          refine Wp_skip (thn_normal (Wp_seq_region ?_))
          refine qM (.slice oa on oc) rfl ?_
          refine qA (.slice oa on oc) rfl ?_
          refine qA (I6 0) rfl ?_
          refine WpL_nil (Wp_ret ?_)
          refine fin_tmp2 Tryz.results103 (v := (.slice oa on oc)) (v' := (.int .i64 0)) rfl rfl ?_
          rw [← hcl3] at hsp
          exact ⟨⟨cs, 0, .inr ⟨hz0, cs, hcls, .inr ⟨fun hl9 => by rcases hl9 with ⟨c, h1, h2⟩ | h2; have := hsm c h1; omega; omega, rfl, rfl⟩⟩, oa, oc, by rw [hcl3], hsp⟩, E⟩
end Go.Proofs
namespace Go.Proofs
open Go Go.Eng Go.Sort
set_option maxRecDepth 100000
theorem spss_idx_c (w0 : World) (v fv : Value) (ll : List (List Sp)) (p : List Sp → Bool) (h : SpssAt w0 v ll) (hf : ∀ (w : World) (u : Value) (l : List Sp), Ext w0 w → SpansAt w u l → CallV Tryz.prog fv #[u] w fun r w' => r = .bool (p l) ∧ Ext w w') :
  Ret Tryz.prog 159 #[v, fv] w0 fun r w => r = .int .i64 (idx p ll) ∧ Ext w0 w := by
 obtain ⟨a, c, rfl, _, hle⟩ := h.form
 refine Ret_of Tryz.func159 rfl Tryz.ntmps159 (Nat.le_of_ble_eq_true rfl) ?_
 have E : Chg none1 w0 w0 := Chg.refl _ _
 refine Wp_seq_region ?_
 refine qA (I6 0) rfl ?_
 refine WpL_nil (Wp_seq (Wp_seq_region ?_))
 refine qM (.slice a ll.length c) rfl ?_
 refine qV (r_lenSlice (ad := a) (n := ll.length) (cap := c) Tryz.underlying50 rfl) ?_
 refine qM (I6 0) rfl ?_
 refine WpL_nil (Wp_block ?_)
 refine Wp_loop (fun nn_ σ W1 => ∃ (k : Nat), (∃ jj_, σ = upds jj_ [(0, (.slice a ll.length c)), (1, fv), (7, (I6 (ll.length : Int))), (8, (I6 (k : Int)))]) ∧ Chg none1 w0 W1 ∧ (k ≤ ll.length) ∧ (∀ (i : Nat) (y : List Sp), i < k → ll[i]? = some y → p y = false) ∧ nn_ = ll.length - k) (n := ll.length - 0) ?_ ?_
 ·exact ⟨0, Fits.out ⟨rfl, rfl, rfl, rfl, trivial⟩, E, Nat.zero_le _, (fun i y h => absurd h (Nat.not_lt_zero _)), rfl⟩
 ·clear E
  rintro _ _ W1 ⟨k, ⟨j1, rfl⟩, E, hk, hno, rfl⟩
  refine Wp_seq_region ?_
  refine qV (r_lss (k := .i64) (a := (k : Int)) (b := (ll.length : Int)) rfl rfl) ?_
  refine WpL_nil (Wp_seq ?_)
  refine Wp_cond (b := decide (((k : Int) : Int) < (ll.length : Int))) rfl (fun hlt => ?_) (fun hlt => ?_)
  ·have khlt := hlt
   replace hlt := of_decide_eq_true hlt
   obtain ⟨l, hx⟩ := get_of_lt (l := ll) (i := k) (by omega)
   obtain ⟨b, o, rfl, hcl⟩ := spss_cells h (by omega)
   obtain ⟨ra, rc, hcell, hsp⟩ := hcl k l hx
   refine Wp_skip (thn_normal (Wp_seq (Wp_block (Wp_seq_region ?_))))
   refine qM (I6 (k : Int)) rfl ?_
   refine qA (I6 (k : Int)) rfl ?_
   refine WpL_nil (Wp_seq_region ?_)
   refine qM fv rfl ?_
   refine qM (.slice (some ⟨b, o, none⟩) ll.length c) rfl ?_
   refine qM (I6 (k : Int)) rfl ?_
   refine qV (r_indexSlice (b := b) (o := o) (len := ll.length) (cap := c) (i := k) (o' := o + k) rfl rfl rfl Tryz.underlying50 siz22 (by omega) (by omega)) ?_
   refine qV (r_load (v := (.slice ra l.length rc)) rfl flat22 (E.cell (fun f => f) hcell)) ?_
   refine WpL_callV (fv := fv) (vs := [(.slice ra l.length rc)]) (by decide) rfl rfl (hf _ _ l E (hsp.ext E)) ?_
   rintro _ w9 ⟨rfl, X9⟩
   replace E := E.ext X9
   refine WpL_nil ?_
   refine Wp_cond (b := p l) rfl (fun hp => ?_) (fun hp => ?_)
   ·have khp := hp
    refine Wp_seq_region ?_
    refine qM (I6 (k : Int)) rfl ?_
    refine qA (I6 (k : Int)) rfl ?_
    refine WpL_nil (Wp_ret (inB_ret (thn_ret (thn_ret (inB_ret (thn_ret ?_))))))
    refine fin_tmp Tryz.results159 (v := (.int .i64 ((k : Nat) : Int))) rfl ?_
    exact ⟨int_eq (idx_hit hx hp hno).symm, E⟩
   ·have khp := hp
    refine Wp_skip (inB_normal (thn_normal (Wp_region ?_)))
    refine qV (r_add (k := .i64) (a := (k : Int)) (b := 1) (c := (k : Int) + 1) rfl rfl (wI64 (by omega))) ?_
    refine qM (I6 ((k : Int) + 1)) rfl ?_
    refine WpL_nil (thn_normal ?_)
    exact ⟨ll.length - (k + 1), by omega, k + 1, Fits.out ⟨rfl, rfl, rfl, rfl, trivial⟩, E, (by omega), below_next hx hp hno, rfl⟩
  ·have khlt := hlt
   replace hlt := of_decide_eq_false hlt
   have hkk : k = ll.length := by omega
   refine Wp_exit (thn_exit (thn_exit (inB_here (thn_normal (Wp_seq_region ?_)))))
   refine qA (I6 (-1)) rfl ?_
   refine WpL_nil (Wp_ret ?_)
   refine fin_tmp Tryz.results159 (v := (.int .i64 (-1))) rfl ?_
   exact ⟨int_eq (idx_miss fun i y hy => hno i y (by have := lt_of_get hy; omega) hy).symm, E⟩
noncomputable def leastP (ll : List (List Sp)) : List Int := if partE ll = 0 then leastL ll else []
end Go.Proofs
namespace Go.Proofs
open Go Go.Eng Go.Sort
set_option maxRecDepth 100000
def sRow (l : List Sp) : Nat × List Value := (l.length, (l.map spanV).flatten)
theorem LSt.spss {w : World} {base : Nat} {vo : Value} {vs : List Value} {ll : List (List Sp)} (h : LSt TSs TSp 2 w base vo vs (ll.map sRow)) : SpssAt w vo ll := by
 have hl : vs.length = ll.length := by simpa using h.len
 refine ⟨vs, ?_, hl, fun i u l hu hl => ?_⟩
 ·have ho := h.o
  rw [show vs = (vs.map fun x => [x]).flatten by simp [List.flatten_eq_flatMap, List.flatMap_map]] at ho
  exact own_slat ho (by intro r hr; simp only [List.mem_map] at hr; obtain ⟨x, _, rfl⟩ := hr; rfl) (by simp [hl]) (by decide)
 ·have h1 := h.inn i u (sRow l) hu (by rw [List.getElem?_map, hl]; rfl)
  exact OwnS.at ⟨own_form h1, h1⟩
end Go.Proofs
namespace Go.Proofs
open Go Go.Eng Go.Sort
set_option maxRecDepth 100000
set_option maxHeartbeats 1000000 in
theorem walk_d {S : Type} (F : S → Re → Bool × S) (Inv : S → (Nat → Prop) → World → Prop) (Pn : Re → Prop) (fv : Value) (wb : World)
    (hb : ∀ s D w, Inv s D w → ∀ b, D b → wb.heap.size ≤ b ∧ b < w.heap.size)
    (hst : ∀ s D w w', Inv s D w → Ext w w' → Inv s D w')
    (hP : ∀ t, Pn t → ∀ x ∈ t.args, Pn x)
    (hf : ∀ s D w t vs, Ext wb w → Pn t → Inv s D w → ReAt wb t vs → CallV Tryz.prog fv #[.agg vs.toArray] w fun v w' => ∃ D', v = .bool (F s t).1 ∧ Chg D w w' ∧ Inv (F s t).2 D' w' ∧ ∀ b, D' b → D b ∨ w.heap.size ≤ b) :
    ∀ n t, t.size ≤ n → Pn t → ∀ s (D : Nat → Prop) w0 vs, Ext wb w0 → Inv s D w0 → ReAt wb t vs →
      Ret Tryz.prog 121 #[.agg vs.toArray, fv] w0 fun v w' => ∃ D', v = .bool (walkF F t s).1 ∧ Chg D w0 w' ∧ Inv (walkF F t s).2 D' w' ∧ ∀ b, D' b → D b ∨ w0.heap.size ≤ b := by
  have toExt : ∀ {D : Nat → Prop} {w w' : World}, Ext wb w → (∀ b, D b → wb.heap.size ≤ b) → Chg D w w' → Ext wb w' := fun e h c => Chg.step e c fun x hx hm => by have := h x hm; omega
  intro n
  induction n with
  | zero => intro t ht; have := t.size_pos; omega
  | succ n ih =>
  intro t hn hPt s D w0 vs hE hI ht
  obtain ⟨sa, sc, aa, ac, rfl, hset, hlen, hargs⟩ := ht.form
  have hD0 := hb s D w0 hI
  rw [walkF_eq]
  refine Ret_of Tryz.func121 rfl Tryz.ntmps121 (Nat.le_of_ble_eq_true rfl) ?_
  have E : Chg D w0 w0 := Chg.refl _ _
  refine Wp_seq_region ?_
  refine s_box (v := (.agg (R6 t sa sc aa ac))) (c := (R6 t sa sc aa ac)) (by decide) rfl rfl ?_
  intro br wr Nr
  have Fr := Nr.ge E
  replace hI := hst _ _ _ _ hI Nr.ext
  replace E := E.ext Nr.ext
  have Br := Nr.blk
  refine qA (.bool false) rfl ?_
  refine WpL_nil (Wp_seq (Wp_seq_region ?_))
  refine qM fv rfl ?_
  refine qV (r_loadAgg (vs := [(I6 t.kind), (.slice sa t.set.length sc), (.slice aa t.args.length ac), (I6 t.mn), (I6 t.mx), (.bool t.neg)]) rfl agg25 siz25 rfl (Br.cells rfl)) ?_
  refine WpL_callV (fv := fv) (vs := [(.agg (R6 t sa sc aa ac))]) (by decide) rfl rfl (hf s D _ t _ (hE.trans Nr.ext) hPt hI ht) ?_
  rintro _ w2 ⟨D1, rfl, C2, hI, hD1⟩
  replace Br := C2.keep (fun h => by have := (hD0 _ h).2; omega) Br
  replace E := E.trans C2
  have hE2 : Ext wb w2 := toExt hE (fun b h => (hD0 b h).1) E
  have hD1' : ∀ b, D1 b → D b ∨ w0.heap.size ≤ b := fun b h => (hD1 b h).imp id (fun h => by have := Nr.size; omega)
  have hD1r : ∀ b, D1 b → b ≠ br := fun b h e => by rcases hD1 b h with h | h; have := (hD0 b h).2; have := Nr.eq; omega; have := Nr.size; have := Nr.eq; omega
  refine qV (r_not (b := (F s t).1) rfl) ?_
  refine WpL_nil ?_
  refine Wp_cond (b := !((F s t).1)) rfl (fun h => ?_) (fun h => ?_)
  · have kh := h
    replace h := by simpa using h
    refine Wp_seq_region ?_
    refine qA (.bool false) rfl ?_
    refine WpL_nil (Wp_ret (thn_ret ?_))
    refine fin_tmp Tryz.results121 (v := (.bool false)) rfl ?_
    exact ⟨D1, by rw [if_neg (by simp [h])], E, by rw [if_neg (by simp [h])]; exact hI, hD1'⟩
  · have kh := h
    replace h := by simpa using h
    rw [if_pos (by simpa using h)]
    generalize (F s t).2 = s1 at hI ⊢
    have z2 : br < w2.heap.size := by have := C2.size; have := Nr.size; have := Nr.eq; omega
    refine Wp_skip (thn_normal (Wp_seq (Wp_seq_region ?_)))
    refine qF br 0 2 rfl Tryz.underlying25 rfl siz23 rfl ?_
    refine qV (r_load (v := (.slice aa t.args.length ac)) rfl flat23 (Br.cell rfl)) ?_
    refine qV (r_lenSlice (ad := aa) (n := t.args.length) (cap := ac) Tryz.underlying23 rfl) ?_
    refine qM (I6 0) rfl ?_
    refine WpL_nil (Wp_block ?_)
    refine Wp_loop (fun nn_ σ W2 => ∃ (k : Nat) (s' : S) (D2 : Nat → Prop), (∃ jj_, σ = upds jj_ [(1, fv), (12, (.slice aa t.args.length ac)), (13, (I6 (t.args.length : Int))), (14, (I6 (k : Int)))]) ∧ Chg D w0 W2 ∧ Blk W2 br (R6 t sa sc aa ac) 25 ∧ (k ≤ t.args.length) ∧ (Inv s' D2 W2) ∧ (walkFs F t.args s1 = walkFs F (t.args.drop k) s') ∧ (∀ b, D2 b → D b ∨ w0.heap.size ≤ b) ∧ (∀ b, D2 b → b ≠ br) ∧ (br < W2.heap.size) ∧ nn_ = t.args.length - k) (n := t.args.length - 0) ?_ ?_
    · exact ⟨0, s1, D1, Fits.out ⟨rfl, rfl, rfl, rfl, trivial⟩, E, Br, Nat.zero_le _, hI, rfl, hD1', hD1r, z2, rfl⟩
    · clear E Br
      rintro _ _ W2 ⟨k, s', D2, ⟨j2, rfl⟩, E, Br, hk, hI, hrel, hD2, hDr, hz, rfl⟩
      have hD3 := hb s' D2 _ hI
      have hE1 := E.size
      refine Wp_seq_region ?_
      refine qV (r_lss (k := .i64) (a := (k : Int)) (b := (t.args.length : Int)) rfl rfl) ?_
      refine WpL_nil (Wp_seq ?_)
      refine Wp_cond (b := decide (((k : Int) : Int) < (t.args.length : Int))) rfl (fun hlt => ?_) (fun hlt => ?_)
      · have khlt := hlt
        replace hlt := of_decide_eq_true hlt
        obtain ⟨x, hx⟩ := get_of_lt (l := t.args) (i := k) (by omega)
        obtain ⟨b, o, rfl, hres⟩ : ∃ b o, aa = some ⟨b, o, none⟩ ∧ ResAt wb b o t.args := by
          rcases hargs with h | h
          · rw [h] at hx; simp at hx
          · exact h
        obtain ⟨us, hus, hxt⟩ := hres.get hx
        have hxt0 := hxt
        obtain ⟨xsa, xsc, xaa, xac, rfl, _, _, _⟩ := hxt.form
        have hEW : Ext wb _ := toExt hE (fun b h => (hD0 b h).1) E
        have hsz := Re.size_arg hx
        refine Wp_skip (thn_normal (Wp_seq (Wp_block (Wp_seq_region ?_))))
        refine qV (r_indexSlice (b := b) (o := o) (len := t.args.length) (cap := ac) (i := k) (o' := o + k * 6) rfl rfl rfl Tryz.underlying23 siz25 (by omega) (by omega)) ?_
        refine qV (r_loadAgg (vs := [(I6 x.kind), (.slice xsa x.set.length xsc), (.slice xaa x.args.length xac), (I6 x.mn), (I6 x.mx), (.bool x.neg)]) rfl agg25 siz25 rfl (hus.ext hEW)) ?_
        refine s_allocStore (v := (.agg (R6 x xsa xsc xaa xac))) (c := (R6 x xsa xsc xaa xac)) (n := 6) (by decide) zer25 rfl siz25 rfl rfl rfl (by simp [Value.oneCell']) ?_
        intro bz wz Nz
        have Fz := Nz.ge E
        have Oz_br := Nz.lt Br
        replace Br := Nz.keep Br
        replace hI := hst _ _ _ _ hI Nz.ext
        replace E := E.ext Nz.ext
        have Bz := Nz.blk
        refine WpL_nil (Wp_seq_region ?_)
        refine qV (r_loadAgg (vs := [(I6 x.kind), (.slice xsa x.set.length xsc), (.slice xaa x.args.length xac), (I6 x.mn), (I6 x.mx), (.bool x.neg)]) rfl agg25 siz25 rfl (Bz.cells rfl)) ?_
        refine qM fv rfl ?_
        refine WpL_enter rfl rfl (by decide) (r_callF (vs := [(.agg (R6 x xsa xsc xaa xac)), fv]) Tryz.func121 nm121 bd121 rfl) (ih x (by omega) (hP t hPt x (List.mem_of_getElem? hx)) s' D2 _ _ (hEW.trans Nz.ext) hI hxt0) ?_
        rintro _ w9 ⟨D4, rfl, C9, hI, hD9⟩
        replace Br := C9.keep (fun h => by have h1 := hDr _ h; have h2 := (hD3 _ h).2; first | exact h1 rfl | (have := Nz.eq; omega)) Br
        replace Bz := C9.keep (fun h => by have h1 := hDr _ h; have h2 := (hD3 _ h).2; first | exact h1 rfl | (have := Nz.eq; omega)) Bz
        replace E := E.step C9 (fun y hy h => (hD2 y h).resolve_right (by omega))
        have hdr := drop_cons hx
        rw [hdr, walkFs_cons] at hrel
        have hD4 : ∀ b, D4 b → D b ∨ w0.heap.size ≤ b := fun b h => by rcases hD9 b h with h | h; exact hD2 b h; exact .inr (by have := Nz.size; omega)
        have hD4r : ∀ b, D4 b → b ≠ br := fun b h e => by rcases hD9 b h with h | h; exact hDr b h e; have := Nz.size; omega
        refine qV (r_not (b := (walkF F x s').1) rfl) ?_
        refine WpL_nil ?_
        refine Wp_cond (b := !((walkF F x s').1)) rfl (fun h2 => ?_) (fun h2 => ?_)
        · have kh2 := h2
          replace h2 := by simpa using h2
          refine Wp_seq_region ?_
          refine qA (.bool false) rfl ?_
          refine WpL_nil (Wp_ret (inB_ret (thn_ret (thn_ret (inB_ret (thn_ret ?_))))))
          refine fin_tmp Tryz.results121 (v := (.bool false)) rfl ?_
          exact ⟨D4, by rw [hrel, if_neg (by simp [h2])], E, by rw [hrel, if_neg (by simp [h2])]; exact hI, hD4⟩
        · have kh2 := h2
          replace h2 := by simpa using h2
          rw [if_pos (by simpa using h2)] at hrel
          refine Wp_skip (inB_normal (thn_normal (Wp_region ?_)))
          refine qV (r_add (k := .i64) (a := (k : Int)) (b := 1) (c := (k : Int) + 1) rfl rfl (wI64 (by omega))) ?_
          refine qM (I6 ((k : Int) + 1)) rfl ?_
          refine WpL_nil (thn_normal ?_)
          exact ⟨t.args.length - (k + 1), by omega, k + 1, (walkF F x s').2, D4, Fits.out ⟨rfl, rfl, rfl, rfl, trivial⟩, E, Br, (by omega), hI, hrel, hD4, hD4r, (by have := C9.size; have := Nz.size; omega), rfl⟩
      · have khlt := hlt
        replace hlt := of_decide_eq_false hlt
        have hkk : k = t.args.length := by omega
        rw [hkk, List.drop_length] at hrel
        refine Wp_exit (thn_exit (thn_exit (inB_here (thn_normal (Wp_seq_region ?_)))))
        refine qA (.bool true) rfl ?_
        refine WpL_nil (Wp_ret ?_)
        refine fin_tmp Tryz.results121 (v := (.bool true)) rfl ?_
        exact ⟨D2, by rw [hrel]; rfl, E, by rw [hrel]; exact hI, hD2⟩
end Go.Proofs
namespace Go.Proofs
open Go Go.Eng
set_option maxRecDepth 100000
section
variable {S : Type} (F : S → Re → Bool × S)
def walkL : List Re → S → Bool × S
  | [], s => (true, s)
  | t :: ts, s => if (F s t).1 then walkL ts (F s t).2 else (false, (F s t).2)
theorem walkL_append : ∀ (a b : List Re) (s : S), walkL F (a ++ b) s = if (walkL F a s).1 then walkL F b (walkL F a s).2 else (false, (walkL F a s).2)
  | [], b, s => by simp [walkL]
  | x :: a, b, s => by
    simp only [List.cons_append, walkL]
    split
    · exact walkL_append a b _
    · simp
mutual
theorem walkF_list : ∀ (t : Re) (s : S), walkF F t s = walkL F (preL t) s
  | .mk k set args mn mx ng, s => by
    rw [walkF_eq, preL_eq]
    simp only [walkL, Re.args]
    rw [walkFs_list args]
theorem walkFs_list : ∀ (ts : List Re) (s : S), walkFs F ts s = walkL F (preLs ts) s
  | [], s => by simp only [walkFs, preLs, walkL]
  | t :: ts, s => by
    rw [walkFs_cons]
    simp only [preLs]
    rw [walkL_append, ← walkF_list t, ← walkFs_list ts]
end
end
end Go.Proofs
namespace Go.Eng
open Go
def edgeB (l : List Oper) (t u : Nat) : Bool := match l[t]? with
  | some o => o.after.any fun e => Region.binds .any e && Nat.beq e.on u
  | none => false
def guardB (hd : List Bool) (o : Oper) : Bool := match o.guard with | some p => hd.getD p.1 false | none => true
def dagPB (N : Nat) (hd : List Bool) : Nat → List Oper → List Nat → List (List Nat) → List Bool → Bool
  | _, [], [], [], [] => true
  | i, o :: l, d :: ds, ws :: wss, h :: hs => (bif h then dagOne N i o d ws && ((o.after.all fun e => !Region.binds .any e || hd.getD e.on false) && guardB hd o) else Nat.ble N d) && dagPB N hd (i + 1) l ds wss hs
  | _, _, _, _, _ => false
/-- Each operation is of the head or of the tail, and one of the tail waits for the whole head or for another of the tail. -/
def tailPB (l : List Oper) (hd : List Bool) (ts : List Nat) : Bool :=
 (List.range l.length).all fun i => hd.getD i false || (ts.contains i && ((List.range l.length).all (fun u => !hd.getD u false || edgeB l i u) || ts.any fun p => !hd.getD p true && edgeB l i p))
def permB (ops : Array Oper) : List Nat → Array Bool → Bool
  | [], listed => (Region.ready .any ops listed).isEmpty
  | k :: ks, listed => decide (Region.ready .any ops listed = [k]) && permB ops ks (listed.setIfInBounds k true)
theorem wpAny_of_perm {P : Program} {ops : Array Oper} {Q' : Exit → Act → World → Prop} : ∀ (ks : List Nat) (listed : Array Bool) (a : Act) (w : World), permB ops ks listed = true → wpList P ops Q' (ks.filterMap fun k => ops[k]?) a w → wpAny P .any ops Q' ks.length listed a w
  | [], _, _, _, hB, h => ⟨by simpa [permB] using hB, h⟩
  | k :: ks, listed, a, w, hB, h => by
    simp only [permB, Bool.and_eq_true, decide_eq_true_eq] at hB
    refine ⟨fun h1 => (by rw [hB.1] at h1; cases h1), fun i hi => ?_⟩
    have hi0 := hi
    rw [hB.1] at hi
    have hik : i = k := by simpa using hi
    subst hik
    obtain ⟨_, o, h0, _⟩ := mem_ready.1 hi0
    have hw : wpOp P ops Q' i (wpList P ops Q' (ks.filterMap fun k => ops[k]?)) a w := by
      rw [List.filterMap_cons, h0] at h
      unfold wpOp; simp only [h0]; exact h
    exact wpOp_mono (fun a' w' h' => wpAny_of_perm ks _ a' w' hB.2 h') hw
theorem dagPB_get {N : Nat} {hd : List Bool} : ∀ {i : Nat} {l : List Oper} {ds : List Nat} {wss : List (List Nat)} {hs : List Bool}, dagPB N hd i l ds wss hs = true → ∀ {j : Nat} {o : Oper}, l[j]? = some o → ∃ d ws h, ds[j]? = some d ∧ wss[j]? = some ws ∧ hs[j]? = some h ∧ (bif h then dagOne N (i + j) o d ws && ((o.after.all fun e => !Region.binds .any e || hd.getD e.on false) && guardB hd o) else Nat.ble N d) = true
  | _, [], _, _, _, _, j, o, h => by simp at h
  | i, x :: l, [], _, _, hB, _, _, _ => by simp [dagPB] at hB
  | i, x :: l, d :: ds, [], _, hB, _, _, _ => by simp [dagPB] at hB
  | i, x :: l, d :: ds, ws :: wss, [], hB, _, _, _ => by simp [dagPB] at hB
  | i, x :: l, d :: ds, ws :: wss, h0 :: hs, hB, j, o, h => by
    simp only [dagPB, Bool.and_eq_true] at hB
    cases j with
    | zero => simp at h; subst h; exact ⟨d, ws, h0, rfl, rfl, rfl, hB.1⟩
    | succ j =>
      simp at h
      obtain ⟨d', ws', h', h1, h2, h3, h4⟩ := dagPB_get hB.2 h
      exact ⟨d', ws', h', by simpa using h1, by simpa using h2, by simpa using h3, by rw [show i + (j + 1) = i + 1 + j from by omega]; exact h4⟩
theorem dagPB_len {N : Nat} {hd : List Bool} : ∀ {i : Nat} {l : List Oper} {ds : List Nat} {wss : List (List Nat)} {hs : List Bool}, dagPB N hd i l ds wss hs = true → ds.length = l.length ∧ hs.length = l.length
  | _, [], [], [], [], _ => ⟨rfl, rfl⟩
  | _, [], [], [], _ :: _, hB => by simp [dagPB] at hB
  | _, [], [], _ :: _, _, hB => by simp [dagPB] at hB
  | _, [], _ :: _, _, _, hB => by simp [dagPB] at hB
  | i, x :: l, [], _, _, hB => by simp [dagPB] at hB
  | i, x :: l, d :: ds, [], _, hB => by simp [dagPB] at hB
  | i, x :: l, d :: ds, ws :: wss, [], hB => by simp [dagPB] at hB
  | i, x :: l, d :: ds, ws :: wss, h0 :: hs, hB => by
    simp only [dagPB, Bool.and_eq_true] at hB
    have := dagPB_len hB.2
    simp [this.1, this.2]
inductive DagStepsP (P : Program) (N : Nat) (ds : List Nat) (Fs : List Fact) (σ : Env) (w : World) : List Oper → List (List Nat) → List Bool → List Fact → Prop where
  | nil : DagStepsP P N ds Fs σ w [] [] [] []
  | cons {o : Oper} {ws : List Nat} {F : Fact} {l : List Oper} {wss : List (List Nat)} {hs : List Bool} {Gs : List Fact} : DagStep P N ds Fs σ w o ws F → DagStepsP P N ds Fs σ w l wss hs Gs → DagStepsP P N ds Fs σ w (o :: l) (ws :: wss) (true :: hs) (F :: Gs)
  | tail {o : Oper} {ws : List Nat} {F : Fact} {l : List Oper} {wss : List (List Nat)} {hs : List Bool} {Gs : List Fact} : DagStepsP P N ds Fs σ w l wss hs Gs → DagStepsP P N ds Fs σ w (o :: l) (ws :: wss) (false :: hs) (F :: Gs)
theorem DagStepsP.get {P : Program} {N : Nat} {ds : List Nat} {Fs : List Fact} {σ : Env} {w : World} : ∀ {l : List Oper} {wss : List (List Nat)} {hs : List Bool} {Gs : List Fact}, DagStepsP P N ds Fs σ w l wss hs Gs → ∀ {j : Nat} {o : Oper}, l[j]? = some o → hs[j]? = some true → ∃ ws F, wss[j]? = some ws ∧ Gs[j]? = some F ∧ DagStep P N ds Fs σ w o ws F
  | _, _, _, _, .nil, j, o, h, _ => by simp at h
  | _, _, _, _, .cons h1 h2, 0, o, h, _ => by simp at h; subst h; exact ⟨_, _, rfl, rfl, h1⟩
  | _, _, _, _, .tail h2, 0, o, h, ht => by simp at ht
  | _, _, _, _, .cons h1 h2, j + 1, o, h, ht => by
    obtain ⟨ws, F, a, b, c⟩ := h2.get (j := j) (by simpa using h) (by simpa using ht)
    exact ⟨ws, F, by simpa using a, by simpa using b, c⟩
  | _, _, _, _, .tail h2, j + 1, o, h, ht => by
    obtain ⟨ws, F, a, b, c⟩ := h2.get (j := j) (by simpa using h) (by simpa using ht)
    exact ⟨ws, F, by simpa using a, by simpa using b, c⟩
/-- How many of the head are yet to come. -/
def leftH (hd : List Bool) (listed : List Bool) : Nat := ((hd.zip listed).filter fun p => p.1 && !p.2).length
theorem leftH_set : ∀ {hd listed : List Bool} {i : Nat}, hd[i]? = some true → listed[i]? = some false → leftH hd (listed.set i true) + 1 = leftH hd listed
  | [], _, _, h, _ => by simp at h
  | _ :: _, [], _, _, h => by simp at h
  | h :: hd, x :: listed, 0, h1, h2 => by
    simp at h1 h2
    subst h1; subst h2
    simp [leftH]
  | h :: hd, x :: listed, i + 1, h1, h2 => by
    have := leftH_set (hd := hd) (listed := listed) (i := i) (by simpa using h1) (by simpa using h2)
    simp only [leftH, List.set_cons_succ, List.zip_cons_cons, List.filter_cons] at this ⊢
    split
    · simp only [List.length_cons]; omega
    · exact this
theorem leftH_zero : ∀ {hd listed : List Bool}, hd.length = listed.length → leftH hd listed = 0 → (∀ (i : Nat), hd[i]? = some false → listed[i]? = some false) → listed = hd
  | [], [], _, _, _ => rfl
  | [], _ :: _, h, _, _ => by simp at h
  | _ :: _, [], h, _, _ => by simp at h
  | h :: hd, x :: listed, hl, h0, ht => by
    have e1 : leftH hd listed = 0 := by
      simp only [leftH, List.zip_cons_cons, List.filter_cons] at h0 ⊢
      split at h0
      · simp at h0
      · exact h0
    have e2 := leftH_zero (by simpa using hl) e1 fun i hi => by have := ht (i + 1) (by simpa using hi); simpa using this
    have e3 : x = h := by
      cases h with
      | false => have := ht 0 rfl; simpa using this
      | true =>
        cases x with
        | true => rfl
        | false => simp [leftH] at h0
    rw [e2, e3]
theorem leftH_pos : ∀ {hd listed : List Bool}, 0 < leftH hd listed → ∃ i : Nat, hd[i]? = some true ∧ listed[i]? = some false
  | [], _, h => by simp [leftH] at h
  | _ :: _, [], h => by simp [leftH] at h
  | h :: hd, x :: listed, hp => by
    simp only [leftH, List.zip_cons_cons, List.filter_cons] at hp
    split at hp
    · rename_i hc
      simp at hc
      exact ⟨0, by simp [hc.1], by simp [hc.2]⟩
    · obtain ⟨i, h1, h2⟩ := leftH_pos (hd := hd) (listed := listed) hp
      exact ⟨i + 1, by simpa using h1, by simpa using h2⟩
theorem getD_arr {listed : Array Bool} {i : Nat} {b d : Bool} (h : listed.toList[i]? = some b) : listed.getD i d = b := by
 have : listed[i]? = some b := by simpa using h
 simp [Array.getD_eq_getD_getElem?, this]
theorem Wp_dagP {P : Program} {N : Nat} {Q : Post} {σ : Env} {w : World} {id : Nat} {l : List Oper} (hd : List Bool) (ts : List Nat) (ds : List Nat) (wss : List (List Nat)) (Fs : List Fact) {Gs : List Fact} (hG : Fs = Gs) (hm : P.follows .mixedOrders = true) (hB : dagPB N hd 0 l ds wss hd = true) (hn : nodupB ds = true)
    (hT : (tailPB l hd ts && permB l.toArray ts hd.toArray) = true) (hN : Nat.beq (leftH hd (List.replicate l.length false) + ts.length) l.length = true)
    (steps : ∀ w1, Ext w w1 → DagStepsP P N ds Fs σ w1 l wss hd Gs)
    (k : ∀ σ' w', Ext w w' → (∀ t, ds.contains t = false → σ' t = σ t) → (∀ j, hd[j]? = some true → Holds ds Fs j σ' w') → WpL P N l.toArray (Q .normal) Q (ts.filterMap fun k => l[k]?) σ' w') : Wp P N (.region id l.toArray true) Q σ w := by
  intro a ha he
  have eQ : lift N (thn (Q .normal) Q) = lift N Q := by funext e a w; cases e <;> rfl
  refine wp_region_any hm ?_
  obtain ⟨w1, hw1⟩ : ∃ w1 : World, w1 = { w with drawn := w.drawn + 1 } := ⟨_, rfl⟩
  have hE1 : Ext w w1 := by rw [hw1]; exact drew_ext w
  rw [← hw1]
  have hst := steps w1 hE1
  rw [← hG] at hst
  rw [Bool.and_eq_true] at hT
  obtain ⟨hT1, hT2⟩ := hT
  obtain ⟨hlen, hlen2⟩ := dagPB_len hB
  have key : ∀ (m : Nat) (listed : Array Bool) (a : Act) (w' : World), leftH hd listed.toList = m → listed.size = l.length → (∀ (t : Nat), hd[t]? = some false → listed.toList[t]? = some false) → Ok N a → Ext w1 w' → (∀ t, ds.contains t = false → env a t = σ t) → (∀ j, hd[j]? = some true → listed.getD j false = true → Holds ds Fs j (env a) w') →
      wpAny P .any l.toArray (lift N Q) (m + ts.length) listed a w' := by
    intro m
    induction m with
    | zero =>
      intro listed a w' hc0 hsz htl ha hx hu hh
      have hl : listed = hd.toArray := by
        apply Array.ext'
        exact leftH_zero (by simp; omega) hc0 htl
      rw [Nat.zero_add]
      have h1 := k (env a) w' (hE1.trans hx) hu (fun j hj => hh j hj (getD_arr (by rw [hl]; exact hj))) a ha rfl
      rw [eQ] at h1
      exact wpAny_of_perm ts listed a w' (by rw [hl]; exact hT2) (by simpa using h1)
    | succ m ih =>
      intro listed a w' hcm hsz htl ha hx hu hh
      obtain ⟨i0, hi0, hi1⟩ := leftH_pos (hd := hd) (listed := listed.toList) (by omega)
      rw [show m + 1 + ts.length = (m + ts.length) + 1 by omega]
      refine ⟨fun hr => ?_, fun i hi => ?_⟩
      · exfalso
        have hall : ∀ i : Nat, hd[i]? = some true → listed.getD i true = true := by
          intro i
          induction i using Nat.strongRecOn with
          | _ i ihi =>
            intro hi
            cases hv : listed.getD i true with
            | true => rfl
            | false =>
              exfalso
              obtain ⟨o, ho⟩ := get_of_lt (l := l) (i := i) (by have := lt_of_get hi; omega)
              obtain ⟨d, ws, h, _, _, h2, h3⟩ := dagPB_get hB ho
              rw [hi] at h2
              cases h2
              simp only [cond_true, Bool.and_eq_true, Nat.zero_add] at h3
              have : i ∈ Region.ready .any l.toArray listed := by
                refine mem_ready.2 ⟨hv, o, by simpa using ho, fun e he hb => ?_⟩
                have h4 := h3.1
                simp only [dagOne, Bool.and_eq_true, Array.all_eq_true_iff_forall_mem, Bool.or_eq_true, Bool.not_eq_true'] at h4
                have h5 := h3.2.1
                simp only [Array.all_eq_true_iff_forall_mem, Bool.or_eq_true, Bool.not_eq_true'] at h5
                have h6 := (h4.1.2 e he).resolve_left (by simp [hb])
                have hlt : e.on < i := by simpa [Nat.blt_eq] using h6
                have h7 := (h5 e he).resolve_left (by simp [hb])
                have hj0 : e.on < hd.length := by have := lt_of_get hi; omega
                have h8 : hd[e.on]? = some true := by
                  rw [List.getD_eq_getElem?_getD, List.getElem?_eq_getElem hj0, Option.getD_some] at h7
                  rw [List.getElem?_eq_getElem hj0, h7]
                have h9 := ihi e.on hlt h8
                have hj : e.on < listed.size := by omega
                simpa only [Array.getD_eq_getD_getElem?, Array.getElem?_eq_getElem hj, Option.getD_some] using h9
              rw [hr] at this
              cases this
        have := hall i0 hi0
        rw [getD_arr hi1] at this
        cases this
      · obtain ⟨h1, o, h2, h3⟩ := mem_ready.1 hi
        have ho : l[i]? = some o := by simpa using h2
        have hil : i < l.length := lt_of_get ho
        have hih : hd[i]? = some true := by
          obtain ⟨b, hb⟩ := get_of_lt (l := hd) (i := i) (by omega)
          cases b with
          | true => exact hb
          | false =>
            exfalso
            have h4 := List.all_eq_true.1 hT1 i (List.mem_range.2 hil)
            rw [List.getD_eq_getElem?_getD, hb, Option.getD_some, Bool.false_or, Bool.and_eq_true, Bool.or_eq_true] at h4
            have edge : ∀ u, edgeB l i u = true → listed.getD u false = true := fun u hu' => by
              unfold edgeB at hu'
              rw [ho] at hu'
              simp only [Array.any_eq_true', Bool.and_eq_true] at hu'
              obtain ⟨e, he, hb1, hb2⟩ := hu'
              have := Nat.eq_of_beq_eq_true hb2
              rw [← this]
              exact h3 e he hb1
            rcases h4.2 with h5 | h5
            · have h6 := List.all_eq_true.1 h5 i0 (List.mem_range.2 (by have := lt_of_get hi0; omega))
              rw [List.getD_eq_getElem?_getD, hi0, Option.getD_some, Bool.not_true, Bool.false_or] at h6
              have := edge i0 h6
              rw [getD_arr hi1] at this
              cases this
            · obtain ⟨p, _, h6⟩ := List.any_eq_true.1 h5
              rw [Bool.and_eq_true, Bool.not_eq_true'] at h6
              have h7 := edge p h6.2
              have hp : hd[p]? = some false := by
                have h8 := h6.1
                rw [List.getD_eq_getElem?_getD] at h8
                cases h9 : hd[p]? with
                | none => rw [h9] at h8; cases h8
                | some b => rw [h9, Option.getD_some] at h8; rw [h8]
              rw [getD_arr (htl p hp)] at h7
              cases h7
        obtain ⟨d, ws, h, hd', hws, hhs, h4⟩ := dagPB_get hB ho
        rw [hih] at hhs
        cases hhs
        obtain ⟨ws', F, hws', hF, hstep⟩ := hst.get ho hih
        rw [hws] at hws'
        cases hws'
        simp only [cond_true, Bool.and_eq_true, Nat.zero_add] at h4
        have hgB := h4.2.2
        have h4 := h4.1
        simp only [dagOne, Bool.and_eq_true, List.all_eq_true, Array.any_eq_true', Array.all_eq_true_iff_forall_mem, Bool.or_eq_true, Bool.not_eq_true'] at h4
        obtain ⟨⟨⟨hdst, hdN⟩, _⟩, hwait⟩ := h4
        have hdst : o.dst = some d := by
          split at hdst
          · rename_i d' h; rw [h, Nat.eq_of_beq_eq_true hdst]
          · cases hdst
        have hdN : d < N := by simpa [Nat.blt_eq] using hdN
        have hH : ∀ j, ws.contains j = true → Holds ds Fs j (env a) w' := by
          intro j hj
          have hj' : j ∈ ws := by simpa using hj
          obtain ⟨e, he, hb⟩ := hwait j hj'
          obtain ⟨hb1, hb2⟩ := hb
          have hej : e.on = j := Nat.eq_of_beq_eq_true hb2
          have hl1 := h3 e he hb1
          rw [hej] at hl1
          refine hh j ?_ hl1
          obtain ⟨b, hb⟩ := get_of_lt (l := hd) (i := j) (by
            rcases Nat.lt_or_ge j listed.size with h9 | h9
            · omega
            · simp [Array.getD_eq_getD_getElem?, Array.getElem?_eq_none h9] at hl1)
          cases b with
          | true => exact hb
          | false => rw [getD_arr (htl j hb)] at hl1; cases hl1
        have gd : ∀ j b, o.guard = some (j, b) → ∀ dj, ds[j]? = some dj → (∃ oj, l[j]? = some oj ∧ oj.dst = some dj) ∧ dj < N := fun j b hgd dj hdj => by
          obtain ⟨oj, hoj⟩ := get_of_lt (l := l) (i := j) (by have := lt_of_get hdj; omega)
          obtain ⟨dj', _, hj, hdj', _, h5, h6⟩ := dagPB_get hB hoj
          rw [hdj] at hdj'
          cases hdj'
          unfold guardB at hgB
          rw [hgd] at hgB
          simp only at hgB
          have h7 : hj = true := by rw [List.getD_eq_getElem?_getD, h5, Option.getD_some] at hgB; exact hgB
          rw [h7] at h6
          simp only [cond_true, Bool.and_eq_true, dagOne] at h6
          obtain ⟨⟨⟨hdst2, hdN2⟩, _⟩, _⟩ := h6.1
          refine ⟨⟨oj, hoj, ?_⟩, by simpa [Nat.blt_eq] using hdN2⟩
          split at hdst2
          · rename_i d' h; rw [h, Nat.eq_of_beq_eq_true hdst2]
          · cases hdst2
        have cont : ∀ v w2, Ext w' w2 → F.In v w2 → wpAny P .any l.toArray (lift N Q) (m + ts.length) (listed.setIfInBounds i true) (a.put o.dst v) w2 := by
          intro v w2 hx2 hv
          have henv : env (a.put o.dst v) = upd (env a) d v := by rw [hdst]; exact env_put ha hdN v
          have hlf : listed.toList[i]? = some false := by
            have hj : i < listed.size := by omega
            simp only [Array.getD_eq_getD_getElem?, Array.getElem?_eq_getElem hj, Option.getD_some] at h1
            rw [Array.getElem?_toList, Array.getElem?_eq_getElem hj, h1]
          refine ih _ _ _ ?_ (by simpa using hsz) (fun t ht => ?_) (ha.put _ _) (hx.trans hx2) ?_ ?_
          · rw [Array.toList_setIfInBounds]
            have := leftH_set hih hlf
            omega
          · rw [Array.toList_setIfInBounds, List.getElem?_set]
            have hne : i ≠ t := fun e => by rw [← e, hih] at ht; cases ht
            rw [if_neg hne]
            exact htl t ht
          · intro t ht
            rw [henv, ← hu t ht]
            simp only [upd]
            cases hb : Nat.beq t d
            · rfl
            · exfalso
              have : t = d := Nat.eq_of_beq_eq_true hb
              subst this
              have := List.mem_of_getElem? hd'
              simp [this] at ht
          · intro j hjh hj d' F' hd'' hF'
            rw [henv]
            by_cases hij : j = i
            · subst hij
              rw [hd'] at hd''; cases hd''
              rw [hF] at hF'; cases hF'
              simp only [upd, Nat.beq_refl, cond_true]
              exact hv
            · have hne : Nat.beq d' d = false := by
                cases hb : Nat.beq d' d
                · rfl
                · exfalso
                  have : d' = d := Nat.eq_of_beq_eq_true hb
                  subst this
                  exact hij (nodupB_get hn hd'' hd')
              simp only [upd, hne, cond_false]
              rw [getD_set_ne _ (Ne.symm hij)] at hj
              exact Fact.ext (hh j hjh hj d' F' hd'' hF') hx2
        rcases hstep (env a) w' hx hu hH with ⟨hg, hdo⟩ | ⟨⟨j, b, dj, hgd, hdj, hvj⟩, hund⟩
        · have hw : Region.wanted o (yielded l.toArray a.tmps) = true := by
            cases hgd : o.guard with
            | none => simp [Region.wanted, hgd]
            | some p =>
              obtain ⟨j, b⟩ := p
              obtain ⟨dj, hdj, hvj⟩ := hg j b hgd
              obtain ⟨hdst2, hdN2⟩ := gd j b hgd dj hdj
              have h6 : a.tmps[dj]? = some (Value.bool b) := by
                have h2 : a.tmps.getD dj undef = .bool b := hvj
                have hlt : dj < a.tmps.size := by rw [ha.size]; exact hdN2
                rw [Array.getElem?_eq_getElem hlt]
                simpa [hlt] using h2
              obtain ⟨oj, hoj, hdst2⟩ := hdst2
              simp [Region.wanted, hgd, yielded, hoj, hdst2, h6]
          unfold wpOp
          simp only [h2, hw, if_true]
          exact Or.inl (hdo a ha rfl _ _ cont)
        · have hw : Region.wanted o (yielded l.toArray a.tmps) = false := by
            obtain ⟨hdst2, hdN2⟩ := gd j b hgd dj hdj
            have hlt : dj < a.tmps.size := by rw [ha.size]; exact hdN2
            have h6 : a.tmps[dj]? = some (env a dj) := by
              rw [Array.getElem?_eq_getElem hlt]
              simp [env, hlt]
            obtain ⟨oj, hoj, hdst2⟩ := hdst2
            rcases hvj with hvj | hvj
            · rw [hvj] at h6
              cases b <;> simp [Region.wanted, hgd, yielded, hoj, hdst2, h6]
            · rw [hvj] at h6
              simp [Region.wanted, hgd, yielded, hoj, hdst2, h6, undef]
          unfold wpOp
          simp only [h2, hw, Bool.false_eq_true, if_false]
          exact cont undef w' (Ext.refl _) hund
  have h1 := key (leftH hd (Array.replicate l.toArray.size false).toList) (Array.replicate l.toArray.size false) a w1 rfl (by simp) (fun t ht => by have h9 := lt_of_get ht; rw [Array.toList_replicate, List.getElem?_replicate, if_pos (by rw [List.size_toArray]; omega)]) ha (Ext.refl _) (fun t _ => by rw [he]) (fun j _ hj => by rw [getD_replicate_false] at hj; cases hj)
  have e3 : leftH hd (Array.replicate l.toArray.size false).toList + ts.length = l.toArray.size := by have h9 := Nat.eq_of_beq_eq_true hN; simpa using h9
  rw [e3] at h1
  exact h1
theorem lst5 {x y z u p a b c d e : Value} (h : x = a) (h' : y = b) (h'' : z = c) (h3 : u = d) (h4 : p = e) : [x, y, z, u, p] = [a, b, c, d, e] := by rw [h, h', h'', h3, h4]
section
variable {P : Program} {N : Nat} {σ : Env} {w : World} {dst : Option Tmp} {ty : TypeId} {pos : String} {af : Array Edge} {g : Option (Nat × Bool)} {t : TypeId} {x y z u : Operand} {a b c d : Value} {i j k m : Nat}
/-- A new variable, with its cells. -/
def alF (e : Nat) (c : Array Value) (hs : Nat) : Fct := fun v w => ∃ b, v = .pointer (some ⟨b, 0, none⟩) ∧ Blk w b c e ∧ hs ≤ b
theorem alF_ext (e : Nat) (c : Array Value) (hs : Nat) : Stable (alF e c hs) := by
 rintro v w w' x ⟨b, h1, h2, h3⟩
 exact ⟨b, h1, Ext.keep x h2, h3⟩
theorem Does_alloc {d hs : Nat} {z : Value} {c : Array Value} (hz : Zer P t z) (hc : z.cells = c) (hh : hs ≤ w.heap.size) : Does P N ⟨some d, .alloc t, ty, pos, af, g⟩ (alF t c hs) σ w := by
 subst hc
 have hn := New.mk' w z.cells t
 exact Does_val (v := .pointer (some ⟨w.heap.size, 0, none⟩)) (by simp [execOp, Instr.alloc, hz.run, newVar, newRow]) hn.ext ⟨_, rfl, hn.blk, hh⟩
end
end Go.Eng
namespace Go.Proofs
open Go Go.Eng Go.Sort
set_option maxRecDepth 100000
abbrev TSss : Nat := 50
theorem spss_has_c (w0 : World) (v fv : Value) (ll : List (List Sp)) (p : List Sp → Bool) (h : SpssAt w0 v ll) (hf : ∀ (w : World) (u : Value) (l : List Sp), Ext w0 w → SpansAt w u l → CallV Tryz.prog fv #[u] w fun r w' => r = .bool (p l) ∧ Ext w w') :
  Ret Tryz.prog 111 #[v, fv] w0 fun r w => r = .bool (ll.any p) ∧ Ext w0 w := by
 refine Ret_of Tryz.func111 rfl Tryz.ntmps111 (Nat.le_of_ble_eq_true rfl) ?_
 have E : Chg none1 w0 w0 := Chg.refl _ _
 refine Wp_seq_region ?_
 refine qA (.bool false) rfl ?_
 refine WpL_nil (Wp_seq_region ?_)
 refine qM v rfl ?_
 refine qM fv rfl ?_
 refine WpL_enter rfl rfl (by decide) (r_callF (vs := [v, fv]) Tryz.func159 nm159 bd159 rfl) (spss_idx_c _ v fv ll p h hf) ?_
 rintro _ w9 ⟨rfl, X9⟩
 replace E := E.ext X9
 refine qV (r_geq (k := .i64) (a := idx p ll) (b := 0) rfl rfl) ?_
 refine qA (.bool (decide ((0 : Int) ≤ idx p ll))) rfl ?_
 refine WpL_nil (Wp_ret ?_)
 refine fin_tmp Tryz.results111 (v := (.bool (decide ((0 : Int) ≤ idx p ll)))) rfl ?_
 exact ⟨bool_eq (idx_any p ll), E⟩
theorem all11_c (w0 : World) (bz : Nat) (x : Re) (xs : List Value) (u : Value) (l : List Sp) (hB : Blk w0 bz xs.toArray 25) (hx : ReAt w0 x xs) (hu : SpansAt w0 u l) :
  Ret Tryz.prog 151 #[u, .pointer (some ⟨bz, 0, none⟩)] w0 fun r w => r = .bool (decide (l = x.set)) ∧ Ext w0 w := by
 obtain ⟨sa, sc, aa, ac, rfl, hset, _, _⟩ := hx.form
 refine Ret_of Tryz.func151 rfl Tryz.ntmps151 (Nat.le_of_ble_eq_true rfl) ?_
 have E : Chg none1 w0 w0 := Chg.refl _ _
 refine Wp_seq_region ?_
 refine qA (.bool false) rfl ?_
 refine WpL_nil (Wp_seq_region ?_)
 refine qM u rfl ?_
 refine qF bz 0 1 rfl Tryz.underlying25 rfl siz22 rfl ?_
 refine qV (r_load (v := (.slice sa x.set.length sc)) rfl flat22 (hB.cell rfl)) ?_
 refine WpL_enter rfl rfl (by decide) (r_callF (vs := [u, (.slice sa x.set.length sc)]) Tryz.func80 nm80 bd80 rfl) (speq_c _ _ _ l x.set (hu.ext E) (SlAt.ext hset E)) ?_
 rintro _ w9 ⟨rfl, X9⟩
 replace hB := X9.keep hB
 replace E := E.ext X9
 refine qA (.bool (decide (l = x.set))) rfl ?_
 refine WpL_nil (Wp_ret ?_)
 refine fin_tmp Tryz.results151 (v := (.bool (decide (l = x.set)))) rfl ?_
 exact ⟨rfl, E⟩
/-- The list of sets, one's own, in a cell. -/
def InvA (bo base : Nat) (SR : List (List Sp)) (s : List (List Sp)) (D : Nat → Prop) (w : World) : Prop :=
 ∃ (oa : Option Addr) (oc : Nat) (vs : List Value), Blk w bo #[.slice oa s.length oc] TSss ∧ LSt TSs TSp 2 w base (.slice oa s.length oc) vs (s.map sRow) ∧ (∀ b, D b ↔ b = bo ∨ (Value.slice oa s.length oc).ownBlock = some b) ∧ bo < base ∧ base ≤ w.heap.size ∧ s.Nodup ∧ ∀ x ∈ s, x ∈ SR
def osG (base : Nat) (l : List Sp) : Fct := fun v w => ∃ a c, v = .slice a l.length c ∧ w.ownsRow base TSp 2 (.slice a l.length c) l.length (l.map spanV).flatten
theorem osG_ext (base : Nat) (l : List Sp) : Stable (osG base l) := by
 rintro v w w' e ⟨a, c, rfl, h⟩
 exact ⟨a, c, rfl, own_ext h e⟩
def lit1G (l : List Sp) (base : Nat) : Fct := fun v w => ∃ b a c, v = .slice (some ⟨b, 0, none⟩) 1 1 ∧ Blk w b #[.slice a l.length c] TSs ∧ base ≤ b ∧ w.ownsRow base TSp 2 (.slice a l.length c) l.length (l.map spanV).flatten
theorem lit1G_ext (l : List Sp) (base : Nat) : Stable (lit1G l base) := by
 rintro v w w' e ⟨b, a, c, rfl, h, h2, h3⟩
 exact ⟨b, a, c, rfl, Ext.keep e h, h2, own_ext h3 e⟩
theorem DoesT_lit1 {M : Nat → Prop} {N : Nat} {σ : Env} {w : World} {dst : Option Tmp} {ty : TypeId} {pos : String} {af : Array Edge} {g : Option (Nat × Bool)} {x : Operand} {a : Option Addr} {c base : Nat} {l : List Sp} (hx : ev σ x = .slice a l.length c) (hb : base ≤ w.heap.size) (hO : w.ownsRow base TSp 2 (.slice a l.length c) l.length (l.map spanV).flatten) :
  DoesT M Tryz.prog N ⟨dst, .buildSlice 50 1 #[(0, x)], ty, pos, af, g⟩ (lit1G l base) σ w := by
 have hn := New.mk' w #[.slice a l.length c] TSs
 exact DoesT_val (run_buildSlice (parts := [(0, x)]) (ps := [(0, .slice a l.length c)]) (by simp only [List.map, hx]) Tryz.underlying50 siz22 zer22 (by decide) (by decide) (by kernel_rfl)) (Ext.chg hn.ext) ⟨_, _, _, rfl, hn.blk, hb, own_ext hO hn.ext⟩
theorem addS_same {s : List (List Sp)} {t : Re} (h : t.kind = 2 → t.set ∈ s) : addS s t = s := by
 unfold addS
 rw [if_neg fun h2 => h2.2 (h h2.1)]
set_option maxHeartbeats 2000000 in
theorem all1_c (w0 : World) (bo base : Nat) (SR : List (List Sp)) (hSR : SR.length ≤ 1000 ∧ ∀ s ∈ SR, checkE s = 0) (s : List (List Sp)) (D : Nat → Prop) (x : Re) (xs : List Value) (hI : InvA bo base SR s D w0) (hP : AllS (fun s => s ∈ SR) x) (hx : ReAt w0 x xs) :
  Ret Tryz.prog 150 #[.agg xs.toArray, .pointer (some ⟨bo, 0, none⟩)] w0 fun v w' => ∃ D', v = .bool true ∧ Chg D w0 w' ∧ InvA bo base SR (addS s x) D' w' ∧ ∀ b, D' b → D b ∨ w0.heap.size ≤ b := by
 have hx0 := hx
 have hI0 := hI
 obtain ⟨sa, sc, aa, ac, rfl, hset, _, _⟩ := hx.form
 obtain ⟨oa, oc, vs, hB, hL, hD, hbo, hbs, hnd, hsub⟩ := hI
 have hbs0 := hbs
 have hDb : D bo := (hD bo).2 (.inl rfl)
 have hsl : s.length ≤ 1000 := Nat.le_trans (nodup_le hnd hsub) hSR.1
 have hOz := fun k h => (hL.o.lt k h).2
 have hD0 : ∀ b, D b → b < w0.heap.size := fun b h => by rcases (hD b).1 h with h | h; omega; exact hOz b h
 refine Ret_of Tryz.func150 rfl Tryz.ntmps150 (Nat.le_of_ble_eq_true rfl) ?_
 have E : Chg D w0 w0 := Chg.refl _ _
 refine Wp_seq_region ?_
 refine s_box (v := (.agg (R6 x sa sc aa ac))) (c := (R6 x sa sc aa ac)) (by decide) rfl rfl ?_
 intro bz wz Nz
 have Fz := Nz.ge E
 have Oz_bo := Nz.lt hB
 replace hB := Nz.keep hB
 replace hL := hL.ext Nz.ext
 replace hbs := Nat.le_trans hbs Nz.ext.size
 replace E := E.ext Nz.ext
 have Bz := Nz.blk
 refine qA (.bool false) rfl ?_
 refine WpL_nil (Wp_seq (Wp_seq_region ?_))
 refine qF bz 0 0 rfl Tryz.underlying25 rfl siz3 rfl ?_
 refine qV (r_load (v := (I6 x.kind)) rfl flat3 (Bz.cell rfl)) ?_
 refine qV (r_eql (k := .i64) (a := x.kind) (b := 2) rfl rfl) ?_
 refine qM (.bool (decide ((x.kind : Int) = 2))) rfl ?_
 rcases Bool.eq_false_or_eq_true (decide ((x.kind : Int) = 2)) with g1 | g1
 ·have kg1 := g1
  replace kg1 := of_decide_eq_true kg1
  refine WpL_guard_yes (oj := _) rfl rfl (by decide) (congrArg Value.bool g1) ?_
  refine qV (r_load (v := (.slice oa s.length oc)) rfl flat50 (hB.cell rfl)) ?_
  refine WpL_guard_yes (oj := _) rfl rfl (by decide) (congrArg Value.bool g1) ?_
  refine qV (r_makeFunc (vs := []) (us := [(P6 bz 0)]) rfl rfl) ?_
  refine WpL_guard_yes (oj := _) rfl rfl (by decide) (congrArg Value.bool g1) ?_
  refine WpL_enter rfl rfl (by decide) (r_callF (vs := [(.slice oa s.length oc), (.func (.func 151) #[] #[(P6 bz 0)])]) Tryz.func111 nm111 bd111 rfl) (spss_has_c _ _ _ s (fun l => decide (l = x.set)) hL.spss (fun w u l hE hu => CallV.mk (first := #[]) (cap := #[.pointer (some ⟨bz, 0, none⟩)]) Tryz.func151 nm151 bd151 rfl (all11_c w bz x _ u l (hE.keep Bz) (ReAt.ext (Nz.ext.trans hE) x hx0) hu))) ?_
  rintro _ w9 ⟨rfl, X9⟩
  replace hB := X9.keep hB
  replace Bz := X9.keep Bz
  replace hL := hL.ext X9
  replace hbs := Nat.le_trans hbs X9.size
  replace E := E.ext X9
  refine WpL_guard_yes (oj := _) rfl rfl (by decide) (congrArg Value.bool g1) ?_
  refine qV (r_not (b := (s.any fun l => decide (l = x.set))) rfl) ?_
  refine qV (r_pick (b := decide ((x.kind : Int) = 2)) (v := (.bool (!(s.any fun l => decide (l = x.set))))) rfl (by rw [g1]; rfl)) ?_
  refine WpL_nil ?_
  refine Wp_cond (b := !(s.any fun l => decide (l = x.set))) rfl (fun g2 => ?_) (fun g2 => ?_)
  ·have kg2 := g2
   replace g2 := by simpa using g2
   have hns : x.set ∉ s := fun h => g2 _ h rfl
   have hxR := hP.s kg1
   have hx16 := (checkE_v (hSR.2 x.set hxR)).2
   have hadd : addS s x = s ++ [x.set] := by unfold addS; rw [if_pos ⟨kg1, hns⟩]
   obtain ⟨n1, hn1⟩ : ∃ n, n = (w9).heap.size := ⟨_, rfl⟩
   have hn0 : w0.heap.size ≤ n1 := by rw [hn1]; have := X9.size; have := Nz.size; omega
   obtain ⟨Fs3, hFs3⟩ : ∃ Fs : List (FactT (none1)), Fs = [.eq (.slice oa s.length oc), .eq (P6 bz 1), .eq (.slice sa x.set.length sc), .gen (osG n1 x.set) (osG_ext _ _), .gen (lit1G x.set n1) (lit1G_ext _ _)] := ⟨_, rfl⟩
   refine Wp_dagT (none1) 5 3 [13, 14, 15, 16, 17] [[], [], [1], [2], [3]] Fs3 hFs3 rfl mixed (by kernel_rfl) (by kernel_rfl) (by kernel_rfl) ?_ ?_
   ·intro wd X0
    refine DagStepsT.cons (fun s' w' X U H => ?_) ?_
    ·exact DoesT_val (r_load (v := (.slice oa s.length oc)) (U 1 rfl) flat50 ((Chg.keep X (fun f => f) (X0.keep hB)).cell rfl)) (Chg.refl _ _) rfl
    refine DagStepsT.cons (fun s' w' X U H => ?_) ?_
    ·exact DoesT_val (r_fieldAddr (b := bz) (o := 0) (o' := 1) (U 2 rfl) Tryz.underlying25 rfl siz22 rfl) (Chg.refl _ _) rfl
    refine DagStepsT.cons (fun s' w' X U H => ?_) ?_
    ·have e14 : s' 14 = (.pointer (some ⟨bz, 1, none⟩)) := H 1 rfl 14 (.eq (.pointer (some ⟨bz, 1, none⟩))) rfl (by rw [hFs3]; rfl)
     exact DoesT_val (r_load (v := (.slice sa x.set.length sc)) e14 flat22 ((Chg.keep X (fun f => f) (X0.keep Bz)).cell rfl)) (Chg.refl _ _) rfl
    refine DagStepsT.cons (fun s' w' X U H => ?_) ?_
    ·have e15 : s' 15 = (.slice sa x.set.length sc) := H 2 rfl 15 (.eq (.slice sa x.set.length sc)) rfl (by rw [hFs3]; rfl)
     exact DoesT_enter (r_callF (vs := [(.slice sa x.set.length sc)]) Tryz.func114 nm114 bd114 (lst1 e15)) ((clones_c _ _ x.set (SlAt.ext (SlAt.ext hset (Nz.ext.trans X9)) (X0.trans X)) (by omega)).mono (fun v w h => ⟨(by obtain ⟨⟨⟨a, c, h1⟩, h2⟩, _⟩ := h; subst h1; exact ⟨a, c, rfl, own_low h2 (by have := X0.size; have := X.size; omega)⟩ : osG n1 x.set v w), h.2⟩))
    refine DagStepsT.cons (fun s' w' X U H => ?_) ?_
    ·obtain ⟨a16, c16, e16, O16⟩ := (show (.gen (osG n1 x.set) (osG_ext _ _) : FactT (none1)).In (s' 16) w' from H 3 rfl 16 (.gen (osG n1 x.set) (osG_ext _ _)) rfl (by rw [hFs3]; rfl))
     exact DoesT_lit1 e16 (by have := X0.size; have := X.size; omega) O16
    exact DagStepsT.nil
   ·intro s' wd3 w3 X0 X3 U H
    have e13 : s' 13 = (.slice oa s.length oc) := H 0 13 (.eq (.slice oa s.length oc)) rfl (by rw [hFs3]; rfl)
    obtain ⟨a16, c16, e16, O16⟩ := (show (.gen (osG n1 x.set) (osG_ext _ _) : FactT (none1)).In (s' 16) w3 from H 3 16 (.gen (osG n1 x.set) (osG_ext _ _)) rfl (by rw [hFs3]; rfl))
    obtain ⟨b17, a17, c17, e17, B17, h17, O17⟩ := (show (.gen (lit1G x.set n1) (lit1G_ext _ _) : FactT (none1)).In (s' 17) w3 from H 4 17 (.gen (lit1G x.set n1) (lit1G_ext _ _)) rfl (by rw [hFs3]; rfl))
    obtain ⟨j3, rfl⟩ := Fits.out (σ := s') (l := [(1, (.pointer (some ⟨bo, 0, none⟩))), (13, (.slice oa s.length oc)), (17, (.slice (some ⟨b17, 0, none⟩) 1 1))]) ⟨U 1 rfl, e13, e17, trivial⟩
    clear U H
    replace hB := Chg.keep X3 (fun f => f) (X0.keep hB)
    replace Bz := Chg.keep X3 (fun f => f) (X0.keep Bz)
    replace hL := hL.ext X0
    replace hL := hL.ext X3
    replace hbs := Nat.le_trans hbs X0.size
    replace hbs := Nat.le_trans hbs X3.size
    replace E := (E.ext X0).step X3 (fun _ _ f => f.elim)
    have hw3 := E.size
    have hLo := hL.on (n := s.length) (by simp)
    refine s_append (base := base) (n := s.length) (m := 1) (xs := vs) (news := [(.slice a17 x.set.length c17)]) (size := 1) (bytes := 24) (v := (.slice oa s.length oc)) (by decide) Tryz.underlying50 siz22 byt22 zer22 rfl (by decide) rfl hLo rfl (rfl) (B17.cells rfl) (by simp [Value.oneCell']) (by unfold maxLen; omega) (by omega) (hbs) ?_
    intro v9 w29 Ov9 Cv9 Dv9
    replace hB := Cv9.keep (fun h => by have := (hLo.lt _ h).1; omega) hB
    replace E := E.step Cv9 (fun y hy h => (hD y).2 (.inr h))
    obtain ⟨la2, lc2, rfl⟩ := own_form Ov9
    have hL2 := hL.push (n := s.length) (by simp) O17 (by omega) (fun k h => by have := hOz k h; omega) Ov9 Cv9 Dv9
    have hbs2 := Nat.le_trans hbs Cv9.size
    have hDv : ∀ b, (Value.slice la2 (s.length + 1) lc2).ownBlock = some b → D b ∨ w0.heap.size ≤ b := fun b h => by rcases Dv9 b h with h | h; exact .inl ((hD b).2 (.inr h)); exact .inr (by omega)
    refine s_store (b := bo) (o := 0) (c' := #[(.slice la2 (s.length + 1) lc2)]) (v := (.slice la2 (s.length + 1) lc2)) rfl rfl rfl siz50 hB (by simp) rfl ?_
    intro w4 S4
    replace hL2 := hL2.chg S4.chg (fun b hb _ h => by have h2 : b = bo := h; omega)
    replace hbs2 := Nat.le_trans hbs2 S4.chg.size
    replace E := S4.step E (by first | exact Or.inl (by omega) | exact Or.inr rfl | exact Or.inr (by assumption) | exact Or.inr (by simp) | exact Or.inr (by omega) | exact Or.inr (by dsimp only; omega))
    replace hB := S4.blk
    refine WpL_nil (thn_normal (Wp_seq_region ?_))
    refine qA (.bool true) rfl ?_
    refine WpL_nil (Wp_ret ?_)
    refine fin_tmp Tryz.results150 (v := (.bool true)) rfl ?_
    refine ⟨fun b => b = bo ∨ (Value.slice la2 (s.length + 1) lc2).ownBlock = some b, rfl, E, ⟨la2, lc2, vs ++ [.slice a17 x.set.length c17], ?_, ?_, ?_, hbo, hbs2, ?_, ?_⟩, ?_⟩
    ·rw [hadd, List.length_append]; exact hB
    ·rw [hadd, List.length_append, List.map_append]; exact hL2
    ·intro b; rw [hadd, List.length_append]; exact Iff.rfl
    ·rw [hadd, List.nodup_append]
     exact ⟨hnd, by simp, fun a ha b hb => by rw [List.mem_singleton.1 hb]; rintro rfl; exact hns ha⟩
    ·intro y hy
     rw [hadd] at hy
     rcases List.mem_append.1 hy with h | h
     ·exact hsub y h
     ·rw [List.mem_singleton.1 h]; exact hxR
    ·rintro b (rfl | h)
     ·exact .inl hDb
     ·exact hDv b h
  ·have kg2 := g2
   replace g2 := by simpa using g2
   have hadd : addS s x = s := addS_same fun _ => g2
   refine Wp_skip (thn_normal (Wp_seq_region ?_))
   refine qA (.bool true) rfl ?_
   refine WpL_nil (Wp_ret ?_)
   refine fin_tmp Tryz.results150 (v := (.bool true)) rfl ?_
   exact ⟨D, rfl, E, by rw [hadd]; exact ⟨oa, oc, vs, hB, hL, hD, hbo, hbs, hnd, hsub⟩, fun b h => .inl h⟩
 ·have kg1 := g1
  replace kg1 := of_decide_eq_false kg1
  have hadd : addS s x = s := addS_same fun h => by simp [h] at g1
  refine WpL_guard_no (oj := _) rfl rfl (by decide) (v := .bool false) (congrArg Value.bool g1) (Or.inl rfl) ?_
  refine WpL_guard_no (oj := _) rfl rfl (by decide) (v := .bool false) (congrArg Value.bool g1) (Or.inl rfl) ?_
  refine WpL_guard_no (oj := _) rfl rfl (by decide) (v := .bool false) (congrArg Value.bool g1) (Or.inl rfl) ?_
  refine WpL_guard_no (oj := _) rfl rfl (by decide) (v := .bool false) (congrArg Value.bool g1) (Or.inl rfl) ?_
  refine qV (r_pick (b := decide ((x.kind : Int) = 2)) (v := (.bool false)) rfl (by rw [g1]; rfl)) ?_
  refine WpL_nil ?_
  refine Wp_cond_false rfl ?_
  refine Wp_skip (thn_normal (Wp_seq_region ?_))
  refine qA (.bool true) rfl ?_
  refine WpL_nil (Wp_ret ?_)
  refine fin_tmp Tryz.results150 (v := (.bool true)) rfl ?_
  exact ⟨D, rfl, E, by rw [hadd]; exact ⟨oa, oc, vs, hB, hL, hD, hbo, hbs, hnd, hsub⟩, fun b h => .inl h⟩
theorem InvA.ext {bo base : Nat} {SR s : List (List Sp)} {D : Nat → Prop} {w w' : World} (h : InvA bo base SR s D w) (e : Ext w w') : InvA bo base SR s D w' := by
 obtain ⟨oa, oc, vs, hB, hL, hD, hbo, hbs, hnd, hsub⟩ := h
 exact ⟨oa, oc, vs, e.keep hB, hL.ext e, hD, hbo, Nat.le_trans hbs e.size, hnd, hsub⟩
theorem walkL_true {S : Type} (f : S → Re → S) : ∀ (l : List Re) (s : S), walkL (fun s t => (true, f s t)) l s = (true, l.foldl f s)
  | [], s => rfl
  | t :: l, s => by simp only [walkL, if_true, List.foldl_cons]; exact walkL_true f l _
set_option maxHeartbeats 1000000 in
theorem all_c (w0 : World) (t : Re) (vs : List Value) (ht : ReAt w0 t vs) (hv : AllS (fun s => checkE s = 0) t) (hs : t.size ≤ 1000) :
  Ret Tryz.prog 104 #[.agg vs.toArray] w0 fun v w => SpssAt w v (setsL t) ∧ Ext w0 w := by
 have ht0 := ht
 obtain ⟨sa, sc, aa, ac, rfl, hset, _, _⟩ := ht.form
 have hSR : (setsL t).length ≤ 1000 ∧ ∀ s ∈ setsL t, checkE s = 0 := ⟨Nat.le_trans (sets_len t) hs, all_sets hv⟩
 have hw : walkF (fun s t => (true, addS s t)) t [] = (true, setsL t) := by rw [walkF_list, walkL_true]; rfl
 have hPt : AllS (fun s => s ∈ setsL t) t := sets_all fun s h => h
 refine Ret_of Tryz.func104 rfl Tryz.ntmps104 (Nat.le_of_ble_eq_true rfl) ?_
 have E : Chg none1 w0 w0 := Chg.refl _ _
 refine Wp_seq_region ?_
 refine s_box (v := (.agg (R6 t sa sc aa ac))) (c := (R6 t sa sc aa ac)) (by decide) rfl rfl ?_
 intro br wr Nr
 have Fr := Nr.ge E
 replace E := E.ext Nr.ext
 have Br := Nr.blk
 refine qA (.slice none 0 0) rfl ?_
 refine WpL_nil (Wp_seq_region ?_)
 refine s_alloc (c := #[(.slice none 0 0)]) (by decide) zer50 rfl ?_
 intro bo wo No
 have Fo := No.ge E
 have Oo_br := No.lt Br
 replace Br := No.keep Br
 replace E := E.ext No.ext
 have Bo := No.blk
 refine WpL_nil (Wp_seq_region ?_)
 refine qV (r_loadAgg (vs := [(I6 t.kind), (.slice sa t.set.length sc), (.slice aa t.args.length ac), (I6 t.mn), (I6 t.mx), (.bool t.neg)]) rfl agg25 siz25 rfl (Br.cells rfl)) ?_
 refine qV (r_makeFunc (vs := []) (us := [(P6 bo 0)]) rfl rfl) ?_
 have hbol := Bo.lt
 have hIo : InvA bo wo.heap.size (setsL t) [] (fun b => b = bo) wo := ⟨none, 0, [], Bo, LSt.start _ _ _ _ _, fun b => ⟨.inl, fun h => h.elim id (fun h => by cases h)⟩, Bo.lt, Nat.le_refl _, List.nodup_nil, fun x hx => by cases hx⟩
 refine WpL_enter rfl rfl (by decide) (r_callF (vs := [(.agg (R6 t sa sc aa ac)), (.func (.func 150) #[] #[(P6 bo 0)])]) Tryz.func121 nm121 bd121 rfl) ((walk_d (fun s t => (true, addS s t)) (InvA bo wo.heap.size (setsL t)) (AllS (fun s => s ∈ setsL t)) _ wr (fun s D w hI b hb => by obtain ⟨oa, oc, vs, hB, hL, hD, h1, h2, _, _⟩ := hI; rcases (hD b).1 hb with h | h; exact ⟨by have := No.eq; omega, by omega⟩; exact ⟨by have := (hL.o.lt b h).1; have := No.size; omega, (hL.o.lt b h).2⟩) (fun s D w w' hI e => hI.ext e) (fun t h x hx => h.a x hx) (fun s D w t vs hE hP hI hx => CallV.mk (first := #[]) (cap := #[.pointer (some ⟨bo, 0, none⟩)]) Tryz.func150 nm150 bd150 rfl (all1_c w bo wo.heap.size _ hSR s D t vs hI hP (ReAt.ext hE t hx))) t.size t (Nat.le_refl _) hPt [] (fun b => b = bo) _ _ No.ext hIo (ReAt.ext Nr.ext t ht0)).mono (R' := fun v w => v = .bool true ∧ (∃ oa oc vs, Blk w bo #[.slice oa (setsL t).length oc] TSss ∧ LSt TSs TSp 2 w wo.heap.size (.slice oa (setsL t).length oc) vs ((setsL t).map sRow)) ∧ Chg (fun b => b = bo) wo w) (fun v w h => by obtain ⟨D', h1, h2, h3, _⟩ := h; rw [hw] at h1 h3; obtain ⟨oa, oc, vs, hB, hL, _⟩ := h3; exact ⟨h1, ⟨oa, oc, vs, hB, hL⟩, h2⟩)) ?_
 rintro _ w9 ⟨rfl, ⟨oa, oc, us, hBo, hL⟩, C9⟩
 replace Br := C9.keep (by omega) Br
 replace E := E.step C9 (by intro x hx hm; omega)
 refine WpL_nil (Wp_seq_region ?_)
 refine qV (r_load (v := (.slice oa ((setsL t).length) oc)) rfl flat50 (hBo.cell rfl)) ?_
 refine qA (.slice oa ((setsL t).length) oc) rfl ?_
 refine WpL_nil (Wp_ret ?_)
 refine fin_tmp Tryz.results104 (v := (.slice oa ((setsL t).length) oc)) rfl ?_
 exact ⟨hL.spss, E⟩
end Go.Proofs
namespace Go.Proofs
open Go Go.Eng Go.Sort
set_option maxRecDepth 100000
theorem cmpsp_c (w0 : World) (x y : Int × Int) : Ret Tryz.prog 177 #[.agg #[.int .i64 x.1, .int .i64 x.2], .agg #[.int .i64 y.1, .int .i64 y.2]] w0 fun v w => v = .int .i64 (cmpSp x y) ∧ Ext w0 w := by
 refine Ret_of Tryz.func177 rfl Tryz.ntmps177 (Nat.le_of_ble_eq_true rfl) ?_
 have E : Chg none1 w0 w0 := Chg.refl _ _
 refine Wp_seq_region ?_
 refine s_box (v := (.agg #[(I6 x.1), (I6 x.2)])) (c := #[(I6 x.1), (I6 x.2)]) (by decide) rfl rfl ?_
 intro b1 w1 N1
 have F1 := N1.ge E
 replace E := E.ext N1.ext
 have B1 := N1.blk
 refine s_box (v := (.agg #[(I6 y.1), (I6 y.2)])) (c := #[(I6 y.1), (I6 y.2)]) (by decide) rfl rfl ?_
 intro b2 w2 N2
 have F2 := N2.ge E
 have O2_b1 := N2.lt B1
 replace B1 := N2.keep B1
 replace E := E.ext N2.ext
 have B2 := N2.blk
 refine qA (I6 0) rfl ?_
 refine WpL_nil (Wp_seq ?_)
 obtain ⟨Fs3, hFs3⟩ : ∃ Fs : List Fact, Fs = [.eq (P6 b1 0), .eq (I6 x.1), .eq (P6 b2 0), .eq (I6 y.1), .eq (I6 (cmpI x.1 y.1)), .eq (P6 b1 1), .eq (I6 x.2), .eq (P6 b2 1), .eq (I6 y.2), .eq (I6 (cmpI x.2 y.2)), .gen (ints2F (cmpI x.1 y.1) (cmpI x.2 y.2)) (ints2F_ext _ _), .eq (I6 (cmpSp x y)), .eq (I6 (cmpSp x y))] := ⟨_, rfl⟩
 refine Wp_dag [5, 6, 7, 8, 9, 10, 11, 12, 13, 14, 15, 16, 4] [[], [0], [], [2], [1, 3], [], [5], [], [7], [4, 6, 8], [4, 9], [9, 10], [0, 1, 2, 3, 4, 5, 6, 7, 8, 9, 10, 11]] Fs3 hFs3 mixed (by kernel_rfl) (by kernel_rfl) ?_ ?_
 ·intro wd X0
  refine DagSteps.cons (fun s' w' X U H => Or.inl ⟨?_, ?_⟩) ?_
  ·exact Guarded_none rfl
  ·exact Does_val (r_fieldAddr (b := b1) (o := 0) (o' := 0) (U 2 rfl) Tryz.underlying103 rfl siz3 rfl) (Ext.refl _) rfl
  refine DagSteps.cons (fun s' w' X U H => Or.inl ⟨?_, ?_⟩) ?_
  ·exact Guarded_none rfl
  ·have e5 : s' 5 = (.pointer (some ⟨b1, 0, none⟩)) := H 0 rfl 5 (.eq (.pointer (some ⟨b1, 0, none⟩))) rfl (by rw [hFs3]; rfl)
   exact Does_val (r_load (v := (I6 x.1)) e5 flat3 (((X0.trans X).keep B1).cell rfl)) (Ext.refl _) rfl
  refine DagSteps.cons (fun s' w' X U H => Or.inl ⟨?_, ?_⟩) ?_
  ·exact Guarded_none rfl
  ·exact Does_val (r_fieldAddr (b := b2) (o := 0) (o' := 0) (U 3 rfl) Tryz.underlying103 rfl siz3 rfl) (Ext.refl _) rfl
  refine DagSteps.cons (fun s' w' X U H => Or.inl ⟨?_, ?_⟩) ?_
  ·exact Guarded_none rfl
  ·have e7 : s' 7 = (.pointer (some ⟨b2, 0, none⟩)) := H 2 rfl 7 (.eq (.pointer (some ⟨b2, 0, none⟩))) rfl (by rw [hFs3]; rfl)
   exact Does_val (r_load (v := (I6 y.1)) e7 flat3 (((X0.trans X).keep B2).cell rfl)) (Ext.refl _) rfl
  refine DagSteps.cons (fun s' w' X U H => Or.inl ⟨?_, ?_⟩) ?_
  ·exact Guarded_none rfl
  ·have e6 : s' 6 = (.int .i64 x.1) := H 1 rfl 6 (.eq (.int .i64 x.1)) rfl (by rw [hFs3]; rfl)
   have e8 : s' 8 = (.int .i64 y.1) := H 3 rfl 8 (.eq (.int .i64 y.1)) rfl (by rw [hFs3]; rfl)
   exact Does_enter (r_callF (vs := [(I6 x.1), (I6 y.1)]) Tryz.func158 nm158 bd158 (lst2 e6 e8)) (compare_c _ _ _)
  refine DagSteps.cons (fun s' w' X U H => Or.inl ⟨?_, ?_⟩) ?_
  ·exact Guarded_none rfl
  ·exact Does_val (r_fieldAddr (b := b1) (o := 0) (o' := 1) (U 2 rfl) Tryz.underlying103 rfl siz3 rfl) (Ext.refl _) rfl
  refine DagSteps.cons (fun s' w' X U H => Or.inl ⟨?_, ?_⟩) ?_
  ·exact Guarded_none rfl
  ·have e10 : s' 10 = (.pointer (some ⟨b1, 1, none⟩)) := H 5 rfl 10 (.eq (.pointer (some ⟨b1, 1, none⟩))) rfl (by rw [hFs3]; rfl)
   exact Does_val (r_load (v := (I6 x.2)) e10 flat3 (((X0.trans X).keep B1).cell rfl)) (Ext.refl _) rfl
  refine DagSteps.cons (fun s' w' X U H => Or.inl ⟨?_, ?_⟩) ?_
  ·exact Guarded_none rfl
  ·exact Does_val (r_fieldAddr (b := b2) (o := 0) (o' := 1) (U 3 rfl) Tryz.underlying103 rfl siz3 rfl) (Ext.refl _) rfl
  refine DagSteps.cons (fun s' w' X U H => Or.inl ⟨?_, ?_⟩) ?_
  ·exact Guarded_none rfl
  ·have e12 : s' 12 = (.pointer (some ⟨b2, 1, none⟩)) := H 7 rfl 12 (.eq (.pointer (some ⟨b2, 1, none⟩))) rfl (by rw [hFs3]; rfl)
   exact Does_val (r_load (v := (I6 y.2)) e12 flat3 (((X0.trans X).keep B2).cell rfl)) (Ext.refl _) rfl
  refine DagSteps.cons (fun s' w' X U H => Or.inl ⟨?_, ?_⟩) ?_
  ·exact Guarded_none rfl
  ·have e11 : s' 11 = (.int .i64 x.2) := H 6 rfl 11 (.eq (.int .i64 x.2)) rfl (by rw [hFs3]; rfl)
   have e13 : s' 13 = (.int .i64 y.2) := H 8 rfl 13 (.eq (.int .i64 y.2)) rfl (by rw [hFs3]; rfl)
   exact Does_enter (r_callF (vs := [(I6 x.2), (I6 y.2)]) Tryz.func158 nm158 bd158 (lst2 e11 e13)) (compare_c _ _ _)
  refine DagSteps.cons (fun s' w' X U H => Or.inl ⟨?_, ?_⟩) ?_
  ·exact Guarded_none rfl
  ·have e9 : s' 9 = (.int .i64 (cmpI x.1 y.1)) := H 4 rfl 9 (.eq (.int .i64 (cmpI x.1 y.1))) rfl (by rw [hFs3]; rfl)
   have e14 : s' 14 = (.int .i64 (cmpI x.2 y.2)) := H 9 rfl 14 (.eq (.int .i64 (cmpI x.2 y.2))) rfl (by rw [hFs3]; rfl)
   exact Does_ints2 e9 e14
  refine DagSteps.cons (fun s' w' X U H => Or.inl ⟨?_, ?_⟩) ?_
  ·exact Guarded_none rfl
  ·obtain ⟨b15, e15, i15⟩ := H 10 rfl 15 (.gen (ints2F (cmpI x.1 y.1) (cmpI x.2 y.2)) (ints2F_ext _ _)) rfl (by rw [hFs3]; rfl)
   exact Does_enter (r_callF (vs := [(.slice (some ⟨b15, 0, none⟩) 2 2)]) Tryz.func206 nm206 bd206 (lst1 e15)) (sor_c _ _ _ (e15 ▸ i15))
  refine DagSteps.cons (fun s' w' X U H => Or.inl ⟨?_, ?_⟩) ?_
  ·exact Guarded_none rfl
  ·have e16 : s' 16 = (.int .i64 (cmpSp x y)) := H 11 rfl 16 (.eq (.int .i64 (cmpSp x y))) rfl (by rw [hFs3]; rfl)
   exact Does_val (r_assign (v := (I6 (cmpSp x y))) e16) (Ext.refl _) rfl
  exact DagSteps.nil
 ·intro s' w3 X3 U H
  obtain ⟨j3, rfl⟩ := Fits.out (σ := s') (l := [(4, (.int .i64 (cmpSp x y)))]) ⟨(show s' 4 = (.int .i64 (cmpSp x y)) from H 12 4 (.eq (.int .i64 (cmpSp x y))) rfl (by rw [hFs3]; rfl)), trivial⟩
  clear U H
  replace B1 := X3.keep B1
  replace B2 := X3.keep B2
  replace E := E.ext X3
  refine thn_normal (Wp_ret ?_)
  refine fin_tmp Tryz.results177 (v := (.int .i64 (cmpSp x y))) rfl ?_
  exact ⟨rfl, E⟩
set_option maxHeartbeats 1000000 in
theorem cmpfs_c (w0 : World) (v1 v2 fv : Value) (l1 l2 : List (Int × Int)) (f : Int × Int → Int × Int → Int) (h1 : SpansAt w0 v1 l1) (h2 : SpansAt w0 v2 l2)
  (hf : ∀ (w : World) (x y : Int × Int), Ext w0 w → CallV Tryz.prog fv #[.agg #[.int .i64 x.1, .int .i64 x.2], .agg #[.int .i64 y.1, .int .i64 y.2]] w fun r w' => r = .int .i64 (f x y) ∧ Ext w w') :
  Ret Tryz.prog 255 #[v1, v2, fv] w0 fun v w => v = .int .i64 (cmpL f l1 l2) ∧ Ext w0 w := by
 obtain ⟨a1, c1, rfl⟩ := SlAt.form h1
 obtain ⟨a2, c2, rfl⟩ := SlAt.form h2
 have hle1 := SlAt.le h1
 have hle2 := SlAt.le h2
 simp only [List.length_map] at h1 h2 hle1 hle2 ⊢
 refine Ret_of Tryz.func255 rfl Tryz.ntmps255 (Nat.le_of_ble_eq_true rfl) ?_
 have E : Chg none1 w0 w0 := Chg.refl _ _
 refine Wp_seq_region ?_
 refine qA (I6 0) rfl ?_
 refine WpL_nil (Wp_seq (Wp_seq_region ?_))
 refine qM (.slice a1 l1.length c1) rfl ?_
 refine qV (r_lenSlice (ad := a1) (n := l1.length) (cap := c1) Tryz.underlying22 rfl) ?_
 refine qM (I6 0) rfl ?_
 refine WpL_nil (Wp_block ?_)
 refine Wp_loop (fun nn_ σ W1 => ∃ (k : Nat), (∃ jj_, σ = upds jj_ [(0, (.slice a1 l1.length c1)), (1, (.slice a2 l2.length c2)), (2, fv), (11, (.slice a1 l1.length c1)), (12, (I6 (l1.length : Int))), (13, (I6 (k : Int)))]) ∧ Chg none1 w0 W1 ∧ (k ≤ l1.length) ∧ (k ≤ l2.length) ∧ (cmpL f l1 l2 = cmpL f (l1.drop k) (l2.drop k)) ∧ nn_ = l1.length - k) (n := l1.length - 0) ?_ ?_
 ·exact ⟨0, Fits.out ⟨rfl, rfl, rfl, rfl, rfl, rfl, trivial⟩, E, Nat.zero_le _, Nat.zero_le _, rfl, rfl⟩
 ·clear E
  rintro _ _ W1 ⟨k, ⟨j1, rfl⟩, E, hk, hk2, heq, rfl⟩
  refine Wp_seq_region ?_
  refine qV (r_lss (k := .i64) (a := (k : Int)) (b := (l1.length : Int)) rfl rfl) ?_
  refine WpL_nil (Wp_seq ?_)
  refine Wp_cond (b := decide (((k : Int) : Int) < (l1.length : Int))) rfl (fun hlt => ?_) (fun hlt => ?_)
  ·have khlt := hlt
   replace hlt := of_decide_eq_true hlt
   obtain ⟨p, hp⟩ := get_of_lt (l := l1) (i := k) (by omega)
   obtain ⟨b1, o1, rfl, hc1⟩ := spans_cells h1 (by omega)
   rw [drop_cons hp] at heq
   refine Wp_skip (thn_normal (Wp_seq (Wp_block (Wp_seq_region ?_))))
   refine qM (I6 (k : Int)) rfl ?_
   refine qV (r_indexSlice (b := b1) (o := o1) (len := l1.length) (cap := c1) (i := k) (o' := o1 + k * 2) rfl rfl rfl Tryz.underlying22 siz103 (by omega) (by omega)) ?_
   refine qV (r_loadAgg (vs := [(I6 p.1), (I6 p.2)]) rfl agg103 siz103 rfl ((hc1 k p hp).ext E)) ?_
   refine s_alloc (c := #[(I6 0), (I6 0)]) (by decide) zer103 rfl ?_
   intro bp wp Np
   have Fp := Np.ge E
   replace E := E.ext Np.ext
   have Bp := Np.blk
   refine qA (I6 (k : Int)) rfl ?_
   refine s_storeAgg (b := bp) (o := 0) (c' := #[(I6 p.1), (I6 p.2)]) rfl rfl (by simp [Value.oneCell']) siz103 rfl Bp (by first | (simp; done) | exact Nat.le_of_ble_eq_true rfl) rfl ?_
   intro w3 S3
   replace E := S3.step E (by first | exact Or.inl (by omega) | exact Or.inr rfl | exact Or.inr (by assumption) | exact Or.inr (by simp) | exact Or.inr (by omega) | exact Or.inr (by dsimp only; omega))
   replace Bp := S3.blk
   refine WpL_nil (Wp_seq (Wp_seq_region ?_))
   refine qM (I6 (k : Int)) rfl ?_
   refine qM (.slice a2 l2.length c2) rfl ?_
   refine qV (r_lenSlice (ad := a2) (n := l2.length) (cap := c2) Tryz.underlying22 rfl) ?_
   refine qV (r_geq (k := .i64) (a := (k : Int)) (b := (l2.length : Int)) rfl rfl) ?_
   refine WpL_nil ?_
   refine Wp_cond (b := decide (((l2.length : Int) : Int) ≤ (k : Int))) rfl (fun hge => ?_) (fun hge => ?_)
   ·have khge := hge
    replace hge := of_decide_eq_true hge
    refine Wp_seq_region ?_
    refine qA (I6 1) rfl ?_
    refine WpL_nil (Wp_ret (thn_ret (inB_ret (thn_ret (thn_ret (inB_ret (thn_ret ?_)))))))
    refine fin_tmp Tryz.results255 (v := (.int .i64 1)) rfl ?_
    exact ⟨int_eq (by rw [heq, List.drop_eq_nil_of_le (show l2.length ≤ k by omega)]; rfl), E⟩
   ·have khge := hge
    replace hge := of_decide_eq_false hge
    obtain ⟨q, hq⟩ := get_of_lt (l := l2) (i := k) (by omega)
    obtain ⟨b2, o2, rfl, hc2⟩ := spans_cells h2 (by omega)
    rw [drop_cons hq] at heq
    refine Wp_skip (thn_normal (Wp_seq_region ?_))
    refine qM (.slice (some ⟨b2, o2, none⟩) l2.length c2) rfl ?_
    refine qM (I6 (k : Int)) rfl ?_
    refine qV (r_indexSlice (b := b2) (o := o2) (len := l2.length) (cap := c2) (i := k) (o' := o2 + k * 2) rfl rfl rfl Tryz.underlying22 siz103 (by omega) (by omega)) ?_
    refine qV (r_loadAgg (vs := [(I6 q.1), (I6 q.2)]) rfl agg103 siz103 rfl ((hc2 k q hq).ext E)) ?_
    refine s_allocStore (v := (.agg #[(I6 q.1), (I6 q.2)])) (c := #[(I6 q.1), (I6 q.2)]) (n := 2) (by decide) zer103 rfl siz103 rfl rfl rfl (by simp [Value.oneCell']) ?_
    intro bq wq Nq
    have Fq := Nq.ge E
    have Oq_bp := Nq.lt Bp
    replace Bp := Nq.keep Bp
    replace E := E.ext Nq.ext
    have Bq := Nq.blk
    refine WpL_nil (Wp_seq_region ?_)
    refine qM fv rfl ?_
    refine qV (r_loadAgg (vs := [(I6 p.1), (I6 p.2)]) rfl agg103 siz103 rfl (Bp.cells rfl)) ?_
    refine qV (r_loadAgg (vs := [(I6 q.1), (I6 q.2)]) rfl agg103 siz103 rfl (Bq.cells rfl)) ?_
    refine WpL_callV (fv := fv) (vs := [(.agg #[(I6 p.1), (I6 p.2)]), (.agg #[(I6 q.1), (I6 q.2)])]) (by decide) rfl rfl (hf _ p q E) ?_
    rintro _ w9 ⟨rfl, X9⟩
    replace Bp := X9.keep Bp
    replace Bq := X9.keep Bq
    replace E := E.ext X9
    refine qA (I6 (f p q)) rfl ?_
    refine WpL_nil (Wp_seq_region ?_)
    refine qM (I6 (f p q)) rfl ?_
    refine qV (r_neq (k := .i64) (a := f p q) (b := 0) rfl rfl) ?_
    refine WpL_nil ?_
    refine Wp_cond (b := decide ((f p q : Int) ≠ 0)) rfl (fun hne => ?_) (fun hne => ?_)
    ·have khne := hne
     replace hne := of_decide_eq_true hne
     refine Wp_seq_region ?_
     refine qM (I6 (f p q)) rfl ?_
     refine qA (I6 (f p q)) rfl ?_
     refine WpL_nil (Wp_ret (inB_ret (thn_ret (thn_ret (inB_ret (thn_ret ?_))))))
     refine fin_tmp Tryz.results255 (v := (.int .i64 (f p q))) rfl ?_
     exact ⟨int_eq (by rw [heq, cmpL, lexI, if_pos hne]), E⟩
    ·have khne := hne
     replace hne := of_decide_eq_false hne
     refine Wp_skip (inB_normal (thn_normal (Wp_region ?_)))
     refine qV (r_add (k := .i64) (a := (k : Int)) (b := 1) (c := (k : Int) + 1) rfl rfl (wI64 (by omega))) ?_
     refine qM (I6 ((k : Int) + 1)) rfl ?_
     refine WpL_nil (thn_normal ?_)
     exact ⟨l1.length - (k + 1), by omega, k + 1, Fits.out ⟨rfl, rfl, rfl, rfl, rfl, rfl, trivial⟩, E, (by omega), (by omega), (by rw [heq, cmpL, lexI, if_neg hne]), rfl⟩
  ·have khlt := hlt
   replace hlt := of_decide_eq_false hlt
   have hkk : k = l1.length := by omega
   rw [hkk, List.drop_length] at heq
   refine Wp_exit (thn_exit (thn_exit (inB_here (thn_normal (Wp_seq (Wp_seq_region ?_))))))
   refine qM (.slice a1 l1.length c1) rfl ?_
   refine qV (r_lenSlice (ad := a1) (n := l1.length) (cap := c1) Tryz.underlying22 rfl) ?_
   refine qM (.slice a2 l2.length c2) rfl ?_
   refine qV (r_lenSlice (ad := a2) (n := l2.length) (cap := c2) Tryz.underlying22 rfl) ?_
   refine qV (r_lss (k := .i64) (a := (l1.length : Int)) (b := (l2.length : Int)) rfl rfl) ?_
   refine WpL_nil ?_
   refine Wp_cond (b := decide (((l1.length : Int) : Int) < (l2.length : Int))) rfl (fun hl => ?_) (fun hl => ?_)
   ·have khl := hl
    replace hl := of_decide_eq_true hl
    obtain ⟨q, hq⟩ := get_of_lt (l := l2) (i := l1.length) (by omega)
    refine Wp_seq_region ?_
    refine qA (I6 (-1)) rfl ?_
    refine WpL_nil (Wp_ret (thn_ret ?_))
    refine fin_tmp Tryz.results255 (v := (.int .i64 (-1))) rfl ?_
    exact ⟨int_eq (by rw [heq, drop_cons hq]; rfl), E⟩
   ·have khl := hl
    replace hl := of_decide_eq_false hl
    refine Wp_skip (thn_normal (Wp_seq_region ?_))
    refine qA (I6 0) rfl ?_
    refine WpL_nil (Wp_ret ?_)
    refine fin_tmp Tryz.results255 (v := (.int .i64 0)) rfl ?_
    exact ⟨int_eq (by rw [heq, List.drop_eq_nil_of_le (by omega)]; rfl), E⟩
theorem spord_c (w0 : World) (v1 v2 : Value) (l1 l2 : List (Int × Int)) (h1 : SpansAt w0 v1 l1) (h2 : SpansAt w0 v2 l2) :
  Ret Tryz.prog 222 #[v1, v2] w0 fun v w => v = .int .i64 (cmpL cmpSp l1 l2) ∧ Ext w0 w := by
 refine Ret_of Tryz.func222 rfl Tryz.ntmps222 (Nat.le_of_ble_eq_true rfl) ?_
 have E : Chg none1 w0 w0 := Chg.refl _ _
 refine Wp_seq_region ?_
 refine qA (I6 0) rfl ?_
 refine WpL_nil (Wp_seq_region ?_)
 refine qM v1 rfl ?_
 refine qM v2 rfl ?_
 refine WpL_enter rfl rfl (by decide) (r_callF (vs := [v1, v2, (.func (.func 177) #[] #[])]) Tryz.func255 nm255 bd255 rfl) (cmpfs_c _ v1 v2 _ l1 l2 cmpSp h1 h2 (fun w x y _ => CallV.mk (first := #[]) (cap := #[]) Tryz.func177 nm177 bd177 rfl (cmpsp_c w x y))) ?_
 rintro _ w9 ⟨rfl, X9⟩
 replace E := E.ext X9
 refine qA (I6 (cmpL cmpSp l1 l2)) rfl ?_
 refine WpL_nil (Wp_ret ?_)
 refine fin_tmp Tryz.results222 (v := (.int .i64 (cmpL cmpSp l1 l2))) rfl ?_
 exact ⟨rfl, E⟩
theorem ordRs_eq : ∀ a b : List Re, ordRs a b = cmpL ordR a b
  | [], [] => rfl
  | [], _ :: _ => rfl
  | _ :: _, [] => rfl
  | t :: ts, u :: us => by simp only [ordRs, cmpL, ordRs_eq ts us]
set_option maxHeartbeats 1000000 in
theorem cmpfr_c (w0 : World) (v1 v2 fv : Value) (l1 l2 : List Re) (h1 : RsAt w0 v1 l1) (h2 : RsAt w0 v2 l2)
  (hf : ∀ (w : World) (x u : Re) (vs us : List Value), Ext w0 w → x ∈ l1 → ReAt w x vs → ReAt w u us → CallV Tryz.prog fv #[.agg vs.toArray, .agg us.toArray] w fun r w' => r = .int .i64 (ordR x u) ∧ Ext w w') :
  Ret Tryz.prog 223 #[v1, v2, fv] w0 fun v w => v = .int .i64 (ordRs l1 l2) ∧ Ext w0 w := by
 have g1 := h1
 have g2 := h2
 obtain ⟨a1, c1, rfl, hb1, _⟩ := h1
 obtain ⟨a2, c2, rfl, hb2, _⟩ := h2
 rw [ordRs_eq]
 refine Ret_of Tryz.func223 rfl Tryz.ntmps223 (Nat.le_of_ble_eq_true rfl) ?_
 have E : Chg none1 w0 w0 := Chg.refl _ _
 refine Wp_seq_region ?_
 refine qA (I6 0) rfl ?_
 refine WpL_nil (Wp_seq (Wp_seq_region ?_))
 refine qM (.slice a1 l1.length c1) rfl ?_
 refine qV (r_lenSlice (ad := a1) (n := l1.length) (cap := c1) Tryz.underlying23 rfl) ?_
 refine qM (I6 0) rfl ?_
 refine WpL_nil (Wp_block ?_)
 refine Wp_loop (fun nn_ σ W1 => ∃ (k : Nat), (∃ jj_, σ = upds jj_ [(0, (.slice a1 l1.length c1)), (1, (.slice a2 l2.length c2)), (2, fv), (11, (.slice a1 l1.length c1)), (12, (I6 (l1.length : Int))), (13, (I6 (k : Int)))]) ∧ Chg none1 w0 W1 ∧ (k ≤ l1.length) ∧ (k ≤ l2.length) ∧ (cmpL ordR l1 l2 = cmpL ordR (l1.drop k) (l2.drop k)) ∧ nn_ = l1.length - k) (n := l1.length - 0) ?_ ?_
 ·exact ⟨0, Fits.out ⟨rfl, rfl, rfl, rfl, rfl, rfl, trivial⟩, E, Nat.zero_le _, Nat.zero_le _, rfl, rfl⟩
 ·clear E
  rintro _ _ W1 ⟨k, ⟨j1, rfl⟩, E, hk, hk2, heq, rfl⟩
  refine Wp_seq_region ?_
  refine qV (r_lss (k := .i64) (a := (k : Int)) (b := (l1.length : Int)) rfl rfl) ?_
  refine WpL_nil (Wp_seq ?_)
  refine Wp_cond (b := decide (((k : Int) : Int) < (l1.length : Int))) rfl (fun hlt => ?_) (fun hlt => ?_)
  ·have khlt := hlt
   replace hlt := of_decide_eq_true hlt
   obtain ⟨p, hp⟩ := get_of_lt (l := l1) (i := k) (by omega)
   obtain ⟨b1, o1, rfl, hc1⟩ := g1.cells (by omega)
   obtain ⟨vs, hcv, hpv⟩ := hc1 k p hp
   have hpv0 := hpv
   obtain ⟨sa, sc, aa, ac, rfl, _, _, _⟩ := hpv.form
   rw [drop_cons hp] at heq
   refine Wp_skip (thn_normal (Wp_seq (Wp_block (Wp_seq_region ?_))))
   refine qM (I6 (k : Int)) rfl ?_
   refine qV (r_indexSlice (b := b1) (o := o1) (len := l1.length) (cap := c1) (i := k) (o' := o1 + k * 6) rfl rfl rfl Tryz.underlying23 siz25 (by omega) (by omega)) ?_
   refine qV (r_loadAgg (vs := [(I6 p.kind), (.slice sa p.set.length sc), (.slice aa p.args.length ac), (I6 p.mn), (I6 p.mx), (.bool p.neg)]) rfl agg25 siz25 rfl (hcv.ext E)) ?_
   refine s_alloc (c := #[(I6 0), (.slice none 0 0), (.slice none 0 0), (I6 0), (I6 0), (.bool false)]) (by decide) zer25 rfl ?_
   intro bp wp Np
   have Fp := Np.ge E
   replace E := E.ext Np.ext
   have Bp := Np.blk
   refine qA (I6 (k : Int)) rfl ?_
   refine s_storeAgg (b := bp) (o := 0) (c' := (R6 p sa sc aa ac)) rfl rfl (by simp [Value.oneCell']) siz25 rfl Bp (by first | (simp; done) | exact Nat.le_of_ble_eq_true rfl) rfl ?_
   intro w3 S3
   replace E := S3.step E (by first | exact Or.inl (by omega) | exact Or.inr rfl | exact Or.inr (by assumption) | exact Or.inr (by simp) | exact Or.inr (by omega) | exact Or.inr (by dsimp only; omega))
   replace Bp := S3.blk
   refine WpL_nil (Wp_seq (Wp_seq_region ?_))
   refine qM (I6 (k : Int)) rfl ?_
   refine qM (.slice a2 l2.length c2) rfl ?_
   refine qV (r_lenSlice (ad := a2) (n := l2.length) (cap := c2) Tryz.underlying23 rfl) ?_
   refine qV (r_geq (k := .i64) (a := (k : Int)) (b := (l2.length : Int)) rfl rfl) ?_
   refine WpL_nil ?_
   refine Wp_cond (b := decide (((l2.length : Int) : Int) ≤ (k : Int))) rfl (fun hge => ?_) (fun hge => ?_)
   ·have khge := hge
    replace hge := of_decide_eq_true hge
    refine Wp_seq_region ?_
    refine qA (I6 1) rfl ?_
    refine WpL_nil (Wp_ret (thn_ret (inB_ret (thn_ret (thn_ret (inB_ret (thn_ret ?_)))))))
    refine fin_tmp Tryz.results223 (v := (.int .i64 1)) rfl ?_
    exact ⟨int_eq (by rw [heq, List.drop_eq_nil_of_le (show l2.length ≤ k by omega)]; rfl), E⟩
   ·have khge := hge
    replace hge := of_decide_eq_false hge
    obtain ⟨q, hq⟩ := get_of_lt (l := l2) (i := k) (by omega)
    obtain ⟨b2, o2, rfl, hc2⟩ := g2.cells (by omega)
    obtain ⟨us, hcu, hqu⟩ := hc2 k q hq
    have hqu0 := hqu
    obtain ⟨sa2, sc2, aa2, ac2, rfl, _, _, _⟩ := hqu.form
    rw [drop_cons hq] at heq
    refine Wp_skip (thn_normal (Wp_seq_region ?_))
    refine qM (.slice (some ⟨b2, o2, none⟩) l2.length c2) rfl ?_
    refine qM (I6 (k : Int)) rfl ?_
    refine qV (r_indexSlice (b := b2) (o := o2) (len := l2.length) (cap := c2) (i := k) (o' := o2 + k * 6) rfl rfl rfl Tryz.underlying23 siz25 (by omega) (by omega)) ?_
    refine qV (r_loadAgg (vs := [(I6 q.kind), (.slice sa2 q.set.length sc2), (.slice aa2 q.args.length ac2), (I6 q.mn), (I6 q.mx), (.bool q.neg)]) rfl agg25 siz25 rfl (hcu.ext E)) ?_
    refine s_allocStore (v := (.agg (R6 q sa2 sc2 aa2 ac2))) (c := (R6 q sa2 sc2 aa2 ac2)) (n := 6) (by decide) zer25 rfl siz25 rfl rfl rfl (by simp [Value.oneCell']) ?_
    intro bq wq Nq
    have Fq := Nq.ge E
    have Oq_bp := Nq.lt Bp
    replace Bp := Nq.keep Bp
    replace E := E.ext Nq.ext
    have Bq := Nq.blk
    refine WpL_nil (Wp_seq_region ?_)
    refine qM fv rfl ?_
    refine qV (r_loadAgg (vs := [(I6 p.kind), (.slice sa p.set.length sc), (.slice aa p.args.length ac), (I6 p.mn), (I6 p.mx), (.bool p.neg)]) rfl agg25 siz25 rfl (Bp.cells rfl)) ?_
    refine qV (r_loadAgg (vs := [(I6 q.kind), (.slice sa2 q.set.length sc2), (.slice aa2 q.args.length ac2), (I6 q.mn), (I6 q.mx), (.bool q.neg)]) rfl agg25 siz25 rfl (Bq.cells rfl)) ?_
    refine WpL_callV (fv := fv) (vs := [(.agg (R6 p sa sc aa ac)), (.agg (R6 q sa2 sc2 aa2 ac2))]) (by decide) rfl rfl (hf _ p q _ _ E (List.mem_of_getElem? hp) (ReAt.ext E p hpv0) (ReAt.ext E q hqu0)) ?_
    rintro _ w9 ⟨rfl, X9⟩
    replace Bp := X9.keep Bp
    replace Bq := X9.keep Bq
    replace E := E.ext X9
    refine qA (I6 (ordR p q)) rfl ?_
    refine WpL_nil (Wp_seq_region ?_)
    refine qM (I6 (ordR p q)) rfl ?_
    refine qV (r_neq (k := .i64) (a := ordR p q) (b := 0) rfl rfl) ?_
    refine WpL_nil ?_
    refine Wp_cond (b := decide ((ordR p q : Int) ≠ 0)) rfl (fun hne => ?_) (fun hne => ?_)
    ·have khne := hne
     replace hne := of_decide_eq_true hne
     refine Wp_seq_region ?_
     refine qM (I6 (ordR p q)) rfl ?_
     refine qA (I6 (ordR p q)) rfl ?_
     refine WpL_nil (Wp_ret (inB_ret (thn_ret (thn_ret (inB_ret (thn_ret ?_))))))
     refine fin_tmp Tryz.results223 (v := (.int .i64 (ordR p q))) rfl ?_
     exact ⟨int_eq (by rw [heq, cmpL, lexI, if_pos hne]), E⟩
    ·have khne := hne
     replace hne := of_decide_eq_false hne
     refine Wp_skip (inB_normal (thn_normal (Wp_region ?_)))
     refine qV (r_add (k := .i64) (a := (k : Int)) (b := 1) (c := (k : Int) + 1) rfl rfl (wI64 (by omega))) ?_
     refine qM (I6 ((k : Int) + 1)) rfl ?_
     refine WpL_nil (thn_normal ?_)
     exact ⟨l1.length - (k + 1), by omega, k + 1, Fits.out ⟨rfl, rfl, rfl, rfl, rfl, rfl, trivial⟩, E, (by omega), (by omega), (by rw [heq, cmpL, lexI, if_neg hne]), rfl⟩
  ·have khlt := hlt
   replace hlt := of_decide_eq_false hlt
   have hkk : k = l1.length := by omega
   rw [hkk, List.drop_length] at heq
   refine Wp_exit (thn_exit (thn_exit (inB_here (thn_normal (Wp_seq (Wp_seq_region ?_))))))
   refine qM (.slice a1 l1.length c1) rfl ?_
   refine qV (r_lenSlice (ad := a1) (n := l1.length) (cap := c1) Tryz.underlying23 rfl) ?_
   refine qM (.slice a2 l2.length c2) rfl ?_
   refine qV (r_lenSlice (ad := a2) (n := l2.length) (cap := c2) Tryz.underlying23 rfl) ?_
   refine qV (r_lss (k := .i64) (a := (l1.length : Int)) (b := (l2.length : Int)) rfl rfl) ?_
   refine WpL_nil ?_
   refine Wp_cond (b := decide (((l1.length : Int) : Int) < (l2.length : Int))) rfl (fun hl => ?_) (fun hl => ?_)
   ·have khl := hl
    replace hl := of_decide_eq_true hl
    obtain ⟨q, hq⟩ := get_of_lt (l := l2) (i := l1.length) (by omega)
    refine Wp_seq_region ?_
    refine qA (I6 (-1)) rfl ?_
    refine WpL_nil (Wp_ret (thn_ret ?_))
    refine fin_tmp Tryz.results223 (v := (.int .i64 (-1))) rfl ?_
    exact ⟨int_eq (by rw [heq, drop_cons hq]; rfl), E⟩
   ·have khl := hl
    replace hl := of_decide_eq_false hl
    refine Wp_skip (thn_normal (Wp_seq_region ?_))
    refine qA (I6 0) rfl ?_
    refine WpL_nil (Wp_ret ?_)
    refine fin_tmp Tryz.results223 (v := (.int .i64 0)) rfl ?_
    exact ⟨int_eq (by rw [heq, List.drop_eq_nil_of_le (by omega)]; rfl), E⟩
def ints5F (a b c d e : Int) : Fct := fun v w => ∃ bb, v = .slice (some ⟨bb, 0, none⟩) 5 5 ∧ IntsAt w v [a, b, c, d, e]
theorem ints5F_ext (a b c d e : Int) : Stable (ints5F a b c d e) := by
 rintro v w w' x ⟨bb, h1, h2⟩
 exact ⟨bb, h1, h2.ext x⟩
theorem Does_ints5 {N : Nat} {σ : Env} {w : World} {dst : Option Tmp} {ty : TypeId} {pos : String} {af : Array Edge} {g : Option (Nat × Bool)} {x1 x2 x3 x4 x5 : Operand} {a b c d e : Int} (h1 : ev σ x1 = .int .i64 a) (h2 : ev σ x2 = .int .i64 b) (h3 : ev σ x3 = .int .i64 c) (h4 : ev σ x4 = .int .i64 d) (h5 : ev σ x5 = .int .i64 e) :
  Does Tryz.prog N ⟨dst, .buildSlice 26 5 #[(0, x1), (1, x2), (2, x3), (3, x4), (4, x5)], ty, pos, af, g⟩ (ints5F a b c d e) σ w := by
 have hn := New.mk' w #[.int .i64 a, .int .i64 b, .int .i64 c, .int .i64 d, .int .i64 e] 3
 refine Does_val (run_buildSlice (parts := [(0, x1), (1, x2), (2, x3), (3, x4), (4, x5)]) (ps := [(0, .int .i64 a), (1, .int .i64 b), (2, .int .i64 c), (3, .int .i64 d), (4, .int .i64 e)]) (by simp only [List.map, h1, h2, h3, h4, h5]) Tryz.underlying26 siz3 zer3 (by decide) (by decide) (by kernel_rfl)) hn.ext ?_
 exact ⟨_, rfl, ints_of_blk [a, b, c, d, e] hn.blk (by simp) (by simp)⟩
theorem ordR_eq (t u : Re) : ordR t u = orL [cmpI t.kind u.kind, cmpL cmpSp t.set u.set, cmpI t.mn u.mn, cmpI t.mx u.mx, ordRs t.args u.args] := by cases t; cases u; rfl
set_option maxHeartbeats 2000000 in
theorem order_c : ∀ (n : Nat) (t u : Re) (w0 : World) (vs us : List Value), t.size ≤ n → ReAt w0 t vs → ReAt w0 u us →
    Ret Tryz.prog 184 #[.agg vs.toArray, .agg us.toArray] w0 fun v w => v = .int .i64 (ordR t u) ∧ Ext w0 w := by
  intro n
  induction n with
  | zero => intro t u w0 vs us h; have := t.size_pos; omega
  | succ n ih =>
  intro t u w0 vs us hn ht hu
  have ht0 := ht
  have hu0 := hu
  obtain ⟨sa, sc, aa, ac, rfl, hset, hlen, hargs⟩ := ht.form
  obtain ⟨sa2, sc2, aa2, ac2, rfl, hset2, hlen2, hargs2⟩ := hu.form
  have hr1 : RsAt w0 (.slice aa t.args.length ac) t.args := ReAt.rs ht0
  have hr2 : RsAt w0 (.slice aa2 u.args.length ac2) u.args := ReAt.rs hu0
  rw [ordR_eq]
  refine Ret_of Tryz.func184 rfl Tryz.ntmps184 (Nat.le_of_ble_eq_true rfl) ?_
  have E : Chg none1 w0 w0 := Chg.refl _ _
  refine Wp_seq_region ?_
  refine s_box (v := (.agg (R6 t sa sc aa ac))) (c := (R6 t sa sc aa ac)) (by decide) rfl rfl ?_
  intro b1 w1 N1
  have F1 := N1.ge E
  replace E := E.ext N1.ext
  have B1 := N1.blk
  refine s_box (v := (.agg (R6 u sa2 sc2 aa2 ac2))) (c := (R6 u sa2 sc2 aa2 ac2)) (by decide) rfl rfl ?_
  intro b2 w2 N2
  have F2 := N2.ge E
  have O2_b1 := N2.lt B1
  replace B1 := N2.keep B1
  replace E := E.ext N2.ext
  have B2 := N2.blk
  refine qA (I6 0) rfl ?_
  refine WpL_nil (Wp_seq ?_)
  obtain ⟨Fs3, hFs3⟩ : ∃ Fs : List Fact, Fs = [.eq (P6 b1 0), .eq (I6 t.kind), .eq (P6 b2 0), .eq (I6 u.kind), .eq (I6 (cmpI t.kind u.kind)), .eq (P6 b1 1), .eq (.slice sa t.set.length sc), .eq (P6 b2 1), .eq (.slice sa2 u.set.length sc2), .eq (I6 (cmpL cmpSp t.set u.set)), .eq (P6 b1 3), .eq (I6 t.mn), .eq (P6 b2 3), .eq (I6 u.mn), .eq (I6 (cmpI t.mn u.mn)), .eq (P6 b1 4), .eq (I6 t.mx), .eq (P6 b2 4), .eq (I6 u.mx), .eq (I6 (cmpI t.mx u.mx)), .eq (P6 b1 2), .eq (.slice aa t.args.length ac), .eq (P6 b2 2), .eq (.slice aa2 u.args.length ac2), .eq (I6 (ordRs t.args u.args)), .gen (ints5F (cmpI t.kind u.kind) (cmpL cmpSp t.set u.set) (cmpI t.mn u.mn) (cmpI t.mx u.mx) (ordRs t.args u.args)) (ints5F_ext _ _ _ _ _), .eq (I6 (orL [cmpI t.kind u.kind, cmpL cmpSp t.set u.set, cmpI t.mn u.mn, cmpI t.mx u.mx, ordRs t.args u.args])), .eq (I6 (orL [cmpI t.kind u.kind, cmpL cmpSp t.set u.set, cmpI t.mn u.mn, cmpI t.mx u.mx, ordRs t.args u.args]))] := ⟨_, rfl⟩
  refine Wp_dag [5, 6, 7, 8, 9, 10, 11, 12, 13, 14, 15, 16, 17, 18, 19, 20, 21, 22, 23, 24, 25, 26, 27, 28, 29, 30, 31, 4] [[], [0], [], [2], [1, 3], [], [5], [], [7], [4, 6, 8], [], [10], [], [12], [9, 11, 13], [], [15], [], [17], [14, 16, 18], [], [20], [], [22], [19, 21, 23], [4, 9, 14, 19, 24], [24, 25], [0, 1, 2, 3, 4, 5, 6, 7, 8, 9, 10, 11, 12, 13, 14, 15, 16, 17, 18, 19, 20, 21, 22, 23, 24, 25, 26]] Fs3 hFs3 mixed (by kernel_rfl) (by kernel_rfl) ?_ ?_
  · intro wd X0
    refine DagSteps.cons (fun s' w' X U H => Or.inl ⟨?_, ?_⟩) ?_
    · exact Guarded_none rfl
    · exact Does_val (r_fieldAddr (b := b1) (o := 0) (o' := 0) (U 2 rfl) Tryz.underlying25 rfl siz3 rfl) (Ext.refl _) rfl
    refine DagSteps.cons (fun s' w' X U H => Or.inl ⟨?_, ?_⟩) ?_
    · exact Guarded_none rfl
    · have e5 : s' 5 = (.pointer (some ⟨b1, 0, none⟩)) := H 0 rfl 5 (.eq (.pointer (some ⟨b1, 0, none⟩))) rfl (by rw [hFs3]; rfl)
      exact Does_val (r_load (v := (I6 t.kind)) e5 flat3 (((X0.trans X).keep B1).cell rfl)) (Ext.refl _) rfl
    refine DagSteps.cons (fun s' w' X U H => Or.inl ⟨?_, ?_⟩) ?_
    · exact Guarded_none rfl
    · exact Does_val (r_fieldAddr (b := b2) (o := 0) (o' := 0) (U 3 rfl) Tryz.underlying25 rfl siz3 rfl) (Ext.refl _) rfl
    refine DagSteps.cons (fun s' w' X U H => Or.inl ⟨?_, ?_⟩) ?_
    · exact Guarded_none rfl
    · have e7 : s' 7 = (.pointer (some ⟨b2, 0, none⟩)) := H 2 rfl 7 (.eq (.pointer (some ⟨b2, 0, none⟩))) rfl (by rw [hFs3]; rfl)
      exact Does_val (r_load (v := (I6 u.kind)) e7 flat3 (((X0.trans X).keep B2).cell rfl)) (Ext.refl _) rfl
    refine DagSteps.cons (fun s' w' X U H => Or.inl ⟨?_, ?_⟩) ?_
    · exact Guarded_none rfl
    · have e6 : s' 6 = (.int .i64 t.kind) := H 1 rfl 6 (.eq (.int .i64 t.kind)) rfl (by rw [hFs3]; rfl)
      have e8 : s' 8 = (.int .i64 u.kind) := H 3 rfl 8 (.eq (.int .i64 u.kind)) rfl (by rw [hFs3]; rfl)
      exact Does_enter (r_callF (vs := [(I6 t.kind), (I6 u.kind)]) Tryz.func158 nm158 bd158 (lst2 e6 e8)) (compare_c _ _ _)
    refine DagSteps.cons (fun s' w' X U H => Or.inl ⟨?_, ?_⟩) ?_
    · exact Guarded_none rfl
    · exact Does_val (r_fieldAddr (b := b1) (o := 0) (o' := 1) (U 2 rfl) Tryz.underlying25 rfl siz22 rfl) (Ext.refl _) rfl
    refine DagSteps.cons (fun s' w' X U H => Or.inl ⟨?_, ?_⟩) ?_
    · exact Guarded_none rfl
    · have e10 : s' 10 = (.pointer (some ⟨b1, 1, none⟩)) := H 5 rfl 10 (.eq (.pointer (some ⟨b1, 1, none⟩))) rfl (by rw [hFs3]; rfl)
      exact Does_val (r_load (v := (.slice sa t.set.length sc)) e10 flat22 (((X0.trans X).keep B1).cell rfl)) (Ext.refl _) rfl
    refine DagSteps.cons (fun s' w' X U H => Or.inl ⟨?_, ?_⟩) ?_
    · exact Guarded_none rfl
    · exact Does_val (r_fieldAddr (b := b2) (o := 0) (o' := 1) (U 3 rfl) Tryz.underlying25 rfl siz22 rfl) (Ext.refl _) rfl
    refine DagSteps.cons (fun s' w' X U H => Or.inl ⟨?_, ?_⟩) ?_
    · exact Guarded_none rfl
    · have e12 : s' 12 = (.pointer (some ⟨b2, 1, none⟩)) := H 7 rfl 12 (.eq (.pointer (some ⟨b2, 1, none⟩))) rfl (by rw [hFs3]; rfl)
      exact Does_val (r_load (v := (.slice sa2 u.set.length sc2)) e12 flat22 (((X0.trans X).keep B2).cell rfl)) (Ext.refl _) rfl
    refine DagSteps.cons (fun s' w' X U H => Or.inl ⟨?_, ?_⟩) ?_
    · exact Guarded_none rfl
    · have e11 : s' 11 = (.slice sa t.set.length sc) := H 6 rfl 11 (.eq (.slice sa t.set.length sc)) rfl (by rw [hFs3]; rfl)
      have e13 : s' 13 = (.slice sa2 u.set.length sc2) := H 8 rfl 13 (.eq (.slice sa2 u.set.length sc2)) rfl (by rw [hFs3]; rfl)
      exact Does_enter (r_callF (vs := [(.slice sa t.set.length sc), (.slice sa2 u.set.length sc2)]) Tryz.func222 nm222 bd222 (lst2 e11 e13)) (spord_c _ _ _ _ _ (hset.ext (Ext.trans E (X0.trans X))) (hset2.ext (Ext.trans E (X0.trans X))))
    refine DagSteps.cons (fun s' w' X U H => Or.inl ⟨?_, ?_⟩) ?_
    · exact Guarded_none rfl
    · exact Does_val (r_fieldAddr (b := b1) (o := 0) (o' := 3) (U 2 rfl) Tryz.underlying25 rfl siz3 rfl) (Ext.refl _) rfl
    refine DagSteps.cons (fun s' w' X U H => Or.inl ⟨?_, ?_⟩) ?_
    · exact Guarded_none rfl
    · have e15 : s' 15 = (.pointer (some ⟨b1, 3, none⟩)) := H 10 rfl 15 (.eq (.pointer (some ⟨b1, 3, none⟩))) rfl (by rw [hFs3]; rfl)
      exact Does_val (r_load (v := (I6 t.mn)) e15 flat3 (((X0.trans X).keep B1).cell rfl)) (Ext.refl _) rfl
    refine DagSteps.cons (fun s' w' X U H => Or.inl ⟨?_, ?_⟩) ?_
    · exact Guarded_none rfl
    · exact Does_val (r_fieldAddr (b := b2) (o := 0) (o' := 3) (U 3 rfl) Tryz.underlying25 rfl siz3 rfl) (Ext.refl _) rfl
    refine DagSteps.cons (fun s' w' X U H => Or.inl ⟨?_, ?_⟩) ?_
    · exact Guarded_none rfl
    · have e17 : s' 17 = (.pointer (some ⟨b2, 3, none⟩)) := H 12 rfl 17 (.eq (.pointer (some ⟨b2, 3, none⟩))) rfl (by rw [hFs3]; rfl)
      exact Does_val (r_load (v := (I6 u.mn)) e17 flat3 (((X0.trans X).keep B2).cell rfl)) (Ext.refl _) rfl
    refine DagSteps.cons (fun s' w' X U H => Or.inl ⟨?_, ?_⟩) ?_
    · exact Guarded_none rfl
    · have e16 : s' 16 = (.int .i64 t.mn) := H 11 rfl 16 (.eq (.int .i64 t.mn)) rfl (by rw [hFs3]; rfl)
      have e18 : s' 18 = (.int .i64 u.mn) := H 13 rfl 18 (.eq (.int .i64 u.mn)) rfl (by rw [hFs3]; rfl)
      exact Does_enter (r_callF (vs := [(I6 t.mn), (I6 u.mn)]) Tryz.func158 nm158 bd158 (lst2 e16 e18)) (compare_c _ _ _)
    refine DagSteps.cons (fun s' w' X U H => Or.inl ⟨?_, ?_⟩) ?_
    · exact Guarded_none rfl
    · exact Does_val (r_fieldAddr (b := b1) (o := 0) (o' := 4) (U 2 rfl) Tryz.underlying25 rfl siz3 rfl) (Ext.refl _) rfl
    refine DagSteps.cons (fun s' w' X U H => Or.inl ⟨?_, ?_⟩) ?_
    · exact Guarded_none rfl
    · have e20 : s' 20 = (.pointer (some ⟨b1, 4, none⟩)) := H 15 rfl 20 (.eq (.pointer (some ⟨b1, 4, none⟩))) rfl (by rw [hFs3]; rfl)
      exact Does_val (r_load (v := (I6 t.mx)) e20 flat3 (((X0.trans X).keep B1).cell rfl)) (Ext.refl _) rfl
    refine DagSteps.cons (fun s' w' X U H => Or.inl ⟨?_, ?_⟩) ?_
    · exact Guarded_none rfl
    · exact Does_val (r_fieldAddr (b := b2) (o := 0) (o' := 4) (U 3 rfl) Tryz.underlying25 rfl siz3 rfl) (Ext.refl _) rfl
    refine DagSteps.cons (fun s' w' X U H => Or.inl ⟨?_, ?_⟩) ?_
    · exact Guarded_none rfl
    · have e22 : s' 22 = (.pointer (some ⟨b2, 4, none⟩)) := H 17 rfl 22 (.eq (.pointer (some ⟨b2, 4, none⟩))) rfl (by rw [hFs3]; rfl)
      exact Does_val (r_load (v := (I6 u.mx)) e22 flat3 (((X0.trans X).keep B2).cell rfl)) (Ext.refl _) rfl
    refine DagSteps.cons (fun s' w' X U H => Or.inl ⟨?_, ?_⟩) ?_
    · exact Guarded_none rfl
    · have e21 : s' 21 = (.int .i64 t.mx) := H 16 rfl 21 (.eq (.int .i64 t.mx)) rfl (by rw [hFs3]; rfl)
      have e23 : s' 23 = (.int .i64 u.mx) := H 18 rfl 23 (.eq (.int .i64 u.mx)) rfl (by rw [hFs3]; rfl)
      exact Does_enter (r_callF (vs := [(I6 t.mx), (I6 u.mx)]) Tryz.func158 nm158 bd158 (lst2 e21 e23)) (compare_c _ _ _)
    refine DagSteps.cons (fun s' w' X U H => Or.inl ⟨?_, ?_⟩) ?_
    · exact Guarded_none rfl
    · exact Does_val (r_fieldAddr (b := b1) (o := 0) (o' := 2) (U 2 rfl) Tryz.underlying25 rfl siz23 rfl) (Ext.refl _) rfl
    refine DagSteps.cons (fun s' w' X U H => Or.inl ⟨?_, ?_⟩) ?_
    · exact Guarded_none rfl
    · have e25 : s' 25 = (.pointer (some ⟨b1, 2, none⟩)) := H 20 rfl 25 (.eq (.pointer (some ⟨b1, 2, none⟩))) rfl (by rw [hFs3]; rfl)
      exact Does_val (r_load (v := (.slice aa t.args.length ac)) e25 flat23 (((X0.trans X).keep B1).cell rfl)) (Ext.refl _) rfl
    refine DagSteps.cons (fun s' w' X U H => Or.inl ⟨?_, ?_⟩) ?_
    · exact Guarded_none rfl
    · exact Does_val (r_fieldAddr (b := b2) (o := 0) (o' := 2) (U 3 rfl) Tryz.underlying25 rfl siz23 rfl) (Ext.refl _) rfl
    refine DagSteps.cons (fun s' w' X U H => Or.inl ⟨?_, ?_⟩) ?_
    · exact Guarded_none rfl
    · have e27 : s' 27 = (.pointer (some ⟨b2, 2, none⟩)) := H 22 rfl 27 (.eq (.pointer (some ⟨b2, 2, none⟩))) rfl (by rw [hFs3]; rfl)
      exact Does_val (r_load (v := (.slice aa2 u.args.length ac2)) e27 flat23 (((X0.trans X).keep B2).cell rfl)) (Ext.refl _) rfl
    refine DagSteps.cons (fun s' w' X U H => Or.inl ⟨?_, ?_⟩) ?_
    · exact Guarded_none rfl
    · have e26 : s' 26 = (.slice aa t.args.length ac) := H 21 rfl 26 (.eq (.slice aa t.args.length ac)) rfl (by rw [hFs3]; rfl)
      have e28 : s' 28 = (.slice aa2 u.args.length ac2) := H 23 rfl 28 (.eq (.slice aa2 u.args.length ac2)) rfl (by rw [hFs3]; rfl)
      exact Does_enter (r_callF (vs := [(.slice aa t.args.length ac), (.slice aa2 u.args.length ac2), (.func (.func 184) #[] #[])]) Tryz.func223 nm223 bd223 (lst3 e26 e28 rfl)) (cmpfr_c _ _ _ _ _ _ (hr1.ext (Ext.trans E (X0.trans X))) (hr2.ext (Ext.trans E (X0.trans X))) (fun w x y xs ys _ hx hxs hys => CallV.mk (first := #[]) (cap := #[]) Tryz.func184 nm184 bd184 rfl (ih x y w xs ys (by obtain ⟨i, hi⟩ := List.mem_iff_getElem?.1 hx; have := Re.size_arg hi; omega) hxs hys)))
    refine DagSteps.cons (fun s' w' X U H => Or.inl ⟨?_, ?_⟩) ?_
    · exact Guarded_none rfl
    · have e9 : s' 9 = (.int .i64 (cmpI t.kind u.kind)) := H 4 rfl 9 (.eq (.int .i64 (cmpI t.kind u.kind))) rfl (by rw [hFs3]; rfl)
      have e14 : s' 14 = (.int .i64 (cmpL cmpSp t.set u.set)) := H 9 rfl 14 (.eq (.int .i64 (cmpL cmpSp t.set u.set))) rfl (by rw [hFs3]; rfl)
      have e19 : s' 19 = (.int .i64 (cmpI t.mn u.mn)) := H 14 rfl 19 (.eq (.int .i64 (cmpI t.mn u.mn))) rfl (by rw [hFs3]; rfl)
      have e24 : s' 24 = (.int .i64 (cmpI t.mx u.mx)) := H 19 rfl 24 (.eq (.int .i64 (cmpI t.mx u.mx))) rfl (by rw [hFs3]; rfl)
      have e29 : s' 29 = (.int .i64 (ordRs t.args u.args)) := H 24 rfl 29 (.eq (.int .i64 (ordRs t.args u.args))) rfl (by rw [hFs3]; rfl)
      exact Does_ints5 e9 e14 e19 e24 e29
    refine DagSteps.cons (fun s' w' X U H => Or.inl ⟨?_, ?_⟩) ?_
    · exact Guarded_none rfl
    · obtain ⟨b30, e30, i30⟩ := H 25 rfl 30 (.gen (ints5F (cmpI t.kind u.kind) (cmpL cmpSp t.set u.set) (cmpI t.mn u.mn) (cmpI t.mx u.mx) (ordRs t.args u.args)) (ints5F_ext _ _ _ _ _)) rfl (by rw [hFs3]; rfl)
      exact Does_enter (r_callF (vs := [(.slice (some ⟨b30, 0, none⟩) 5 5)]) Tryz.func206 nm206 bd206 (lst1 e30)) (sor_c _ _ _ (e30 ▸ i30))
    refine DagSteps.cons (fun s' w' X U H => Or.inl ⟨?_, ?_⟩) ?_
    · exact Guarded_none rfl
    · have e31 : s' 31 = (.int .i64 (orL [cmpI t.kind u.kind, cmpL cmpSp t.set u.set, cmpI t.mn u.mn, cmpI t.mx u.mx, ordRs t.args u.args])) := H 26 rfl 31 (.eq (.int .i64 (orL [cmpI t.kind u.kind, cmpL cmpSp t.set u.set, cmpI t.mn u.mn, cmpI t.mx u.mx, ordRs t.args u.args]))) rfl (by rw [hFs3]; rfl)
      exact Does_val (r_assign (v := (I6 (orL [cmpI t.kind u.kind, cmpL cmpSp t.set u.set, cmpI t.mn u.mn, cmpI t.mx u.mx, ordRs t.args u.args]))) e31) (Ext.refl _) rfl
    exact DagSteps.nil
  · intro s' w3 X3 U H
    obtain ⟨j3, rfl⟩ := Fits.out (σ := s') (l := [(4, (.int .i64 (orL [cmpI t.kind u.kind, cmpL cmpSp t.set u.set, cmpI t.mn u.mn, cmpI t.mx u.mx, ordRs t.args u.args])))]) ⟨(show s' 4 = (.int .i64 (orL [cmpI t.kind u.kind, cmpL cmpSp t.set u.set, cmpI t.mn u.mn, cmpI t.mx u.mx, ordRs t.args u.args])) from H 27 4 (.eq (.int .i64 (orL [cmpI t.kind u.kind, cmpL cmpSp t.set u.set, cmpI t.mn u.mn, cmpI t.mx u.mx, ordRs t.args u.args]))) rfl (by rw [hFs3]; rfl)), trivial⟩
    clear U H
    replace B1 := X3.keep B1
    replace B2 := X3.keep B2
    replace E := E.ext X3
    refine thn_normal (Wp_ret ?_)
    refine fin_tmp Tryz.results184 (v := (.int .i64 (orL [cmpI t.kind u.kind, cmpL cmpSp t.set u.set, cmpI t.mn u.mn, cmpI t.mx u.mx, ordRs t.args u.args]))) rfl ?_
    exact ⟨rfl, E⟩
end Go.Proofs
