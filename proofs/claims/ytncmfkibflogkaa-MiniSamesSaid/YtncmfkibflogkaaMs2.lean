/- Contracts and plain lemmas, part 2. -/
import Derived.Tactics
import Derived.Deep.Quiet
import Derived.Laws.AppendOwn
import Derived.KernelRfl
import Derived.Laws.Entries
import Derived.Laws.Build
import Derived.Below
import Derived.RowKit3
import Derived.StillTail
import Derived.Sort.Grow
import Derived.Deep.Draws
import Derived.Test.YtncmfkibflogkaaChecked
import Derived.Laws.StructEq
import Derived.MapKept
import Derived.Laws.BytesArg
import Derived.Laws.CopyRow
import Derived.DeepKeys3
import Derived.OpenShut
import Derived.ChangeSlices
import Derived.Test.YtncmfkibflogkaaMs1
namespace Go.Proofs
open Go Go.Eng Go.Sort
section
variable {P : Program} {N : Nat} {Q : Post} {σ : Env} {w : World} {K : Env → World → Prop} {ops : Array Oper} {rest : List Oper} {d : Nat} {ty : TypeId} {pos : String} {af : Array Edge} {t : TypeId} {x y : Operand}
theorem s_make {e bytes n : Nat} {z : Value} (hN : d < N) (hu : P.underlying t = some (.slice e)) (hsz : Siz P e 1) (hby : Byt P e bytes) (hz : Zer P e z) (hz1 : z.cells = #[z]) (hx : ev σ x = .int .i64 ((n : Nat) : Int)) (hy : ev σ y = .int .i64 ((n : Nat) : Int)) (hb : n * bytes ≤ 140737488355328) (hn : n ≤ 140737488355328)
    (k : ∀ b w', New w w' b (List.replicate n z).toArray e → WpL P N ops K Q rest (upd σ d (.slice (some ⟨b, 0, none⟩) n n)) w') : WpL P N ops K Q (⟨some d, .makeSlice t x y, ty, pos, af, none⟩ :: rest) σ w := by
  refine WpL_val (v := .slice (some ⟨w.heap.size, 0, none⟩) n n) (w' := { w with heap := w.heap.push (.cells (List.replicate n z).toArray e (0, 0)) }) rfl rfl hN ?_ (k _ _ (New.mk' w _ e))
  unfold Siz at hsz; unfold Byt at hby; unfold Zer at hz
  cases hi : P.info? e with
  | none => rw [hi] at hsz; simp at hsz
  | some i =>
  rw [hi] at hsz hby hz
  simp at hsz hby hz
  have h := run_make (P := P) w t e i _ hu hi hz .i64 .i64 ((n : Nat) : Int) ((n : Nat) : Int) (by omega) (Int.le_refl _) (by rw [hby]; have : ((bytes : Nat) : Int) * ((n : Nat) : Int) = (((n * bytes : Nat) : Nat) : Int) := (by rw [Int.natCast_mul, Int.mul_comm]); rw [this]; omega) (by omega)
  have hc : madeCells z.cells (n * i.size) = (List.replicate n z).toArray := by
    rw [hsz, Nat.mul_one, hz1]
    apply Array.ext'
    simp only [madeCells]
    apply List.ext_getElem?
    intro j
    simp only [Array.toList_map, List.getElem?_map, List.getElem?_replicate]
    rcases Nat.lt_or_ge j n with hj | hj
    · have h1 : (Array.range n).toList[j]? = some j := by simp [hj]
      rw [h1, if_pos hj]
      simp [Nat.mod_one]
    · have h1 : (Array.range n).toList[j]? = none := by simp; omega
      rw [h1, if_neg (by omega)]; rfl
  simp only [Int.toNat_natCast, hc] at h
  simp only [execOp, hx, hy, Sem.run_bind, h, Result.andThen_ok]
  rfl
end
def appF (base e size n : Nat) (xs : List Value) (old : Value) (hs : Nat) : Fct := fun v w => (∃ a c, v = .slice a n c) ∧ w.ownsRow base e size v n xs ∧ ∀ k, v.ownBlock = some k → old.ownBlock = some k ∨ hs ≤ k
/-- The append to a slice of one's own, in a region that draws its order. -/
theorem DoesT_append {P : Program} {N : Nat} {σ : Env} {w : World} {dst : Option Tmp} {ty : TypeId} {pos : String} {af : Array Edge} {g : Option (Nat × Bool)} {M : Nat → Prop} {t : TypeId} {s x : Operand} {base e size bytes n m c bx ox hs : Nat} {z v : Value} {xs news : List Value} (hu : P.underlying t = some (.slice e)) (hsz : Siz P e size) (hby : Byt P e bytes) (hz : Zer P e z) (hzs : z.cells.size = size) (h0 : 0 < size)
    (he : ev σ s = v) (hown : w.ownsRow base e size v n xs) (hx : ev σ x = .slice (some ⟨bx, ox, none⟩) m c) (hl : news.length = m * size) (hnews : CellsAt w bx ox news) (h1 : ∀ u ∈ news, u.oneCell' = true)
    (h63 : n + m ≤ maxLen) (hbytes : (n + m) * bytes ≤ 140737488355328) (hbase : base ≤ w.heap.size) (hM : ∀ y, v.ownBlock = some y → M y) (hhs : hs ≤ w.heap.size) :
    DoesT M P N ⟨dst, .call ⟨.builtin .append, #[s, x], #[t, t]⟩, ty, pos, af, g⟩ (appF base e size (n + m) (xs ++ news) v hs) σ w := by
  unfold Siz at hsz; unfold Byt at hby; unfold Zer at hz
  cases hi : P.info? e with
  | none => rw [hi] at hsz; simp at hsz
  | some i =>
  rw [hi] at hsz hby hz
  simp at hsz hby hz
  have hcells : ∀ j u, news[j]? = some u → w.cell? ((⟨bx, ox, none⟩ : Addr).add j) = some u := fun j u hj => by rw [Addr.add_lit]; exact hnews j u hj
  obtain ⟨v', w', hr, h2, h3, _⟩ := run_append_own (P := P) w base t ty e i z size bytes hu hi hz hsz hby hzs h0 v n xs hown ⟨bx, ox, none⟩ m c news hl hcells h1 h63 hbytes hbase
  have hC : Chg (fun x => v.ownBlock = some x) w w' := ⟨h3.os, h3.tape, h3.output, append_drawn (P := P) hu hi hz hsz hby hown hl hcells h1 h63 hbytes hr, h3.size, fun b hb hn => h3.block b hb (fun h => hn h.symm)⟩
  have hW := append_where (P := P) hu hi hz hsz hby hzs h0 hown hl hcells h1 h63 hbytes hr
  refine DoesT_val (v := v') (w' := w') (by simp [execOp, resolve, invoke, builtin, he, hx, hr]) (hC.mono fun y _ hy => hM y hy) ⟨own_form h2, h2, fun k hk => ?_⟩
  rcases hW k hk with h4 | h4
  · exact .inl h4
  · exact .inr (Nat.le_trans hhs h4)
/-- A slice of one new element, whose cells are known. -/
def litF (e : Nat) (c : Array Value) (hs : Nat) : Fct := fun v w => ∃ b, v = .slice (some ⟨b, 0, none⟩) 1 1 ∧ Blk w b c e ∧ hs ≤ b
theorem DoesT_lit {P : Program} {N : Nat} {σ : Env} {w : World} {dst : Option Tmp} {ty : TypeId} {pos : String} {af : Array Edge} {g : Option (Nat × Bool)} {M : Nat → Prop} {t e n hs : Nat} {x : Operand} {v z : Value} {c : Array Value} (hu : P.underlying t = some (.slice e)) (hsz : Siz P e n) (hz : Zer P e z) (hx : ev σ x = v)
    (hl : ¬ (1 * n > 2 ^ 24)) (h0 : 1 * n ≠ 0) (hc : Instr.fill (fun i => some (i * n, n)) ((Array.range (1 * n)).map (z.cells[· % z.cells.size]!)) [(0, v)] = some c) (hhs : hs ≤ w.heap.size) :
    DoesT M P N ⟨dst, .buildSlice t 1 #[(0, x)], ty, pos, af, g⟩ (litF e c hs) σ w := by
  have hn := New.mk' w c e
  exact DoesT_val (run_buildSlice (parts := [(0, x)]) (ps := [(0, v)]) (by simp only [List.map, hx]) hu hsz hz hl h0 hc) (Ext.chg hn.ext) ⟨_, rfl, hn.blk, hhs⟩
theorem own_lit1 {w : World} {b e base : Nat} {v : Value} (h : Blk w b #[v] e) (hb : base ≤ b) : w.ownsRow base e 1 (.slice (some ⟨b, 0, none⟩) 1 1) 1 [v] :=
  ⟨rfl, .inr ⟨b, 1, #[v], rfl, hb, h, Nat.le_refl _, by decide, rfl, rfl⟩⟩
structure LSt (To e sz : Nat) (w : World) (base : Nat) (vo : Value) (vs : List Value) (ns : List (Nat × List Value)) : Prop where
  o : w.ownsRow base To 1 vo ns.length vs
  len : vs.length = ns.length
  inn : ∀ (i : Nat) v p, vs[i]? = some v → ns[i]? = some p → w.ownsRow base e sz v p.1 p.2
  apo : ∀ (i : Nat) v b, vs[i]? = some v → v.ownBlock = some b → vo.ownBlock ≠ some b
theorem LSt.start (To e sz : Nat) (w : World) (base : Nat) : LSt To e sz w base (.slice none 0 0) [] [] :=
  ⟨World.ownsRow_nil _ _ _ _, rfl, fun i v p h => by simp at h, fun i v b h => by simp at h⟩
theorem LSt.chg {M : Nat → Prop} {To e sz base : Nat} {w w' : World} {vo : Value} {vs : List Value} {ns : List (Nat × List Value)} (h : LSt To e sz w base vo vs ns) (c : Chg M w w') (hM : ∀ b, base ≤ b → b < w.heap.size → ¬ M b) : LSt To e sz w' base vo vs ns :=
  ⟨own_chg h.o c fun k hk => hM k (h.o.lt k hk).1 (h.o.lt k hk).2, h.len, fun i v l hv hl => own_chg (h.inn i v l hv hl) c fun k hk => hM k ((h.inn i v l hv hl).lt k hk).1 ((h.inn i v l hv hl).lt k hk).2, h.apo⟩
theorem LSt.ext {To e sz base : Nat} {w w' : World} {vo : Value} {vs : List Value} {ns : List (Nat × List Value)} (h : LSt To e sz w base vo vs ns) (c : Ext w w') : LSt To e sz w' base vo vs ns := h.chg c fun _ _ _ f => f
theorem LSt.on {To e sz base n : Nat} {w : World} {vo : Value} {vs : List Value} {ns : List (Nat × List Value)} (h : LSt To e sz w base vo vs ns) (hn : n = ns.length) : w.ownsRow base To 1 vo n vs := by subst hn; exact h.o
/-- A slice that was made later is appended. -/
theorem LSt.push {To e sz base bu n m : Nat} {w w' : World} {vo v' u : Value} {vs us : List Value} {ns : List (Nat × List Value)} (h : LSt To e sz w base vo vs ns) (hn : n = ns.length) (hu : w.ownsRow bu e sz u m us) (hb : base ≤ bu) (hbu : ∀ k, vo.ownBlock = some k → k < bu)
    (Ov : w'.ownsRow base To 1 v' (n + 1) (vs ++ [u])) (Cv : Chg (fun x => vo.ownBlock = some x) w w') (Wv : ∀ k, v'.ownBlock = some k → vo.ownBlock = some k ∨ w.heap.size ≤ k) : LSt To e sz w' base v' (vs ++ [u]) (ns ++ [(m, us)]) := by
  have hold : ∀ (i : Nat) v, (vs ++ [u])[i]? = some v → vs[i]? = some v ∨ (i = vs.length ∧ v = u) := by
    intro i v hv
    rcases Nat.lt_or_ge i vs.length with h1 | h1
    · left; rwa [List.getElem?_append_left h1] at hv
    · right
      rw [List.getElem?_append_right h1] at hv
      have h2 := lt_of_get hv
      simp at h2
      obtain rfl : i = vs.length := by omega
      simp at hv
      exact ⟨rfl, hv.symm⟩
  have hun : ∀ b, u.ownBlock = some b → vo.ownBlock ≠ some b := fun b hb' e' => by
    have h1 := hbu b e'
    have h2 := (hu.lt b hb').1
    omega
  refine ⟨by rw [List.length_append, ← hn]; exact Ov, by simp [h.len], ?_, ?_⟩
  · intro i v p hv hp
    rcases hold i v hv with h1 | ⟨h1, rfl⟩
    · rw [List.getElem?_append_left (by have := lt_of_get h1; have := h.len; omega)] at hp
      exact own_chg (h.inn i v p h1 hp) Cv fun k hk => h.apo i v k h1 hk
    · rw [h1, h.len] at hp
      simp at hp
      subst hp
      exact own_low (own_chg hu Cv fun k hk => hun k hk) hb
  · intro i v b hv hb1 hb2
    rcases hold i v hv with h1 | ⟨_, rfl⟩
    · rcases Wv b hb2 with h2 | h2
      · exact h.apo i v b h1 hb1 h2
      · obtain ⟨p, hp⟩ := get_of_lt (l := ns) (i := i) (by have := lt_of_get h1; have := h.len; omega)
        have := ((h.inn i v p h1 hp).lt b hb1).2
        omega
    · rcases Wv b hb2 with h2 | h2
      · exact hun b hb1 h2
      · have := (hu.lt b hb1).2; omega
theorem own_writeG {w w' : World} {base e size n cap g i : Nat} {xs : List Value} {cur : Array Value} {v : Value} (h : w.ownsRow base e size (.slice (some ⟨g, 0, none⟩) n cap) n xs) (hB : Blk w g cur e) (hi : i < n * size) (hB' : Blk w' g (cur.setIfInBounds i v) e) : w'.ownsRow base e size (.slice (some ⟨g, 0, none⟩) n cap) n (xs.set i v) := by
  rcases h.2 with ⟨h1, _⟩ | ⟨g', cap', cur', hv, hbg, hg, hnc, hcm, hcs, htake⟩
  · simp at h1
  · simp only [Value.slice.injEq, Option.some.injEq, Addr.mk.injEq, and_true] at hv
    obtain ⟨rfl, _, rfl⟩ := hv
    unfold Blk at hB hB'
    rw [hB] at hg
    simp only [Option.some.injEq, Obj.cells.injEq, and_true] at hg
    obtain ⟨rfl, _⟩ := hg
    refine ⟨by simpa using h.1, .inr ⟨g, cap, _, rfl, hbg, hB', hnc, hcm, by simpa using hcs, ?_⟩⟩
    rw [← htake, Array.toList_setIfInBounds, List.take_set]
theorem own_blkG {w : World} {base e size n cap g : Nat} {xs : List Value} (h : w.ownsRow base e size (.slice (some ⟨g, 0, none⟩) n cap) n xs) : ∃ cur, Blk w g cur e ∧ n * size ≤ cur.size := by
  rcases h.2 with ⟨h1, _⟩ | ⟨g', cap', cur', hv, hbg, hg, hnc, hcm, hcs, htake⟩
  · simp at h1
  · simp only [Value.slice.injEq, Option.some.injEq, Addr.mk.injEq, and_true] at hv
    obtain ⟨rfl, _, rfl⟩ := hv
    exact ⟨cur', hg, by rw [hcs]; exact Nat.mul_le_mul_right _ hnc⟩
/-- The same, and no two members share a block: a member may grow. -/
structure GSt (To e sz : Nat) (w : World) (base : Nat) (vo : Value) (vs : List Value) (ns : List (Nat × List Value)) : Prop where
  l : LSt To e sz w base vo vs ns
  ap : ∀ (i j : Nat) v u b, vs[i]? = some v → vs[j]? = some u → v.ownBlock = some b → u.ownBlock = some b → i = j
theorem GSt.chg {M : Nat → Prop} {To e sz base : Nat} {w w' : World} {vo : Value} {vs : List Value} {ns : List (Nat × List Value)} (h : GSt To e sz w base vo vs ns) (c : Chg M w w') (hM : ∀ b, base ≤ b → b < w.heap.size → ¬ M b) : GSt To e sz w' base vo vs ns := ⟨h.l.chg c hM, h.ap⟩
theorem GSt.ext {To e sz base : Nat} {w w' : World} {vo : Value} {vs : List Value} {ns : List (Nat × List Value)} (h : GSt To e sz w base vo vs ns) (c : Ext w w') : GSt To e sz w' base vo vs ns := ⟨h.l.ext c, h.ap⟩
theorem GSt.made {To e sz base b n : Nat} {w : World} (hB : Blk w b (List.replicate n (Value.slice none 0 0)).toArray To) (hb : base ≤ b) (hn : n ≤ 9223372036854775807) (hbw : base ≤ b) : GSt To e sz w base (.slice (some ⟨b, 0, none⟩) n n) (List.replicate n (.slice none 0 0)) (List.replicate n (0, [])) := by
  have hv : ∀ (i : Nat) v, (List.replicate n (Value.slice none 0 0))[i]? = some v → v = .slice none 0 0 := fun i v h => by
    have := List.mem_of_getElem? h
    exact (List.mem_replicate.1 this).2
  refine ⟨⟨?_, by simp, fun i v p h hp => ?_, fun i v b h h2 => ?_⟩, fun i j v u b h _ h2 => ?_⟩
  · rw [List.length_replicate]
    exact ⟨by simp, .inr ⟨b, n, _, rfl, hb, hB, Nat.le_refl _, hn, by simp, by simp⟩⟩
  · have hp2 := (List.mem_replicate.1 (List.mem_of_getElem? hp)).2
    subst hp2
    rw [hv i v h]
    exact World.ownsRow_nil _ _ _ _
  · rw [hv i v h] at h2; cases h2
  · rw [hv i v h] at h2; cases h2
/-- One member grows, and its new slice is stored in the outer one. -/
theorem GSt.grow {To e sz : Nat} {w w' w2 : World} {base g cap k n m m' : Nat} {v v' : Value} {vs : List Value} {ns : List (Nat × List Value)} {xs xs' : List Value} {cur : Array Value} (h : GSt To e sz w base (.slice (some ⟨g, 0, none⟩) n cap) vs ns) (hn : n = ns.length) (hv : vs[k]? = some v) (hp : ns[k]? = some (m, xs))
    (Ov : w'.ownsRow base e sz v' m' xs') (Cv : Chg (fun x => v.ownBlock = some x) w w') (Wv : ∀ k, v'.ownBlock = some k → v.ownBlock = some k ∨ w.heap.size ≤ k)
    (hB : Blk w' g cur To) (P2 : Put w' w2 g (cur.setIfInBounds k v') To) : GSt To e sz w2 base (.slice (some ⟨g, 0, none⟩) n cap) (vs.set k v') (ns.set k (m', xs')) := by
  have hkl := lt_of_get hv
  have hgv : v.ownBlock ≠ some g := fun e => h.l.apo k v g hv e rfl
  have hgl := (h.l.o.lt g rfl).2
  have hv'g : v'.ownBlock ≠ some g := fun e => by rcases Wv g e with h1 | h1; exact hgv h1; omega
  have ho1 : w'.ownsRow base To 1 (.slice (some ⟨g, 0, none⟩) n cap) ns.length vs := own_chg h.l.o Cv fun q hq => by cases hq; exact hgv
  rw [← hn] at ho1
  have ho2 := own_writeG ho1 hB (i := k) (by have := h.l.len; omega) P2.blk
  have hset : ∀ (i : Nat) u, (vs.set k v')[i]? = some u → (i = k ∧ u = v') ∨ (i ≠ k ∧ vs[i]? = some u) := by
    intro i u hu
    rw [List.getElem?_set] at hu
    split at hu
    · rename_i he
      exact .inl ⟨he.symm, (Option.some.inj hu).symm⟩
    · rename_i he
      exact .inr ⟨fun e => he e.symm, hu⟩
  have hsome : ∀ (i : Nat) u, vs[i]? = some u → ∃ q, ns[i]? = some q := fun i u hu => get_of_lt (by have := lt_of_get hu; have := h.l.len; omega)
  have hne : ∀ (i : Nat) u b, i ≠ k → vs[i]? = some u → u.ownBlock = some b → v.ownBlock ≠ some b ∧ v'.ownBlock ≠ some b ∧ b ≠ g := by
    intro i u b hi hu hb
    have h1 : v.ownBlock ≠ some b := fun e => hi (h.ap i k u v b hu hv hb e)
    refine ⟨h1, fun e => ?_, fun e => h.l.apo i u b hu hb (by rw [e]; rfl)⟩
    rcases Wv b e with h2 | h2
    · exact h1 h2
    · obtain ⟨q, hq⟩ := hsome i u hu
      have := ((h.l.inn i u q hu hq).lt b hb).2
      omega
  refine ⟨⟨by rw [List.length_set, ← hn]; exact ho2, by simp [h.l.len], ?_, ?_⟩, ?_⟩
  · intro i u q hu hq
    rcases hset i u hu with ⟨rfl, rfl⟩ | ⟨h1, h2⟩
    · rw [List.getElem?_set, if_pos rfl, if_pos (by have := h.l.len; omega)] at hq
      have hq' := Option.some.inj hq
      subst hq'
      exact own_chg Ov P2.chg fun b hb e => hv'g (e ▸ hb)
    · rw [List.getElem?_set, if_neg (fun e => h1 e.symm)] at hq
      exact own_chg (own_chg (h.l.inn i u q h2 hq) Cv fun b hb => (hne i u b h1 h2 hb).1) P2.chg fun b hb e => (hne i u b h1 h2 hb).2.2 e
  · intro i u b hu hb
    rcases hset i u hu with ⟨rfl, rfl⟩ | ⟨h1, h2⟩
    · intro e; cases e; exact hv'g hb
    · exact h.l.apo i u b h2 hb
  · intro i j u z b hu hz hb hb'
    rcases hset i u hu with ⟨rfl, rfl⟩ | ⟨h1, h2⟩ <;> rcases hset j z hz with ⟨rfl, rfl⟩ | ⟨h3, h4⟩
    · rfl
    · exact absurd hb (hne j z b h3 h4 hb').2.1
    · exact absurd hb' (hne i u b h1 h2 hb).2.1
    · exact h.ap i j u z b h2 h4 hb hb'
end Go.Proofs
namespace Go.Proofs
open Go Go.Eng
set_option maxRecDepth 100000
def IntssAt (w : World) (v : Value) (ll : List (List Int)) : Prop := ∃ vs : List Value, SlAt w 1 v (vs.map fun x => [x]) ∧ vs.length = ll.length ∧ ∀ (i : Nat) (u : Value) (l : List Int), vs[i]? = some u → ll[i]? = some l → IntsAt w u l
theorem IntssAt.ext {w w' : World} {v : Value} {ll : List (List Int)} (h : IntssAt w v ll) (e : Ext w w') : IntssAt w' v ll := by
  obtain ⟨vs, h1, h2, h3⟩ := h
  exact ⟨vs, h1.ext e, h2, fun i u l hu hl => (h3 i u l hu hl).ext e⟩
theorem IntssAt.form {w : World} {v : Value} {ll : List (List Int)} (h : IntssAt w v ll) : ∃ a c, v = .slice a ll.length c ∧ ll.length ≤ c ∧ ll.length ≤ 9223372036854775807 := by
  obtain ⟨vs, h1, h2, _⟩ := h
  obtain ⟨a, c, rfl⟩ := h1.form
  have := h1.cap
  have := h1.le
  simp only [List.length_map] at *
  rw [h2] at *
  exact ⟨a, c, rfl, by omega, by omega⟩
theorem intss_cells {w : World} {a : Option Addr} {n c : Nat} {ll : List (List Int)} (h : IntssAt w (.slice a n c) ll) (hn : 0 < n) :
    ∃ b o, a = some ⟨b, o, none⟩ ∧ ∀ i l, ll[i]? = some l → ∃ ra rc, w.cell? ⟨b, o + i, none⟩ = some (.slice ra l.length rc) ∧ IntsAt w (.slice ra l.length rc) l := by
  obtain ⟨vs, h1, h2, h3⟩ := h
  obtain ⟨b, o, ha, hc⟩ := SlAt.at h1 hn
  refine ⟨b, o, ha, fun i l hl => ?_⟩
  have hi : i < vs.length := by have := lt_of_get hl; omega
  have hu : vs[i]? = some vs[i] := List.getElem?_eq_getElem hi
  have h4 := h3 i vs[i] l hu hl
  obtain ⟨ra, rc, hf⟩ := SlAt.form h4
  simp only [List.length_map] at hf
  have h5 := hc i [vs[i]] (by simp [hu]) 0 _ rfl
  rw [Nat.mul_one, Nat.add_zero, hf] at h5
  rw [hf] at h4
  exact ⟨ra, rc, h5, h4⟩
def DfaAt (w : World) (d : Dfa) (vs : List Value) : Prop := ∃ aa ac na nc, vs = [.int .i64 d.start, .slice aa d.accept.length ac, .slice na d.next.length nc] ∧ IntsAt w (.slice aa d.accept.length ac) d.accept ∧ IntssAt w (.slice na d.next.length nc) d.next
theorem DfaAt.ext {w w' : World} {d : Dfa} {vs : List Value} (h : DfaAt w d vs) (e : Ext w w') : DfaAt w' d vs := by
  obtain ⟨aa, ac, na, nc, h1, h2, h3⟩ := h
  exact ⟨aa, ac, na, nc, h1, h2.ext e, h3.ext e⟩
def minL (l : List Int) : Int := l.foldl min (l.headD 0)
def maxL (l : List Int) : Int := l.foldl max (l.headD 0)
theorem fold_take (f : Int → Int → Int) {l : List Int} {k : Nat} {x z : Int} (hx : l[k]? = some x) : (l.take (k + 1)).foldl f z = f ((l.take k).foldl f z) x := by
  rw [List.take_add_one, hx]; simp [List.foldl_append]
theorem minL_le_aux : ∀ (l : List Int) (z : Int), l.foldl min z ≤ z ∧ ∀ x ∈ l, l.foldl min z ≤ x
  | [], z => ⟨Int.le_refl _, fun x h => by simp at h⟩
  | y :: l, z => by
    obtain ⟨h1, h2⟩ := minL_le_aux l (min z y)
    refine ⟨by simp only [List.foldl_cons]; omega, fun x hx => ?_⟩
    simp only [List.foldl_cons]
    rcases List.mem_cons.1 hx with rfl | hx
    · omega
    · exact h2 x hx
theorem minL_mem_aux : ∀ (l : List Int) (z : Int), l.foldl min z = z ∨ l.foldl min z ∈ l
  | [], z => .inl rfl
  | y :: l, z => by
    simp only [List.foldl_cons]
    rcases minL_mem_aux l (min z y) with h | h
    · rw [h]
      by_cases hc : z ≤ y
      · left; omega
      · right; rw [show min z y = y from by omega]; simp
    · right; simp [h]
theorem maxL_le_aux : ∀ (l : List Int) (z : Int), z ≤ l.foldl max z ∧ ∀ x ∈ l, x ≤ l.foldl max z
  | [], z => ⟨Int.le_refl _, fun x h => by simp at h⟩
  | y :: l, z => by
    obtain ⟨h1, h2⟩ := maxL_le_aux l (max z y)
    refine ⟨by simp only [List.foldl_cons]; omega, fun x hx => ?_⟩
    simp only [List.foldl_cons]
    rcases List.mem_cons.1 hx with rfl | hx
    · omega
    · exact h2 x hx
theorem maxL_mem_aux : ∀ (l : List Int) (z : Int), l.foldl max z = z ∨ l.foldl max z ∈ l
  | [], z => .inl rfl
  | y :: l, z => by
    simp only [List.foldl_cons]
    rcases maxL_mem_aux l (max z y) with h | h
    · rw [h]
      by_cases hc : y ≤ z
      · left; omega
      · right; rw [show max z y = y from by omega]; simp
    · right; simp [h]
theorem head_mem {l : List Int} (h : l ≠ []) : l.headD 0 ∈ l := by cases l with | nil => exact absurd rfl h | cons x l => simp
theorem minL_lt {l : List Int} (h : l ≠ []) {z : Int} : z ≤ minL l ↔ ∀ x ∈ l, z ≤ x := by
  constructor
  · intro h1 x hx; have := (minL_le_aux l (l.headD 0)).2 x hx; unfold minL at h1; omega
  · intro h1
    unfold minL
    rcases minL_mem_aux l (l.headD 0) with h2 | h2
    · rw [h2]; exact h1 _ (head_mem h)
    · exact h1 _ h2
theorem maxL_lt {l : List Int} (h : l ≠ []) {z : Int} : maxL l < z ↔ ∀ x ∈ l, x < z := by
  constructor
  · intro h1 x hx; have := (maxL_le_aux l (l.headD 0)).2 x hx; unfold maxL at h1; omega
  · intro h1
    unfold maxL
    rcases maxL_mem_aux l (l.headD 0) with h2 | h2
    · rw [h2]; exact h1 _ (head_mem h)
    · exact h1 _ h2
theorem min_c (w0 : World) (v : Value) (l : List Int) (h : IntsAt w0 v l) (hl : l ≠ []) : Ret Try.prog 85 #[v] w0 fun r w => r = .int .i64 (minL l) ∧ Ext w0 w := by
  obtain ⟨a, c, rfl⟩ := SlAt.form h
  have hlen : l.length ≤ 9223372036854775807 := by simpa using SlAt.le h
  simp only [List.length_map] at h ⊢
  have hpos : 0 < l.length := List.length_pos_iff.2 hl
  obtain ⟨b, o, rfl, hcl⟩ := ints_cells h hpos
  obtain ⟨x0, hx0⟩ := get_of_lt (l := l) (i := 0) hpos
  have hh : l.headD 0 = x0 := by cases l with | nil => simp at hx0 | cons y l => simpa using hx0
  refine Ret_of Try.func85 rfl Try.ntmps85 (Nat.le_of_ble_eq_true rfl) ?_
  have E : Chg none1 w0 w0 := Chg.refl _ _
  refine Wp_seq_region ?_
  refine WpL_val rfl rfl (by decide) (r_assign (v := (.int .i64 0)) rfl) ?_
  refine WpL_nil ?_
  refine Wp_seq ?_
  refine Wp_seq_region ?_
  refine WpL_val rfl rfl (by decide) (r_move (v := (.slice (some ⟨b, o, none⟩) l.length c)) rfl) ?_
  refine WpL_val rfl rfl (by decide) (r_lenSlice (ad := some ⟨b, o, none⟩) (n := l.length) (cap := c) Try.underlying22 rfl) ?_
  refine WpL_val rfl rfl (by decide) (r_lss (k := .i64) (a := ((l.length : Nat) : Int)) (b := 1) rfl rfl) ?_
  refine WpL_nil ?_
  have hc1 : (decide ((((l.length : Nat) : Int) : Int) < 1)) = false := by simp; omega
  refine Wp_cond_false (congrArg Value.bool hc1) ?_
  refine Wp_skip ?_
  refine thn_normal ?_
  refine Wp_seq_region ?_
  refine WpL_val rfl rfl (by decide) (r_move (v := (.slice (some ⟨b, o, none⟩) l.length c)) rfl) ?_
  refine WpL_val rfl rfl (by decide) (r_indexSlice (b := b) (o := o) (len := l.length) (cap := c) (i := 0) (o' := o + 0) rfl rfl rfl Try.underlying22 siz3 (by omega) (by omega)) ?_
  refine WpL_val rfl rfl (by decide) (r_load (v := (.int .i64 x0)) rfl flat3 (E.cell (fun f => f) (hcl 0 x0 hx0))) ?_
  refine WpL_val rfl rfl (by decide) (r_assign (v := (.int .i64 x0)) rfl) ?_
  refine WpL_nil ?_
  refine Wp_seq ?_
  refine Wp_seq_region ?_
  refine WpL_val rfl rfl (by decide) (r_assign (v := (.int .i64 1)) rfl) ?_
  refine WpL_nil ?_
  refine Wp_block ?_
  refine Wp_loop (fun nn_ σ W2 => ∃ (k : Nat) (m : Int), (∃ jj_, σ = upds jj_ [(0, (.slice (some ⟨b, o, none⟩) l.length c)), (4, (.int .i64 ((k : Nat) : Int))), (3, (.int .i64 m))]) ∧ Chg none1 w0 W2 ∧ (1 ≤ k ∧ k ≤ l.length) ∧ (m = (l.take k).foldl min (l.headD 0)) ∧ nn_ = l.length - k) (n := l.length - 1) ?_ ?_
  · exact ⟨1, x0, Fits.out ⟨rfl, rfl, rfl, trivial⟩, E, ⟨Nat.le_refl _, by omega⟩, (by rw [fold_take _ hx0, hh]; simp), rfl⟩
  · clear E
    rintro _ _ W2 ⟨k, m, ⟨j2, rfl⟩, E, hk, hm, rfl⟩
    refine Wp_seq ?_
    refine Wp_seq_region ?_
    refine WpL_val rfl rfl (by decide) (r_move (v := (.int .i64 ((k : Nat) : Int))) rfl) ?_
    refine WpL_val rfl rfl (by decide) (r_move (v := (.slice (some ⟨b, o, none⟩) l.length c)) rfl) ?_
    refine WpL_val rfl rfl (by decide) (r_lenSlice (ad := some ⟨b, o, none⟩) (n := l.length) (cap := c) Try.underlying22 rfl) ?_
    refine WpL_val rfl rfl (by decide) (r_lss (k := .i64) (a := ((k : Nat) : Int)) (b := ((l.length : Nat) : Int)) rfl rfl) ?_
    refine WpL_nil ?_
    refine Wp_cond (b := decide ((((k : Nat) : Int) : Int) < ((l.length : Nat) : Int))) rfl (fun hlt => ?_) (fun hlt => ?_)
    · have khlt := hlt
      replace hlt := of_decide_eq_true hlt
      obtain ⟨x, hx⟩ := get_of_lt (l := l) (i := k) (by omega)
      refine Wp_skip ?_
      refine thn_normal ?_
      refine Wp_seq ?_
      refine Wp_block ?_
      refine Wp_region ?_
      refine WpL_val rfl rfl (by decide) (r_move (v := (.int .i64 m)) rfl) ?_
      refine WpL_val rfl rfl (by decide) (r_move (v := (.slice (some ⟨b, o, none⟩) l.length c)) rfl) ?_
      refine WpL_val rfl rfl (by decide) (r_move (v := (.int .i64 ((k : Nat) : Int))) rfl) ?_
      refine WpL_val rfl rfl (by decide) (r_indexSlice (b := b) (o := o) (len := l.length) (cap := c) (i := k) (o' := o + k) rfl rfl rfl Try.underlying22 siz3 (by omega) (by omega)) ?_
      refine WpL_val rfl rfl (by decide) (r_load (v := (.int .i64 x)) rfl flat3 (E.cell (fun f => f) (hcl k x hx))) ?_
      refine WpL_val rfl rfl (by decide) (r_minI rfl rfl rfl) ?_
      refine WpL_val rfl rfl (by decide) (r_assign (v := (.int .i64 (min m x))) rfl) ?_
      refine WpL_nil ?_
      refine inB_normal ?_
      refine thn_normal ?_
      refine Wp_region ?_
      refine WpL_val rfl rfl (by decide) (r_move (v := (.int .i64 ((k : Nat) : Int))) rfl) ?_
      refine WpL_val rfl rfl (by decide) (r_add (k := .i64) (a := ((k : Nat) : Int)) (b := 1) (c := ((k : Nat) : Int) + 1) rfl rfl (wI64 (by omega))) ?_
      refine WpL_val rfl rfl (by decide) (r_assign (v := (.int .i64 (((k : Nat) : Int) + 1))) rfl) ?_
      refine WpL_nil ?_
      refine thn_normal ?_
      exact ⟨l.length - (k + 1), by omega, k + 1, (min m x), Fits.out ⟨rfl, rfl, rfl, trivial⟩, E, ⟨by omega, by omega⟩, (by rw [fold_take _ hx, hm]), rfl⟩
    · have khlt := hlt
      replace hlt := of_decide_eq_false hlt
      have hkk : k = l.length := by omega
      refine Wp_exit ?_
      refine thn_exit ?_
      refine thn_exit ?_
      refine inB_here ?_
      refine thn_normal ?_
      refine Wp_seq_region ?_
      refine WpL_val rfl rfl (by decide) (r_move (v := (.int .i64 m)) rfl) ?_
      refine WpL_val rfl rfl (by decide) (r_assign (v := (.int .i64 m)) rfl) ?_
      refine WpL_nil ?_
      refine Wp_ret ?_
      refine fin_tmp Try.results85 (v := (.int .i64 m)) rfl ?_
      refine ⟨int_eq ?_, E⟩
      rw [hm, hkk, List.take_length]; rfl
theorem max_c (w0 : World) (v : Value) (l : List Int) (h : IntsAt w0 v l) (hl : l ≠ []) : Ret Try.prog 86 #[v] w0 fun r w => r = .int .i64 (maxL l) ∧ Ext w0 w := by
  obtain ⟨a, c, rfl⟩ := SlAt.form h
  have hlen : l.length ≤ 9223372036854775807 := by simpa using SlAt.le h
  simp only [List.length_map] at h ⊢
  have hpos : 0 < l.length := List.length_pos_iff.2 hl
  obtain ⟨b, o, rfl, hcl⟩ := ints_cells h hpos
  obtain ⟨x0, hx0⟩ := get_of_lt (l := l) (i := 0) hpos
  have hh : l.headD 0 = x0 := by cases l with | nil => simp at hx0 | cons y l => simpa using hx0
  refine Ret_of Try.func86 rfl Try.ntmps86 (Nat.le_of_ble_eq_true rfl) ?_
  have E : Chg none1 w0 w0 := Chg.refl _ _
  refine Wp_seq_region ?_
  refine WpL_val rfl rfl (by decide) (r_assign (v := (.int .i64 0)) rfl) ?_
  refine WpL_nil ?_
  refine Wp_seq ?_
  refine Wp_seq_region ?_
  refine WpL_val rfl rfl (by decide) (r_move (v := (.slice (some ⟨b, o, none⟩) l.length c)) rfl) ?_
  refine WpL_val rfl rfl (by decide) (r_lenSlice (ad := some ⟨b, o, none⟩) (n := l.length) (cap := c) Try.underlying22 rfl) ?_
  refine WpL_val rfl rfl (by decide) (r_lss (k := .i64) (a := ((l.length : Nat) : Int)) (b := 1) rfl rfl) ?_
  refine WpL_nil ?_
  have hc1 : (decide ((((l.length : Nat) : Int) : Int) < 1)) = false := by simp; omega
  refine Wp_cond_false (congrArg Value.bool hc1) ?_
  refine Wp_skip ?_
  refine thn_normal ?_
  refine Wp_seq_region ?_
  refine WpL_val rfl rfl (by decide) (r_move (v := (.slice (some ⟨b, o, none⟩) l.length c)) rfl) ?_
  refine WpL_val rfl rfl (by decide) (r_indexSlice (b := b) (o := o) (len := l.length) (cap := c) (i := 0) (o' := o + 0) rfl rfl rfl Try.underlying22 siz3 (by omega) (by omega)) ?_
  refine WpL_val rfl rfl (by decide) (r_load (v := (.int .i64 x0)) rfl flat3 (E.cell (fun f => f) (hcl 0 x0 hx0))) ?_
  refine WpL_val rfl rfl (by decide) (r_assign (v := (.int .i64 x0)) rfl) ?_
  refine WpL_nil ?_
  refine Wp_seq ?_
  refine Wp_seq_region ?_
  refine WpL_val rfl rfl (by decide) (r_assign (v := (.int .i64 1)) rfl) ?_
  refine WpL_nil ?_
  refine Wp_block ?_
  refine Wp_loop (fun nn_ σ W2 => ∃ (k : Nat) (m : Int), (∃ jj_, σ = upds jj_ [(0, (.slice (some ⟨b, o, none⟩) l.length c)), (4, (.int .i64 ((k : Nat) : Int))), (3, (.int .i64 m))]) ∧ Chg none1 w0 W2 ∧ (1 ≤ k ∧ k ≤ l.length) ∧ (m = (l.take k).foldl max (l.headD 0)) ∧ nn_ = l.length - k) (n := l.length - 1) ?_ ?_
  · exact ⟨1, x0, Fits.out ⟨rfl, rfl, rfl, trivial⟩, E, ⟨Nat.le_refl _, by omega⟩, (by rw [fold_take _ hx0, hh]; simp), rfl⟩
  · clear E
    rintro _ _ W2 ⟨k, m, ⟨j2, rfl⟩, E, hk, hm, rfl⟩
    refine Wp_seq ?_
    refine Wp_seq_region ?_
    refine WpL_val rfl rfl (by decide) (r_move (v := (.int .i64 ((k : Nat) : Int))) rfl) ?_
    refine WpL_val rfl rfl (by decide) (r_move (v := (.slice (some ⟨b, o, none⟩) l.length c)) rfl) ?_
    refine WpL_val rfl rfl (by decide) (r_lenSlice (ad := some ⟨b, o, none⟩) (n := l.length) (cap := c) Try.underlying22 rfl) ?_
    refine WpL_val rfl rfl (by decide) (r_lss (k := .i64) (a := ((k : Nat) : Int)) (b := ((l.length : Nat) : Int)) rfl rfl) ?_
    refine WpL_nil ?_
    refine Wp_cond (b := decide ((((k : Nat) : Int) : Int) < ((l.length : Nat) : Int))) rfl (fun hlt => ?_) (fun hlt => ?_)
    · have khlt := hlt
      replace hlt := of_decide_eq_true hlt
      obtain ⟨x, hx⟩ := get_of_lt (l := l) (i := k) (by omega)
      refine Wp_skip ?_
      refine thn_normal ?_
      refine Wp_seq ?_
      refine Wp_block ?_
      refine Wp_region ?_
      refine WpL_val rfl rfl (by decide) (r_move (v := (.int .i64 m)) rfl) ?_
      refine WpL_val rfl rfl (by decide) (r_move (v := (.slice (some ⟨b, o, none⟩) l.length c)) rfl) ?_
      refine WpL_val rfl rfl (by decide) (r_move (v := (.int .i64 ((k : Nat) : Int))) rfl) ?_
      refine WpL_val rfl rfl (by decide) (r_indexSlice (b := b) (o := o) (len := l.length) (cap := c) (i := k) (o' := o + k) rfl rfl rfl Try.underlying22 siz3 (by omega) (by omega)) ?_
      refine WpL_val rfl rfl (by decide) (r_load (v := (.int .i64 x)) rfl flat3 (E.cell (fun f => f) (hcl k x hx))) ?_
      refine WpL_val rfl rfl (by decide) (r_maxI rfl rfl rfl) ?_
      refine WpL_val rfl rfl (by decide) (r_assign (v := (.int .i64 (max m x))) rfl) ?_
      refine WpL_nil ?_
      refine inB_normal ?_
      refine thn_normal ?_
      refine Wp_region ?_
      refine WpL_val rfl rfl (by decide) (r_move (v := (.int .i64 ((k : Nat) : Int))) rfl) ?_
      refine WpL_val rfl rfl (by decide) (r_add (k := .i64) (a := ((k : Nat) : Int)) (b := 1) (c := ((k : Nat) : Int) + 1) rfl rfl (wI64 (by omega))) ?_
      refine WpL_val rfl rfl (by decide) (r_assign (v := (.int .i64 (((k : Nat) : Int) + 1))) rfl) ?_
      refine WpL_nil ?_
      refine thn_normal ?_
      exact ⟨l.length - (k + 1), by omega, k + 1, (max m x), Fits.out ⟨rfl, rfl, rfl, trivial⟩, E, ⟨by omega, by omega⟩, (by rw [fold_take _ hx, hm]), rfl⟩
    · have khlt := hlt
      replace hlt := of_decide_eq_false hlt
      have hkk : k = l.length := by omega
      refine Wp_exit ?_
      refine thn_exit ?_
      refine thn_exit ?_
      refine inB_here ?_
      refine thn_normal ?_
      refine Wp_seq_region ?_
      refine WpL_val rfl rfl (by decide) (r_move (v := (.int .i64 m)) rfl) ?_
      refine WpL_val rfl rfl (by decide) (r_assign (v := (.int .i64 m)) rfl) ?_
      refine WpL_nil ?_
      refine Wp_ret ?_
      refine fin_tmp Try.results86 (v := (.int .i64 m)) rfl ?_
      refine ⟨int_eq ?_, E⟩
      rw [hm, hkk, List.take_length]; rfl
def badRow (n : Int) (r : List Int) : Bool := decide (minL r < -1) || decide (n ≤ maxL r)
def bad0 (d : Dfa) : Bool := (decide (d.start < 0) || decide ((d.next.length : Int) ≤ d.start)) || decide (minL d.accept < -1)
def formRow (c : Nat) (r : List Int) : Bool := decide ((r.length : Int) = 0) || decide ((r.length : Int) ≠ (c : Int))
def colsD (d : Dfa) : Nat := (d.next.headD []).length
def checkD (d : Dfa) : Int :=
  if 200 < d.next.length then 2 else if d.next.length = 0 ∨ d.accept.length ≠ d.next.length then 3 else if 16 < colsD d then 2
  else if d.next.any (formRow (colsD d)) = true then 3
  else if (bad0 d || d.next.any (badRow d.next.length)) = true then 1 else 0
set_option maxHeartbeats 4000000 in
theorem dcheck_c (w0 : World) (d : Dfa) (vs : List Value) (hd : DfaAt w0 d vs) : Ret Try.prog 50 #[.agg vs.toArray] w0 fun r w => r = .int .i64 (checkD d) ∧ Ext w0 w := by
  obtain ⟨aa, ac, na, nc, rfl, ha, hn⟩ := hd
  have hal : d.accept.length ≤ 9223372036854775807 := by simpa using SlAt.le ha
  obtain ⟨_, _, hv, hcap, hle⟩ := hn.form
  simp only [Value.slice.injEq] at hv
  obtain ⟨rfl, _, rfl⟩ := hv
  refine Ret_of Try.func50 rfl Try.ntmps50 (Nat.le_of_ble_eq_true rfl) ?_
  have E : Chg none1 w0 w0 := Chg.refl _ _
  refine Wp_seq_region ?_
  refine s_box (v := (.agg #[(.int .i64 d.start), (.slice aa d.accept.length ac), (.slice na d.next.length nc)])) (c := #[(.int .i64 d.start), (.slice aa d.accept.length ac), (.slice na d.next.length nc)]) (by decide) rfl rfl ?_
  intro br wr Nr
  have Fr := Nr.ge E
  replace E := E.ext Nr.ext
  have Br := Nr.blk
  refine WpL_val rfl rfl (by decide) (r_assign (v := (.int .i64 0)) rfl) ?_
  refine WpL_nil ?_
  refine Wp_seq_region ?_
  refine WpL_val rfl rfl (by decide) (r_fieldAddr (b := br) (o := 0) (o' := 2) rfl Try.underlying25 rfl siz23 rfl) ?_
  refine WpL_val rfl rfl (by decide) (r_load (v := (.slice na d.next.length nc)) rfl flat23 (Br.cell rfl)) ?_
  refine WpL_val rfl rfl (by decide) (r_lenSlice (ad := na) (n := d.next.length) (cap := nc) Try.underlying23 rfl) ?_
  refine WpL_val rfl rfl (by decide) (r_assign (v := (.int .i64 ((d.next.length : Nat) : Int))) rfl) ?_
  refine WpL_nil ?_
  refine Wp_seq ?_
  refine Wp_block ?_
  refine Wp_seq_region ?_
  refine WpL_val rfl rfl (by decide) (r_move (v := (.int .i64 ((d.next.length : Nat) : Int))) rfl) ?_
  refine WpL_val rfl rfl (by decide) (r_gtr (k := .i64) (a := ((d.next.length : Nat) : Int)) (b := 200) rfl rfl) ?_
  refine WpL_val rfl rfl (by decide) (r_assign (v := (.bool (decide ((200 : Int) < ((d.next.length : Nat) : Int))))) rfl) ?_
  refine WpL_nil ?_
  refine Wp_cond (b := decide ((200 : Int) < ((d.next.length : Nat) : Int))) rfl (fun h1 => ?_) (fun h1 => ?_)
  · have kh1 := h1
    replace h1 := of_decide_eq_true h1
    refine Wp_seq_region ?_
    refine WpL_val rfl rfl (by decide) (r_assign (v := (.int .i64 2)) rfl) ?_
    refine WpL_nil ?_
    refine Wp_ret ?_
    refine inB_ret ?_
    refine thn_ret ?_
    refine fin_tmp Try.results50 (v := (.int .i64 2)) rfl ?_
    exact ⟨int_eq (by unfold checkD; rw [if_pos (by omega)]), E⟩
  · have kh1 := h1
    replace h1 := of_decide_eq_false h1
    refine Wp_seq_region ?_
    refine WpL_val rfl rfl (by decide) (r_move (v := (.int .i64 ((d.next.length : Nat) : Int))) rfl) ?_
    obtain ⟨e2, he2⟩ : ∃ e, (decide ((((d.next.length : Nat) : Int) : Int) = 0)) = e := ⟨_, rfl⟩
    refine WpL_val rfl rfl (by decide) ((r_eql (k := .i64) (a := ((d.next.length : Nat) : Int)) (b := 0) rfl rfl).trans (by rw [he2]; try rfl)) ?_
    refine WpL_val rfl rfl (by decide) (r_move (v := (.bool e2)) rfl) ?_
    refine WpL_guard_any (oj := _) (gv := (.bool e2)) (u := (bif e2 then undef else (.pointer (some ⟨br, 1, none⟩)))) rfl rfl (by decide) (by decide) rfl (by cases e2 <;> first | exact Or.inr ⟨Or.inl rfl, rfl⟩ | exact Or.inr ⟨Or.inr rfl, rfl⟩ | exact Or.inl ⟨rfl, r_fieldAddr (b := br) (o := 0) (o' := 1) rfl Try.underlying25 rfl siz22 rfl⟩) ?_
    refine WpL_guard_any (oj := _) (gv := (.bool e2)) (u := (bif e2 then undef else (.slice aa d.accept.length ac))) rfl rfl (by decide) (by decide) rfl (by cases e2 <;> first | exact Or.inr ⟨Or.inl rfl, rfl⟩ | exact Or.inr ⟨Or.inr rfl, rfl⟩ | exact Or.inl ⟨rfl, r_load (v := (.slice aa d.accept.length ac)) rfl flat22 (Br.cell rfl)⟩) ?_
    refine WpL_guard_any (oj := _) (gv := (.bool e2)) (u := (bif e2 then undef else (.int .i64 ((d.accept.length : Nat) : Int)))) rfl rfl (by decide) (by decide) rfl (by cases e2 <;> first | exact Or.inr ⟨Or.inl rfl, rfl⟩ | exact Or.inr ⟨Or.inr rfl, rfl⟩ | exact Or.inl ⟨rfl, r_lenSlice (ad := aa) (n := d.accept.length) (cap := ac) Try.underlying22 rfl⟩) ?_
    refine WpL_guard_any (oj := _) (gv := (.bool e2)) (u := (bif e2 then undef else (.int .i64 ((d.next.length : Nat) : Int)))) rfl rfl (by decide) (by decide) rfl (by cases e2 <;> first | exact Or.inr ⟨Or.inl rfl, rfl⟩ | exact Or.inr ⟨Or.inr rfl, rfl⟩ | exact Or.inl ⟨rfl, r_move (v := (.int .i64 ((d.next.length : Nat) : Int))) rfl⟩) ?_
    obtain ⟨e3, he3⟩ : ∃ e, (decide ((((d.accept.length : Nat) : Int) : Int) ≠ ((d.next.length : Nat) : Int))) = e := ⟨_, rfl⟩
    refine WpL_guard_any (oj := _) (gv := (.bool e2)) (u := (bif e2 then undef else (.bool e3))) rfl rfl (by decide) (by decide) rfl (by cases e2 <;> first | exact Or.inr ⟨Or.inl rfl, rfl⟩ | exact Or.inr ⟨Or.inr rfl, rfl⟩ | exact Or.inl ⟨rfl, (r_neq (k := .i64) (a := ((d.accept.length : Nat) : Int)) (b := ((d.next.length : Nat) : Int)) rfl rfl).trans (by rw [he3]; try rfl)⟩) ?_
    obtain ⟨e4, he4⟩ : ∃ e, (e2 || e3) = e := ⟨_, rfl⟩
    refine WpL_val rfl rfl (by decide) (r_pick (b := e2) (v := .bool e4) rfl (by rw [← he4]; cases e2 <;> rfl)) ?_
    refine WpL_val rfl rfl (by decide) (r_assign (v := (.bool e4)) rfl) ?_
    refine WpL_nil ?_
    subst he4
    subst he3
    subst he2
    refine Wp_cond (b := ((decide ((((d.next.length : Nat) : Int) : Int) = 0)) || (decide ((((d.accept.length : Nat) : Int) : Int) ≠ ((d.next.length : Nat) : Int))))) rfl (fun h2 => ?_) (fun h2 => ?_)
    · have kh2 := h2
      refine Wp_seq_region ?_
      refine WpL_val rfl rfl (by decide) (r_assign (v := (.int .i64 3)) rfl) ?_
      refine WpL_nil ?_
      refine Wp_ret ?_
      refine inB_ret ?_
      refine thn_ret ?_
      refine fin_tmp Try.results50 (v := (.int .i64 3)) rfl ?_
      exact ⟨int_eq (by unfold checkD; rw [if_neg (by omega), if_pos (by simp only [Bool.or_eq_true, decide_eq_true_eq] at h2; omega)]), E⟩
    · have kh2 := h2
      simp only [Bool.or_eq_false_iff, decide_eq_false_iff_not] at h2
      have h20 : ¬ (d.next.length = 0 ∨ d.accept.length ≠ d.next.length) := by omega
      obtain ⟨row0, hrow0⟩ := get_of_lt (l := d.next) (i := 0) (by omega)
      have hc0 : colsD d = row0.length := by unfold colsD; cases hq : d.next with | nil => rw [hq] at hrow0; simp at hrow0 | cons y l => rw [hq] at hrow0; simp at hrow0; simp [hrow0]
      obtain ⟨nb, no, hna, hncl⟩ := intss_cells hn (by omega)
      subst hna
      obtain ⟨ra0, rc0, hcell0, hints0⟩ := hncl 0 row0 hrow0
      refine Wp_seq_region ?_
      refine WpL_val rfl rfl (by decide) (r_fieldAddr (b := br) (o := 0) (o' := 2) rfl Try.underlying25 rfl siz23 rfl) ?_
      refine WpL_val rfl rfl (by decide) (r_load (v := (.slice (some ⟨nb, no, none⟩) d.next.length nc)) rfl flat23 (Br.cell rfl)) ?_
      refine WpL_val rfl rfl (by decide) (r_indexSlice (b := nb) (o := no) (len := d.next.length) (cap := nc) (i := 0) (o' := no + 0) rfl rfl rfl Try.underlying23 siz22 (by omega) (by omega)) ?_
      refine WpL_val rfl rfl (by decide) (r_load (v := (.slice ra0 row0.length rc0)) rfl flat22 (E.cell (fun f => f) hcell0)) ?_
      refine WpL_val rfl rfl (by decide) (r_lenSlice (ad := ra0) (n := row0.length) (cap := rc0) Try.underlying22 rfl) ?_
      refine WpL_val rfl rfl (by decide) (r_gtr (k := .i64) (a := ((row0.length : Nat) : Int)) (b := 16) rfl rfl) ?_
      refine WpL_val rfl rfl (by decide) (r_assign (v := (.bool (decide ((16 : Int) < ((row0.length : Nat) : Int))))) rfl) ?_
      refine WpL_nil ?_
      refine Wp_cond (b := decide ((16 : Int) < ((row0.length : Nat) : Int))) rfl (fun h3 => ?_) (fun h3 => ?_)
      · have kh3 := h3
        replace h3 := of_decide_eq_true h3
        refine Wp_seq_region ?_
        refine WpL_val rfl rfl (by decide) (r_assign (v := (.int .i64 2)) rfl) ?_
        refine WpL_nil ?_
        refine Wp_ret ?_
        refine inB_ret ?_
        refine thn_ret ?_
        refine fin_tmp Try.results50 (v := (.int .i64 2)) rfl ?_
        exact ⟨int_eq (by unfold checkD; rw [if_neg (by omega), if_neg h20, if_pos (by omega)]), E⟩
      · have kh3 := h3
        replace h3 := of_decide_eq_false h3
        refine Wp_skip ?_
        refine inB_normal ?_
        refine thn_normal ?_
        refine Wp_seq ?_
        refine Wp_seq_region ?_
        refine WpL_val rfl rfl (by decide) (r_fieldAddr (b := br) (o := 0) (o' := 2) rfl Try.underlying25 rfl siz23 rfl) ?_
        refine WpL_val rfl rfl (by decide) (r_load (v := (.slice (some ⟨nb, no, none⟩) d.next.length nc)) rfl flat23 (Br.cell rfl)) ?_
        refine WpL_val rfl rfl (by decide) (r_lenSlice (ad := some ⟨nb, no, none⟩) (n := d.next.length) (cap := nc) Try.underlying23 rfl) ?_
        refine WpL_val rfl rfl (by decide) (r_move (v := (.int .i64 0)) rfl) ?_
        refine WpL_nil ?_
        refine Wp_block ?_
        refine Wp_loop (fun nn_ σ W7 => ∃ (k : Nat), (∃ jj_, σ = upds jj_ [(1, (.pointer (some ⟨br, 0, none⟩))), (3, (.int .i64 ((d.next.length : Nat) : Int))), (33, (.slice (some ⟨nb, no, none⟩) d.next.length nc)), (34, (.int .i64 ((d.next.length : Nat) : Int))), (35, (.int .i64 ((k : Nat) : Int)))]) ∧ Chg none1 w0 W7 ∧ Blk W7 br #[(.int .i64 d.start), (.slice aa d.accept.length ac), (.slice (some ⟨nb, no, none⟩) d.next.length nc)] 25 ∧ (k ≤ d.next.length) ∧ ((d.next.take k).any (formRow (colsD d)) = false) ∧ nn_ = d.next.length - k) (n := d.next.length - 0) ?_ ?_
        · exact ⟨0, Fits.out ⟨rfl, rfl, rfl, rfl, rfl, trivial⟩, E, Br, Nat.zero_le _, rfl, rfl⟩
        · clear E Br
          rintro _ _ W7 ⟨k, ⟨j7, rfl⟩, E, Br, hk, hno, rfl⟩
          refine Wp_seq_region ?_
          refine WpL_val rfl rfl (by decide) (r_lss (k := .i64) (a := ((k : Nat) : Int)) (b := ((d.next.length : Nat) : Int)) rfl rfl) ?_
          refine WpL_nil ?_
          refine Wp_seq ?_
          refine Wp_cond (b := decide ((((k : Nat) : Int) : Int) < ((d.next.length : Nat) : Int))) rfl (fun hlt => ?_) (fun hlt => ?_)
          · have khlt := hlt
            replace hlt := of_decide_eq_true hlt
            obtain ⟨row, hrow⟩ := get_of_lt (l := d.next) (i := k) (by omega)
            obtain ⟨ra, rc, hcell, hints⟩ := hncl k row hrow
            have hrl : row.length ≤ 9223372036854775807 := by simpa using SlAt.le hints
            refine Wp_skip ?_
            refine thn_normal ?_
            refine Wp_seq ?_
            refine Wp_block ?_
            refine Wp_seq_region ?_
            refine WpL_val rfl rfl (by decide) (r_indexSlice (b := nb) (o := no) (len := d.next.length) (cap := nc) (i := k) (o' := no + k) rfl rfl rfl Try.underlying23 siz22 (by omega) (by omega)) ?_
            refine WpL_val rfl rfl (by decide) (r_load (v := (.slice ra row.length rc)) rfl flat22 (E.cell (fun f => f) hcell)) ?_
            refine WpL_val rfl rfl (by decide) (r_assign (v := (.slice ra row.length rc)) rfl) ?_
            refine WpL_nil ?_
            refine Wp_seq_region ?_
            refine WpL_val rfl rfl (by decide) (r_move (v := (.slice ra row.length rc)) rfl) ?_
            refine WpL_val rfl rfl (by decide) (r_lenSlice (ad := ra) (n := row.length) (cap := rc) Try.underlying22 rfl) ?_
            obtain ⟨e9, he9⟩ : ∃ e, (decide ((((row.length : Nat) : Int) : Int) = 0)) = e := ⟨_, rfl⟩
            refine WpL_val rfl rfl (by decide) ((r_eql (k := .i64) (a := ((row.length : Nat) : Int)) (b := 0) rfl rfl).trans (by rw [he9]; try rfl)) ?_
            refine WpL_val rfl rfl (by decide) (r_move (v := (.bool e9)) rfl) ?_
            refine WpL_guard_any (oj := _) (gv := (.bool e9)) (u := (bif e9 then undef else (.slice ra row.length rc))) rfl rfl (by decide) (by decide) rfl (by cases e9 <;> first | exact Or.inr ⟨Or.inl rfl, rfl⟩ | exact Or.inr ⟨Or.inr rfl, rfl⟩ | exact Or.inl ⟨rfl, r_move (v := (.slice ra row.length rc)) rfl⟩) ?_
            refine WpL_guard_any (oj := _) (gv := (.bool e9)) (u := (bif e9 then undef else (.int .i64 ((row.length : Nat) : Int)))) rfl rfl (by decide) (by decide) rfl (by cases e9 <;> first | exact Or.inr ⟨Or.inl rfl, rfl⟩ | exact Or.inr ⟨Or.inr rfl, rfl⟩ | exact Or.inl ⟨rfl, r_lenSlice (ad := ra) (n := row.length) (cap := rc) Try.underlying22 rfl⟩) ?_
            refine WpL_guard_any (oj := _) (gv := (.bool e9)) (u := (bif e9 then undef else (.pointer (some ⟨br, 2, none⟩)))) rfl rfl (by decide) (by decide) rfl (by cases e9 <;> first | exact Or.inr ⟨Or.inl rfl, rfl⟩ | exact Or.inr ⟨Or.inr rfl, rfl⟩ | exact Or.inl ⟨rfl, r_fieldAddr (b := br) (o := 0) (o' := 2) rfl Try.underlying25 rfl siz23 rfl⟩) ?_
            refine WpL_guard_any (oj := _) (gv := (.bool e9)) (u := (bif e9 then undef else (.slice (some ⟨nb, no, none⟩) d.next.length nc))) rfl rfl (by decide) (by decide) rfl (by cases e9 <;> first | exact Or.inr ⟨Or.inl rfl, rfl⟩ | exact Or.inr ⟨Or.inr rfl, rfl⟩ | exact Or.inl ⟨rfl, r_load (v := (.slice (some ⟨nb, no, none⟩) d.next.length nc)) rfl flat23 (Br.cell rfl)⟩) ?_
            refine WpL_guard_any (oj := _) (gv := (.bool e9)) (u := (bif e9 then undef else (.pointer (some ⟨nb, no + 0, none⟩)))) rfl rfl (by decide) (by decide) rfl (by cases e9 <;> first | exact Or.inr ⟨Or.inl rfl, rfl⟩ | exact Or.inr ⟨Or.inr rfl, rfl⟩ | exact Or.inl ⟨rfl, r_indexSlice (b := nb) (o := no) (len := d.next.length) (cap := nc) (i := 0) (o' := no + 0) rfl rfl rfl Try.underlying23 siz22 (by have := of_decide_eq_false he9; omega) (by omega)⟩) ?_
            refine WpL_guard_any (oj := _) (gv := (.bool e9)) (u := (bif e9 then undef else (.slice ra0 row0.length rc0))) rfl rfl (by decide) (by decide) rfl (by cases e9 <;> first | exact Or.inr ⟨Or.inl rfl, rfl⟩ | exact Or.inr ⟨Or.inr rfl, rfl⟩ | exact Or.inl ⟨rfl, r_load (v := (.slice ra0 row0.length rc0)) rfl flat22 (E.cell (fun f => f) hcell0)⟩) ?_
            refine WpL_guard_any (oj := _) (gv := (.bool e9)) (u := (bif e9 then undef else (.int .i64 ((row0.length : Nat) : Int)))) rfl rfl (by decide) (by decide) rfl (by cases e9 <;> first | exact Or.inr ⟨Or.inl rfl, rfl⟩ | exact Or.inr ⟨Or.inr rfl, rfl⟩ | exact Or.inl ⟨rfl, r_lenSlice (ad := ra0) (n := row0.length) (cap := rc0) Try.underlying22 rfl⟩) ?_
            obtain ⟨e10, he10⟩ : ∃ e, (decide ((((row.length : Nat) : Int) : Int) ≠ ((row0.length : Nat) : Int))) = e := ⟨_, rfl⟩
            refine WpL_guard_any (oj := _) (gv := (.bool e9)) (u := (bif e9 then undef else (.bool e10))) rfl rfl (by decide) (by decide) rfl (by cases e9 <;> first | exact Or.inr ⟨Or.inl rfl, rfl⟩ | exact Or.inr ⟨Or.inr rfl, rfl⟩ | exact Or.inl ⟨rfl, (r_neq (k := .i64) (a := ((row.length : Nat) : Int)) (b := ((row0.length : Nat) : Int)) rfl rfl).trans (by rw [he10]; try rfl)⟩) ?_
            obtain ⟨e11, he11⟩ : ∃ e, (e9 || e10) = e := ⟨_, rfl⟩
            refine WpL_val rfl rfl (by decide) (r_pick (b := e9) (v := .bool e11) rfl (by rw [← he11]; cases e9 <;> rfl)) ?_
            refine WpL_nil ?_
            subst he11
            subst he10
            subst he9
            refine Wp_cond (b := ((decide ((((row.length : Nat) : Int) : Int) = 0)) || (decide ((((row.length : Nat) : Int) : Int) ≠ ((row0.length : Nat) : Int))))) rfl (fun hf => ?_) (fun hf => ?_)
            · have khf := hf
              refine Wp_seq_region ?_
              refine WpL_val rfl rfl (by decide) (r_assign (v := (.int .i64 3)) rfl) ?_
              refine WpL_nil ?_
              refine Wp_ret ?_
              refine inB_ret ?_
              refine thn_ret ?_
              refine thn_ret ?_
              refine inB_ret ?_
              refine thn_ret ?_
              refine fin_tmp Try.results50 (v := (.int .i64 3)) rfl ?_
              refine ⟨int_eq ?_, E⟩
              unfold checkD
              rw [if_neg (by omega), if_neg h20, if_neg (by omega), if_pos]
              exact List.any_eq_true.2 ⟨row, List.mem_of_getElem? hrow, by unfold formRow; rw [hc0]; simpa using hf⟩
            · have khf := hf
              refine Wp_skip ?_
              refine inB_normal ?_
              refine thn_normal ?_
              refine Wp_region ?_
              refine WpL_val rfl rfl (by decide) (r_add (k := .i64) (a := ((k : Nat) : Int)) (b := 1) (c := ((k : Nat) : Int) + 1) rfl rfl (wI64 (by omega))) ?_
              refine WpL_val rfl rfl (by decide) (r_move (v := (.int .i64 (((k : Nat) : Int) + 1))) rfl) ?_
              refine WpL_nil ?_
              refine thn_normal ?_
              exact ⟨d.next.length - (k + 1), by omega, k + 1, Fits.out ⟨rfl, rfl, rfl, rfl, rfl, trivial⟩, E, Br, (by omega), (by rw [List.take_add_one, hrow, List.any_append, hno]; simp only [Option.toList_some, List.any_cons, List.any_nil, Bool.or_false, Bool.false_or]; unfold formRow; rw [hc0]; simpa using hf), rfl⟩
          · have khlt := hlt
            replace hlt := of_decide_eq_false hlt
            have hkk : k = d.next.length := by omega
            rw [hkk, List.take_length] at hno
            have hrows : ∀ row ∈ d.next, row ≠ [] := fun row hr he => by have := (List.any_eq_false.1 hno) row hr; simp [formRow, he] at this
            have hane : d.accept ≠ [] := fun he => by rw [he] at h20; simp at h20; omega
            refine Wp_exit ?_
            refine thn_exit ?_
            refine thn_exit ?_
            refine inB_here ?_
            refine thn_normal ?_
            refine Wp_seq_region ?_
            refine WpL_val rfl rfl (by decide) (r_fieldAddr (b := br) (o := 0) (o' := 0) rfl Try.underlying25 rfl siz3 rfl) ?_
            refine WpL_val rfl rfl (by decide) (r_load (v := (.int .i64 d.start)) rfl flat3 (Br.cell rfl)) ?_
            refine WpL_val rfl rfl (by decide) (r_lss (k := .i64) (a := d.start) (b := 0) rfl rfl) ?_
            refine WpL_val rfl rfl (by decide) (r_move (v := (.bool (decide ((d.start : Int) < 0)))) rfl) ?_
            rcases Bool.eq_false_or_eq_true (decide ((d.start : Int) < 0)) with g1 | g1
            · have kg1 := g1
              replace kg1 := of_decide_eq_true kg1
              refine WpL_guard_no (oj := _) rfl rfl (by decide) (v := .bool true) (congrArg Value.bool g1) (Or.inl rfl) ?_
              refine WpL_guard_no (oj := _) rfl rfl (by decide) (v := .bool true) (congrArg Value.bool g1) (Or.inl rfl) ?_
              refine WpL_guard_no (oj := _) rfl rfl (by decide) (v := .bool true) (congrArg Value.bool g1) (Or.inl rfl) ?_
              refine WpL_guard_no (oj := _) rfl rfl (by decide) (v := .bool true) (congrArg Value.bool g1) (Or.inl rfl) ?_
              refine WpL_val rfl rfl (by decide) (r_pick (b := decide ((d.start : Int) < 0)) (v := (.bool true)) rfl (by rw [g1]; rfl)) ?_
              refine WpL_val rfl rfl (by decide) (r_move (v := (.bool true)) rfl) ?_
              refine WpL_guard_no (oj := _) rfl rfl (by decide) (v := .bool true) rfl (Or.inl rfl) ?_
              refine WpL_guard_no (oj := _) rfl rfl (by decide) (v := .bool true) rfl (Or.inl rfl) ?_
              refine WpL_guard_no (oj := _) rfl rfl (by decide) (v := .bool true) rfl (Or.inl rfl) ?_
              refine WpL_guard_no (oj := _) rfl rfl (by decide) (v := .bool true) rfl (Or.inl rfl) ?_
              refine WpL_val rfl rfl (by decide) (r_pick (b := true) (v := (.bool true)) rfl rfl) ?_
              refine WpL_val rfl rfl (by decide) (r_assign (v := (.bool true)) rfl) ?_
              refine WpL_nil ?_
              refine Wp_seq ?_
              refine Wp_seq_region ?_
              refine WpL_val rfl rfl (by decide) (r_fieldAddr (b := br) (o := 0) (o' := 2) rfl Try.underlying25 rfl siz23 rfl) ?_
              refine WpL_val rfl rfl (by decide) (r_load (v := (.slice (some ⟨nb, no, none⟩) d.next.length nc)) rfl flat23 (Br.cell rfl)) ?_
              refine WpL_val rfl rfl (by decide) (r_lenSlice (ad := some ⟨nb, no, none⟩) (n := d.next.length) (cap := nc) Try.underlying23 rfl) ?_
              refine WpL_val rfl rfl (by decide) (r_move (v := (.int .i64 0)) rfl) ?_
              refine WpL_nil ?_
              refine Wp_block ?_
              refine Wp_loop (fun nn_ σ W14 => ∃ (q : Nat) (bad : Bool), (∃ jj_, σ = upds jj_ [(3, (.int .i64 ((d.next.length : Nat) : Int))), (69, (.slice (some ⟨nb, no, none⟩) d.next.length nc)), (70, (.int .i64 ((d.next.length : Nat) : Int))), (71, (.int .i64 ((q : Nat) : Int))), (6, (.bool bad))]) ∧ Chg none1 w0 W14 ∧ Blk W14 br #[(.int .i64 d.start), (.slice aa d.accept.length ac), (.slice (some ⟨nb, no, none⟩) d.next.length nc)] 25 ∧ (q ≤ d.next.length) ∧ (bad = (bad0 d || (d.next.take q).any (badRow d.next.length))) ∧ nn_ = d.next.length - q) (n := d.next.length - 0) ?_ ?_
              · exact ⟨0, true, Fits.out ⟨rfl, rfl, rfl, rfl, rfl, trivial⟩, E, Br, Nat.zero_le _, (by simp only [List.take_zero, List.any_nil, Bool.or_false]; unfold bad0; rw [g1]; rfl), rfl⟩
              · clear E Br
                rintro _ _ W14 ⟨q, bad, ⟨j14, rfl⟩, E, Br, hq, hbad, rfl⟩
                refine Wp_seq_region ?_
                refine WpL_val rfl rfl (by decide) (r_lss (k := .i64) (a := ((q : Nat) : Int)) (b := ((d.next.length : Nat) : Int)) rfl rfl) ?_
                refine WpL_nil ?_
                refine Wp_seq ?_
                refine Wp_cond (b := decide ((((q : Nat) : Int) : Int) < ((d.next.length : Nat) : Int))) rfl (fun hltq => ?_) (fun hltq => ?_)
                · have khltq := hltq
                  replace hltq := of_decide_eq_true hltq
                  obtain ⟨row, hrow⟩ := get_of_lt (l := d.next) (i := q) (by omega)
                  obtain ⟨ra, rc, hcell, hints⟩ := hncl q row hrow
                  have hrne : row ≠ [] := hrows row (List.mem_of_getElem? hrow)
                  have hsucc : (bad0 d || (d.next.take (q + 1)).any (badRow d.next.length)) = (bad || badRow d.next.length row) := by rw [List.take_add_one, hrow, List.any_append, hbad]; simp [Bool.or_assoc]
                  refine Wp_skip ?_
                  refine thn_normal ?_
                  refine Wp_seq ?_
                  refine Wp_block ?_
                  refine Wp_seq_region ?_
                  refine WpL_val rfl rfl (by decide) (r_indexSlice (b := nb) (o := no) (len := d.next.length) (cap := nc) (i := q) (o' := no + q) rfl rfl rfl Try.underlying23 siz22 (by omega) (by omega)) ?_
                  refine WpL_val rfl rfl (by decide) (r_load (v := (.slice ra row.length rc)) rfl flat22 (E.cell (fun f => f) hcell)) ?_
                  refine WpL_val rfl rfl (by decide) (r_assign (v := (.slice ra row.length rc)) rfl) ?_
                  refine WpL_nil ?_
                  refine Wp_region ?_
                  refine WpL_val rfl rfl (by decide) (r_move (v := (.bool bad)) rfl) ?_
                  refine WpL_val rfl rfl (by decide) (r_move (v := (.bool bad)) rfl) ?_
                  rcases Bool.eq_false_or_eq_true (bad) with g5 | g5
                  · have kg5 := g5
                    refine WpL_guard_no (oj := _) rfl rfl (by decide) (v := .bool true) (congrArg Value.bool g5) (Or.inl rfl) ?_
                    refine WpL_guard_no (oj := _) rfl rfl (by decide) (v := .bool true) (congrArg Value.bool g5) (Or.inl rfl) ?_
                    refine WpL_guard_no (oj := _) rfl rfl (by decide) (v := .bool true) (congrArg Value.bool g5) (Or.inl rfl) ?_
                    refine WpL_val rfl rfl (by decide) (r_pick (b := bad) (v := (.bool true)) rfl (by rw [g5]; rfl)) ?_
                    refine WpL_val rfl rfl (by decide) (r_move (v := (.bool true)) rfl) ?_
                    refine WpL_guard_no (oj := _) rfl rfl (by decide) (v := .bool true) rfl (Or.inl rfl) ?_
                    refine WpL_guard_no (oj := _) rfl rfl (by decide) (v := .bool true) rfl (Or.inl rfl) ?_
                    refine WpL_guard_no (oj := _) rfl rfl (by decide) (v := .bool true) rfl (Or.inl rfl) ?_
                    refine WpL_guard_no (oj := _) rfl rfl (by decide) (v := .bool true) rfl (Or.inl rfl) ?_
                    refine WpL_val rfl rfl (by decide) (r_pick (b := true) (v := (.bool true)) rfl rfl) ?_
                    refine WpL_val rfl rfl (by decide) (r_assign (v := (.bool true)) rfl) ?_
                    refine WpL_nil ?_
                    refine inB_normal ?_
                    refine thn_normal ?_
                    refine Wp_region ?_
                    refine WpL_val rfl rfl (by decide) (r_add (k := .i64) (a := ((q : Nat) : Int)) (b := 1) (c := ((q : Nat) : Int) + 1) rfl rfl (wI64 (by omega))) ?_
                    refine WpL_val rfl rfl (by decide) (r_move (v := (.int .i64 (((q : Nat) : Int) + 1))) rfl) ?_
                    refine WpL_nil ?_
                    refine thn_normal ?_
                    exact ⟨d.next.length - (q + 1), by omega, q + 1, true, Fits.out ⟨rfl, rfl, rfl, rfl, rfl, trivial⟩, E, Br, (by omega), (by rw [hsucc, g5]; rfl), rfl⟩
                  · have kg5 := g5
                    refine WpL_guard_yes (oj := _) rfl rfl (by decide) (congrArg Value.bool g5) ?_
                    refine WpL_val rfl rfl (by decide) (r_move (v := (.slice ra row.length rc)) rfl) ?_
                    refine WpL_guard_yes (oj := _) rfl rfl (by decide) (congrArg Value.bool g5) ?_
                    refine WpL_enter rfl rfl (by decide) (r_callF (vs := [(.slice ra row.length rc)]) Try.func85 nm85 bd85 rfl) (min_c _ _ row (hints.ext E) hrne) ?_
                    rintro _ w19 ⟨rfl, X19⟩
                    replace Br := X19.keep Br
                    replace E := E.ext X19
                    refine WpL_guard_yes (oj := _) rfl rfl (by decide) (congrArg Value.bool g5) ?_
                    refine WpL_val rfl rfl (by decide) (r_lss (k := .i64) (a := minL row) (b := (-1)) rfl rfl) ?_
                    refine WpL_val rfl rfl (by decide) (r_pick (b := bad) (v := (.bool (decide ((minL row : Int) < (-1))))) rfl (by rw [g5]; rfl)) ?_
                    refine WpL_val rfl rfl (by decide) (r_move (v := (.bool (decide ((minL row : Int) < (-1))))) rfl) ?_
                    rcases Bool.eq_false_or_eq_true (decide ((minL row : Int) < (-1))) with g6 | g6
                    · have kg6 := g6
                      replace kg6 := of_decide_eq_true kg6
                      refine WpL_guard_no (oj := _) rfl rfl (by decide) (v := .bool true) (congrArg Value.bool g6) (Or.inl rfl) ?_
                      refine WpL_guard_no (oj := _) rfl rfl (by decide) (v := .bool true) (congrArg Value.bool g6) (Or.inl rfl) ?_
                      refine WpL_guard_no (oj := _) rfl rfl (by decide) (v := .bool true) (congrArg Value.bool g6) (Or.inl rfl) ?_
                      refine WpL_guard_no (oj := _) rfl rfl (by decide) (v := .bool true) (congrArg Value.bool g6) (Or.inl rfl) ?_
                      refine WpL_val rfl rfl (by decide) (r_pick (b := decide ((minL row : Int) < (-1))) (v := (.bool true)) rfl (by rw [g6]; rfl)) ?_
                      refine WpL_val rfl rfl (by decide) (r_assign (v := (.bool true)) rfl) ?_
                      refine WpL_nil ?_
                      refine inB_normal ?_
                      refine thn_normal ?_
                      refine Wp_region ?_
                      refine WpL_val rfl rfl (by decide) (r_add (k := .i64) (a := ((q : Nat) : Int)) (b := 1) (c := ((q : Nat) : Int) + 1) rfl rfl (wI64 (by omega))) ?_
                      refine WpL_val rfl rfl (by decide) (r_move (v := (.int .i64 (((q : Nat) : Int) + 1))) rfl) ?_
                      refine WpL_nil ?_
                      refine thn_normal ?_
                      exact ⟨d.next.length - (q + 1), by omega, q + 1, true, Fits.out ⟨rfl, rfl, rfl, rfl, rfl, trivial⟩, E, Br, (by omega), (by rw [hsucc, g5]; unfold badRow; rw [g6]; rfl), rfl⟩
                    · have kg6 := g6
                      replace kg6 := of_decide_eq_false kg6
                      refine WpL_guard_yes (oj := _) rfl rfl (by decide) (congrArg Value.bool g6) ?_
                      refine WpL_val rfl rfl (by decide) (r_move (v := (.slice ra row.length rc)) rfl) ?_
                      refine WpL_guard_yes (oj := _) rfl rfl (by decide) (congrArg Value.bool g6) ?_
                      refine WpL_enter rfl rfl (by decide) (r_callF (vs := [(.slice ra row.length rc)]) Try.func86 nm86 bd86 rfl) (max_c _ _ row (hints.ext E) hrne) ?_
                      rintro _ w29 ⟨rfl, X29⟩
                      replace Br := X29.keep Br
                      replace E := E.ext X29
                      refine WpL_guard_yes (oj := _) rfl rfl (by decide) (congrArg Value.bool g6) ?_
                      refine WpL_val rfl rfl (by decide) (r_move (v := (.int .i64 ((d.next.length : Nat) : Int))) rfl) ?_
                      refine WpL_guard_yes (oj := _) rfl rfl (by decide) (congrArg Value.bool g6) ?_
                      refine WpL_val rfl rfl (by decide) (r_geq (k := .i64) (a := maxL row) (b := ((d.next.length : Nat) : Int)) rfl rfl) ?_
                      refine WpL_val rfl rfl (by decide) (r_pick (b := decide ((minL row : Int) < (-1))) (v := (.bool (decide ((((d.next.length : Nat) : Int) : Int) ≤ maxL row)))) rfl (by rw [g6]; rfl)) ?_
                      refine WpL_val rfl rfl (by decide) (r_assign (v := (.bool (decide ((((d.next.length : Nat) : Int) : Int) ≤ maxL row)))) rfl) ?_
                      refine WpL_nil ?_
                      refine inB_normal ?_
                      refine thn_normal ?_
                      refine Wp_region ?_
                      refine WpL_val rfl rfl (by decide) (r_add (k := .i64) (a := ((q : Nat) : Int)) (b := 1) (c := ((q : Nat) : Int) + 1) rfl rfl (wI64 (by omega))) ?_
                      refine WpL_val rfl rfl (by decide) (r_move (v := (.int .i64 (((q : Nat) : Int) + 1))) rfl) ?_
                      refine WpL_nil ?_
                      refine thn_normal ?_
                      exact ⟨d.next.length - (q + 1), by omega, q + 1, (decide ((((d.next.length : Nat) : Int) : Int) ≤ maxL row)), Fits.out ⟨rfl, rfl, rfl, rfl, rfl, trivial⟩, E, Br, (by omega), (by rw [hsucc, g5]; unfold badRow; rw [g6]; rfl), rfl⟩
                · have khltq := hltq
                  replace hltq := of_decide_eq_false hltq
                  have hqq : q = d.next.length := by omega
                  rw [hqq, List.take_length] at hbad
                  refine Wp_exit ?_
                  refine thn_exit ?_
                  refine thn_exit ?_
                  refine inB_here ?_
                  refine thn_normal ?_
                  refine Wp_seq ?_
                  refine Wp_seq_region ?_
                  refine WpL_val rfl rfl (by decide) (r_move (v := (.bool bad)) rfl) ?_
                  refine WpL_nil ?_
                  refine Wp_cond (b := bad) rfl (fun hb => ?_) (fun hb => ?_)
                  · have khb := hb
                    refine Wp_seq_region ?_
                    refine WpL_val rfl rfl (by decide) (r_assign (v := (.int .i64 1)) rfl) ?_
                    refine WpL_nil ?_
                    refine Wp_ret ?_
                    refine thn_ret ?_
                    refine fin_tmp Try.results50 (v := (.int .i64 1)) rfl ?_
                    exact ⟨int_eq (by unfold checkD; rw [if_neg (by omega), if_neg h20, if_neg (by omega), if_neg (by rw [hno]; simp), if_pos (by rw [← hbad]; exact hb)]), E⟩
                  · have khb := hb
                    refine Wp_skip ?_
                    refine thn_normal ?_
                    refine Wp_seq_region ?_
                    refine WpL_val rfl rfl (by decide) (r_assign (v := (.int .i64 0)) rfl) ?_
                    refine WpL_nil ?_
                    refine Wp_ret ?_
                    refine fin_tmp Try.results50 (v := (.int .i64 0)) rfl ?_
                    exact ⟨int_eq (by unfold checkD; rw [if_neg (by omega), if_neg h20, if_neg (by omega), if_neg (by rw [hno]; simp), if_neg (by rw [← hbad, hb]; simp)]), E⟩
            · have kg1 := g1
              replace kg1 := of_decide_eq_false kg1
              refine WpL_guard_yes (oj := _) rfl rfl (by decide) (congrArg Value.bool g1) ?_
              refine WpL_val rfl rfl (by decide) (r_fieldAddr (b := br) (o := 0) (o' := 0) rfl Try.underlying25 rfl siz3 rfl) ?_
              refine WpL_guard_yes (oj := _) rfl rfl (by decide) (congrArg Value.bool g1) ?_
              refine WpL_val rfl rfl (by decide) (r_load (v := (.int .i64 d.start)) rfl flat3 (Br.cell rfl)) ?_
              refine WpL_guard_yes (oj := _) rfl rfl (by decide) (congrArg Value.bool g1) ?_
              refine WpL_val rfl rfl (by decide) (r_move (v := (.int .i64 ((d.next.length : Nat) : Int))) rfl) ?_
              refine WpL_guard_yes (oj := _) rfl rfl (by decide) (congrArg Value.bool g1) ?_
              refine WpL_val rfl rfl (by decide) (r_geq (k := .i64) (a := d.start) (b := ((d.next.length : Nat) : Int)) rfl rfl) ?_
              refine WpL_val rfl rfl (by decide) (r_pick (b := decide ((d.start : Int) < 0)) (v := (.bool (decide ((((d.next.length : Nat) : Int) : Int) ≤ d.start)))) rfl (by rw [g1]; rfl)) ?_
              refine WpL_val rfl rfl (by decide) (r_move (v := (.bool (decide ((((d.next.length : Nat) : Int) : Int) ≤ d.start)))) rfl) ?_
              rcases Bool.eq_false_or_eq_true (decide ((((d.next.length : Nat) : Int) : Int) ≤ d.start)) with g2 | g2
              · have kg2 := g2
                replace kg2 := of_decide_eq_true kg2
                refine WpL_guard_no (oj := _) rfl rfl (by decide) (v := .bool true) (congrArg Value.bool g2) (Or.inl rfl) ?_
                refine WpL_guard_no (oj := _) rfl rfl (by decide) (v := .bool true) (congrArg Value.bool g2) (Or.inl rfl) ?_
                refine WpL_guard_no (oj := _) rfl rfl (by decide) (v := .bool true) (congrArg Value.bool g2) (Or.inl rfl) ?_
                refine WpL_guard_no (oj := _) rfl rfl (by decide) (v := .bool true) (congrArg Value.bool g2) (Or.inl rfl) ?_
                refine WpL_val rfl rfl (by decide) (r_pick (b := decide ((((d.next.length : Nat) : Int) : Int) ≤ d.start)) (v := (.bool true)) rfl (by rw [g2]; rfl)) ?_
                refine WpL_val rfl rfl (by decide) (r_assign (v := (.bool true)) rfl) ?_
                refine WpL_nil ?_
                refine Wp_seq ?_
                refine Wp_seq_region ?_
                refine WpL_val rfl rfl (by decide) (r_fieldAddr (b := br) (o := 0) (o' := 2) rfl Try.underlying25 rfl siz23 rfl) ?_
                refine WpL_val rfl rfl (by decide) (r_load (v := (.slice (some ⟨nb, no, none⟩) d.next.length nc)) rfl flat23 (Br.cell rfl)) ?_
                refine WpL_val rfl rfl (by decide) (r_lenSlice (ad := some ⟨nb, no, none⟩) (n := d.next.length) (cap := nc) Try.underlying23 rfl) ?_
                refine WpL_val rfl rfl (by decide) (r_move (v := (.int .i64 0)) rfl) ?_
                refine WpL_nil ?_
                refine Wp_block ?_
                refine Wp_loop (fun nn_ σ W20 => ∃ (q : Nat) (bad : Bool), (∃ jj_, σ = upds jj_ [(3, (.int .i64 ((d.next.length : Nat) : Int))), (69, (.slice (some ⟨nb, no, none⟩) d.next.length nc)), (70, (.int .i64 ((d.next.length : Nat) : Int))), (71, (.int .i64 ((q : Nat) : Int))), (6, (.bool bad))]) ∧ Chg none1 w0 W20 ∧ Blk W20 br #[(.int .i64 d.start), (.slice aa d.accept.length ac), (.slice (some ⟨nb, no, none⟩) d.next.length nc)] 25 ∧ (q ≤ d.next.length) ∧ (bad = (bad0 d || (d.next.take q).any (badRow d.next.length))) ∧ nn_ = d.next.length - q) (n := d.next.length - 0) ?_ ?_
                · exact ⟨0, true, Fits.out ⟨rfl, rfl, rfl, rfl, rfl, trivial⟩, E, Br, Nat.zero_le _, (by simp only [List.take_zero, List.any_nil, Bool.or_false]; unfold bad0; rw [g1, g2]; rfl), rfl⟩
                · clear E Br
                  rintro _ _ W20 ⟨q, bad, ⟨j20, rfl⟩, E, Br, hq, hbad, rfl⟩
                  refine Wp_seq_region ?_
                  refine WpL_val rfl rfl (by decide) (r_lss (k := .i64) (a := ((q : Nat) : Int)) (b := ((d.next.length : Nat) : Int)) rfl rfl) ?_
                  refine WpL_nil ?_
                  refine Wp_seq ?_
                  refine Wp_cond (b := decide ((((q : Nat) : Int) : Int) < ((d.next.length : Nat) : Int))) rfl (fun hltq => ?_) (fun hltq => ?_)
                  · have khltq := hltq
                    replace hltq := of_decide_eq_true hltq
                    obtain ⟨row, hrow⟩ := get_of_lt (l := d.next) (i := q) (by omega)
                    obtain ⟨ra, rc, hcell, hints⟩ := hncl q row hrow
                    have hrne : row ≠ [] := hrows row (List.mem_of_getElem? hrow)
                    have hsucc : (bad0 d || (d.next.take (q + 1)).any (badRow d.next.length)) = (bad || badRow d.next.length row) := by rw [List.take_add_one, hrow, List.any_append, hbad]; simp [Bool.or_assoc]
                    refine Wp_skip ?_
                    refine thn_normal ?_
                    refine Wp_seq ?_
                    refine Wp_block ?_
                    refine Wp_seq_region ?_
                    refine WpL_val rfl rfl (by decide) (r_indexSlice (b := nb) (o := no) (len := d.next.length) (cap := nc) (i := q) (o' := no + q) rfl rfl rfl Try.underlying23 siz22 (by omega) (by omega)) ?_
                    refine WpL_val rfl rfl (by decide) (r_load (v := (.slice ra row.length rc)) rfl flat22 (E.cell (fun f => f) hcell)) ?_
                    refine WpL_val rfl rfl (by decide) (r_assign (v := (.slice ra row.length rc)) rfl) ?_
                    refine WpL_nil ?_
                    refine Wp_region ?_
                    refine WpL_val rfl rfl (by decide) (r_move (v := (.bool bad)) rfl) ?_
                    refine WpL_val rfl rfl (by decide) (r_move (v := (.bool bad)) rfl) ?_
                    rcases Bool.eq_false_or_eq_true (bad) with g5 | g5
                    · have kg5 := g5
                      refine WpL_guard_no (oj := _) rfl rfl (by decide) (v := .bool true) (congrArg Value.bool g5) (Or.inl rfl) ?_
                      refine WpL_guard_no (oj := _) rfl rfl (by decide) (v := .bool true) (congrArg Value.bool g5) (Or.inl rfl) ?_
                      refine WpL_guard_no (oj := _) rfl rfl (by decide) (v := .bool true) (congrArg Value.bool g5) (Or.inl rfl) ?_
                      refine WpL_val rfl rfl (by decide) (r_pick (b := bad) (v := (.bool true)) rfl (by rw [g5]; rfl)) ?_
                      refine WpL_val rfl rfl (by decide) (r_move (v := (.bool true)) rfl) ?_
                      refine WpL_guard_no (oj := _) rfl rfl (by decide) (v := .bool true) rfl (Or.inl rfl) ?_
                      refine WpL_guard_no (oj := _) rfl rfl (by decide) (v := .bool true) rfl (Or.inl rfl) ?_
                      refine WpL_guard_no (oj := _) rfl rfl (by decide) (v := .bool true) rfl (Or.inl rfl) ?_
                      refine WpL_guard_no (oj := _) rfl rfl (by decide) (v := .bool true) rfl (Or.inl rfl) ?_
                      refine WpL_val rfl rfl (by decide) (r_pick (b := true) (v := (.bool true)) rfl rfl) ?_
                      refine WpL_val rfl rfl (by decide) (r_assign (v := (.bool true)) rfl) ?_
                      refine WpL_nil ?_
                      refine inB_normal ?_
                      refine thn_normal ?_
                      refine Wp_region ?_
                      refine WpL_val rfl rfl (by decide) (r_add (k := .i64) (a := ((q : Nat) : Int)) (b := 1) (c := ((q : Nat) : Int) + 1) rfl rfl (wI64 (by omega))) ?_
                      refine WpL_val rfl rfl (by decide) (r_move (v := (.int .i64 (((q : Nat) : Int) + 1))) rfl) ?_
                      refine WpL_nil ?_
                      refine thn_normal ?_
                      exact ⟨d.next.length - (q + 1), by omega, q + 1, true, Fits.out ⟨rfl, rfl, rfl, rfl, rfl, trivial⟩, E, Br, (by omega), (by rw [hsucc, g5]; rfl), rfl⟩
                    · have kg5 := g5
                      refine WpL_guard_yes (oj := _) rfl rfl (by decide) (congrArg Value.bool g5) ?_
                      refine WpL_val rfl rfl (by decide) (r_move (v := (.slice ra row.length rc)) rfl) ?_
                      refine WpL_guard_yes (oj := _) rfl rfl (by decide) (congrArg Value.bool g5) ?_
                      refine WpL_enter rfl rfl (by decide) (r_callF (vs := [(.slice ra row.length rc)]) Try.func85 nm85 bd85 rfl) (min_c _ _ row (hints.ext E) hrne) ?_
                      rintro _ w19 ⟨rfl, X19⟩
                      replace Br := X19.keep Br
                      replace E := E.ext X19
                      refine WpL_guard_yes (oj := _) rfl rfl (by decide) (congrArg Value.bool g5) ?_
                      refine WpL_val rfl rfl (by decide) (r_lss (k := .i64) (a := minL row) (b := (-1)) rfl rfl) ?_
                      refine WpL_val rfl rfl (by decide) (r_pick (b := bad) (v := (.bool (decide ((minL row : Int) < (-1))))) rfl (by rw [g5]; rfl)) ?_
                      refine WpL_val rfl rfl (by decide) (r_move (v := (.bool (decide ((minL row : Int) < (-1))))) rfl) ?_
                      rcases Bool.eq_false_or_eq_true (decide ((minL row : Int) < (-1))) with g6 | g6
                      · have kg6 := g6
                        replace kg6 := of_decide_eq_true kg6
                        refine WpL_guard_no (oj := _) rfl rfl (by decide) (v := .bool true) (congrArg Value.bool g6) (Or.inl rfl) ?_
                        refine WpL_guard_no (oj := _) rfl rfl (by decide) (v := .bool true) (congrArg Value.bool g6) (Or.inl rfl) ?_
                        refine WpL_guard_no (oj := _) rfl rfl (by decide) (v := .bool true) (congrArg Value.bool g6) (Or.inl rfl) ?_
                        refine WpL_guard_no (oj := _) rfl rfl (by decide) (v := .bool true) (congrArg Value.bool g6) (Or.inl rfl) ?_
                        refine WpL_val rfl rfl (by decide) (r_pick (b := decide ((minL row : Int) < (-1))) (v := (.bool true)) rfl (by rw [g6]; rfl)) ?_
                        refine WpL_val rfl rfl (by decide) (r_assign (v := (.bool true)) rfl) ?_
                        refine WpL_nil ?_
                        refine inB_normal ?_
                        refine thn_normal ?_
                        refine Wp_region ?_
                        refine WpL_val rfl rfl (by decide) (r_add (k := .i64) (a := ((q : Nat) : Int)) (b := 1) (c := ((q : Nat) : Int) + 1) rfl rfl (wI64 (by omega))) ?_
                        refine WpL_val rfl rfl (by decide) (r_move (v := (.int .i64 (((q : Nat) : Int) + 1))) rfl) ?_
                        refine WpL_nil ?_
                        refine thn_normal ?_
                        exact ⟨d.next.length - (q + 1), by omega, q + 1, true, Fits.out ⟨rfl, rfl, rfl, rfl, rfl, trivial⟩, E, Br, (by omega), (by rw [hsucc, g5]; unfold badRow; rw [g6]; rfl), rfl⟩
                      · have kg6 := g6
                        replace kg6 := of_decide_eq_false kg6
                        refine WpL_guard_yes (oj := _) rfl rfl (by decide) (congrArg Value.bool g6) ?_
                        refine WpL_val rfl rfl (by decide) (r_move (v := (.slice ra row.length rc)) rfl) ?_
                        refine WpL_guard_yes (oj := _) rfl rfl (by decide) (congrArg Value.bool g6) ?_
                        refine WpL_enter rfl rfl (by decide) (r_callF (vs := [(.slice ra row.length rc)]) Try.func86 nm86 bd86 rfl) (max_c _ _ row (hints.ext E) hrne) ?_
                        rintro _ w29 ⟨rfl, X29⟩
                        replace Br := X29.keep Br
                        replace E := E.ext X29
                        refine WpL_guard_yes (oj := _) rfl rfl (by decide) (congrArg Value.bool g6) ?_
                        refine WpL_val rfl rfl (by decide) (r_move (v := (.int .i64 ((d.next.length : Nat) : Int))) rfl) ?_
                        refine WpL_guard_yes (oj := _) rfl rfl (by decide) (congrArg Value.bool g6) ?_
                        refine WpL_val rfl rfl (by decide) (r_geq (k := .i64) (a := maxL row) (b := ((d.next.length : Nat) : Int)) rfl rfl) ?_
                        refine WpL_val rfl rfl (by decide) (r_pick (b := decide ((minL row : Int) < (-1))) (v := (.bool (decide ((((d.next.length : Nat) : Int) : Int) ≤ maxL row)))) rfl (by rw [g6]; rfl)) ?_
                        refine WpL_val rfl rfl (by decide) (r_assign (v := (.bool (decide ((((d.next.length : Nat) : Int) : Int) ≤ maxL row)))) rfl) ?_
                        refine WpL_nil ?_
                        refine inB_normal ?_
                        refine thn_normal ?_
                        refine Wp_region ?_
                        refine WpL_val rfl rfl (by decide) (r_add (k := .i64) (a := ((q : Nat) : Int)) (b := 1) (c := ((q : Nat) : Int) + 1) rfl rfl (wI64 (by omega))) ?_
                        refine WpL_val rfl rfl (by decide) (r_move (v := (.int .i64 (((q : Nat) : Int) + 1))) rfl) ?_
                        refine WpL_nil ?_
                        refine thn_normal ?_
                        exact ⟨d.next.length - (q + 1), by omega, q + 1, (decide ((((d.next.length : Nat) : Int) : Int) ≤ maxL row)), Fits.out ⟨rfl, rfl, rfl, rfl, rfl, trivial⟩, E, Br, (by omega), (by rw [hsucc, g5]; unfold badRow; rw [g6]; rfl), rfl⟩
                  · have khltq := hltq
                    replace hltq := of_decide_eq_false hltq
                    have hqq : q = d.next.length := by omega
                    rw [hqq, List.take_length] at hbad
                    refine Wp_exit ?_
                    refine thn_exit ?_
                    refine thn_exit ?_
                    refine inB_here ?_
                    refine thn_normal ?_
                    refine Wp_seq ?_
                    refine Wp_seq_region ?_
                    refine WpL_val rfl rfl (by decide) (r_move (v := (.bool bad)) rfl) ?_
                    refine WpL_nil ?_
                    refine Wp_cond (b := bad) rfl (fun hb => ?_) (fun hb => ?_)
                    · have khb := hb
                      refine Wp_seq_region ?_
                      refine WpL_val rfl rfl (by decide) (r_assign (v := (.int .i64 1)) rfl) ?_
                      refine WpL_nil ?_
                      refine Wp_ret ?_
                      refine thn_ret ?_
                      refine fin_tmp Try.results50 (v := (.int .i64 1)) rfl ?_
                      exact ⟨int_eq (by unfold checkD; rw [if_neg (by omega), if_neg h20, if_neg (by omega), if_neg (by rw [hno]; simp), if_pos (by rw [← hbad]; exact hb)]), E⟩
                    · have khb := hb
                      refine Wp_skip ?_
                      refine thn_normal ?_
                      refine Wp_seq_region ?_
                      refine WpL_val rfl rfl (by decide) (r_assign (v := (.int .i64 0)) rfl) ?_
                      refine WpL_nil ?_
                      refine Wp_ret ?_
                      refine fin_tmp Try.results50 (v := (.int .i64 0)) rfl ?_
                      exact ⟨int_eq (by unfold checkD; rw [if_neg (by omega), if_neg h20, if_neg (by omega), if_neg (by rw [hno]; simp), if_neg (by rw [← hbad, hb]; simp)]), E⟩
              · have kg2 := g2
                replace kg2 := of_decide_eq_false kg2
                refine WpL_guard_yes (oj := _) rfl rfl (by decide) (congrArg Value.bool g2) ?_
                refine WpL_val rfl rfl (by decide) (r_fieldAddr (b := br) (o := 0) (o' := 1) rfl Try.underlying25 rfl siz22 rfl) ?_
                refine WpL_guard_yes (oj := _) rfl rfl (by decide) (congrArg Value.bool g2) ?_
                refine WpL_val rfl rfl (by decide) (r_load (v := (.slice aa d.accept.length ac)) rfl flat22 (Br.cell rfl)) ?_
                refine WpL_guard_yes (oj := _) rfl rfl (by decide) (congrArg Value.bool g2) ?_
                refine WpL_enter rfl rfl (by decide) (r_callF (vs := [(.slice aa d.accept.length ac)]) Try.func85 nm85 bd85 rfl) (min_c _ _ d.accept (ha.ext E) hane) ?_
                rintro _ w9 ⟨rfl, X9⟩
                replace Br := X9.keep Br
                replace E := E.ext X9
                refine WpL_guard_yes (oj := _) rfl rfl (by decide) (congrArg Value.bool g2) ?_
                refine WpL_val rfl rfl (by decide) (r_lss (k := .i64) (a := minL d.accept) (b := (-1)) rfl rfl) ?_
                refine WpL_val rfl rfl (by decide) (r_pick (b := decide ((((d.next.length : Nat) : Int) : Int) ≤ d.start)) (v := (.bool (decide ((minL d.accept : Int) < (-1))))) rfl (by rw [g2]; rfl)) ?_
                refine WpL_val rfl rfl (by decide) (r_assign (v := (.bool (decide ((minL d.accept : Int) < (-1))))) rfl) ?_
                refine WpL_nil ?_
                refine Wp_seq ?_
                refine Wp_seq_region ?_
                refine WpL_val rfl rfl (by decide) (r_fieldAddr (b := br) (o := 0) (o' := 2) rfl Try.underlying25 rfl siz23 rfl) ?_
                refine WpL_val rfl rfl (by decide) (r_load (v := (.slice (some ⟨nb, no, none⟩) d.next.length nc)) rfl flat23 (Br.cell rfl)) ?_
                refine WpL_val rfl rfl (by decide) (r_lenSlice (ad := some ⟨nb, no, none⟩) (n := d.next.length) (cap := nc) Try.underlying23 rfl) ?_
                refine WpL_val rfl rfl (by decide) (r_move (v := (.int .i64 0)) rfl) ?_
                refine WpL_nil ?_
                refine Wp_block ?_
                refine Wp_loop (fun nn_ σ W25 => ∃ (q : Nat) (bad : Bool), (∃ jj_, σ = upds jj_ [(3, (.int .i64 ((d.next.length : Nat) : Int))), (69, (.slice (some ⟨nb, no, none⟩) d.next.length nc)), (70, (.int .i64 ((d.next.length : Nat) : Int))), (71, (.int .i64 ((q : Nat) : Int))), (6, (.bool bad))]) ∧ Chg none1 w0 W25 ∧ Blk W25 br #[(.int .i64 d.start), (.slice aa d.accept.length ac), (.slice (some ⟨nb, no, none⟩) d.next.length nc)] 25 ∧ (q ≤ d.next.length) ∧ (bad = (bad0 d || (d.next.take q).any (badRow d.next.length))) ∧ nn_ = d.next.length - q) (n := d.next.length - 0) ?_ ?_
                · exact ⟨0, (decide ((minL d.accept : Int) < (-1))), Fits.out ⟨rfl, rfl, rfl, rfl, rfl, trivial⟩, E, Br, Nat.zero_le _, (by simp only [List.take_zero, List.any_nil, Bool.or_false]; unfold bad0; rw [g1, g2]; rfl), rfl⟩
                · clear E Br
                  rintro _ _ W25 ⟨q, bad, ⟨j25, rfl⟩, E, Br, hq, hbad, rfl⟩
                  refine Wp_seq_region ?_
                  refine WpL_val rfl rfl (by decide) (r_lss (k := .i64) (a := ((q : Nat) : Int)) (b := ((d.next.length : Nat) : Int)) rfl rfl) ?_
                  refine WpL_nil ?_
                  refine Wp_seq ?_
                  refine Wp_cond (b := decide ((((q : Nat) : Int) : Int) < ((d.next.length : Nat) : Int))) rfl (fun hltq => ?_) (fun hltq => ?_)
                  · have khltq := hltq
                    replace hltq := of_decide_eq_true hltq
                    obtain ⟨row, hrow⟩ := get_of_lt (l := d.next) (i := q) (by omega)
                    obtain ⟨ra, rc, hcell, hints⟩ := hncl q row hrow
                    have hrne : row ≠ [] := hrows row (List.mem_of_getElem? hrow)
                    have hsucc : (bad0 d || (d.next.take (q + 1)).any (badRow d.next.length)) = (bad || badRow d.next.length row) := by rw [List.take_add_one, hrow, List.any_append, hbad]; simp [Bool.or_assoc]
                    refine Wp_skip ?_
                    refine thn_normal ?_
                    refine Wp_seq ?_
                    refine Wp_block ?_
                    refine Wp_seq_region ?_
                    refine WpL_val rfl rfl (by decide) (r_indexSlice (b := nb) (o := no) (len := d.next.length) (cap := nc) (i := q) (o' := no + q) rfl rfl rfl Try.underlying23 siz22 (by omega) (by omega)) ?_
                    refine WpL_val rfl rfl (by decide) (r_load (v := (.slice ra row.length rc)) rfl flat22 (E.cell (fun f => f) hcell)) ?_
                    refine WpL_val rfl rfl (by decide) (r_assign (v := (.slice ra row.length rc)) rfl) ?_
                    refine WpL_nil ?_
                    refine Wp_region ?_
                    refine WpL_val rfl rfl (by decide) (r_move (v := (.bool bad)) rfl) ?_
                    refine WpL_val rfl rfl (by decide) (r_move (v := (.bool bad)) rfl) ?_
                    rcases Bool.eq_false_or_eq_true (bad) with g5 | g5
                    · have kg5 := g5
                      refine WpL_guard_no (oj := _) rfl rfl (by decide) (v := .bool true) (congrArg Value.bool g5) (Or.inl rfl) ?_
                      refine WpL_guard_no (oj := _) rfl rfl (by decide) (v := .bool true) (congrArg Value.bool g5) (Or.inl rfl) ?_
                      refine WpL_guard_no (oj := _) rfl rfl (by decide) (v := .bool true) (congrArg Value.bool g5) (Or.inl rfl) ?_
                      refine WpL_val rfl rfl (by decide) (r_pick (b := bad) (v := (.bool true)) rfl (by rw [g5]; rfl)) ?_
                      refine WpL_val rfl rfl (by decide) (r_move (v := (.bool true)) rfl) ?_
                      refine WpL_guard_no (oj := _) rfl rfl (by decide) (v := .bool true) rfl (Or.inl rfl) ?_
                      refine WpL_guard_no (oj := _) rfl rfl (by decide) (v := .bool true) rfl (Or.inl rfl) ?_
                      refine WpL_guard_no (oj := _) rfl rfl (by decide) (v := .bool true) rfl (Or.inl rfl) ?_
                      refine WpL_guard_no (oj := _) rfl rfl (by decide) (v := .bool true) rfl (Or.inl rfl) ?_
                      refine WpL_val rfl rfl (by decide) (r_pick (b := true) (v := (.bool true)) rfl rfl) ?_
                      refine WpL_val rfl rfl (by decide) (r_assign (v := (.bool true)) rfl) ?_
                      refine WpL_nil ?_
                      refine inB_normal ?_
                      refine thn_normal ?_
                      refine Wp_region ?_
                      refine WpL_val rfl rfl (by decide) (r_add (k := .i64) (a := ((q : Nat) : Int)) (b := 1) (c := ((q : Nat) : Int) + 1) rfl rfl (wI64 (by omega))) ?_
                      refine WpL_val rfl rfl (by decide) (r_move (v := (.int .i64 (((q : Nat) : Int) + 1))) rfl) ?_
                      refine WpL_nil ?_
                      refine thn_normal ?_
                      exact ⟨d.next.length - (q + 1), by omega, q + 1, true, Fits.out ⟨rfl, rfl, rfl, rfl, rfl, trivial⟩, E, Br, (by omega), (by rw [hsucc, g5]; rfl), rfl⟩
                    · have kg5 := g5
                      refine WpL_guard_yes (oj := _) rfl rfl (by decide) (congrArg Value.bool g5) ?_
                      refine WpL_val rfl rfl (by decide) (r_move (v := (.slice ra row.length rc)) rfl) ?_
                      refine WpL_guard_yes (oj := _) rfl rfl (by decide) (congrArg Value.bool g5) ?_
                      refine WpL_enter rfl rfl (by decide) (r_callF (vs := [(.slice ra row.length rc)]) Try.func85 nm85 bd85 rfl) (min_c _ _ row (hints.ext E) hrne) ?_
                      rintro _ w19 ⟨rfl, X19⟩
                      replace Br := X19.keep Br
                      replace E := E.ext X19
                      refine WpL_guard_yes (oj := _) rfl rfl (by decide) (congrArg Value.bool g5) ?_
                      refine WpL_val rfl rfl (by decide) (r_lss (k := .i64) (a := minL row) (b := (-1)) rfl rfl) ?_
                      refine WpL_val rfl rfl (by decide) (r_pick (b := bad) (v := (.bool (decide ((minL row : Int) < (-1))))) rfl (by rw [g5]; rfl)) ?_
                      refine WpL_val rfl rfl (by decide) (r_move (v := (.bool (decide ((minL row : Int) < (-1))))) rfl) ?_
                      rcases Bool.eq_false_or_eq_true (decide ((minL row : Int) < (-1))) with g6 | g6
                      · have kg6 := g6
                        replace kg6 := of_decide_eq_true kg6
                        refine WpL_guard_no (oj := _) rfl rfl (by decide) (v := .bool true) (congrArg Value.bool g6) (Or.inl rfl) ?_
                        refine WpL_guard_no (oj := _) rfl rfl (by decide) (v := .bool true) (congrArg Value.bool g6) (Or.inl rfl) ?_
                        refine WpL_guard_no (oj := _) rfl rfl (by decide) (v := .bool true) (congrArg Value.bool g6) (Or.inl rfl) ?_
                        refine WpL_guard_no (oj := _) rfl rfl (by decide) (v := .bool true) (congrArg Value.bool g6) (Or.inl rfl) ?_
                        refine WpL_val rfl rfl (by decide) (r_pick (b := decide ((minL row : Int) < (-1))) (v := (.bool true)) rfl (by rw [g6]; rfl)) ?_
                        refine WpL_val rfl rfl (by decide) (r_assign (v := (.bool true)) rfl) ?_
                        refine WpL_nil ?_
                        refine inB_normal ?_
                        refine thn_normal ?_
                        refine Wp_region ?_
                        refine WpL_val rfl rfl (by decide) (r_add (k := .i64) (a := ((q : Nat) : Int)) (b := 1) (c := ((q : Nat) : Int) + 1) rfl rfl (wI64 (by omega))) ?_
                        refine WpL_val rfl rfl (by decide) (r_move (v := (.int .i64 (((q : Nat) : Int) + 1))) rfl) ?_
                        refine WpL_nil ?_
                        refine thn_normal ?_
                        exact ⟨d.next.length - (q + 1), by omega, q + 1, true, Fits.out ⟨rfl, rfl, rfl, rfl, rfl, trivial⟩, E, Br, (by omega), (by rw [hsucc, g5]; unfold badRow; rw [g6]; rfl), rfl⟩
                      · have kg6 := g6
                        replace kg6 := of_decide_eq_false kg6
                        refine WpL_guard_yes (oj := _) rfl rfl (by decide) (congrArg Value.bool g6) ?_
                        refine WpL_val rfl rfl (by decide) (r_move (v := (.slice ra row.length rc)) rfl) ?_
                        refine WpL_guard_yes (oj := _) rfl rfl (by decide) (congrArg Value.bool g6) ?_
                        refine WpL_enter rfl rfl (by decide) (r_callF (vs := [(.slice ra row.length rc)]) Try.func86 nm86 bd86 rfl) (max_c _ _ row (hints.ext E) hrne) ?_
                        rintro _ w29 ⟨rfl, X29⟩
                        replace Br := X29.keep Br
                        replace E := E.ext X29
                        refine WpL_guard_yes (oj := _) rfl rfl (by decide) (congrArg Value.bool g6) ?_
                        refine WpL_val rfl rfl (by decide) (r_move (v := (.int .i64 ((d.next.length : Nat) : Int))) rfl) ?_
                        refine WpL_guard_yes (oj := _) rfl rfl (by decide) (congrArg Value.bool g6) ?_
                        refine WpL_val rfl rfl (by decide) (r_geq (k := .i64) (a := maxL row) (b := ((d.next.length : Nat) : Int)) rfl rfl) ?_
                        refine WpL_val rfl rfl (by decide) (r_pick (b := decide ((minL row : Int) < (-1))) (v := (.bool (decide ((((d.next.length : Nat) : Int) : Int) ≤ maxL row)))) rfl (by rw [g6]; rfl)) ?_
                        refine WpL_val rfl rfl (by decide) (r_assign (v := (.bool (decide ((((d.next.length : Nat) : Int) : Int) ≤ maxL row)))) rfl) ?_
                        refine WpL_nil ?_
                        refine inB_normal ?_
                        refine thn_normal ?_
                        refine Wp_region ?_
                        refine WpL_val rfl rfl (by decide) (r_add (k := .i64) (a := ((q : Nat) : Int)) (b := 1) (c := ((q : Nat) : Int) + 1) rfl rfl (wI64 (by omega))) ?_
                        refine WpL_val rfl rfl (by decide) (r_move (v := (.int .i64 (((q : Nat) : Int) + 1))) rfl) ?_
                        refine WpL_nil ?_
                        refine thn_normal ?_
                        exact ⟨d.next.length - (q + 1), by omega, q + 1, (decide ((((d.next.length : Nat) : Int) : Int) ≤ maxL row)), Fits.out ⟨rfl, rfl, rfl, rfl, rfl, trivial⟩, E, Br, (by omega), (by rw [hsucc, g5]; unfold badRow; rw [g6]; rfl), rfl⟩
                  · have khltq := hltq
                    replace hltq := of_decide_eq_false hltq
                    have hqq : q = d.next.length := by omega
                    rw [hqq, List.take_length] at hbad
                    refine Wp_exit ?_
                    refine thn_exit ?_
                    refine thn_exit ?_
                    refine inB_here ?_
                    refine thn_normal ?_
                    refine Wp_seq ?_
                    refine Wp_seq_region ?_
                    refine WpL_val rfl rfl (by decide) (r_move (v := (.bool bad)) rfl) ?_
                    refine WpL_nil ?_
                    refine Wp_cond (b := bad) rfl (fun hb => ?_) (fun hb => ?_)
                    · have khb := hb
                      refine Wp_seq_region ?_
                      refine WpL_val rfl rfl (by decide) (r_assign (v := (.int .i64 1)) rfl) ?_
                      refine WpL_nil ?_
                      refine Wp_ret ?_
                      refine thn_ret ?_
                      refine fin_tmp Try.results50 (v := (.int .i64 1)) rfl ?_
                      exact ⟨int_eq (by unfold checkD; rw [if_neg (by omega), if_neg h20, if_neg (by omega), if_neg (by rw [hno]; simp), if_pos (by rw [← hbad]; exact hb)]), E⟩
                    · have khb := hb
                      refine Wp_skip ?_
                      refine thn_normal ?_
                      refine Wp_seq_region ?_
                      refine WpL_val rfl rfl (by decide) (r_assign (v := (.int .i64 0)) rfl) ?_
                      refine WpL_nil ?_
                      refine Wp_ret ?_
                      refine fin_tmp Try.results50 (v := (.int .i64 0)) rfl ?_
                      exact ⟨int_eq (by unfold checkD; rw [if_neg (by omega), if_neg h20, if_neg (by omega), if_neg (by rw [hno]; simp), if_neg (by rw [← hbad, hb]; simp)]), E⟩
end Go.Proofs
namespace Go.Proofs
open Go Go.Eng Go.Sort
set_option maxRecDepth 100000
abbrev TDI : Nat := 3
abbrev TDIs : Nat := 22
def iRow (l : List Int) : Nat × List Value := (l.length, l.map (Value.int .i64))
theorem iRow_rep (n : Nat) : (List.replicate n ([] : List Int)).map iRow = List.replicate n (0, []) := by simp [iRow]
theorem ints_flatD (l : List Int) : (l.map intV).flatten = l.map (Value.int .i64) := by
  induction l with
  | nil => rfl
  | cons x l ih => simp [intV]; simpa [intV] using ih
theorem own_intsD {w : World} {base n : Nat} {v : Value} {l : List Int} (h : w.ownsRow base TDI 1 v n (l.map (Value.int .i64))) (hn : n = l.length) : IntsAt w v l := by
  rw [← ints_flatD] at h
  exact own_slat h (by intro x hx; simp only [List.mem_map] at hx; obtain ⟨p, _, rfl⟩ := hx; rfl) (by simp [hn]) (by decide)
theorem toD_row {n c : Nat} {d : Dfa} (ok : OkD n c d) {s k : Nat} {row : List Int} {x : Int} (hr : d.next[s]? = some row) (hx : row[k]? = some x) : toD d ((s : Nat) : Int) k = x ∧ k < c ∧ s < n ∧ -1 ≤ x ∧ x < n := by
  have h1 := ok.row row (List.mem_of_getElem? hr)
  exact ⟨toD_get hr hx, by rw [← h1.1]; exact lt_of_get hx, by rw [← ok.nl]; exact lt_of_get hr, (h1.2 x (List.mem_of_getElem? hx)).1, (h1.2 x (List.mem_of_getElem? hx)).2⟩
theorem clos_none (n : Nat) (into : List (List Int)) : ClosP into (List.replicate n false) [] := fun t h => by
  have := (List.mem_replicate.1 (List.mem_of_getElem? h)).2
  cases this
theorem bools_set {M : List Bool} {k : Nat} (b : Bool) : ((M.map Value.bool).toArray).setIfInBounds (0 + k) (.bool b) = ((M.set k b).map Value.bool).toArray := by
  apply Array.ext'
  rw [Array.toList_setIfInBounds, Nat.zero_add, ← List.map_set]
theorem snocs {α : Type} {l : List α} (h : 0 < l.length) : ∃ o c, l = o ++ [c] := ⟨l.dropLast, l.getLast (List.ne_nil_of_length_pos h), (List.dropLast_concat_getLast _).symm⟩
set_option maxHeartbeats 4000000 in
theorem live_c (w0 : World) (n c : Nat) (d : Dfa) (dv : List Value) (ok : OkD n c d) (h : DfaAt w0 d dv) (hn : n ≤ 20000 ∧ c ≤ 16) :
    Ret Try.prog 95 #[.agg dv.toArray] w0 fun r w => (∃ M b, LiveOf n c d M ∧ r = .slice (some ⟨b, 0, none⟩) n n ∧ w0.heap.size ≤ b ∧ Blk w b (M.map Value.bool).toArray 4) ∧ Ext w0 w := by
  obtain ⟨aa, ac, na, nc, rfl, hacc, hnxt⟩ := h
  have hnl := ok.nl
  have hal := ok.al
  have hnc : n * c ≤ 320000 := by have := Nat.mul_le_mul hn.1 hn.2; omega
  rw [hal] at hacc
  rw [hnl] at hnxt
  rw [hal, hnl]
  refine Ret_of Try.func95 rfl Try.ntmps95 (Nat.le_of_ble_eq_true rfl) ?_
  have E : Chg none1 w0 w0 := Chg.refl _ _
  refine Wp_seq_region ?_
  refine s_box (v := (.agg #[(.int .i64 d.start), (.slice aa n ac), (.slice na n nc)])) (c := #[(.int .i64 d.start), (.slice aa n ac), (.slice na n nc)]) (by decide) rfl rfl ?_
  intro bd wd Nd
  have Fd := Nd.ge E
  replace E := E.ext Nd.ext
  have Bd := Nd.blk
  refine WpL_val rfl rfl (by decide) (r_assign (v := (.slice none 0 0)) rfl) ?_
  refine WpL_nil ?_
  refine Wp_seq_region ?_
  refine WpL_val rfl rfl (by decide) (r_fieldAddr (b := bd) (o := 0) (o' := 2) rfl Try.underlying25 rfl siz23 rfl) ?_
  refine WpL_val rfl rfl (by decide) (r_load (v := (.slice na n nc)) rfl flat23 (Bd.cell rfl)) ?_
  refine WpL_val rfl rfl (by decide) (r_lenSlice (ad := na) (n := n) (cap := nc) Try.underlying23 rfl) ?_
  refine s_make (n := n) (z := (.slice none 0 0)) (bytes := 24) (by decide) Try.underlying23 siz22 byt22 zer22 rfl rfl rfl (by omega) (by omega) ?_
  intro bi wi Ni
  have Fi := Ni.ge E
  have Oi_bd := Ni.lt Bd
  replace Bd := Ni.keep Bd
  replace E := E.ext Ni.ext
  have Bi := Ni.blk
  refine WpL_val rfl rfl (by decide) (r_assign (v := (.slice (some ⟨bi, 0, none⟩) n n)) rfl) ?_
  refine WpL_nil ?_
  refine Wp_seq ?_
  refine Wp_seq_region ?_
  refine WpL_val rfl rfl (by decide) (r_fieldAddr (b := bd) (o := 0) (o' := 2) rfl Try.underlying25 rfl siz23 rfl) ?_
  refine WpL_val rfl rfl (by decide) (r_load (v := (.slice na n nc)) rfl flat23 (Bd.cell rfl)) ?_
  refine WpL_val rfl rfl (by decide) (r_lenSlice (ad := na) (n := n) (cap := nc) Try.underlying23 rfl) ?_
  refine WpL_val rfl rfl (by decide) (r_move (v := (.int .i64 0)) rfl) ?_
  refine WpL_nil ?_
  refine Wp_block ?_
  obtain ⟨n1, hn1e⟩ : ∃ n1, n1 = wd.heap.size := ⟨_, rfl⟩
  have hw1 : w0.heap.size ≤ n1 := by have := Nd.ext.size; omega
  have hbi1 : n1 ≤ bi := by have := Ni.eq; omega
  have hbd1 : bd < n1 := by have := Nd.eq; have := Nd.size; omega
  have hG0 := GSt.made (To := TDIs) (e := TDI) (sz := 1) (base := n1) (n := n) Bi hbi1 (by omega) hbi1
  have hs0 : n1 ≤ wi.heap.size := by have := Ni.ext.size; omega
  refine Wp_loop (fun nn_ σ W1 => ∃ (s : Nat) (into : List (List Int)) (vs : List Value), (∃ jj_, σ = upds jj_ [(1, (.pointer (some ⟨bd, 0, none⟩))), (3, (.slice (some ⟨bi, 0, none⟩) n n)), (20, (.slice na n nc)), (21, (.int .i64 ((n : Nat) : Int))), (22, (.int .i64 ((s : Nat) : Int)))]) ∧ Chg none1 w0 W1 ∧ Blk W1 bd #[(.int .i64 d.start), (.slice aa n ac), (.slice na n nc)] 25 ∧ (s ≤ n) ∧ (IntoP n c d into s 0) ∧ (GSt TDIs TDI 1 W1 n1 (.slice (some ⟨bi, 0, none⟩) n n) vs (into.map iRow)) ∧ (n1 ≤ W1.heap.size) ∧ nn_ = n - s) (n := n - 0) ?_ ?_
  · exact ⟨0, List.replicate n [], List.replicate n (.slice none 0 0), Fits.out ⟨rfl, rfl, rfl, rfl, rfl, trivial⟩, E, Bd, Nat.zero_le _, IntoP.start n c d, (by rw [iRow_rep]; exact hG0), hs0, rfl⟩
  · clear E Bd
    rintro _ _ W1 ⟨s, into, vs, ⟨j1, rfl⟩, E, Bd, hs, hI, hG, hsz, rfl⟩
    refine Wp_seq_region ?_
    refine WpL_val rfl rfl (by decide) (r_lss (k := .i64) (a := ((s : Nat) : Int)) (b := ((n : Nat) : Int)) rfl rfl) ?_
    refine WpL_nil ?_
    refine Wp_seq ?_
    refine Wp_cond (b := decide ((((s : Nat) : Int) : Int) < ((n : Nat) : Int))) rfl (fun hlt => ?_) (fun hlt => ?_)
    · have khlt := hlt
      replace hlt := of_decide_eq_true hlt
      obtain ⟨row, hrow⟩ := get_of_lt (l := d.next) (i := s) (by omega)
      have hrl := (ok.row row (List.mem_of_getElem? hrow)).1
      obtain ⟨b, o, rfl, hcl⟩ := intss_cells (n := n) hnxt (by omega)
      obtain ⟨ra, rc, hcell, hri⟩ := hcl s row hrow
      refine Wp_skip ?_
      refine thn_normal ?_
      refine Wp_seq ?_
      refine Wp_block ?_
      refine Wp_seq_region ?_
      refine WpL_val rfl rfl (by decide) (r_move (v := (.int .i64 ((s : Nat) : Int))) rfl) ?_
      refine WpL_val rfl rfl (by decide) (r_indexSlice (b := b) (o := o) (len := n) (cap := nc) (i := s) (o' := o + s) rfl rfl rfl Try.underlying23 siz22 (by omega) (by omega)) ?_
      refine WpL_val rfl rfl (by decide) (r_load (v := (.slice ra row.length rc)) rfl flat22 (E.cell (fun f => f) hcell)) ?_
      refine WpL_val rfl rfl (by decide) (r_assign (v := (.int .i64 ((s : Nat) : Int))) rfl) ?_
      refine WpL_val rfl rfl (by decide) (r_assign (v := (.slice ra row.length rc)) rfl) ?_
      refine WpL_nil ?_
      refine Wp_seq_region ?_
      refine WpL_val rfl rfl (by decide) (r_move (v := (.slice ra row.length rc)) rfl) ?_
      refine WpL_val rfl rfl (by decide) (r_lenSlice (ad := ra) (n := row.length) (cap := rc) Try.underlying22 rfl) ?_
      refine WpL_val rfl rfl (by decide) (r_move (v := (.int .i64 0)) rfl) ?_
      refine WpL_nil ?_
      refine Wp_block ?_
      refine Wp_loop (fun nn_ σ W3 => ∃ (k : Nat) (into : List (List Int)) (vs : List Value), (∃ jj_, σ = upds jj_ [(1, (.pointer (some ⟨bd, 0, none⟩))), (3, (.slice (some ⟨bi, 0, none⟩) n n)), (4, (.int .i64 ((s : Nat) : Int))), (20, (.slice (some ⟨b, o, none⟩) n nc)), (21, (.int .i64 ((n : Nat) : Int))), (22, (.int .i64 ((s : Nat) : Int))), (27, (.slice ra row.length rc)), (28, (.int .i64 ((row.length : Nat) : Int))), (29, (.int .i64 ((k : Nat) : Int)))]) ∧ Chg none1 w0 W3 ∧ Blk W3 bd #[(.int .i64 d.start), (.slice aa n ac), (.slice (some ⟨b, o, none⟩) n nc)] 25 ∧ (k ≤ c) ∧ (IntoP n c d into s k) ∧ (GSt TDIs TDI 1 W3 n1 (.slice (some ⟨bi, 0, none⟩) n n) vs (into.map iRow)) ∧ (n1 ≤ W3.heap.size) ∧ nn_ = c - k) (n := c - 0) ?_ ?_
      · exact ⟨0, into, vs, Fits.out ⟨rfl, rfl, rfl, rfl, rfl, rfl, rfl, rfl, rfl, trivial⟩, E, Bd, Nat.zero_le _, hI, hG, hsz, rfl⟩
      · clear E Bd
        rintro _ _ W3 ⟨k, into, vs, ⟨j3, rfl⟩, E, Bd, hk, hI, hG, hsz, rfl⟩
        refine Wp_seq_region ?_
        refine WpL_val rfl rfl (by decide) (r_lss (k := .i64) (a := ((k : Nat) : Int)) (b := ((row.length : Nat) : Int)) rfl rfl) ?_
        refine WpL_nil ?_
        refine Wp_seq ?_
        refine Wp_cond (b := decide ((((k : Nat) : Int) : Int) < ((row.length : Nat) : Int))) rfl (fun hlt2 => ?_) (fun hlt2 => ?_)
        · have khlt2 := hlt2
          replace hlt2 := of_decide_eq_true hlt2
          obtain ⟨x, hx⟩ := get_of_lt (l := row) (i := k) (by omega)
          obtain ⟨rb, ro, rfl, hrc⟩ := ints_cells hri (by omega)
          obtain ⟨htk, hkc, _, hxl, hxh⟩ := toD_row ok hrow hx
          refine Wp_skip ?_
          refine thn_normal ?_
          refine Wp_seq ?_
          refine Wp_block ?_
          refine Wp_seq_region ?_
          refine WpL_val rfl rfl (by decide) (r_indexSlice (b := rb) (o := ro) (len := row.length) (cap := rc) (i := k) (o' := ro + k) rfl rfl rfl Try.underlying22 siz3 (by omega) (by omega)) ?_
          refine WpL_val rfl rfl (by decide) (r_load (v := (.int .i64 x)) rfl flat3 (E.cell (fun f => f) (hrc k x hx))) ?_
          refine WpL_val rfl rfl (by decide) (r_assign (v := (.int .i64 x)) rfl) ?_
          refine WpL_nil ?_
          refine Wp_seq_region ?_
          refine WpL_val rfl rfl (by decide) (r_move (v := (.int .i64 x)) rfl) ?_
          refine WpL_val rfl rfl (by decide) (r_geq (k := .i64) (a := x) (b := 0) rfl rfl) ?_
          refine WpL_nil ?_
          refine Wp_cond (b := decide ((0 : Int) ≤ x)) rfl (fun hpos => ?_) (fun hpos => ?_)
          · have khpos := hpos
            replace hpos := of_decide_eq_true hpos
            obtain ⟨t, htx⟩ := Int.eq_ofNat_of_zero_le hpos
            rw [htx] at htk hxh
            obtain ⟨lt, hlt3⟩ := get_of_lt (l := into) (i := t) (by have := hI.len; omega)
            have hin := hI.sht lt (List.mem_of_getElem? hlt3)
            have hsc : s * c ≤ n * c := Nat.mul_le_mul_right c (by omega)
            have hlen : (into.map iRow).length = n := by rw [List.length_map]; exact hI.len
            obtain ⟨v1, hv1⟩ := get_of_lt (l := vs) (i := t) (by have := hG.l.len; omega)
            have hp1 : (into.map iRow)[t]? = some (lt.length, lt.map (Value.int .i64)) := by rw [List.getElem?_map, hlt3]; rfl
            have hinn := hG.l.inn t v1 _ hv1 hp1
            obtain ⟨va, vc, rfl⟩ := own_form hinn
            obtain ⟨gg, hgg, _, hg2⟩ := own_cells (hG.l.on hlen.symm) (by omega)
            simp only [Option.some.injEq, Addr.mk.injEq, and_true] at hgg
            subst hgg
            have hG0 := hG
            refine Wp_region ?_
            refine WpL_val rfl rfl (by decide) (r_move (v := (.slice (some ⟨bi, 0, none⟩) n n)) rfl) ?_
            refine WpL_val rfl rfl (by decide) (r_move (v := (.int .i64 x)) rfl) ?_
            refine WpL_val rfl rfl (by decide) (r_move (v := (.slice (some ⟨bi, 0, none⟩) n n)) rfl) ?_
            refine WpL_val rfl rfl (by decide) (r_move (v := (.int .i64 x)) rfl) ?_
            refine WpL_val rfl rfl (by decide) (r_indexSlice (b := bi) (o := 0) (len := n) (cap := n) (i := t) (o' := 0 + t) rfl rfl (by omega) Try.underlying23 siz22 (by omega) (by omega)) ?_
            refine WpL_val rfl rfl (by decide) (r_load (v := (.slice va lt.length vc)) rfl flat22 (hg2 t _ hv1)) ?_
            refine WpL_val rfl rfl (by decide) (r_move (v := (.int .i64 ((s : Nat) : Int))) rfl) ?_
            refine s_buildSlice (ps := [(0, (.int .i64 ((s : Nat) : Int)))]) (c := #[(.int .i64 ((s : Nat) : Int))]) (by decide) rfl Try.underlying22 siz3 zer3 (by decide) (by decide) (by kernel_rfl) ?_
            intro b6 w6 N6
            have F6 := N6.ge E
            have O6_bd := N6.lt Bd
            replace Bd := N6.keep Bd
            replace hG0 := hG0.ext N6.ext
            replace hinn := own_ext hinn N6.ext
            replace hsz := Nat.le_trans hsz N6.ext.size
            replace E := E.ext N6.ext
            have B6 := N6.blk
            refine s_append (base := n1) (n := lt.length) (m := 1) (xs := (lt.map (Value.int .i64))) (news := [(.int .i64 ((s : Nat) : Int))]) (size := 1) (bytes := 8) (v := (.slice va lt.length vc)) (by decide) Try.underlying22 siz3 byt3 zer3 rfl (by decide) rfl hinn rfl (rfl) (B6.cells rfl) (by simp [Value.oneCell']) (by unfold maxLen; omega) (by omega) (hsz) ?_
            intro v7 w59 Ov7 Cv7 Dv7
            replace Bd := Cv7.keep (fun h => by have := (hinn.lt _ h).1; omega) Bd
            replace E := E.step Cv7 (fun x hx h => absurd (hinn.lt x h).1 (by omega))
            obtain ⟨va2, vc2, rfl⟩ := own_form Ov7
            have hG1 := hG0.l
            have hCv := Cv7
            obtain ⟨cur, hBo, hcs⟩ := own_blkG (own_chg (hG1.on hlen.symm) Cv7 (fun b hb hm => hG1.apo t _ _ hv1 hm hb))
            have hs9 := Nat.le_trans hsz Cv7.size
            have hPx : True := trivial
            have hBo0 := hBo
            refine WpL_val rfl rfl (by decide) (r_indexSlice (b := bi) (o := 0) (len := n) (cap := n) (i := t) (o' := 0 + t) rfl rfl (by omega) Try.underlying23 siz22 (by omega) (by omega)) ?_
            refine s_store (b := bi) (o := 0 + t) (c' := cur.setIfInBounds (0 + t) (.slice va2 (lt.length + 1) vc2)) (v := (.slice va2 (lt.length + 1) vc2)) rfl rfl rfl siz22 hBo (by omega) (rfl) ?_
            intro w7 S7
            replace hPx := S7
            replace hs9 := Nat.le_trans hs9 S7.chg.size
            replace Bd := S7.keep (by omega) Bd
            replace E := S7.step E (by first | exact Or.inl (by omega) | exact Or.inr rfl | exact Or.inr (by assumption) | exact Or.inr (by simp) | exact Or.inr (by omega) | exact Or.inr (by dsimp only; omega))
            replace hBo := S7.blk
            have hG9 := hG0.grow hlen.symm hv1 hp1 (m' := lt.length + 1) (xs' := (lt ++ [((s : Nat) : Int)]).map (Value.int .i64)) (by rw [List.map_append]; exact Ov7) Cv7 Dv7 hBo0 (by simpa using hPx)
            refine WpL_nil ?_
            refine inB_normal ?_
            refine thn_normal ?_
            refine Wp_region ?_
            refine WpL_val rfl rfl (by decide) (r_add (k := .i64) (a := ((k : Nat) : Int)) (b := 1) (c := ((k : Nat) : Int) + 1) rfl rfl (wI64 (by omega))) ?_
            refine WpL_val rfl rfl (by decide) (r_move (v := (.int .i64 (((k : Nat) : Int) + 1))) rfl) ?_
            refine WpL_nil ?_
            refine thn_normal ?_
            exact ⟨c - (k + 1), by omega, k + 1, into.set t (lt ++ [((s : Nat) : Int)]), vs.set t (.slice va2 (lt.length + 1) vc2), Fits.out ⟨rfl, rfl, rfl, rfl, rfl, rfl, rfl, rfl, rfl, trivial⟩, E, Bd, (by omega), hI.add (by omega) hkc htk hlt3, (by rw [List.map_set]; simpa [iRow] using hG9), hs9, rfl⟩
          · have khpos := hpos
            replace hpos := of_decide_eq_false hpos
            refine Wp_skip ?_
            refine inB_normal ?_
            refine thn_normal ?_
            refine Wp_region ?_
            refine WpL_val rfl rfl (by decide) (r_add (k := .i64) (a := ((k : Nat) : Int)) (b := 1) (c := ((k : Nat) : Int) + 1) rfl rfl (wI64 (by omega))) ?_
            refine WpL_val rfl rfl (by decide) (r_move (v := (.int .i64 (((k : Nat) : Int) + 1))) rfl) ?_
            refine WpL_nil ?_
            refine thn_normal ?_
            exact ⟨c - (k + 1), by omega, k + 1, into, vs, Fits.out ⟨rfl, rfl, rfl, rfl, rfl, rfl, rfl, rfl, rfl, trivial⟩, E, Bd, (by omega), hI.skip (by rw [htk]; omega), hG, hsz, rfl⟩
        · have khlt2 := hlt2
          replace hlt2 := of_decide_eq_false hlt2
          refine Wp_exit ?_
          refine thn_exit ?_
          refine thn_exit ?_
          refine inB_here ?_
          refine inB_normal ?_
          refine thn_normal ?_
          refine Wp_region ?_
          refine WpL_val rfl rfl (by decide) (r_add (k := .i64) (a := ((s : Nat) : Int)) (b := 1) (c := ((s : Nat) : Int) + 1) rfl rfl (wI64 (by omega))) ?_
          refine WpL_val rfl rfl (by decide) (r_move (v := (.int .i64 (((s : Nat) : Int) + 1))) rfl) ?_
          refine WpL_nil ?_
          refine thn_normal ?_
          exact ⟨n - (s + 1), by omega, s + 1, into, vs, Fits.out ⟨rfl, rfl, rfl, rfl, rfl, trivial⟩, E, Bd, (by omega), hI.row (by omega), hG, hsz, rfl⟩
    · have khlt := hlt
      replace hlt := of_decide_eq_false hlt
      have hss : s = n := by omega
      rw [hss] at hI
      obtain ⟨n2, hn2e⟩ : ∃ n2, n2 = (W1).heap.size := ⟨_, rfl⟩
      have hbd2 : bd < n2 := by have := Bd.lt; omega
      have hbn2 : w0.heap.size ≤ n2 := by have := E.size; omega
      have E1 : Chg none1 W1 W1 := Chg.refl _ _
      refine Wp_exit ?_
      refine thn_exit ?_
      refine thn_exit ?_
      refine inB_here ?_
      refine thn_normal ?_
      refine Wp_seq_region ?_
      refine WpL_val rfl rfl (by decide) (r_fieldAddr (b := bd) (o := 0) (o' := 2) rfl Try.underlying25 rfl siz23 rfl) ?_
      refine WpL_val rfl rfl (by decide) (r_load (v := (.slice na n nc)) rfl flat23 (Bd.cell rfl)) ?_
      refine WpL_val rfl rfl (by decide) (r_lenSlice (ad := na) (n := n) (cap := nc) Try.underlying23 rfl) ?_
      refine s_make (n := n) (z := (.bool false)) (bytes := 1) (by decide) Try.underlying130 siz4 byt4 zer4 rfl rfl rfl (by omega) (by omega) ?_
      intro bl wl Nl
      have Fl := Nl.ge E
      have Fl_E1 := Nl.ge E1
      have Ol_bd := Nl.lt Bd
      replace Bd := Nl.keep Bd
      replace E := E.ext Nl.ext
      have Bl := Nl.blk
      replace E1 := E1.ext Nl.ext
      refine WpL_val rfl rfl (by decide) (r_assign (v := (.slice (some ⟨bl, 0, none⟩) n n)) rfl) ?_
      refine WpL_nil ?_
      refine Wp_seq_region ?_
      refine WpL_val rfl rfl (by decide) (r_assign (v := (.slice none 0 0)) rfl) ?_
      refine WpL_nil ?_
      refine Wp_seq ?_
      refine Wp_seq_region ?_
      refine WpL_val rfl rfl (by decide) (r_fieldAddr (b := bd) (o := 0) (o' := 1) rfl Try.underlying25 rfl siz22 rfl) ?_
      refine WpL_val rfl rfl (by decide) (r_load (v := (.slice aa n ac)) rfl flat22 (Bd.cell rfl)) ?_
      refine WpL_val rfl rfl (by decide) (r_lenSlice (ad := aa) (n := n) (cap := ac) Try.underlying22 rfl) ?_
      refine WpL_val rfl rfl (by decide) (r_move (v := (.int .i64 0)) rfl) ?_
      refine WpL_nil ?_
      refine Wp_block ?_
      obtain ⟨n3, hn3e⟩ : ∃ n3, n3 = wl.heap.size := ⟨_, rfl⟩
      have hbl3 : bl < n3 := by have := Bl.lt; omega
      have hn23 : n2 ≤ n3 := by have := Nl.ext.size; omega
      have hbl2 : n2 ≤ bl := by have := Nl.eq; omega
      rw [show List.replicate n (Value.bool false) = (List.replicate n false).map Value.bool by simp] at Bl
      have hs3 : n3 ≤ wl.heap.size := by omega
      refine Wp_loop (fun nn_ σ W8 => ∃ (k : Nat) (M : List Bool) (work : List Int) (ka : Option Addr) (kc kn : Nat), (∃ jj_, σ = upds jj_ [(3, (.slice (some ⟨bi, 0, none⟩) n n)), (8, (.slice (some ⟨bl, 0, none⟩) n n)), (52, (.slice aa n ac)), (53, (.int .i64 ((n : Nat) : Int))), (54, (.int .i64 ((k : Nat) : Int))), (9, (.slice ka kn kc))]) ∧ Chg none1 w0 W8 ∧ Chg none1 W1 W8 ∧ Blk W8 bd #[(.int .i64 d.start), (.slice aa n ac), (.slice na n nc)] 25 ∧ Blk W8 bl ((M.map Value.bool).toArray) 4 ∧ (k ≤ n) ∧ (LiveP n c d M work k) ∧ (ClosP into M work) ∧ (kn = work.length) ∧ (W8.ownsRow n3 TDI 1 (.slice ka kn kc) kn (work.map (Value.int .i64))) ∧ (n3 ≤ W8.heap.size) ∧ (∀ i, k ≤ i → i < n → M[i]? = some false) ∧ nn_ = n - k) (n := n - 0) ?_ ?_
      · exact ⟨0, List.replicate n false, [], none, 0, 0, Fits.out ⟨rfl, rfl, rfl, rfl, rfl, rfl, trivial⟩, E, E1, Bd, Bl, Nat.zero_le _, LiveP.start n c d, clos_none n into, rfl, World.ownsRow_nil _ _ _ _, hs3, (fun i _ hi => by simp [hi]), rfl⟩
      · clear E E1 Bd Bl
        rintro _ _ W8 ⟨k, M, work, ka, kc, kn, ⟨j8, rfl⟩, E, E1, Bd, Bl, hk, hL, hC, hkn, hw, hs3, hfr, rfl⟩
        refine Wp_seq_region ?_
        refine WpL_val rfl rfl (by decide) (r_lss (k := .i64) (a := ((k : Nat) : Int)) (b := ((n : Nat) : Int)) rfl rfl) ?_
        refine WpL_nil ?_
        refine Wp_seq ?_
        refine Wp_cond (b := decide ((((k : Nat) : Int) : Int) < ((n : Nat) : Int))) rfl (fun hlt4 => ?_) (fun hlt4 => ?_)
        · have khlt4 := hlt4
          replace hlt4 := of_decide_eq_true hlt4
          obtain ⟨x, hx⟩ := get_of_lt (l := d.accept) (i := k) (by omega)
          obtain ⟨ab, ao, rfl, hac⟩ := ints_cells (n := n) hacc (by omega)
          have hatk := atD_get hx
          refine Wp_skip ?_
          refine thn_normal ?_
          refine Wp_seq ?_
          refine Wp_block ?_
          refine Wp_seq_region ?_
          refine WpL_val rfl rfl (by decide) (r_move (v := (.int .i64 ((k : Nat) : Int))) rfl) ?_
          refine WpL_val rfl rfl (by decide) (r_indexSlice (b := ab) (o := ao) (len := n) (cap := ac) (i := k) (o' := ao + k) rfl rfl rfl Try.underlying22 siz3 (by omega) (by omega)) ?_
          refine WpL_val rfl rfl (by decide) (r_load (v := (.int .i64 x)) rfl flat3 (E.cell (fun f => f) (hac k x hx))) ?_
          refine WpL_val rfl rfl (by decide) (r_assign (v := (.int .i64 ((k : Nat) : Int))) rfl) ?_
          refine WpL_val rfl rfl (by decide) (r_assign (v := (.int .i64 x)) rfl) ?_
          refine WpL_nil ?_
          refine Wp_seq_region ?_
          refine WpL_val rfl rfl (by decide) (r_move (v := (.int .i64 x)) rfl) ?_
          refine WpL_val rfl rfl (by decide) (r_geq (k := .i64) (a := x) (b := 0) rfl rfl) ?_
          refine WpL_nil ?_
          refine Wp_cond (b := decide ((0 : Int) ≤ x)) rfl (fun hpos2 => ?_) (fun hpos2 => ?_)
          · have khpos2 := hpos2
            replace hpos2 := of_decide_eq_true hpos2
            have hMk := hfr k (Nat.le_refl _) (by omega)
            have hLk := (hL.mark hMk ⟨[], inW.nil c, by show 0 ≤ atD d _; rw [hatk]; omega⟩).next (fun _ => by rw [List.getElem?_set, if_pos rfl, if_pos (lt_of_get hMk)])
            have hcn := hL.cnt
            have hMl := hL.len
            refine Wp_seq_region ?_
            refine WpL_val rfl rfl (by decide) (r_move (v := (.slice (some ⟨bl, 0, none⟩) n n)) rfl) ?_
            refine WpL_val rfl rfl (by decide) (r_move (v := (.int .i64 ((k : Nat) : Int))) rfl) ?_
            refine WpL_val rfl rfl (by decide) (r_indexSlice (b := bl) (o := 0) (len := n) (cap := n) (i := k) (o' := 0 + k) rfl rfl rfl Try.underlying130 siz4 (by omega) (by omega)) ?_
            refine s_store (b := bl) (o := 0 + k) (c' := ((M.set k true).map Value.bool).toArray) (v := (.bool true)) rfl rfl rfl siz4 Bl (by simp; omega) (bools_set true) ?_
            intro w11 S11
            replace hw := own_chg hw S11.chg fun b hb h => by subst h; have := (hw.lt _ hb).1; omega
            replace hs3 := Nat.le_trans hs3 S11.chg.size
            replace Bd := S11.keep (by omega) Bd
            replace E := S11.step E (by first | exact Or.inl (by omega) | exact Or.inr rfl | exact Or.inr (by assumption) | exact Or.inr (by simp) | exact Or.inr (by omega) | exact Or.inr (by dsimp only; omega))
            replace E1 := S11.step E1 (Or.inl (by omega))
            replace Bl := S11.blk
            refine WpL_nil ?_
            refine Wp_region ?_
            refine WpL_val rfl rfl (by decide) (r_move (v := (.slice ka kn kc)) rfl) ?_
            refine WpL_val rfl rfl (by decide) (r_move (v := (.int .i64 ((k : Nat) : Int))) rfl) ?_
            refine s_buildSlice (ps := [(0, (.int .i64 ((k : Nat) : Int)))]) (c := #[(.int .i64 ((k : Nat) : Int))]) (by decide) rfl Try.underlying22 siz3 zer3 (by decide) (by decide) (by kernel_rfl) ?_
            intro b12 w12 N12
            have F12 := N12.ge E
            have F12_E1 := N12.ge E1
            have O12_bd := N12.lt Bd
            have O12_bl := N12.lt Bl
            replace Bd := N12.keep Bd
            replace Bl := N12.keep Bl
            replace hw := own_ext hw N12.ext
            replace hs3 := Nat.le_trans hs3 N12.ext.size
            replace E := E.ext N12.ext
            have B12 := N12.blk
            replace E1 := E1.ext N12.ext
            refine s_append (base := n3) (n := kn) (m := 1) (xs := (work.map (Value.int .i64))) (news := [(.int .i64 ((k : Nat) : Int))]) (size := 1) (bytes := 8) (v := (.slice ka kn kc)) (by decide) Try.underlying22 siz3 byt3 zer3 rfl (by decide) rfl hw rfl (rfl) (B12.cells rfl) (by simp [Value.oneCell']) (by unfold maxLen; omega) (by omega) (hs3) ?_
            intro v7 w59 Ov7 Cv7 Dv7
            replace Bd := Cv7.keep (fun h => by have := (hw.lt _ h).1; omega) Bd
            replace Bl := Cv7.keep (fun h => by have := (hw.lt _ h).1; omega) Bl
            replace E := E.step Cv7 (fun x hx h => absurd (hw.lt x h).1 (by omega))
            replace E1 := E1.step Cv7 (fun x hx h => absurd (hw.lt x h).1 (by omega))
            obtain ⟨ka2, kc2, rfl⟩ := own_form Ov7
            refine WpL_val rfl rfl (by decide) (r_assign (v := (.slice ka2 (kn + 1) kc2)) rfl) ?_
            refine WpL_nil ?_
            refine inB_normal ?_
            refine thn_normal ?_
            refine Wp_region ?_
            refine WpL_val rfl rfl (by decide) (r_add (k := .i64) (a := ((k : Nat) : Int)) (b := 1) (c := ((k : Nat) : Int) + 1) rfl rfl (wI64 (by omega))) ?_
            refine WpL_val rfl rfl (by decide) (r_move (v := (.int .i64 (((k : Nat) : Int) + 1))) rfl) ?_
            refine WpL_nil ?_
            refine thn_normal ?_
            exact ⟨n - (k + 1), by omega, k + 1, M.set k true, work ++ [((k : Nat) : Int)], ka2, kc2, kn + 1, Fits.out ⟨rfl, rfl, rfl, rfl, rfl, rfl, trivial⟩, E, E1, Bd, Bl, (by omega), hLk, hC.mark, (by simp; omega), (by rw [List.map_append]; exact Ov7), Nat.le_trans hs3 Cv7.size, (fun i h1 h2 => by rw [List.getElem?_set, if_neg (by omega)]; exact hfr i (by omega) h2), rfl⟩
          · have khpos2 := hpos2
            replace hpos2 := of_decide_eq_false hpos2
            refine Wp_skip ?_
            refine inB_normal ?_
            refine thn_normal ?_
            refine Wp_region ?_
            refine WpL_val rfl rfl (by decide) (r_add (k := .i64) (a := ((k : Nat) : Int)) (b := 1) (c := ((k : Nat) : Int) + 1) rfl rfl (wI64 (by omega))) ?_
            refine WpL_val rfl rfl (by decide) (r_move (v := (.int .i64 (((k : Nat) : Int) + 1))) rfl) ?_
            refine WpL_nil ?_
            refine thn_normal ?_
            exact ⟨n - (k + 1), by omega, k + 1, M, work, ka, kc, kn, Fits.out ⟨rfl, rfl, rfl, rfl, rfl, rfl, trivial⟩, E, E1, Bd, Bl, (by omega), hL.next (fun h => by rw [hatk] at h; omega), hC, hkn, hw, hs3, (fun i h1 h2 => hfr i (by omega) h2), rfl⟩
        · have khlt4 := hlt4
          replace hlt4 := of_decide_eq_false hlt4
          have hkn4 : k = n := by omega
          rw [hkn4] at hL
          refine Wp_exit ?_
          refine thn_exit ?_
          refine thn_exit ?_
          refine inB_here ?_
          refine thn_normal ?_
          refine Wp_seq ?_
          refine Wp_block ?_
          refine Wp_loop (fun nn_ σ W13 => ∃ (M : List Bool) (work : List Int) (ka : Option Addr) (kc kn : Nat), (∃ jj_, σ = upds jj_ [(3, (.slice (some ⟨bi, 0, none⟩) n n)), (8, (.slice (some ⟨bl, 0, none⟩) n n)), (9, (.slice ka kn kc))]) ∧ Chg none1 w0 W13 ∧ Chg none1 W1 W13 ∧ Blk W13 bd #[(.int .i64 d.start), (.slice aa n ac), (.slice na n nc)] 25 ∧ Blk W13 bl ((M.map Value.bool).toArray) 4 ∧ (LiveP n c d M work n) ∧ (ClosP into M work) ∧ (kn = work.length) ∧ (W13.ownsRow n3 TDI 1 (.slice ka kn kc) kn (work.map (Value.int .i64))) ∧ (n3 ≤ W13.heap.size) ∧ nn_ = 2 * M.countP (fun b => !b) + work.length) (n := 2 * M.countP (fun b => !b) + work.length) ?_ ?_
          · exact ⟨M, work, ka, kc, kn, Fits.out ⟨rfl, rfl, rfl, trivial⟩, E, E1, Bd, Bl, hL, hC, hkn, hw, hs3, rfl⟩
          · clear E E1 Bd Bl
            rintro _ _ W13 ⟨M, work, ka, kc, kn, ⟨j13, rfl⟩, E, E1, Bd, Bl, hL, hC, hkn, hw, hs3, rfl⟩
            refine Wp_seq ?_
            refine Wp_seq_region ?_
            refine WpL_val rfl rfl (by decide) (r_move (v := (.slice ka kn kc)) rfl) ?_
            refine WpL_val rfl rfl (by decide) (r_lenSlice (ad := ka) (n := kn) (cap := kc) Try.underlying22 rfl) ?_
            refine WpL_val rfl rfl (by decide) (r_gtr (k := .i64) (a := ((kn : Nat) : Int)) (b := 0) rfl rfl) ?_
            refine WpL_nil ?_
            refine Wp_cond (b := decide ((0 : Int) < ((kn : Nat) : Int))) rfl (fun hlt5 => ?_) (fun hlt5 => ?_)
            · have khlt5 := hlt5
              replace hlt5 := of_decide_eq_true hlt5
              have hcn := hL.cnt
              obtain ⟨wl, x, hwx⟩ := snocs (l := work) (by omega)
              have hwl : work.length = wl.length + 1 := by rw [hwx]; simp
              obtain ⟨u, hxu, hMu⟩ := hL.wrk x (by rw [hwx]; simp)
              have hMl := hL.len
              have hun : u < n := by have := lt_of_get hMu; omega
              obtain ⟨kg, rfl, _, hkc⟩ := own_cells hw (by omega)
              have hle := own_le hw
              obtain ⟨Z, hZ⟩ : ∃ Z, Z = 2 * M.countP (fun b => !b) + work.length := ⟨_, rfl⟩
              refine Wp_skip ?_
              refine thn_normal ?_
              refine Wp_block ?_
              refine Wp_seq_region ?_
              refine WpL_val rfl rfl (by decide) (r_move (v := (.slice (some ⟨kg, 0, none⟩) kn kc)) rfl) ?_
              refine WpL_val rfl rfl (by decide) (r_move (v := (.slice (some ⟨kg, 0, none⟩) kn kc)) rfl) ?_
              refine WpL_val rfl rfl (by decide) (r_lenSlice (ad := some ⟨kg, 0, none⟩) (n := kn) (cap := kc) Try.underlying22 rfl) ?_
              refine WpL_val rfl rfl (by decide) (r_sub (k := .i64) (a := ((kn : Nat) : Int)) (b := 1) (c := ((kn : Nat) : Int) - 1) rfl rfl (wI64 (by omega))) ?_
              refine WpL_val rfl rfl (by decide) (r_indexSlice (b := kg) (o := 0) (len := kn) (cap := kc) (i := kn - 1) (o' := 0 + (kn - 1)) rfl rfl (by omega) Try.underlying22 siz3 (by omega) (by omega)) ?_
              refine WpL_val rfl rfl (by decide) (r_load (v := (.int .i64 x)) rfl flat3 (hkc (kn - 1) _ (by rw [hkn, hwl, Nat.add_sub_cancel, List.getElem?_map, hwx]; simp))) ?_
              refine WpL_val rfl rfl (by decide) (r_assign (v := (.int .i64 x)) rfl) ?_
              refine WpL_nil ?_
              refine Wp_seq_region ?_
              refine WpL_val rfl rfl (by decide) (r_move (v := (.slice (some ⟨kg, 0, none⟩) kn kc)) rfl) ?_
              refine WpL_val rfl rfl (by decide) (r_move (v := (.slice (some ⟨kg, 0, none⟩) kn kc)) rfl) ?_
              refine WpL_val rfl rfl (by decide) (r_lenSlice (ad := some ⟨kg, 0, none⟩) (n := kn) (cap := kc) Try.underlying22 rfl) ?_
              refine WpL_val rfl rfl (by decide) (r_sub (k := .i64) (a := ((kn : Nat) : Int)) (b := 1) (c := ((kn : Nat) : Int) - 1) rfl rfl (wI64 (by omega))) ?_
              obtain ⟨a2, ha2⟩ : ∃ a' : Option Addr, (if kc = 0 then (some ⟨kg, 0, none⟩) else Option.map (fun q : Addr => q.add (0 * 1)) (some ⟨kg, 0, none⟩)) = a' := ⟨_, rfl⟩
              refine WpL_val rfl rfl (by decide) (r_sliceHi (a := (some ⟨kg, 0, none⟩)) (len := kn) (cap := kc) (hi := kn - 1) (l := ((kn : Nat) : Int) - 1) Try.underlying22 siz3 rfl rfl (by omega) (by omega) ha2) ?_
              refine WpL_val rfl rfl (by decide) (r_assign (v := (.slice a2 (kn - 1) kc)) rfl) ?_
              refine WpL_nil ?_
              refine Wp_seq_region ?_
              refine WpL_val rfl rfl (by decide) (r_move (v := (.slice (some ⟨bi, 0, none⟩) n n)) rfl) ?_
              refine WpL_val rfl rfl (by decide) (r_move (v := (.int .i64 x)) rfl) ?_
              have ha3 : a2 = some ⟨kg, 0, none⟩ := by rw [← ha2, if_neg (by omega)]; simp [Addr.add_lit]
              subst ha3
              have hw2 := own_cut hw (m := kn - 1) (by omega) (by omega)
              rw [show (work.map (Value.int .i64)).take ((kn - 1) * 1) = wl.map (Value.int .i64) by rw [hwx, List.map_append, Nat.mul_one, List.take_append_of_le_length (by simp; omega), List.take_of_length_le (by simp; omega)]] at hw2
              have hL2 : LiveP n c d M wl n := ⟨hL.len, fun y hy => hL.wrk y (by rw [hwx]; exact List.mem_append_left _ hy), hL.snd, hL.acc, by omega⟩
              obtain ⟨lu, hlu⟩ := get_of_lt (l := into) (i := u) (by have := hI.len; omega)
              have hlen : (into.map iRow).length = n := by rw [List.length_map]; exact hI.len
              obtain ⟨v1, hv1⟩ := get_of_lt (l := vs) (i := u) (by have := hG.l.len; omega)
              have hp1 : (into.map iRow)[u]? = some (lu.length, lu.map (Value.int .i64)) := by rw [List.getElem?_map, hlu]; rfl
              have hinn := hG.l.inn u v1 _ hv1 hp1
              obtain ⟨va, vc, rfl⟩ := own_form hinn
              obtain ⟨gg, hgg, _, hg2⟩ := own_cells (hG.l.on hlen.symm) (by omega)
              simp only [Option.some.injEq, Addr.mk.injEq, and_true] at hgg
              subst hgg
              have hQ0 := (show ClosP into M (wl ++ [((u : Nat) : Int)]) by rw [← hxu, ← hwx]; exact hC).open lu
              have hil := hI.sht lu (List.mem_of_getElem? hlu)
              refine WpL_val rfl rfl (by decide) (r_indexSlice (b := bi) (o := 0) (len := n) (cap := n) (i := u) (o' := 0 + u) rfl rfl (by omega) Try.underlying23 siz22 (by omega) (by omega)) ?_
              refine WpL_val rfl rfl (by decide) (r_load (v := (.slice va lu.length vc)) rfl flat22 (E1.cell (fun f => f) (hg2 u _ hv1))) ?_
              refine WpL_val rfl rfl (by decide) (r_lenSlice (ad := va) (n := lu.length) (cap := vc) Try.underlying22 rfl) ?_
              refine WpL_val rfl rfl (by decide) (r_move (v := (.int .i64 0)) rfl) ?_
              refine WpL_nil ?_
              refine Wp_block ?_
              refine Wp_loop (fun nn_ σ W15 => ∃ (j : Nat) (M : List Bool) (work : List Int) (ka : Option Addr) (kc kn : Nat), (∃ jj_, σ = upds jj_ [(3, (.slice (some ⟨bi, 0, none⟩) n n)), (8, (.slice (some ⟨bl, 0, none⟩) n n)), (86, (.slice va lu.length vc)), (87, (.int .i64 ((lu.length : Nat) : Int))), (88, (.int .i64 ((j : Nat) : Int))), (9, (.slice ka kn kc))]) ∧ Chg none1 w0 W15 ∧ Chg none1 W1 W15 ∧ Blk W15 bd #[(.int .i64 d.start), (.slice aa n ac), (.slice na n nc)] 25 ∧ Blk W15 bl ((M.map Value.bool).toArray) 4 ∧ (j ≤ lu.length) ∧ (LiveP n c d M work n) ∧ (ClosQ into M work u lu j) ∧ (M[u]? = some true) ∧ (kn = work.length) ∧ (W15.ownsRow n3 TDI 1 (.slice ka kn kc) kn (work.map (Value.int .i64))) ∧ (n3 ≤ W15.heap.size) ∧ (2 * M.countP (fun b => !b) + work.length < Z) ∧ nn_ = lu.length - j) (n := lu.length - 0) ?_ ?_
              · exact ⟨0, M, wl, some ⟨kg, 0, none⟩, kc, kn - 1, Fits.out ⟨rfl, rfl, rfl, rfl, rfl, rfl, trivial⟩, E, E1, Bd, Bl, Nat.zero_le _, hL2, hQ0, hMu, (by omega), hw2, hs3, (by omega), rfl⟩
              · clear E E1 Bd Bl
                rintro _ _ W15 ⟨j, M, work, ka, kc, kn, ⟨j15, rfl⟩, E, E1, Bd, Bl, hj, hL, hQ, hMu, hkn, hw, hs3, hZ, rfl⟩
                refine Wp_seq_region ?_
                refine WpL_val rfl rfl (by decide) (r_lss (k := .i64) (a := ((j : Nat) : Int)) (b := ((lu.length : Nat) : Int)) rfl rfl) ?_
                refine WpL_nil ?_
                refine Wp_seq ?_
                refine Wp_cond (b := decide ((((j : Nat) : Int) : Int) < ((lu.length : Nat) : Int))) rfl (fun hlt6 => ?_) (fun hlt6 => ?_)
                · have khlt6 := hlt6
                  replace hlt6 := of_decide_eq_true hlt6
                  obtain ⟨x, hx⟩ := get_of_lt (l := lu) (i := j) (by omega)
                  obtain ⟨hx0, hxn, y, hy, hyx⟩ := hI.snd u lu hlu x (List.mem_of_getElem? hx)
                  obtain ⟨i, hxi⟩ := Int.eq_ofNat_of_zero_le hx0
                  have hMl := hL.len
                  have hcn := hL.cnt
                  obtain ⟨q, hq⟩ := get_of_lt (l := M) (i := i) (by omega)
                  have hinE := own_intsD (own_ext hinn E1) rfl
                  obtain ⟨ub, uo, rfl, huc⟩ := ints_cells hinE (by omega)
                  refine Wp_skip ?_
                  refine thn_normal ?_
                  refine Wp_seq ?_
                  refine Wp_block ?_
                  refine Wp_seq_region ?_
                  refine WpL_val rfl rfl (by decide) (r_indexSlice (b := ub) (o := uo) (len := lu.length) (cap := vc) (i := j) (o' := uo + j) rfl rfl rfl Try.underlying22 siz3 (by omega) (by omega)) ?_
                  refine WpL_val rfl rfl (by decide) (r_load (v := (.int .i64 x)) rfl flat3 (huc j x hx)) ?_
                  refine WpL_val rfl rfl (by decide) (r_assign (v := (.int .i64 x)) rfl) ?_
                  refine WpL_nil ?_
                  refine Wp_seq_region ?_
                  refine WpL_val rfl rfl (by decide) (r_move (v := (.slice (some ⟨bl, 0, none⟩) n n)) rfl) ?_
                  refine WpL_val rfl rfl (by decide) (r_move (v := (.int .i64 x)) rfl) ?_
                  refine WpL_val rfl rfl (by decide) (r_indexSlice (b := bl) (o := 0) (len := n) (cap := n) (i := i) (o' := 0 + i) rfl rfl (by omega) Try.underlying130 siz4 (by omega) (by omega)) ?_
                  refine WpL_val rfl rfl (by decide) (r_load (v := (.bool q)) rfl flat4 (Bl.cell (by simp [hq]))) ?_
                  refine WpL_val rfl rfl (by decide) (r_not (b := q) rfl) ?_
                  refine WpL_nil ?_
                  refine Wp_cond (b := !q) rfl (fun hqf => ?_) (fun hqf => ?_)
                  · have khqf := hqf
                    replace hqf := by simpa using hqf
                    have hMi : M[i]? = some false := by rw [hq, hqf]
                    have hlvx : liveD c d ((i : Nat) : Int) := live_to (x := y) (by rw [← hxi, hyx]; exact hL.snd u hMu) hy
                    have hLk := hL.mark hMi hlvx
                    have hcs := count_set hMi
                    refine Wp_seq_region ?_
                    refine WpL_val rfl rfl (by decide) (r_move (v := (.slice (some ⟨bl, 0, none⟩) n n)) rfl) ?_
                    refine WpL_val rfl rfl (by decide) (r_move (v := (.int .i64 x)) rfl) ?_
                    refine WpL_val rfl rfl (by decide) (r_indexSlice (b := bl) (o := 0) (len := n) (cap := n) (i := i) (o' := 0 + i) rfl rfl (by omega) Try.underlying130 siz4 (by omega) (by omega)) ?_
                    refine s_store (b := bl) (o := 0 + i) (c' := ((M.set i true).map Value.bool).toArray) (v := (.bool true)) rfl rfl rfl siz4 Bl (by simp; omega) (bools_set true) ?_
                    intro w18 S18
                    replace hw := own_chg hw S18.chg fun b hb h => by subst h; have := (hw.lt _ hb).1; omega
                    replace hs3 := Nat.le_trans hs3 S18.chg.size
                    replace Bd := S18.keep (by omega) Bd
                    replace E := S18.step E (by first | exact Or.inl (by omega) | exact Or.inr rfl | exact Or.inr (by assumption) | exact Or.inr (by simp) | exact Or.inr (by omega) | exact Or.inr (by dsimp only; omega))
                    replace E1 := S18.step E1 (Or.inl (by omega))
                    replace Bl := S18.blk
                    refine WpL_nil ?_
                    refine Wp_region ?_
                    refine WpL_val rfl rfl (by decide) (r_move (v := (.slice ka kn kc)) rfl) ?_
                    refine WpL_val rfl rfl (by decide) (r_move (v := (.int .i64 x)) rfl) ?_
                    refine s_buildSlice (ps := [(0, (.int .i64 x))]) (c := #[(.int .i64 x)]) (by decide) rfl Try.underlying22 siz3 zer3 (by decide) (by decide) (by kernel_rfl) ?_
                    intro b19 w19 N19
                    have F19 := N19.ge E
                    have F19_E1 := N19.ge E1
                    have O19_bd := N19.lt Bd
                    have O19_bl := N19.lt Bl
                    replace Bd := N19.keep Bd
                    replace Bl := N19.keep Bl
                    replace hw := own_ext hw N19.ext
                    replace hs3 := Nat.le_trans hs3 N19.ext.size
                    replace E := E.ext N19.ext
                    have B19 := N19.blk
                    replace E1 := E1.ext N19.ext
                    refine s_append (base := n3) (n := kn) (m := 1) (xs := (work.map (Value.int .i64))) (news := [(.int .i64 x)]) (size := 1) (bytes := 8) (v := (.slice ka kn kc)) (by decide) Try.underlying22 siz3 byt3 zer3 rfl (by decide) rfl hw rfl (rfl) (B19.cells rfl) (by simp [Value.oneCell']) (by unfold maxLen; omega) (by omega) (hs3) ?_
                    intro v7 w59 Ov7 Cv7 Dv7
                    replace Bd := Cv7.keep (fun h => by have := (hw.lt _ h).1; omega) Bd
                    replace Bl := Cv7.keep (fun h => by have := (hw.lt _ h).1; omega) Bl
                    replace E := E.step Cv7 (fun x hx h => absurd (hw.lt x h).1 (by omega))
                    replace E1 := E1.step Cv7 (fun x hx h => absurd (hw.lt x h).1 (by omega))
                    obtain ⟨ka2, kc2, rfl⟩ := own_form Ov7
                    refine WpL_val rfl rfl (by decide) (r_assign (v := (.slice ka2 (kn + 1) kc2)) rfl) ?_
                    refine WpL_nil ?_
                    refine inB_normal ?_
                    refine thn_normal ?_
                    refine Wp_region ?_
                    refine WpL_val rfl rfl (by decide) (r_add (k := .i64) (a := ((j : Nat) : Int)) (b := 1) (c := ((j : Nat) : Int) + 1) rfl rfl (wI64 (by omega))) ?_
                    refine WpL_val rfl rfl (by decide) (r_move (v := (.int .i64 (((j : Nat) : Int) + 1))) rfl) ?_
                    refine WpL_nil ?_
                    refine thn_normal ?_
                    exact ⟨lu.length - (j + 1), by omega, j + 1, M.set i true, work ++ [((i : Nat) : Int)], ka2, kc2, kn + 1, Fits.out ⟨rfl, rfl, rfl, rfl, rfl, rfl, trivial⟩, E, E1, Bd, Bl, (by omega), hLk, hQ.mark (by rw [hx, hxi]) hMi, set_true hMu, (by simp; omega), (by rw [List.map_append, ← hxi]; exact Ov7), Nat.le_trans hs3 Cv7.size, (by simp; omega), rfl⟩
                  · have khqf := hqf
                    replace hqf := by simpa using hqf
                    refine Wp_skip ?_
                    refine inB_normal ?_
                    refine thn_normal ?_
                    refine Wp_region ?_
                    refine WpL_val rfl rfl (by decide) (r_add (k := .i64) (a := ((j : Nat) : Int)) (b := 1) (c := ((j : Nat) : Int) + 1) rfl rfl (wI64 (by omega))) ?_
                    refine WpL_val rfl rfl (by decide) (r_move (v := (.int .i64 (((j : Nat) : Int) + 1))) rfl) ?_
                    refine WpL_nil ?_
                    refine thn_normal ?_
                    exact ⟨lu.length - (j + 1), by omega, j + 1, M, work, ka, kc, kn, Fits.out ⟨rfl, rfl, rfl, rfl, rfl, rfl, trivial⟩, E, E1, Bd, Bl, (by omega), hL, hQ.seen hx (by rw [hxi, Int.toNat_natCast, hq, hqf]), hMu, hkn, hw, hs3, hZ, rfl⟩
                · have khlt6 := hlt6
                  replace hlt6 := of_decide_eq_false hlt6
                  refine Wp_exit ?_
                  refine thn_exit ?_
                  refine thn_exit ?_
                  refine inB_here ?_
                  refine inB_normal ?_
                  refine thn_normal ?_
                  exact ⟨2 * M.countP (fun b => !b) + work.length, by omega, M, work, ka, kc, kn, Fits.out ⟨rfl, rfl, rfl, trivial⟩, E, E1, Bd, Bl, hL, hQ.done hlu (by omega), hkn, hw, hs3, rfl⟩
            · have khlt5 := hlt5
              replace hlt5 := of_decide_eq_false hlt5
              have hw0 : work = [] := List.eq_nil_of_length_eq_zero (by omega)
              rw [hw0] at hL hC
              refine Wp_exit ?_
              refine thn_exit ?_
              refine thn_exit ?_
              refine inB_here ?_
              refine thn_normal ?_
              refine Wp_seq_region ?_
              refine WpL_val rfl rfl (by decide) (r_move (v := (.slice (some ⟨bl, 0, none⟩) n n)) rfl) ?_
              refine WpL_val rfl rfl (by decide) (r_assign (v := (.slice (some ⟨bl, 0, none⟩) n n)) rfl) ?_
              refine WpL_nil ?_
              refine Wp_ret ?_
              refine fin_tmp Try.results95 (v := (.slice (some ⟨bl, 0, none⟩) n n)) rfl ?_
              exact ⟨⟨M, bl, live_final ok hI hL hC, rfl, by omega, Bl⟩, E⟩
end Go.Proofs
namespace Go.Proofs
open Go Go.Eng Go.Sort
theorem Refd.cnt_mono {n c cnt cnt' : Nat} {d : Dfa} {p q : List Int} (hp : Refd n c d p cnt) (hq : Refd n c d q cnt') (hf : ∀ s t : Nat, s < n → t < n → liveD c d s → liveD c d t → q[s]? = q[t]? → p[s]? = p[t]?) : cnt ≤ cnt' := by
  have hmap : ∀ j : Nat, ∃ i : Nat, j < cnt' → (i < cnt ∧ ∀ u : Nat, u < n → liveD c d u → q[u]? = some ((j : Nat) : Int) → p[u]? = some ((i : Nat) : Int)) := by
    intro j
    by_cases hj : j < cnt'
    · obtain ⟨u, hu, lu, hqu⟩ := hq.onto j hj
      obtain ⟨i, hi, hic⟩ := hp.liv u hu lu
      refine ⟨i, fun _ => ⟨hic, fun v hv lv hqv => ?_⟩⟩
      rw [← hf u v hu hv lu lv (by rw [hqu, hqv])]; exact hi
    · exact ⟨0, fun h => absurd h hj⟩
  obtain ⟨f, hfm⟩ := Classical.axiomOfChoice hmap
  have hle := nodup_leN (l := List.range cnt) (m := (List.range cnt').map f) List.nodup_range fun i hi => by
    rw [List.mem_range] at hi
    obtain ⟨u, hu, lu, hpu⟩ := hp.onto i hi
    obtain ⟨j, hj, hjc⟩ := hq.liv u hu lu
    have h1 := (hfm j hjc).2 u hu lu hj
    rw [hpu] at h1
    exact List.mem_map.2 ⟨j, List.mem_range.2 hjc, by simp at h1; omega⟩
  simpa using hle
def bytes4 (n : Int) : List Int := [n % 256, n / 256 % 256, n / 65536 % 256, n / 16777216 % 256]
def encIi (l : List Int) : ByteArray := strOfNums (l.flatMap bytes4)
def okK (l : List Int) : Prop := ∀ x ∈ l, -1 ≤ x ∧ x < 2147483648
theorem bytes4_rng (n : Int) : ∀ x ∈ bytes4 n, 0 ≤ x ∧ x < 256 := by
  intro x hx
  simp only [bytes4, List.mem_cons, List.not_mem_nil, or_false] at hx
  omega
theorem bytes4_inj {x y : Int} (hx : -1 ≤ x ∧ x < 2147483648) (hy : -1 ≤ y ∧ y < 2147483648) (h : bytes4 x = bytes4 y) : x = y := by
  simp only [bytes4, List.cons.injEq, and_true] at h
  omega
theorem flat4_inj : ∀ {l m : List Int}, okK l → okK m → l.flatMap bytes4 = m.flatMap bytes4 → l = m
  | [], [], _, _, _ => rfl
  | [], y :: m, _, _, h => by simp [bytes4] at h
  | x :: l, [], _, _, h => by simp [bytes4] at h
  | x :: l, y :: m, hl, hm, h => by
    rw [List.flatMap_cons, List.flatMap_cons] at h
    obtain ⟨h1, h2⟩ := List.append_inj h rfl
    rw [bytes4_inj (hl x List.mem_cons_self) (hm y List.mem_cons_self) h1, flat4_inj (fun z hz => hl z (List.mem_cons_of_mem _ hz)) (fun z hz => hm z (List.mem_cons_of_mem _ hz)) h2]
theorem flat4_rng {l : List Int} : ∀ x ∈ l.flatMap bytes4, 0 ≤ x ∧ x < 256 := fun x hx => by
  obtain ⟨y, _, h⟩ := List.mem_flatMap.1 hx
  exact bytes4_rng y x h
theorem nums_inj {l m : List Int} (hl : ∀ x ∈ l, 0 ≤ x ∧ x < 256) (hm : ∀ x ∈ m, 0 ≤ x ∧ x < 256) (h : strOfNums l = strOfNums m) : l = m := by
  have h1 := congrArg (fun s => s.data.toList) h
  simp only [strOfNums_data] at h1
  have h2 : ∀ {l m : List Int}, (∀ x ∈ l, 0 ≤ x ∧ x < 256) → (∀ x ∈ m, 0 ≤ x ∧ x < 256) → l.map (fun i => UInt8.ofNat i.toNat) = m.map (fun i => UInt8.ofNat i.toNat) → l = m := by
    intro l
    induction l with
    | nil => intro m _ _ h; cases m with
      | nil => rfl
      | cons y m => cases h
    | cons x l ih =>
      intro m h3 h4 h
      cases m with
      | nil => cases h
      | cons y m =>
        simp only [List.map_cons, List.cons.injEq] at h
        have a := h3 x List.mem_cons_self
        have b := h4 y List.mem_cons_self
        have e := congrArg UInt8.toNat h.1
        simp only [UInt8.toNat_ofNat'] at e
        rw [ih (fun z hz => h3 z (List.mem_cons_of_mem _ hz)) (fun z hz => h4 z (List.mem_cons_of_mem _ hz)) h.2]
        congr 1
        omega
  exact h2 hl hm h1
theorem encI_inj {l m : List Int} (hl : okK l) (hm : okK m) (h : encIi l = encIi m) : l = m := flat4_inj hl hm (nums_inj flat4_rng flat4_rng h)
def keysI : List (List Int) → Nat → List (ByteArray × Int)
  | [], _ => []
  | m :: ks, n => (encIi m, ((n : Nat) : Int)) :: keysI ks (n + 1)
theorem keysI_len : ∀ (ks : List (List Int)) (n : Nat), (keysI ks n).length = ks.length
  | [], _ => rfl
  | _ :: ks, n => by simp [keysI, keysI_len ks]
theorem keysI_snoc : ∀ (ks : List (List Int)) (m : List Int) (n : Nat), keysI (ks ++ [m]) n = keysI ks n ++ [(encIi m, (((n + ks.length : Nat) : Nat) : Int))]
  | [], m, n => rfl
  | x :: ks, m, n => by
    show (encIi x, _) :: keysI (ks ++ [m]) (n + 1) = (encIi x, _) :: (keysI ks (n + 1) ++ _)
    rw [keysI_snoc ks m (n + 1), List.length_cons, show n + 1 + ks.length = n + (ks.length + 1) by omega]
theorem keysI_mem : ∀ {ks : List (List Int)} {n : Nat} {q : ByteArray × Int}, q ∈ keysI ks n → ∃ (j : Nat) (m : List Int), ks[j]? = some m ∧ q = (encIi m, (((n + j : Nat) : Nat) : Int))
  | [], _, _, h => by cases h
  | x :: ks, n, q, h => by
    rcases List.mem_cons.1 h with h | h
    · exact ⟨0, x, rfl, h⟩
    · obtain ⟨j, m, h1, h2⟩ := keysI_mem h
      exact ⟨j + 1, m, h1, by rw [h2]; congr 2; omega⟩
theorem keysI_key : ∀ {ks : List (List Int)} {n : Nat} {m : List Int}, m ∈ ks → encIi m ∈ (keysI ks n).map (·.1)
  | x :: ks, n, m, h => by
    rcases List.mem_cons.1 h with rfl | h
    · exact List.mem_cons_self
    · exact List.mem_cons_of_mem _ (keysI_key (n := n + 1) h)
theorem keysI_get {ks : List (List Int)} {m : List Int} {v : Int} (hk : ∀ k ∈ ks, okK k) (hm : okK m) (h : getM (keysI ks 0) (encIi m) = some v) : ∃ j : Nat, v = ((j : Nat) : Int) ∧ ks[j]? = some m := by
  obtain ⟨j, m', h1, h2⟩ := keysI_mem (getM_some_mem h)
  simp only [Prod.mk.injEq, Nat.zero_add] at h2
  obtain rfl := encI_inj hm (hk m' (List.mem_of_getElem? h1)) h2.1
  exact ⟨j, h2.2, h1⟩
theorem keysI_none {ks : List (List Int)} {m : List Int} (h : getM (keysI ks 0) (encIi m) = none) : m ∉ ks ∧ putM (keysI ks 0) (encIi m) ((ks.length : Nat) : Int) = keysI (ks ++ [m]) 0 := by
  refine ⟨fun hm => ?_, ?_⟩
  · have := getM_isSome.2 (keysI_key (n := 0) hm)
    rw [h] at this; cases this
  · rw [putM_none _ h, keysI_snoc, Nat.zero_add]
abbrev TU8 : Nat := 5
theorem wU8m (n : Int) : IntKind.u8.wrap n = n % 256 := by
  simp only [IntKind.wrap, IntKind.bits, IntKind.signed, Bool.true_and, Bool.false_and, decide_eq_true_eq, ge_iff_le, Int.reducePow, Nat.reduceSub, Bool.false_eq_true, if_false]
theorem fdiv_pos (n : Int) {k : Int} (h : 0 ≤ k) : n.fdiv k = n / k := Int.fdiv_eq_ediv_of_nonneg n h
theorem word4_c (w0 : World) (base n : Nat) (v : Value) (xs : List Int) (x : Int) (hv : w0.ownsRow base TU8 1 v n (xs.map (Value.int .u8))) (hb : base ≤ w0.heap.size) (hn : n ≤ 1000000) (hxn : n = xs.length) (hx : -1 ≤ x ∧ x < 2147483648) :
    Ret Try.prog 97 #[v, .int .i64 x] w0 fun r w => (∃ a c, r = .slice a (n + 4) c) ∧ w.ownsRow base TU8 1 r (n + 4) ((xs ++ bytes4 x).map (Value.int .u8)) ∧ Chg (fun y => v.ownBlock = some y) w0 w := by
  obtain ⟨a, c, rfl⟩ := own_form hv
  refine Ret_of Try.func97 rfl Try.ntmps97 (Nat.le_of_ble_eq_true rfl) ?_
  have E : Chg (fun y => (Value.slice a n c).ownBlock = some y) w0 w0 := Chg.refl _ _
  refine Wp_seq_region ?_
  refine WpL_val rfl rfl (by decide) (r_assign (v := (.slice none 0 0)) rfl) ?_
  refine WpL_nil ?_
  refine Wp_seq_region ?_
  refine WpL_val rfl rfl (by decide) (r_move (v := (.slice a n c)) rfl) ?_
  refine WpL_val rfl rfl (by decide) (r_move (v := (.int .i64 x)) rfl) ?_
  refine WpL_val rfl rfl (by decide) (r_convInt (k := .i64) (k' := .u8) (n := x) (c := x % 256) ⟨_, Try.underlying3⟩ Try.underlying5 rfl (wU8m x)) ?_
  refine WpL_val rfl rfl (by decide) (r_move (v := (.int .i64 x)) rfl) ?_
  refine WpL_val rfl rfl (by decide) (r_shr (k := .i64) (a := x) (b := 8) (c := x / 256) (k' := .u64) rfl rfl (by omega) (fdiv_pos x (by decide))) ?_
  refine WpL_val rfl rfl (by decide) (r_convInt (k := .i64) (k' := .u8) (n := x / 256) (c := x / 256 % 256) ⟨_, Try.underlying3⟩ Try.underlying5 rfl (wU8m _)) ?_
  refine WpL_val rfl rfl (by decide) (r_move (v := (.int .i64 x)) rfl) ?_
  refine WpL_val rfl rfl (by decide) (r_shr (k := .i64) (a := x) (b := 16) (c := x / 65536) (k' := .u64) rfl rfl (by omega) (fdiv_pos x (by decide))) ?_
  refine WpL_val rfl rfl (by decide) (r_convInt (k := .i64) (k' := .u8) (n := x / 65536) (c := x / 65536 % 256) ⟨_, Try.underlying3⟩ Try.underlying5 rfl (wU8m _)) ?_
  refine WpL_val rfl rfl (by decide) (r_move (v := (.int .i64 x)) rfl) ?_
  refine WpL_val rfl rfl (by decide) (r_shr (k := .i64) (a := x) (b := 24) (c := x / 16777216) (k' := .u64) rfl rfl (by omega) (fdiv_pos x (by decide))) ?_
  refine WpL_val rfl rfl (by decide) (r_convInt (k := .i64) (k' := .u8) (n := x / 16777216) (c := x / 16777216 % 256) ⟨_, Try.underlying3⟩ Try.underlying5 rfl (wU8m _)) ?_
  refine s_buildSlice (ps := [(0, (.int .u8 (x % 256))), (1, (.int .u8 (x / 256 % 256))), (2, (.int .u8 (x / 65536 % 256))), (3, (.int .u8 (x / 16777216 % 256)))]) (c := #[(.int .u8 (x % 256)), (.int .u8 (x / 256 % 256)), (.int .u8 (x / 65536 % 256)), (.int .u8 (x / 16777216 % 256))]) (by decide) rfl Try.underlying62 siz5 zer5 (by decide) (by decide) (by kernel_rfl) ?_
  intro bt wt Nt
  have Ft := Nt.ge E
  replace E := E.ext Nt.ext
  have Bt := Nt.blk
  have hvt := own_ext hv Nt.ext
  refine s_append (base := base) (n := n) (m := 4) (xs := (xs.map (Value.int .u8))) (news := [(.int .u8 (x % 256)), (.int .u8 (x / 256 % 256)), (.int .u8 (x / 65536 % 256)), (.int .u8 (x / 16777216 % 256))]) (size := 1) (bytes := 1) (v := (.slice a n c)) (by decide) Try.underlying62 siz5 byt5 zer5 rfl (by decide) rfl hvt rfl (rfl) (Bt.cells rfl) (by simp [Value.oneCell']) (by unfold maxLen; omega) (by omega) ((by have := Nt.ext.size; omega)) ?_
  intro v7 w59 Ov7 Cv7 Dv7
  replace E := E.step Cv7 (fun x hx h => h)
  obtain ⟨a2, c2, rfl⟩ := own_form Ov7
  refine WpL_val rfl rfl (by decide) (r_assign (v := (.slice a2 (n + 4) c2)) rfl) ?_
  refine WpL_nil ?_
  refine Wp_ret ?_
  refine fin_tmp Try.results97 (v := (.slice a2 (n + 4) c2)) rfl ?_
  exact ⟨⟨a2, c2, rfl⟩, by rw [List.map_append]; exact Ov7, E⟩
end Go.Proofs
namespace Go.Proofs
open Go Go.Eng Go.Sort
set_option maxRecDepth 100000
def bytF (base n : Nat) (xs : List Int) : Fct := fun v w => ∃ a c, v = .slice a n c ∧ w.ownsRow base TU8 1 (.slice a n c) n (xs.map (Value.int .u8))
theorem bytF_ext (base n : Nat) (xs : List Int) : ∀ v w w', Ext w w' → bytF base n xs v w → bytF base n xs v w' := by
  rintro v w w' e ⟨a, c, h1, h2⟩
  exact ⟨a, c, h1, own_ext h2 e⟩
theorem word4_nil (w0 : World) (base : Nat) (x : Int) (hb : base ≤ w0.heap.size) (hx : -1 ≤ x ∧ x < 2147483648) :
    Ret Try.prog 97 #[.slice none 0 0, .int .i64 x] w0 fun r w => bytF base 4 (bytes4 x) r w ∧ Ext w0 w :=
  (word4_c w0 base 0 (.slice none 0 0) [] x (World.ownsRow_nil _ _ _ _) hb (by decide) rfl hx).mono fun r w ⟨⟨a, c, h1⟩, h2, h3⟩ => by
    subst h1
    exact ⟨⟨a, c, rfl, by simpa using h2⟩, h3.mono fun y _ h => by cases h⟩
theorem r_bytesOwn {P : Program} {σ : Env} {w : World} {ty t : TypeId} {pos : String} {af : Array Edge} {x : Operand} {dst : Option Tmp} {g : Option (Nat × Bool)} {s e base n c : Nat} {a : Option Addr} {l : List Int} (hs : P.underlying s = some (.slice e)) (he : P.underlying e = some (.int .u8)) (ht : P.underlying t = some .string) (hx : ev σ x = .slice a n c)
    (ho : w.ownsRow base TU8 1 (.slice a n c) n (l.map (Value.int .u8))) (hl : l.length = n) (hn : 0 < n) : (execOp (ev σ) ⟨dst, .convert s t x, ty, pos, af, g⟩).run P w = .ok (.value (.string (strOfNums l))) w := by
  obtain ⟨b, rfl, _, hc⟩ := own_cells ho hn
  have h := run_convert_bytes_arg (P := P) w s e hs he b 0 n c l hl (fun i hi => by
    have h1 : l[i]? = some l[i] := List.getElem?_eq_getElem (by omega)
    have h2 := hc i (.int .u8 (l.getD i 0)) (by simp [List.getD, h1])
    exact h2) t ht
  simp only [execOp, hx, Sem.run_bind, h, Result.andThen_ok]
  rfl
theorem key1_c (w0 : World) (bw bd n : Nat) (d : Dfa) (dv : List Value) (s : Nat) (x : Int) (hW : Blk w0 bw #[.func (.func 97) #[] #[]] 134) (hD : Blk w0 bd dv.toArray 25) (h : DfaAt w0 d dv) (hal : d.accept.length = n) (hs : d.accept[s]? = some x) (hx : -1 ≤ x ∧ x < 2147483648) :
    Ret Try.prog 98 #[.int .i64 ((s : Nat) : Int), .pointer (some ⟨bw, 0, none⟩), .pointer (some ⟨bd, 0, none⟩)] w0 fun r w => r = .string (encIi [x]) ∧ Ext w0 w := by
  obtain ⟨aa, ac, na, nc, rfl, hacc, hnxt⟩ := h
  have hsl := lt_of_get hs
  rw [hal] at hacc hsl
  obtain ⟨ab, ao, rfl, hac⟩ := ints_cells (n := n) hacc (by omega)
  rw [hal] at hD
  obtain ⟨base, hbase⟩ : ∃ base, base = w0.heap.size := ⟨_, rfl⟩
  refine Ret_of Try.func98 rfl Try.ntmps98 (Nat.le_of_ble_eq_true rfl) ?_
  have E : Chg none1 w0 w0 := Chg.refl _ _
  refine Wp_seq_region ?_
  refine WpL_val rfl rfl (by decide) (r_assign (v := (.string (ByteArray.mk #[]))) rfl) ?_
  refine WpL_nil ?_
  refine Wp_seq ?_
  obtain ⟨Fs1, hFs1⟩ : ∃ Fs : List Fact, Fs = [.eq (.func (.func 97) #[] #[]), .eq (.pointer (some ⟨bd, 1, none⟩)), .eq (.slice (some ⟨ab, ao, none⟩) n ac), .eq (.int .i64 ((s : Nat) : Int)), .eq (.pointer (some ⟨ab, ao + s, none⟩)), .eq (.int .i64 x), .gen (bytF base 4 (bytes4 x)) (bytF_ext _ _ _), .eq (.string (strOfNums (bytes4 x))), .eq (.string (strOfNums (bytes4 x)))] := ⟨_, rfl⟩
  refine Wp_dag [5, 6, 7, 8, 9, 10, 11, 12, 4] [[], [], [1], [], [2, 3], [4], [0, 5], [6], [0, 1, 2, 3, 4, 5, 6, 7]] Fs1 hFs1 mixed (by kernel_rfl) (by kernel_rfl) ?_ ?_
  · intro wd X0
    refine DagSteps.cons (fun s' w' X U H => Or.inl ⟨?_, ?_⟩) ?_
    · exact Guarded_none rfl
    · exact Does_val (r_load (v := (.func (.func 97) #[] #[])) (U 1 rfl) flat134 (((X0.trans X).keep hW).cell rfl)) (Ext.refl _) rfl
    refine DagSteps.cons (fun s' w' X U H => Or.inl ⟨?_, ?_⟩) ?_
    · exact Guarded_none rfl
    · exact Does_val (r_fieldAddr (b := bd) (o := 0) (o' := 1) (U 2 rfl) Try.underlying25 rfl siz22 rfl) (Ext.refl _) rfl
    refine DagSteps.cons (fun s' w' X U H => Or.inl ⟨?_, ?_⟩) ?_
    · exact Guarded_none rfl
    · have e6 : s' 6 = (.pointer (some ⟨bd, 1, none⟩)) := H 1 rfl 6 (.eq (.pointer (some ⟨bd, 1, none⟩))) rfl (by rw [hFs1]; rfl)
      exact Does_val (r_load (v := (.slice (some ⟨ab, ao, none⟩) n ac)) e6 flat22 (((X0.trans X).keep hD).cell rfl)) (Ext.refl _) rfl
    refine DagSteps.cons (fun s' w' X U H => Or.inl ⟨?_, ?_⟩) ?_
    · exact Guarded_none rfl
    · exact Does_val (r_move (v := (.int .i64 ((s : Nat) : Int))) (U 0 rfl)) (Ext.refl _) rfl
    refine DagSteps.cons (fun s' w' X U H => Or.inl ⟨?_, ?_⟩) ?_
    · exact Guarded_none rfl
    · have e7 : s' 7 = (.slice (some ⟨ab, ao, none⟩) n ac) := H 2 rfl 7 (.eq (.slice (some ⟨ab, ao, none⟩) n ac)) rfl (by rw [hFs1]; rfl)
      have e8 : s' 8 = (.int .i64 ((s : Nat) : Int)) := H 3 rfl 8 (.eq (.int .i64 ((s : Nat) : Int))) rfl (by rw [hFs1]; rfl)
      exact Does_val (r_indexSlice (b := ab) (o := ao) (len := n) (cap := ac) (i := s) (o' := ao + s) e7 e8 rfl Try.underlying22 siz3 (by omega) (by omega)) (Ext.refl _) rfl
    refine DagSteps.cons (fun s' w' X U H => Or.inl ⟨?_, ?_⟩) ?_
    · exact Guarded_none rfl
    · have e9 : s' 9 = (.pointer (some ⟨ab, ao + s, none⟩)) := H 4 rfl 9 (.eq (.pointer (some ⟨ab, ao + s, none⟩))) rfl (by rw [hFs1]; rfl)
      exact Does_val (r_load (v := (.int .i64 x)) e9 flat3 ((Chg.ext E (X0.trans X)).cell (fun f => f) (hac s x hs))) (Ext.refl _) rfl
    refine DagSteps.cons (fun s' w' X U H => Or.inl ⟨?_, ?_⟩) ?_
    · exact Guarded_none rfl
    · have e10 : s' 10 = (.int .i64 x) := H 5 rfl 10 (.eq (.int .i64 x)) rfl (by rw [hFs1]; rfl)
      have e5 : s' 5 = (.func (.func 97) #[] #[]) := H 0 rfl 5 (.eq (.func (.func 97) #[] #[])) rfl (by rw [hFs1]; rfl)
      exact Does_enter (r_callV (first := #[]) (cap := #[]) (vs := [(.slice none 0 0), (.int .i64 x)]) (ws := #[(.slice none 0 0), (.int .i64 x)]) e5 Try.func97 nm97 bd97 (lst2 rfl e10) rfl) (word4_nil _ base x (by have := X0.size; have := X.size; omega) hx)
    refine DagSteps.cons (fun s' w' X U H => Or.inl ⟨?_, ?_⟩) ?_
    · exact Guarded_none rfl
    · obtain ⟨a11, c11, e11, O11⟩ := H 6 rfl 11 (.gen (bytF base 4 (bytes4 x)) (bytF_ext _ _ _)) rfl (by rw [hFs1]; rfl)
      exact Does_val (r_bytesOwn (l := bytes4 x) Try.underlying62 Try.underlying5 Try.underlying9 e11 O11 rfl (by decide)) (Ext.refl _) rfl
    refine DagSteps.cons (fun s' w' X U H => Or.inl ⟨?_, ?_⟩) ?_
    · exact Guarded_none rfl
    · have e12 : s' 12 = (.string (strOfNums (bytes4 x))) := H 7 rfl 12 (.eq (.string (strOfNums (bytes4 x)))) rfl (by rw [hFs1]; rfl)
      exact Does_val (r_assign (v := (.string (strOfNums (bytes4 x)))) e12) (Ext.refl _) rfl
    exact DagSteps.nil
  · intro s' w1 X1 U H
    obtain ⟨j1, rfl⟩ := Fits.out (σ := s') (l := [(4, (.string (strOfNums (bytes4 x))))]) ⟨(show s' 4 = (.string (strOfNums (bytes4 x))) from H 8 4 (.eq (.string (strOfNums (bytes4 x)))) rfl (by rw [hFs1]; rfl)), trivial⟩
    clear U H
    replace hW := X1.keep hW
    replace hD := X1.keep hD
    replace E := E.ext X1
    refine thn_normal ?_
    refine Wp_ret ?_
    refine fin_tmp Try.results98 (v := (.string (strOfNums (bytes4 x)))) rfl ?_
    exact ⟨by unfold encIi; simp, E⟩
theorem word4_own (w0 : World) (base n : Nat) (a : Option Addr) (c : Nat) (xs : List Int) (x : Int) (hv : w0.ownsRow base TU8 1 (.slice a n c) n (xs.map (Value.int .u8))) (hb : base ≤ w0.heap.size) (hn : n ≤ 1000000) (hxn : n = xs.length) (hx : -1 ≤ x ∧ x < 2147483648) :
    Ret Try.prog 97 #[.slice a n c, .int .i64 x] w0 fun r w => bytF base (n + 4) (xs ++ bytes4 x) r w ∧ Chg (fun y => (Value.slice a n c).ownBlock = some y) w0 w :=
  (word4_c w0 base n (.slice a n c) xs x hv hb hn hxn hx).mono fun r w ⟨⟨a, c, h1⟩, h2, h3⟩ => by
    subst h1
    exact ⟨⟨a, c, rfl, h2⟩, h3⟩
theorem nextKey_bytes (c : Nat) (d : Dfa) (p : List Int) (s : Nat) : encIi (nextKey c d p s) = strOfNums (bytes4 (ptD p s) ++ ((List.range c).map fun x => ptD p (toD d s x)).flatMap bytes4) := by
  unfold encIi nextKey
  rw [List.flatMap_cons]
theorem ptD_rng {n : Nat} {p : List Int} (hp : ∀ x ∈ p, -1 ≤ x ∧ x < (n : Int)) (hn : n ≤ 20000) (s : Int) : -1 ≤ ptD p s ∧ ptD p s < 2147483648 := by
  unfold ptD
  split
  · omega
  · rw [List.getD_eq_getElem?_getD]
    cases h : p[s.toNat]? with
    | none => simp
    | some x => have := hp x (List.mem_of_getElem? h); simp; omega
set_option maxHeartbeats 1000000 in
theorem key2_c (w0 : World) (bw bo bd n c pb pc : Nat) (d : Dfa) (dv : List Value) (p : List Int) (s : Nat) (ok : OkD n c d) (hW : Blk w0 bw #[.func (.func 97) #[] #[]] 134) (hO : Blk w0 bo #[.slice (some ⟨pb, 0, none⟩) n pc] 22) (hD : Blk w0 bd dv.toArray 25) (h : DfaAt w0 d dv)
    (hP : IntsAt w0 (.slice (some ⟨pb, 0, none⟩) n pc) p) (hpl : p.length = n) (hpr : ∀ x ∈ p, -1 ≤ x ∧ x < (n : Int)) (hs : s < n) (hn : n ≤ 20000 ∧ c ≤ 16) :
    Ret Try.prog 99 #[.int .i64 ((s : Nat) : Int), .pointer (some ⟨bw, 0, none⟩), .pointer (some ⟨bo, 0, none⟩), .pointer (some ⟨bd, 0, none⟩)] w0 fun r w => r = .string (encIi (nextKey c d p s)) ∧ Ext w0 w := by
  obtain ⟨aa, ac, na, nc, rfl, hacc, hnxt⟩ := h
  have hnl := ok.nl
  rw [hnl] at hnxt hD
  obtain ⟨nb, no, rfl, hnx⟩ := intss_cells (n := n) hnxt (by omega)
  obtain ⟨row, hrow⟩ := get_of_lt (l := d.next) (i := s) (by omega)
  have hrl := (ok.row row (List.mem_of_getElem? hrow)).1
  obtain ⟨ra, rc, hcell, hri⟩ := hnx s row hrow
  obtain ⟨xs0, hxs0⟩ := get_of_lt (l := p) (i := s) (by omega)
  have hps := ptD_get hxs0
  obtain ⟨pb', po', hpa, hpc⟩ := ints_cells (n := n) hP (by omega)
  simp only [Option.some.injEq, Addr.mk.injEq, and_true] at hpa
  obtain ⟨rfl, rfl⟩ := hpa
  obtain ⟨base, hbase⟩ : ∃ base, base = w0.heap.size := ⟨_, rfl⟩
  have hpb : pb < w0.heap.size := World.block_lt_of_cell? w0 _ (hpc s xs0 hxs0)
  have hbw := hW.lt
  have hbo := hO.lt
  have hbd := hD.lt
  refine Ret_of Try.func99 rfl Try.ntmps99 (Nat.le_of_ble_eq_true rfl) ?_
  have E : Chg none1 w0 w0 := Chg.refl _ _
  refine Wp_seq_region ?_
  refine WpL_val rfl rfl (by decide) (r_assign (v := (.string (ByteArray.mk #[]))) rfl) ?_
  refine WpL_nil ?_
  refine Wp_seq ?_
  obtain ⟨Fs1, hFs1⟩ : ∃ Fs : List Fact, Fs = [.eq (.func (.func 97) #[] #[]), .eq (.slice (some ⟨pb, 0, none⟩) n pc), .eq (.int .i64 ((s : Nat) : Int)), .eq (.pointer (some ⟨pb, 0 + s, none⟩)), .eq (.int .i64 xs0), .gen (bytF base 4 (bytes4 xs0)) (bytF_ext _ _ _), .gen (bytF base 4 (bytes4 xs0)) (bytF_ext _ _ _)] := ⟨_, rfl⟩
  refine Wp_dag [9, 10, 11, 12, 13, 14, 6] [[], [], [], [1, 2], [3], [0, 4], [0, 1, 2, 3, 4, 5]] Fs1 hFs1 mixed (by kernel_rfl) (by kernel_rfl) ?_ ?_
  · intro wd X0
    refine DagSteps.cons (fun s' w' X U H => Or.inl ⟨?_, ?_⟩) ?_
    · exact Guarded_none rfl
    · exact Does_val (r_load (v := (.func (.func 97) #[] #[])) (U 1 rfl) flat134 (((X0.trans X).keep hW).cell rfl)) (Ext.refl _) rfl
    refine DagSteps.cons (fun s' w' X U H => Or.inl ⟨?_, ?_⟩) ?_
    · exact Guarded_none rfl
    · exact Does_val (r_load (v := (.slice (some ⟨pb, 0, none⟩) n pc)) (U 2 rfl) flat22 (((X0.trans X).keep hO).cell rfl)) (Ext.refl _) rfl
    refine DagSteps.cons (fun s' w' X U H => Or.inl ⟨?_, ?_⟩) ?_
    · exact Guarded_none rfl
    · exact Does_val (r_move (v := (.int .i64 ((s : Nat) : Int))) (U 0 rfl)) (Ext.refl _) rfl
    refine DagSteps.cons (fun s' w' X U H => Or.inl ⟨?_, ?_⟩) ?_
    · exact Guarded_none rfl
    · have e10 : s' 10 = (.slice (some ⟨pb, 0, none⟩) n pc) := H 1 rfl 10 (.eq (.slice (some ⟨pb, 0, none⟩) n pc)) rfl (by rw [hFs1]; rfl)
      have e11 : s' 11 = (.int .i64 ((s : Nat) : Int)) := H 2 rfl 11 (.eq (.int .i64 ((s : Nat) : Int))) rfl (by rw [hFs1]; rfl)
      exact Does_val (r_indexSlice (b := pb) (o := 0) (len := n) (cap := pc) (i := s) (o' := 0 + s) e10 e11 rfl Try.underlying22 siz3 (by omega) (by omega)) (Ext.refl _) rfl
    refine DagSteps.cons (fun s' w' X U H => Or.inl ⟨?_, ?_⟩) ?_
    · exact Guarded_none rfl
    · have e12 : s' 12 = (.pointer (some ⟨pb, 0 + s, none⟩)) := H 3 rfl 12 (.eq (.pointer (some ⟨pb, 0 + s, none⟩))) rfl (by rw [hFs1]; rfl)
      exact Does_val (r_load (v := (.int .i64 xs0)) e12 flat3 ((Chg.ext E (X0.trans X)).cell (fun f => f) (hpc s xs0 hxs0))) (Ext.refl _) rfl
    refine DagSteps.cons (fun s' w' X U H => Or.inl ⟨?_, ?_⟩) ?_
    · exact Guarded_none rfl
    · have e13 : s' 13 = (.int .i64 xs0) := H 4 rfl 13 (.eq (.int .i64 xs0)) rfl (by rw [hFs1]; rfl)
      have e9 : s' 9 = (.func (.func 97) #[] #[]) := H 0 rfl 9 (.eq (.func (.func 97) #[] #[])) rfl (by rw [hFs1]; rfl)
      exact Does_enter (r_callV (first := #[]) (cap := #[]) (vs := [(.slice none 0 0), (.int .i64 xs0)]) (ws := #[(.slice none 0 0), (.int .i64 xs0)]) e9 Try.func97 nm97 bd97 (lst2 rfl e13) rfl) (word4_nil _ base xs0 (by have := X0.size; have := X.size; omega) (by rw [← hps]; exact ptD_rng hpr hn.1 _))
    refine DagSteps.cons (fun s' w' X U H => Or.inl ⟨?_, ?_⟩) ?_
    · exact Guarded_none rfl
    · obtain ⟨a14, c14, e14, O14⟩ := H 5 rfl 14 (.gen (bytF base 4 (bytes4 xs0)) (bytF_ext _ _ _)) rfl (by rw [hFs1]; rfl)
      exact Does_val (r_assign e14) (Ext.refl _) ⟨a14, c14, rfl, O14⟩
    exact DagSteps.nil
  · intro s' w1 X1 U H
    obtain ⟨a6, c6, e6, O6⟩ := H 6 6 (.gen (bytF base 4 (bytes4 xs0)) (bytF_ext _ _ _)) rfl (by rw [hFs1]; rfl)
    obtain ⟨j1, rfl⟩ := Fits.out (σ := s') (l := [(0, (.int .i64 ((s : Nat) : Int))), (1, (.pointer (some ⟨bw, 0, none⟩))), (2, (.pointer (some ⟨bo, 0, none⟩))), (3, (.pointer (some ⟨bd, 0, none⟩))), (6, (.slice a6 4 c6))]) ⟨U 0 rfl, U 1 rfl, U 2 rfl, U 3 rfl, e6, trivial⟩
    clear U H
    replace hW := X1.keep hW
    replace hO := X1.keep hO
    replace hD := X1.keep hD
    replace E := E.ext X1
    refine thn_normal ?_
    refine Wp_seq ?_
    refine Wp_seq_region ?_
    refine WpL_val rfl rfl (by decide) (r_fieldAddr (b := bd) (o := 0) (o' := 2) rfl Try.underlying25 rfl siz23 rfl) ?_
    refine WpL_val rfl rfl (by decide) (r_load (v := (.slice (some ⟨nb, no, none⟩) n nc)) rfl flat23 (hD.cell rfl)) ?_
    refine WpL_val rfl rfl (by decide) (r_move (v := (.int .i64 ((s : Nat) : Int))) rfl) ?_
    refine WpL_val rfl rfl (by decide) (r_indexSlice (b := nb) (o := no) (len := n) (cap := nc) (i := s) (o' := no + s) rfl rfl rfl Try.underlying23 siz22 (by omega) (by omega)) ?_
    refine WpL_val rfl rfl (by decide) (r_load (v := (.slice ra row.length rc)) rfl flat22 (E.cell (fun f => f) hcell)) ?_
    have hs6 : base ≤ (w1).heap.size := by have := E.size; omega
    refine WpL_val rfl rfl (by decide) (r_lenSlice (ad := ra) (n := row.length) (cap := rc) Try.underlying22 rfl) ?_
    refine WpL_val rfl rfl (by decide) (r_move (v := (.int .i64 0)) rfl) ?_
    refine WpL_nil ?_
    refine Wp_block ?_
    refine Wp_loop (fun nn_ σ W2 => ∃ (k : Nat) (xs : List Int) (ba : Option Addr) (bc bn : Nat), (∃ jj_, σ = upds jj_ [(1, (.pointer (some ⟨bw, 0, none⟩))), (2, (.pointer (some ⟨bo, 0, none⟩))), (19, (.slice ra row.length rc)), (20, (.int .i64 ((row.length : Nat) : Int))), (21, (.int .i64 ((k : Nat) : Int))), (6, (.slice ba bn bc))]) ∧ Chg none1 w0 W2 ∧ Blk W2 bw #[(.func (.func 97) #[] #[])] 134 ∧ Blk W2 bo #[(.slice (some ⟨pb, 0, none⟩) n pc)] 22 ∧ Blk W2 bd #[(.int .i64 d.start), (.slice aa d.accept.length ac), (.slice (some ⟨nb, no, none⟩) n nc)] 25 ∧ (k ≤ c) ∧ (xs = bytes4 (ptD p s) ++ ((List.range k).map fun x => ptD p (toD d s x)).flatMap bytes4) ∧ (xs.length = 4 * (k + 1)) ∧ (bn = xs.length) ∧ (W2.ownsRow base TU8 1 (.slice ba bn bc) bn (xs.map (Value.int .u8))) ∧ (base ≤ W2.heap.size) ∧ nn_ = c - k) (n := c - 0) ?_ ?_
    · exact ⟨0, bytes4 xs0, a6, c6, 4, Fits.out ⟨rfl, rfl, rfl, rfl, rfl, rfl, trivial⟩, E, hW, hO, hD, Nat.zero_le _, (by rw [hps]; simp), rfl, rfl, O6, hs6, rfl⟩
    · clear E hW hO hD
      rintro _ _ W2 ⟨k, xs, ba, bc, bn, ⟨j2, rfl⟩, E, hW, hO, hD, hk, hxs, hbl, hbn, hw, hbs, rfl⟩
      refine Wp_seq_region ?_
      refine WpL_val rfl rfl (by decide) (r_lss (k := .i64) (a := ((k : Nat) : Int)) (b := ((row.length : Nat) : Int)) rfl rfl) ?_
      refine WpL_nil ?_
      refine Wp_seq ?_
      refine Wp_cond (b := decide ((((k : Nat) : Int) : Int) < ((row.length : Nat) : Int))) rfl (fun hlt => ?_) (fun hlt => ?_)
      · have khlt := hlt
        replace hlt := of_decide_eq_true hlt
        obtain ⟨x, hx⟩ := get_of_lt (l := row) (i := k) (by omega)
        obtain ⟨rb, ro, rfl, hrc⟩ := ints_cells hri (by omega)
        obtain ⟨htk, hkc, _, hxl, hxh⟩ := toD_row ok hrow hx
        have hxs2 : ∀ y, y = ptD p x → xs ++ bytes4 y = bytes4 (ptD p s) ++ ((List.range (k + 1)).map fun x => ptD p (toD d s x)).flatMap bytes4 := fun y hy => by rw [List.range_succ, List.map_append, List.flatMap_append, hxs, List.append_assoc, hy, ← htk]; simp
        refine Wp_skip ?_
        refine thn_normal ?_
        refine Wp_seq ?_
        refine Wp_block ?_
        refine Wp_seq_region ?_
        refine WpL_val rfl rfl (by decide) (r_indexSlice (b := rb) (o := ro) (len := row.length) (cap := rc) (i := k) (o' := ro + k) rfl rfl rfl Try.underlying22 siz3 (by omega) (by omega)) ?_
        refine WpL_val rfl rfl (by decide) (r_load (v := (.int .i64 x)) rfl flat3 (E.cell (fun f => f) (hrc k x hx))) ?_
        refine WpL_val rfl rfl (by decide) (r_assign (v := (.int .i64 x)) rfl) ?_
        refine WpL_nil ?_
        refine Wp_seq_region ?_
        refine WpL_val rfl rfl (by decide) (r_move (v := (.int .i64 x)) rfl) ?_
        refine WpL_val rfl rfl (by decide) (r_lss (k := .i64) (a := x) (b := 0) rfl rfl) ?_
        refine WpL_nil ?_
        refine Wp_cond (b := decide ((x : Int) < 0)) rfl (fun hneg => ?_) (fun hneg => ?_)
        · have khneg := hneg
          replace hneg := of_decide_eq_true hneg
          refine Wp_region ?_
          refine WpL_val rfl rfl (by decide) (r_load (v := (.func (.func 97) #[] #[])) rfl flat134 (hW.cell rfl)) ?_
          refine WpL_val rfl rfl (by decide) (r_move (v := (.slice ba bn bc)) rfl) ?_
          refine WpL_enter rfl rfl (by decide) (r_callV (first := #[]) (cap := #[]) (vs := [(.slice ba bn bc), (.int .i64 (-1))]) (ws := #[(.slice ba bn bc), (.int .i64 (-1))]) rfl Try.func97 nm97 bd97 rfl rfl) (word4_own _ base bn ba bc xs (-1) hw hbs (by omega) hbn (by omega)) ?_
          rintro _ w9 ⟨⟨a2, c2, rfl, O9⟩, C9⟩
          replace hW := C9.keep (fun h => by have := (hw.lt _ h).1; omega) hW
          replace hO := C9.keep (fun h => by have := (hw.lt _ h).1; omega) hO
          replace hD := C9.keep (fun h => by have := (hw.lt _ h).1; omega) hD
          replace E := E.step C9 (fun x hx h => absurd (hw.lt x h).1 (by omega))
          refine WpL_val rfl rfl (by decide) (r_assign (v := (.slice a2 (bn + 4) c2)) rfl) ?_
          refine WpL_nil ?_
          refine inB_normal ?_
          refine thn_normal ?_
          refine Wp_region ?_
          refine WpL_val rfl rfl (by decide) (r_add (k := .i64) (a := ((k : Nat) : Int)) (b := 1) (c := ((k : Nat) : Int) + 1) rfl rfl (wI64 (by omega))) ?_
          refine WpL_val rfl rfl (by decide) (r_move (v := (.int .i64 (((k : Nat) : Int) + 1))) rfl) ?_
          refine WpL_nil ?_
          refine thn_normal ?_
          exact ⟨c - (k + 1), by omega, k + 1, xs ++ bytes4 (-1), a2, c2, bn + 4, Fits.out ⟨rfl, rfl, rfl, rfl, rfl, rfl, trivial⟩, E, hW, hO, hD, (by omega), hxs2 _ (ptD_neg hneg).symm, (by simp [bytes4]; omega), (by simp [bytes4]; omega), O9, Nat.le_trans hbs C9.size, rfl⟩
        · have khneg := hneg
          replace hneg := of_decide_eq_false hneg
          obtain ⟨t, ht⟩ := Int.eq_ofNat_of_zero_le (show 0 ≤ x by omega)
          obtain ⟨pt, hpt⟩ := get_of_lt (l := p) (i := t) (by omega)
          have hptx : pt = ptD p x := by rw [ht]; exact (ptD_get hpt).symm
          obtain ⟨Fs5, hFs5⟩ : ∃ Fs : List (FactT ((fun y => (Value.slice ba bn bc).ownBlock = some y))), Fs = [.eq (.func (.func 97) #[] #[]), .eq (.slice ba bn bc), .eq (.slice (some ⟨pb, 0, none⟩) n pc), .eq (.int .i64 x), .eq (.pointer (some ⟨pb, 0 + t, none⟩)), .eq (.int .i64 pt), .own (bytF base (bn + 4) (xs ++ bytes4 pt)) (bytF_ext _ _ _)] := ⟨_, rfl⟩
          refine Wp_dagT ((fun y => (Value.slice ba bn bc).ownBlock = some y)) 7 6 [30, 31, 32, 33, 34, 35, 36] [[], [], [], [], [2, 3], [4], [0, 1, 5]] Fs5 hFs5 rfl mixed (by kernel_rfl) (by kernel_rfl) (by kernel_rfl) ?_ ?_
          · intro wd X0
            refine DagStepsT.cons (fun s' w' X U H => ?_) ?_
            · exact DoesT_val (r_load (v := (.func (.func 97) #[] #[])) (U 1 rfl) flat134 ((Chg.keep X (fun f => f) (X0.keep hW)).cell rfl)) (Chg.refl _ _) rfl
            refine DagStepsT.cons (fun s' w' X U H => ?_) ?_
            · exact DoesT_val (r_move (v := (.slice ba bn bc)) (U 6 rfl)) (Chg.refl _ _) rfl
            refine DagStepsT.cons (fun s' w' X U H => ?_) ?_
            · exact DoesT_val (r_load (v := (.slice (some ⟨pb, 0, none⟩) n pc)) (U 2 rfl) flat22 ((Chg.keep X (fun h => by have := (hw.lt _ h).1; omega) (X0.keep hO)).cell rfl)) (Chg.refl _ _) rfl
            refine DagStepsT.cons (fun s' w' X U H => ?_) ?_
            · exact DoesT_val (r_move (v := (.int .i64 x)) (U 8 rfl)) (Chg.refl _ _) rfl
            refine DagStepsT.cons (fun s' w' X U H => ?_) ?_
            · have e32 : s' 32 = (.slice (some ⟨pb, 0, none⟩) n pc) := H 2 rfl 32 (.eq (.slice (some ⟨pb, 0, none⟩) n pc)) rfl (by rw [hFs5]; rfl)
              have e33 : s' 33 = (.int .i64 x) := H 3 rfl 33 (.eq (.int .i64 x)) rfl (by rw [hFs5]; rfl)
              exact DoesT_val (r_indexSlice (b := pb) (o := 0) (len := n) (cap := pc) (i := t) (o' := 0 + t) e32 e33 (by omega) Try.underlying22 siz3 (by omega) (by omega)) (Chg.refl _ _) rfl
            refine DagStepsT.cons (fun s' w' X U H => ?_) ?_
            · have e34 : s' 34 = (.pointer (some ⟨pb, 0 + t, none⟩)) := H 4 rfl 34 (.eq (.pointer (some ⟨pb, 0 + t, none⟩))) rfl (by rw [hFs5]; rfl)
              exact DoesT_val (r_load (v := (.int .i64 pt)) e34 flat3 (Ext.cell X (Ext.cell X0 (E.cell (fun f => f) (hpc t pt hpt))))) (Chg.refl _ _) rfl
            refine DagStepsT.cons (fun s' w' X U H => ?_) ?_
            · have e31 : s' 31 = (.slice ba bn bc) := H 1 rfl 31 (.eq (.slice ba bn bc)) rfl (by rw [hFs5]; rfl)
              have e35 : s' 35 = (.int .i64 pt) := H 5 rfl 35 (.eq (.int .i64 pt)) rfl (by rw [hFs5]; rfl)
              have e30 : s' 30 = (.func (.func 97) #[] #[]) := H 0 rfl 30 (.eq (.func (.func 97) #[] #[])) rfl (by rw [hFs5]; rfl)
              exact DoesT_enter (r_callV (first := #[]) (cap := #[]) (vs := [(.slice ba bn bc), (.int .i64 pt)]) (ws := #[(.slice ba bn bc), (.int .i64 pt)]) e30 Try.func97 nm97 bd97 (lst2 e31 e35) rfl) (word4_own _ base bn ba bc xs pt (own_ext (own_ext hw X0) X) (by have := X0.size; have := X.size; omega) (by omega) hbn (by rw [hptx]; exact ptD_rng hpr hn.1 _))
            exact DagStepsT.nil
          · intro s' wd5 w5 X0 X5 U H
            obtain ⟨a36, c36, e36, O36⟩ := (show (.own (bytF base (bn + 4) (xs ++ bytes4 pt)) (bytF_ext _ _ _) : FactT ((fun y => (Value.slice ba bn bc).ownBlock = some y))).In (s' 36) w5 from H 6 36 (.own (bytF base (bn + 4) (xs ++ bytes4 pt)) (bytF_ext _ _ _)) rfl (by rw [hFs5]; rfl))
            obtain ⟨j5, rfl⟩ := Fits.out (σ := s') (l := [(1, (.pointer (some ⟨bw, 0, none⟩))), (2, (.pointer (some ⟨bo, 0, none⟩))), (19, (.slice (some ⟨rb, ro, none⟩) row.length rc)), (20, (.int .i64 ((row.length : Nat) : Int))), (21, (.int .i64 ((k : Nat) : Int))), (36, (.slice a36 (bn + 4) c36))]) ⟨U 1 rfl, U 2 rfl, U 19 rfl, U 20 rfl, U 21 rfl, e36, trivial⟩
            clear U H
            replace hW := Chg.keep X5 (fun h => by have := (hw.lt _ h).1; omega) (X0.keep hW)
            replace hO := Chg.keep X5 (fun h => by have := (hw.lt _ h).1; omega) (X0.keep hO)
            replace hD := Chg.keep X5 (fun h => by have := (hw.lt _ h).1; omega) (X0.keep hD)
            have hXm := Chg.trans (Ext.chg X0) X5
            replace E := (E.ext X0).step X5 (fun y hy h => by have := (hw.lt _ h).1; omega)
            refine WpL_val rfl rfl (by decide) (r_assign (v := (.slice a36 (bn + 4) c36)) rfl) ?_
            refine WpL_nil ?_
            refine inB_normal ?_
            refine thn_normal ?_
            refine Wp_region ?_
            refine WpL_val rfl rfl (by decide) (r_add (k := .i64) (a := ((k : Nat) : Int)) (b := 1) (c := ((k : Nat) : Int) + 1) rfl rfl (wI64 (by omega))) ?_
            refine WpL_val rfl rfl (by decide) (r_move (v := (.int .i64 (((k : Nat) : Int) + 1))) rfl) ?_
            refine WpL_nil ?_
            refine thn_normal ?_
            exact ⟨c - (k + 1), by omega, k + 1, xs ++ bytes4 pt, a36, c36, bn + 4, Fits.out ⟨rfl, rfl, rfl, rfl, rfl, rfl, trivial⟩, E, hW, hO, hD, (by omega), hxs2 _ hptx, (by simp [bytes4]; omega), (by simp [bytes4]; omega), O36, Nat.le_trans hbs hXm.size, rfl⟩
      · have khlt := hlt
        replace hlt := of_decide_eq_false hlt
        have hkk : k = c := by omega
        refine Wp_exit ?_
        refine thn_exit ?_
        refine thn_exit ?_
        refine inB_here ?_
        refine thn_normal ?_
        refine Wp_seq_region ?_
        refine WpL_val rfl rfl (by decide) (r_move (v := (.slice ba bn bc)) rfl) ?_
        refine WpL_val rfl rfl (by decide) (r_bytesOwn (l := xs) Try.underlying62 Try.underlying5 Try.underlying9 rfl hw hbn.symm (by omega)) ?_
        refine WpL_val rfl rfl (by decide) (r_assign (v := (.string (strOfNums xs))) rfl) ?_
        refine WpL_nil ?_
        refine Wp_ret ?_
        refine fin_tmp Try.results99 (v := (.string (strOfNums xs))) rfl ?_
        exact ⟨by rw [nextKey_bytes, ← hkk, ← hxs], E⟩
end Go.Proofs
namespace Go.Proofs
open Go Go.Eng Go.Sort
set_option maxRecDepth 100000
def keysOf (M : List Bool) (keyf : Nat → List Int) (n : Nat) : List (Option (List Int)) := (List.range n).map fun s => if M[s]? = some true then some (keyf s) else none
theorem keysOf_succ (M : List Bool) (keyf : Nat → List Int) (n : Nat) : keysOf M keyf (n + 1) = keysOf M keyf n ++ [if M[n]? = some true then some (keyf n) else none] := by
  unfold keysOf
  rw [List.range_succ, List.map_append]; rfl
theorem keysI_at {ks : List (List Int)} {k : List Int} {j : Nat} (hk : ∀ k ∈ ks, okK k) (hd : ks.Nodup) (hj : ks[j]? = some k) : getM (keysI ks 0) (encIi k) = some ((j : Nat) : Int) := by
  have hm := List.mem_of_getElem? hj
  have h1 := getM_isSome.2 (keysI_key (n := 0) hm)
  obtain ⟨v, hv⟩ := Option.isSome_iff_exists.1 h1
  obtain ⟨i, rfl, hi⟩ := keysI_get hk (hk k hm) hv
  have a := lt_of_get hi
  have b := lt_of_get hj
  rw [List.getElem?_eq_getElem a] at hi
  rw [List.getElem?_eq_getElem b] at hj
  have e := (Option.some.inj hi).trans (Option.some.inj hj).symm
  have : i = j := by
    rcases Nat.lt_trichotomy i j with h5 | h5 | h5
    · exact absurd e (List.pairwise_iff_getElem.1 hd i j a b h5)
    · exact h5
    · exact absurd e.symm (List.pairwise_iff_getElem.1 hd j i b a h5)
  rw [hv, this]
theorem ints_setD {L : List Int} {k : Nat} (x : Int) : ((L.map (Value.int .i64)).toArray).setIfInBounds (0 + k) (.int .i64 x) = ((L.set k x).map (Value.int .i64)).toArray := by
  apply Array.ext'
  rw [Array.toList_setIfInBounds, Nat.zero_add, ← List.map_set]
theorem take_set_succ {L : List Int} {s : Nat} {x : Int} (hs : s < L.length) : (L.set s x).take (s + 1) = L.take s ++ [x] := by
  rw [List.take_add_one, List.getElem?_set, if_pos rfl, if_pos hs, List.take_set_of_le (Nat.le_refl s)]; rfl
theorem num_join {M : List Bool} {keyf : Nat → List Int} {s j : Nat} {ks ks1 : List (List Int)} {out : List Int} (hN : Num (keysOf M keyf s) ks out) (hq : M[s]? = some true) (hk : ks1 = ks ∨ (keyf s ∉ ks ∧ ks1 = ks ++ [keyf s] ∧ j = ks.length)) (hj : ks1[j]? = some (keyf s)) : Num (keysOf M keyf (s + 1)) ks1 (out ++ [((j : Nat) : Int)]) := by
  rw [keysOf_succ, if_pos hq]
  rcases hk with h1 | ⟨h1, h2, h3⟩
  · subst h1; exact hN.hit hj
  · subst h2; subst h3; exact hN.new h1
theorem okK_join {ks ks1 : List (List Int)} {x : List Int} {j : Nat} (hks : ∀ k ∈ ks, okK k) (hx : okK x) (hk : ks1 = ks ∨ (x ∉ ks ∧ ks1 = ks ++ [x] ∧ j = ks.length)) : ∀ k ∈ ks1, okK k := by
  intro k h
  rcases hk with h1 | ⟨_, h2, _⟩
  · subst h1; exact hks k h
  · subst h2
    rcases List.mem_append.1 h with h3 | h3
    · exact hks k h3
    · rw [List.mem_singleton] at h3; subst h3; exact hx
set_option maxHeartbeats 1000000 in
theorem numb_c (w0 : World) (bp blv lb bc n pc : Nat) (pa : Option Addr) (fv : Value) (cnt0 : Int) (M : List Bool) (keyf : Nat → List Int)
    (hP : Blk w0 bp #[.slice pa n pc] 22) (hV : Blk w0 blv #[.slice (some ⟨lb, 0, none⟩) n n] 130) (hB : Blk w0 lb (M.map Value.bool).toArray 4) (hC : Blk w0 bc #[.int .i64 cnt0] 3)
    (hdis : bp ≠ blv ∧ bp ≠ lb ∧ bp ≠ bc ∧ bc ≠ blv ∧ bc ≠ lb) (hMl : M.length = n) (hn : n ≤ 20000)
    (hkey : ∀ (w : World) (s : Nat), s < n → M[s]? = some true → Ext w0 w → CallV Try.prog fv #[.int .i64 ((s : Nat) : Int)] w fun r w' => r = .string (encIi (keyf s)) ∧ Ext w w')
    (hok : ∀ s, s < n → M[s]? = some true → okK (keyf s)) :
    Ret Try.prog 96 #[fv, .pointer (some ⟨bp, 0, none⟩), .pointer (some ⟨blv, 0, none⟩), .pointer (some ⟨bc, 0, none⟩)] w0 fun r w => r = .tuple #[] ∧ (∃ q ks b, Num (keysOf M keyf n) ks q ∧ Blk w bp #[.slice (some ⟨b, 0, none⟩) n n] 22 ∧ Blk w b (q.map (Value.int .i64)).toArray 3 ∧ w0.heap.size ≤ b ∧ Blk w bc #[.int .i64 ((ks.length : Nat) : Int)] 3) ∧ Chg (fun y => y = bp ∨ y = bc) w0 w := by
  have l1 := hP.lt
  have l2 := hV.lt
  have l3 := hB.lt
  have l4 := hC.lt
  obtain ⟨d1, d2, d3, d4, d5⟩ := hdis
  refine Ret_of Try.func96 rfl Try.ntmps96 (Nat.le_of_ble_eq_true rfl) ?_
  have E : Chg (fun y => y = bp ∨ y = bc) w0 w0 := Chg.refl _ _
  have E9 : Chg none1 w0 w0 := Chg.refl _ _
  refine Wp_seq_region ?_
  refine s_makeMap kStr kInt (by decide) ?_
  intro bm wm Nm
  have Fm := Nm.ge E
  have Fm_E9 := Nm.ge E9
  have Om_bp := Nm.lt hP
  have Om_blv := Nm.lt hV
  have Om_lb := Nm.lt hB
  have Om_bc := Nm.lt hC
  replace hP := Nm.keep hP
  replace hV := Nm.keep hV
  replace hB := Nm.keep hB
  replace hC := Nm.keep hC
  replace E := E.ext Nm.ext
  replace E9 := E9.ext Nm.ext
  intro Mm
  refine WpL_val rfl rfl (by decide) (r_assign (v := (.map (some bm))) rfl) ?_
  refine WpL_nil ?_
  refine Wp_seq_region ?_
  refine WpL_val rfl rfl (by decide) (r_load (v := (.slice pa n pc)) rfl flat22 (hP.cell rfl)) ?_
  refine WpL_val rfl rfl (by decide) (r_lenSlice (ad := pa) (n := n) (cap := pc) Try.underlying22 rfl) ?_
  refine s_make (n := n) (z := (.int .i64 0)) (bytes := 8) (by decide) Try.underlying22 siz3 byt3 zer3 rfl rfl rfl (by omega) (by omega) ?_
  intro bq wq Nq
  have Fq := Nq.ge E
  have Fq_E9 := Nq.ge E9
  have Oq_bp := Nq.lt hP
  have Oq_blv := Nq.lt hV
  have Oq_lb := Nq.lt hB
  have Oq_bc := Nq.lt hC
  have Oq_bm := Nq.ltM Mm
  replace hP := Nq.keep hP
  replace hV := Nq.keep hV
  replace hB := Nq.keep hB
  replace hC := Nq.keep hC
  replace Mm := Nq.keepM Mm
  replace E := E.ext Nq.ext
  have Bq := Nq.blk
  replace E9 := E9.ext Nq.ext
  refine WpL_val rfl rfl (by decide) (r_assign (v := (.slice (some ⟨bq, 0, none⟩) n n)) rfl) ?_
  refine WpL_nil ?_
  refine Wp_seq ?_
  refine Wp_seq_region ?_
  refine WpL_val rfl rfl (by decide) (r_load (v := (.slice pa n pc)) rfl flat22 (hP.cell rfl)) ?_
  refine WpL_val rfl rfl (by decide) (r_lenSlice (ad := pa) (n := n) (cap := pc) Try.underlying22 rfl) ?_
  refine WpL_val rfl rfl (by decide) (r_move (v := (.int .i64 0)) rfl) ?_
  refine WpL_nil ?_
  refine Wp_block ?_
  rw [show List.replicate n (Value.int .i64 0) = (List.replicate n (0 : Int)).map (Value.int .i64) by simp] at Bq
  refine Wp_loop (fun nn_ σ W1 => ∃ (s : Nat) (ks : List (List Int)) (L : List Int), (∃ jj_, σ = upds jj_ [(0, fv), (1, (.pointer (some ⟨bp, 0, none⟩))), (2, (.pointer (some ⟨blv, 0, none⟩))), (3, (.pointer (some ⟨bc, 0, none⟩))), (5, (.map (some bm))), (6, (.slice (some ⟨bq, 0, none⟩) n n)), (16, (.int .i64 ((n : Nat) : Int))), (17, (.int .i64 ((s : Nat) : Int)))]) ∧ Chg (fun y => y = bp ∨ y = bc) w0 W1 ∧ Chg none1 w0 W1 ∧ Blk W1 bp #[(.slice pa n pc)] 22 ∧ Blk W1 blv #[(.slice (some ⟨lb, 0, none⟩) n n)] 130 ∧ Blk W1 lb ((M.map Value.bool).toArray) 4 ∧ Blk W1 bc #[(.int .i64 cnt0)] 3 ∧ MapAt W1 bm kStr kInt (keysI ks 0) ∧ Blk W1 bq ((L.map (Value.int .i64)).toArray) 3 ∧ (s ≤ n) ∧ (L.length = n) ∧ (Num (keysOf M keyf s) ks (L.take s)) ∧ (∀ k ∈ ks, okK k) ∧ nn_ = n - s) (n := n - 0) ?_ ?_
  · exact ⟨0, [], List.replicate n 0, Fits.out ⟨rfl, rfl, rfl, rfl, rfl, rfl, rfl, rfl, trivial⟩, E, E9, hP, hV, hB, hC, Mm, Bq, Nat.zero_le _, (by simp), Num.start, (fun k h => absurd h List.not_mem_nil), rfl⟩
  · clear E E9 hP hV hB hC Mm Bq
    rintro _ _ W1 ⟨s, ks, L, ⟨j1, rfl⟩, E, E9, hP, hV, hB, hC, Mm, Bq, hs, hLl, hN, hks, rfl⟩
    refine Wp_seq_region ?_
    refine WpL_val rfl rfl (by decide) (r_lss (k := .i64) (a := ((s : Nat) : Int)) (b := ((n : Nat) : Int)) rfl rfl) ?_
    refine WpL_nil ?_
    refine Wp_seq ?_
    refine Wp_cond (b := decide ((((s : Nat) : Int) : Int) < ((n : Nat) : Int))) rfl (fun hlt => ?_) (fun hlt => ?_)
    · have khlt := hlt
      replace hlt := of_decide_eq_true hlt
      obtain ⟨q, hq⟩ := get_of_lt (l := M) (i := s) (by omega)
      have hts := take_set_succ (L := L) (s := s) (x := -1) (by omega)
      refine Wp_skip ?_
      refine thn_normal ?_
      refine Wp_seq ?_
      refine Wp_block ?_
      refine Wp_seq_region ?_
      refine WpL_val rfl rfl (by decide) (r_move (v := (.int .i64 ((s : Nat) : Int))) rfl) ?_
      refine WpL_val rfl rfl (by decide) (r_assign (v := (.int .i64 ((s : Nat) : Int))) rfl) ?_
      refine WpL_nil ?_
      refine Wp_seq ?_
      refine Wp_seq_region ?_
      refine WpL_val rfl rfl (by decide) (r_move (v := (.slice (some ⟨bq, 0, none⟩) n n)) rfl) ?_
      refine WpL_val rfl rfl (by decide) (r_move (v := (.int .i64 ((s : Nat) : Int))) rfl) ?_
      refine WpL_val rfl rfl (by decide) (r_indexSlice (b := bq) (o := 0) (len := n) (cap := n) (i := s) (o' := 0 + s) rfl rfl rfl Try.underlying22 siz3 (by omega) (by omega)) ?_
      refine s_store (b := bq) (o := 0 + s) (c' := ((L.set s (-1)).map (Value.int .i64)).toArray) (v := (.int .i64 (-1))) rfl rfl rfl siz3 Bq (by simp; omega) (ints_setD _) ?_
      intro w3 S3
      replace hP := S3.keep (by omega) hP
      replace hV := S3.keep (by omega) hV
      replace hB := S3.keep (by omega) hB
      replace hC := S3.keep (by omega) hC
      replace Mm := S3.keepM (by omega) Mm
      replace E := S3.step E (by first | exact Or.inl (by omega) | exact Or.inr rfl | exact Or.inr (by assumption) | exact Or.inr (by simp) | exact Or.inr (by omega) | exact Or.inr (by dsimp only; omega))
      replace E9 := S3.step E9 (Or.inl (by omega))
      replace Bq := S3.blk
      refine WpL_nil ?_
      refine Wp_seq_region ?_
      refine WpL_val rfl rfl (by decide) (r_load (v := (.slice (some ⟨lb, 0, none⟩) n n)) rfl flat130 (hV.cell rfl)) ?_
      refine WpL_val rfl rfl (by decide) (r_move (v := (.int .i64 ((s : Nat) : Int))) rfl) ?_
      refine WpL_val rfl rfl (by decide) (r_indexSlice (b := lb) (o := 0) (len := n) (cap := n) (i := s) (o' := 0 + s) rfl rfl rfl Try.underlying130 siz4 (by omega) (by omega)) ?_
      refine WpL_val rfl rfl (by decide) (r_load (v := (.bool q)) rfl flat4 (hB.cell (by simp [hq]))) ?_
      refine WpL_val rfl rfl (by decide) (r_not (b := q) rfl) ?_
      refine WpL_nil ?_
      refine Wp_cond (b := !q) rfl (fun hqf => ?_) (fun hqf => ?_)
      · have khqf := hqf
        replace hqf := by simpa using hqf
        refine Wp_exit ?_
        refine thn_exit ?_
        refine inB_here ?_
        refine thn_normal ?_
        refine Wp_region ?_
        refine WpL_val rfl rfl (by decide) (r_add (k := .i64) (a := ((s : Nat) : Int)) (b := 1) (c := ((s : Nat) : Int) + 1) rfl rfl (wI64 (by omega))) ?_
        refine WpL_val rfl rfl (by decide) (r_move (v := (.int .i64 (((s : Nat) : Int) + 1))) rfl) ?_
        refine WpL_nil ?_
        refine thn_normal ?_
        exact ⟨n - (s + 1), by omega, s + 1, ks, L.set s (-1), Fits.out ⟨rfl, rfl, rfl, rfl, rfl, rfl, rfl, rfl, trivial⟩, E, E9, hP, hV, hB, hC, Mm, Bq, (by omega), (by simp [hLl]), (by rw [keysOf_succ, hts, if_neg (by rw [hq, hqf]; simp)]; exact hN.none), hks, rfl⟩
      · have khqf := hqf
        replace hqf := by simpa using hqf
        have hqt : M[s]? = some true := by rw [hq]; simpa using hqf
        have hok1 := hok s (by omega) hqt
        refine Wp_skip ?_
        refine thn_normal ?_
        refine Wp_seq_region ?_
        refine WpL_val rfl rfl (by decide) (r_move (v := fv) rfl) ?_
        refine WpL_val rfl rfl (by decide) (r_move (v := (.int .i64 ((s : Nat) : Int))) rfl) ?_
        refine WpL_callV (fv := fv) (vs := [(.int .i64 ((s : Nat) : Int))]) (by decide) rfl rfl (hkey _ s (by omega) hqt E9) ?_
        rintro _ w9 ⟨rfl, X9⟩
        replace hP := X9.keep hP
        replace hV := X9.keep hV
        replace hB := X9.keep hB
        replace hC := X9.keep hC
        replace Mm := X9.keepM Mm
        replace Bq := X9.keep Bq
        replace E := E.ext X9
        replace E9 := E9.ext X9
        refine WpL_val rfl rfl (by decide) (r_assign (v := (.string (encIi (keyf s)))) rfl) ?_
        refine WpL_nil ?_
        refine Wp_cut (fun σ W5 => ∃ (ks1 : List (List Int)) (j : Nat), (∃ jj_, σ = upds jj_ [(0, fv), (1, (.pointer (some ⟨bp, 0, none⟩))), (2, (.pointer (some ⟨blv, 0, none⟩))), (3, (.pointer (some ⟨bc, 0, none⟩))), (5, (.map (some bm))), (6, (.slice (some ⟨bq, 0, none⟩) n n)), (7, (.int .i64 ((s : Nat) : Int))), (8, (.string (encIi (keyf s)))), (16, (.int .i64 ((n : Nat) : Int))), (17, (.int .i64 ((s : Nat) : Int)))]) ∧ Chg (fun y => y = bp ∨ y = bc) w0 W5 ∧ Chg none1 w0 W5 ∧ Blk W5 bp #[(.slice pa n pc)] 22 ∧ Blk W5 blv #[(.slice (some ⟨lb, 0, none⟩) n n)] 130 ∧ Blk W5 lb ((M.map Value.bool).toArray) 4 ∧ Blk W5 bc #[(.int .i64 cnt0)] 3 ∧ MapAt W5 bm kStr kInt (keysI ks1 0) ∧ Blk W5 bq (((L.set s (-1)).map (Value.int .i64)).toArray) 3 ∧ ((ks1 = ks ∨ (keyf s ∉ ks ∧ ks1 = ks ++ [keyf s] ∧ j = ks.length))) ∧ (ks1[j]? = some (keyf s))) ?_ ?_
        · skip
          refine Wp_seq_region ?_
          refine WpL_val rfl rfl (by decide) (r_move (v := (.map (some bm))) rfl) ?_
          refine WpL_val rfl rfl (by decide) (r_move (v := (.string (encIi (keyf s)))) rfl) ?_
          refine WpL_val (v := (.tuple #[(.int .i64 ((getM (keysI ks 0) (encIi (keyf s))).getD 0)), (.bool ((getM (keysI ks 0) (encIi (keyf s))).isSome))])) rfl rfl (by decide) (r_lookup2 (k := (encIi (keyf s))) (z := 0) Try.underlying124 (keyStr Try.underlying9) zer3 Mm rfl rfl) ?_
          refine WpL_val rfl rfl (by decide) (r_move (v := (.tuple #[(.int .i64 ((getM (keysI ks 0) (encIi (keyf s))).getD 0)), (.bool ((getM (keysI ks 0) (encIi (keyf s))).isSome))])) rfl) ?_
          refine WpL_val rfl rfl (by decide) (r_extract (vs := #[(.int .i64 ((getM (keysI ks 0) (encIi (keyf s))).getD 0)), (.bool ((getM (keysI ks 0) (encIi (keyf s))).isSome))]) (v := (.int .i64 ((getM (keysI ks 0) (encIi (keyf s))).getD 0))) rfl rfl) ?_
          refine WpL_val rfl rfl (by decide) (r_extract (vs := #[(.int .i64 ((getM (keysI ks 0) (encIi (keyf s))).getD 0)), (.bool ((getM (keysI ks 0) (encIi (keyf s))).isSome))]) (v := (.bool ((getM (keysI ks 0) (encIi (keyf s))).isSome))) rfl rfl) ?_
          refine WpL_val rfl rfl (by decide) (r_assign (v := (.int .i64 ((getM (keysI ks 0) (encIi (keyf s))).getD 0))) rfl) ?_
          refine WpL_val rfl rfl (by decide) (r_assign (v := (.bool ((getM (keysI ks 0) (encIi (keyf s))).isSome))) rfl) ?_
          refine WpL_nil ?_
          refine Wp_seq_region ?_
          refine WpL_val rfl rfl (by decide) (r_move (v := (.bool ((getM (keysI ks 0) (encIi (keyf s))).isSome))) rfl) ?_
          refine WpL_val rfl rfl (by decide) (r_not (b := (getM (keysI ks 0) (encIi (keyf s))).isSome) rfl) ?_
          refine WpL_nil ?_
          refine Wp_cond (b := !((getM (keysI ks 0) (encIi (keyf s))).isSome)) rfl (fun hnew => ?_) (fun hnew => ?_)
          · have khnew := hnew
            replace hnew := by simpa using hnew
            have hgm : getM (keysI ks 0) (encIi (keyf s)) = none := by simpa using hnew
            obtain ⟨hnin, hput⟩ := keysI_none hgm
            have hkl := keysI_len ks 0
            refine Wp_region ?_
            refine WpL_val rfl rfl (by decide) (r_move (v := (.map (some bm))) rfl) ?_
            refine WpL_val rfl rfl (by decide) (r_move (v := (.string (encIi (keyf s)))) rfl) ?_
            refine WpL_val rfl rfl (by decide) (r_move (v := (.map (some bm))) rfl) ?_
            refine WpL_val (v := (.int .i64 (((keysI ks 0).length : Nat) : Int))) rfl rfl (by decide) (r_lenMap Try.underlying124 Mm rfl) ?_
            refine s_mapUpdate (k := (encIi (keyf s))) (v := (((keysI ks 0).length : Nat) : Int)) Try.underlying124 (keyStr Try.underlying9) Mm rfl rfl rfl ?_
            intro w7 S7 H7
            replace hP := S7.keep (by omega) hP
            replace hV := S7.keep (by omega) hV
            replace hB := S7.keep (by omega) hB
            replace hC := S7.keep (by omega) hC
            replace Bq := S7.keep (by omega) Bq
            replace E := S7.step E (by first | exact Or.inl (by omega) | exact Or.inr rfl | exact Or.inr (by assumption) | exact Or.inr (by simp) | exact Or.inr (by omega) | exact Or.inr (by dsimp only; omega))
            replace E9 := S7.step E9 (Or.inl (by omega))
            replace Mm := H7
            refine WpL_nil ?_
            refine thn_normal ?_
            rw [hkl, hput] at Mm
            exact ⟨ks ++ [keyf s], ks.length, Fits.out ⟨rfl, rfl, rfl, rfl, rfl, rfl, rfl, rfl, rfl, rfl, trivial⟩, E, E9, hP, hV, hB, hC, Mm, Bq, .inr ⟨hnin, rfl, rfl⟩, (by simp)⟩
          · have khnew := hnew
            replace hnew := by simpa using hnew
            have hgs : (getM (keysI ks 0) (encIi (keyf s))).isSome = true := by simpa using hnew
            obtain ⟨v9, hv9⟩ := Option.isSome_iff_exists.1 hgs
            obtain ⟨j9, rfl, hj9⟩ := keysI_get hks hok1 hv9
            refine Wp_skip ?_
            refine thn_normal ?_
            exact ⟨ks, j9, Fits.out ⟨rfl, rfl, rfl, rfl, rfl, rfl, rfl, rfl, rfl, rfl, trivial⟩, E, E9, hP, hV, hB, hC, Mm, Bq, .inl rfl, hj9⟩
        · clear E E9 hP hV hB hC Mm Bq
          rintro _ W5 ⟨ks1, j, ⟨j5, rfl⟩, E, E9, hP, hV, hB, hC, Mm, Bq, hk1, hj1⟩
          have hN1 := num_join hN hqt hk1 hj1
          have hks1 := okK_join hks hok1 hk1
          have hat := keysI_at hks1 hN1.nd hj1
          have hts2 := take_set_succ (L := L.set s (-1)) (s := s) (x := ((j : Nat) : Int)) (by simp; omega)
          refine Wp_region ?_
          refine WpL_val rfl rfl (by decide) (r_move (v := (.slice (some ⟨bq, 0, none⟩) n n)) rfl) ?_
          refine WpL_val rfl rfl (by decide) (r_move (v := (.int .i64 ((s : Nat) : Int))) rfl) ?_
          refine WpL_val rfl rfl (by decide) (r_move (v := (.map (some bm))) rfl) ?_
          refine WpL_val rfl rfl (by decide) (r_move (v := (.string (encIi (keyf s)))) rfl) ?_
          refine WpL_val (v := (.int .i64 ((getM (keysI ks1 0) (encIi (keyf s))).getD 0))) rfl rfl (by decide) (r_lookup (k := (encIi (keyf s))) (z := 0) Try.underlying124 (keyStr Try.underlying9) zer3 Mm rfl rfl) ?_
          refine WpL_val rfl rfl (by decide) (r_indexSlice (b := bq) (o := 0) (len := n) (cap := n) (i := s) (o' := 0 + s) rfl rfl rfl Try.underlying22 siz3 (by omega) (by omega)) ?_
          refine s_store (b := bq) (o := 0 + s) (c' := (((L.set s (-1)).set s ((j : Nat) : Int)).map (Value.int .i64)).toArray) (v := (.int .i64 ((getM (keysI ks1 0) (encIi (keyf s))).getD 0))) rfl rfl rfl siz3 Bq (by simp; omega) (by rw [hat]; exact ints_setD _) ?_
          intro w8 S8
          replace hP := S8.keep (by omega) hP
          replace hV := S8.keep (by omega) hV
          replace hB := S8.keep (by omega) hB
          replace hC := S8.keep (by omega) hC
          replace Mm := S8.keepM (by omega) Mm
          replace E := S8.step E (by first | exact Or.inl (by omega) | exact Or.inr rfl | exact Or.inr (by assumption) | exact Or.inr (by simp) | exact Or.inr (by omega) | exact Or.inr (by dsimp only; omega))
          replace E9 := S8.step E9 (Or.inl (by omega))
          replace Bq := S8.blk
          refine WpL_nil ?_
          refine inB_normal ?_
          refine thn_normal ?_
          refine Wp_region ?_
          refine WpL_val rfl rfl (by decide) (r_add (k := .i64) (a := ((s : Nat) : Int)) (b := 1) (c := ((s : Nat) : Int) + 1) rfl rfl (wI64 (by omega))) ?_
          refine WpL_val rfl rfl (by decide) (r_move (v := (.int .i64 (((s : Nat) : Int) + 1))) rfl) ?_
          refine WpL_nil ?_
          refine thn_normal ?_
          exact ⟨n - (s + 1), by omega, s + 1, ks1, (L.set s (-1)).set s ((j : Nat) : Int), Fits.out ⟨rfl, rfl, rfl, rfl, rfl, rfl, rfl, rfl, trivial⟩, E, E9, hP, hV, hB, hC, Mm, Bq, (by omega), (by simp [hLl]), (by rw [hts2, List.take_set_of_le (Nat.le_refl s)]; exact hN1), hks1, rfl⟩
    · have khlt := hlt
      replace hlt := of_decide_eq_false hlt
      have hss : s = n := by omega
      have hNn : Num (keysOf M keyf n) ks L := by rw [hss, ← hLl, List.take_length] at hN; rw [← hLl]; exact hN
      have hkl := keysI_len ks 0
      refine Wp_exit ?_
      refine thn_exit ?_
      refine thn_exit ?_
      refine inB_here ?_
      refine thn_normal ?_
      refine Wp_region ?_
      refine WpL_val rfl rfl (by decide) (r_move (v := (.slice (some ⟨bq, 0, none⟩) n n)) rfl) ?_
      refine WpL_val rfl rfl (by decide) (r_move (v := (.map (some bm))) rfl) ?_
      refine WpL_val (v := (.int .i64 (((keysI ks 0).length : Nat) : Int))) rfl rfl (by decide) (r_lenMap Try.underlying124 Mm rfl) ?_
      refine s_store (b := bp) (o := 0) (c' := #[(.slice (some ⟨bq, 0, none⟩) n n)]) (v := (.slice (some ⟨bq, 0, none⟩) n n)) rfl rfl rfl siz22 hP (by simp) rfl ?_
      intro w9 S9
      replace hV := S9.keep (by omega) hV
      replace hB := S9.keep (by omega) hB
      replace hC := S9.keep (by omega) hC
      replace Mm := S9.keepM (by omega) Mm
      replace Bq := S9.keep (by omega) Bq
      replace E := S9.step E (by first | exact Or.inl (by omega) | exact Or.inr rfl | exact Or.inr (by assumption) | exact Or.inr (by simp) | exact Or.inr (by omega) | exact Or.inr (by dsimp only; omega))
      replace hP := S9.blk
      refine s_store (b := bc) (o := 0) (c' := #[(.int .i64 (((keysI ks 0).length : Nat) : Int))]) (v := (.int .i64 (((keysI ks 0).length : Nat) : Int))) rfl rfl rfl siz3 hC (by simp) rfl ?_
      intro w10 S10
      replace hP := S10.keep (by omega) hP
      replace hV := S10.keep (by omega) hV
      replace hB := S10.keep (by omega) hB
      replace Mm := S10.keepM (by omega) Mm
      replace Bq := S10.keep (by omega) Bq
      replace E := S10.step E (by first | exact Or.inl (by omega) | exact Or.inr rfl | exact Or.inr (by assumption) | exact Or.inr (by simp) | exact Or.inr (by omega) | exact Or.inr (by dsimp only; omega))
      replace hC := S10.blk
      refine WpL_nil ?_
      refine fin_none Try.results96 ?_
      rw [hkl] at hC
      exact ⟨rfl, ⟨L, ks, bq, hNn, hP, Bq, by omega, hC⟩, E⟩
end Go.Proofs
namespace Go.Proofs
open Go Go.Eng Go.Sort
set_option maxRecDepth 100000
theorem keysOf_get {M : List Bool} {keyf : Nat → List Int} {n s : Nat} (hs : s < n) : (keysOf M keyf n)[s]? = some (if M[s]? = some true then some (keyf s) else none) := by
  unfold keysOf
  rw [List.getElem?_map, List.getElem?_range hs]; rfl
theorem refd_num {n c : Nat} {d : Dfa} {M : List Bool} {keyf : Nat → List Int} {ks : List (List Int)} {q : List Int} (hM : LiveOf n c d M) (hN : Num (keysOf M keyf n) ks q)
    (ha : ∀ s t : Nat, s < n → t < n → liveD c d s → liveD c d t → keyf s = keyf t → atD d s = atD d t) (he : ∀ s t : Nat, s < n → t < n → liveD c d s → liveD c d t → eqvD c d s t → keyf s = keyf t) : Refd n c d q ks.length :=
  Refd.of_num hN (by unfold keysOf; simp) (fun s hs h => by rw [keysOf_get hs, if_neg fun h1 => h ((hM.iff s hs).1 h1)]) (fun s hs h => by rw [keysOf_get hs, if_pos ((hM.iff s hs).2 h)]) ha he
theorem num_iff {n c : Nat} {d : Dfa} {M : List Bool} {keyf : Nat → List Int} {ks : List (List Int)} {q : List Int} (hM : LiveOf n c d M) (hN : Num (keysOf M keyf n) ks q) : ∀ s t : Nat, s < n → t < n → liveD c d s → liveD c d t → (q[s]? = q[t]? ↔ keyf s = keyf t) := fun s t hs ht l1 l2 =>
  hN.eq_iff (by rw [keysOf_get hs, if_pos ((hM.iff s hs).2 l1)]) (by rw [keysOf_get ht, if_pos ((hM.iff t ht).2 l2)])
theorem Refd.rng {n c cnt : Nat} {d : Dfa} {p : List Int} (h : Refd n c d p cnt) : ∀ x ∈ p, -1 ≤ x ∧ x < (n : Int) := by
  intro x hx
  obtain ⟨s, hs⟩ := List.getElem?_of_mem hx
  have hsn : s < n := by rw [← h.len]; exact lt_of_get hs
  have hc := h.cnt_le
  by_cases hl : liveD c d s
  · obtain ⟨j, h1, h2⟩ := h.liv s hsn hl
    rw [hs] at h1
    have := Option.some.inj h1
    omega
  · have h1 := h.dead s hsn hl
    rw [hs] at h1
    have := Option.some.inj h1
    omega
theorem Refd.next {n c cnt : Nat} {d : Dfa} {p q : List Int} {M : List Bool} {ks : List (List Int)} (ok : OkD n c d) (hM : LiveOf n c d M) (hp : Refd n c d p cnt) (hN : Num (keysOf M (nextKey c d p) n) ks q) : Refd n c d q ks.length := by
  refine refd_num hM hN (fun s t hs ht l1 l2 h => ?_) fun s t hs ht l1 l2 h => ?_
  · have h1 := (nextKey_eq.1 h).1
    obtain ⟨a, h2, _⟩ := hp.liv s hs l1
    obtain ⟨b, h3, _⟩ := hp.liv t ht l2
    rw [ptD_get h2, ptD_get h3] at h1
    exact hp.acc s t hs ht l1 l2 (by rw [h2, h3, h1])
  · refine nextKey_eq.2 ⟨hp.ptEqv (by omega) (by omega) h, fun x hx => hp.ptEqv ok.to ok.to (h.to hx)⟩
theorem Refd.finer {n c cnt : Nat} {d : Dfa} {p q : List Int} {M : List Bool} {ks : List (List Int)} (hM : LiveOf n c d M) (hp : Refd n c d p cnt) (hN : Num (keysOf M (nextKey c d p) n) ks q) : ∀ s t : Nat, s < n → t < n → liveD c d s → liveD c d t → q[s]? = q[t]? → p[s]? = p[t]? := fun s t hs ht l1 l2 h => by
  have h1 := (nextKey_eq.1 ((num_iff hM hN s t hs ht l1 l2).1 h)).1
  obtain ⟨a, h2, _⟩ := hp.liv s hs l1
  obtain ⟨b, h3, _⟩ := hp.liv t ht l2
  rw [ptD_get h2, ptD_get h3] at h1
  rw [h2, h3, h1]
theorem okK_next {n c cnt : Nat} {d : Dfa} {p : List Int} (h : Refd n c d p cnt) (hn : n ≤ 20000) (s : Nat) : okK (nextKey c d p s) := by
  intro x hx
  unfold nextKey at hx
  rcases List.mem_cons.1 hx with h1 | h1
  · rw [h1]; exact ptD_rng h.rng hn _
  · obtain ⟨y, _, h2⟩ := List.mem_map.1 h1
    rw [← h2]; exact ptD_rng h.rng hn _
def oldF (n0 : Nat) : Fct := fun v w => ∃ b, v = .pointer (some ⟨b, 0, none⟩) ∧ n0 ≤ b ∧ Blk w b #[.slice none 0 0] 22
theorem oldF_ext (n0 : Nat) : ∀ v w w', Chg none1 w w' → oldF n0 v w → oldF n0 v w' := by
  rintro v w w' e ⟨b, h1, h2, h3⟩
  exact ⟨b, h1, h2, Ext.keep e h3⟩
theorem DoesT_old {N n0 : Nat} {σ : Env} {w : World} {dst : Option Tmp} {ty : TypeId} {pos : String} {af : Array Edge} {g : Option (Nat × Bool)} (h0 : n0 ≤ w.heap.size) : DoesT none1 Try.prog N ⟨dst, .alloc 22, ty, pos, af, g⟩ (oldF n0) σ w := by
  refine DoesT_val (v := .pointer (some ⟨w.heap.size, 0, none⟩)) (w' := { w with heap := w.heap.push (.cells #[.slice none 0 0] 22 (0, 0)) }) ?_ (New.mk' w _ _).ext ⟨_, rfl, h0, (New.mk' w _ _).blk⟩
  simp [execOp, Instr.alloc, (zer22).run, newVar, newRow, Value.cells]
theorem blk_ints {w : World} {b n : Nat} {p : List Int} {T : Nat} (h : Blk w b (p.map (Value.int .i64)).toArray T) (hn : p.length = n) (hl : n ≤ 9223372036854775807 := by omega) : IntsAt w (.slice (some ⟨b, 0, none⟩) n n) p := by
  subst hn
  rw [← ints_flatD] at h
  exact ints_of_blk p h hl (Nat.le_refl _)
theorem acc_at {n c : Nat} {d : Dfa} (ok : OkD n c d) {s : Nat} (hs : s < n) : d.accept[s]? = some (atD d ((s : Nat) : Int)) := by
  have h1 : d.accept[s]? = some (d.accept[s]'(by rw [ok.al]; exact hs)) := List.getElem?_eq_getElem _
  rw [h1, atD_get h1]
set_option maxHeartbeats 4000000 in
theorem parts_c (w0 : World) (n c : Nat) (d : Dfa) (dv : List Value) (ok : OkD n c d) (h : DfaAt w0 d dv) (hn : n ≤ 20000 ∧ c ≤ 16) (hac : ∀ x ∈ d.accept, x < 2147483648) :
    Ret Try.prog 71 #[.agg dv.toArray] w0 fun r w => (∃ q b, PartsOf n c d q ∧ r = .slice (some ⟨b, 0, none⟩) n n ∧ w0.heap.size ≤ b ∧ Blk w b (q.map (Value.int .i64)).toArray 3) ∧ Ext w0 w := by
  obtain ⟨dv0, hdv0⟩ : ∃ x, x = dv := ⟨_, rfl⟩
  have hdfa := h
  rw [← hdv0] at hdfa
  obtain ⟨aa, ac, na, nc, rfl, hacc, hnxt⟩ := h
  have hnl := ok.nl
  have hal := ok.al
  rw [hal, hnl] at hdv0 ⊢
  refine Ret_of Try.func71 rfl Try.ntmps71 (Nat.le_of_ble_eq_true rfl) ?_
  have E : Chg none1 w0 w0 := Chg.refl _ _
  refine Wp_seq_region ?_
  refine s_box (v := (.agg #[(.int .i64 d.start), (.slice aa n ac), (.slice na n nc)])) (c := #[(.int .i64 d.start), (.slice aa n ac), (.slice na n nc)]) (by decide) rfl rfl ?_
  intro bd wd Nd
  have Fd := Nd.ge E
  replace E := E.ext Nd.ext
  have Bd := Nd.blk
  refine WpL_val rfl rfl (by decide) (r_assign (v := (.slice none 0 0)) rfl) ?_
  refine WpL_nil ?_
  refine Wp_seq_region ?_
  refine WpL_val rfl rfl (by decide) (r_loadAgg (vs := [(.int .i64 d.start), (.slice aa n ac), (.slice na n nc)]) rfl agg25 siz25 rfl (Bd.cells rfl)) ?_
  refine WpL_enter rfl rfl (by decide) (r_callF (vs := [(.agg #[(.int .i64 d.start), (.slice aa n ac), (.slice na n nc)])]) Try.func95 nm95 bd95 rfl) (live_c _ n c d _ ok (by rw [hdv0] at hdfa; exact hdfa.ext E) hn) ?_
  rintro _ w9 ⟨⟨M, lb, hM, rfl, hlb, hLB⟩, X9⟩
  replace Bd := X9.keep Bd
  replace E := E.ext X9
  have hlblt := hLB.lt
  have hdw : ∀ w, Ext w0 w → DfaAt w d [.int .i64 d.start, .slice aa n ac, .slice na n nc] := fun w e => by rw [hdv0] at hdfa; exact hdfa.ext e
  refine s_allocStore (v := (.slice (some ⟨lb, 0, none⟩) n n)) (c := #[(.slice (some ⟨lb, 0, none⟩) n n)]) (n := 1) (by decide) zer130 rfl siz130 rfl rfl rfl (by simp [Value.oneCell']) ?_
  intro bv wv Nv
  have Fv := Nv.ge E
  have Ov_bd := Nv.lt Bd
  have Ov_lb := Nv.lt hLB
  replace Bd := Nv.keep Bd
  replace hLB := Nv.keep hLB
  replace E := E.ext Nv.ext
  have Bv := Nv.blk
  refine WpL_nil ?_
  refine Wp_seq_region ?_
  refine WpL_val rfl rfl (by decide) (r_fieldAddr (b := bd) (o := 0) (o' := 2) rfl Try.underlying25 rfl siz23 rfl) ?_
  refine WpL_val rfl rfl (by decide) (r_load (v := (.slice na n nc)) rfl flat23 (Bd.cell rfl)) ?_
  refine WpL_val rfl rfl (by decide) (r_lenSlice (ad := na) (n := n) (cap := nc) Try.underlying23 rfl) ?_
  refine s_make (n := n) (z := (.int .i64 0)) (bytes := 8) (by decide) Try.underlying22 siz3 byt3 zer3 rfl rfl rfl (by omega) (by omega) ?_
  intro bz wz Nz
  have Fz := Nz.ge E
  have Oz_bd := Nz.lt Bd
  have Oz_lb := Nz.lt hLB
  have Oz_bv := Nz.lt Bv
  replace Bd := Nz.keep Bd
  replace hLB := Nz.keep hLB
  replace Bv := Nz.keep Bv
  replace E := E.ext Nz.ext
  have Bz := Nz.blk
  refine s_allocStore (v := (.slice (some ⟨bz, 0, none⟩) n n)) (c := #[(.slice (some ⟨bz, 0, none⟩) n n)]) (n := 1) (by decide) zer22 rfl siz22 rfl rfl rfl (by simp [Value.oneCell']) ?_
  intro bp wp Np
  have Fp := Np.ge E
  have Op_bd := Np.lt Bd
  have Op_lb := Np.lt hLB
  have Op_bv := Np.lt Bv
  have Op_bz := Np.lt Bz
  replace Bd := Np.keep Bd
  replace hLB := Np.keep hLB
  replace Bv := Np.keep Bv
  replace Bz := Np.keep Bz
  replace E := E.ext Np.ext
  have Bp := Np.blk
  refine WpL_nil ?_
  refine Wp_seq_region ?_
  refine s_allocStore (v := (.int .i64 0)) (c := #[(.int .i64 0)]) (n := 1) (by decide) zer3 rfl siz3 rfl rfl rfl (by simp [Value.oneCell']) ?_
  intro bc wc Nc
  have Fc := Nc.ge E
  have Oc_bd := Nc.lt Bd
  have Oc_lb := Nc.lt hLB
  have Oc_bv := Nc.lt Bv
  have Oc_bz := Nc.lt Bz
  have Oc_bp := Nc.lt Bp
  replace Bd := Nc.keep Bd
  replace hLB := Nc.keep hLB
  replace Bv := Nc.keep Bv
  replace Bz := Nc.keep Bz
  replace Bp := Nc.keep Bp
  replace E := E.ext Nc.ext
  have Bc := Nc.blk
  refine WpL_nil ?_
  refine Wp_seq_region ?_
  refine WpL_val rfl rfl (by decide) (r_makeFunc (vs := []) (us := [(.pointer (some ⟨bp, 0, none⟩)), (.pointer (some ⟨bv, 0, none⟩)), (.pointer (some ⟨bc, 0, none⟩))]) rfl rfl) ?_
  refine WpL_val rfl rfl (by decide) (r_assign (v := (.func (.func 96) #[] #[(.pointer (some ⟨bp, 0, none⟩)), (.pointer (some ⟨bv, 0, none⟩)), (.pointer (some ⟨bc, 0, none⟩))])) rfl) ?_
  refine WpL_nil ?_
  refine Wp_seq_region ?_
  refine s_allocStore (v := (.func (.func 97) #[] #[])) (c := #[(.func (.func 97) #[] #[])]) (n := 1) (by decide) zer134 rfl siz134 rfl rfl rfl (by simp [Value.oneCell']) ?_
  intro bw ww Nw
  have Fw := Nw.ge E
  have Ow_bd := Nw.lt Bd
  have Ow_lb := Nw.lt hLB
  have Ow_bv := Nw.lt Bv
  have Ow_bz := Nw.lt Bz
  have Ow_bp := Nw.lt Bp
  have Ow_bc := Nw.lt Bc
  replace Bd := Nw.keep Bd
  replace hLB := Nw.keep hLB
  replace Bv := Nw.keep Bv
  replace Bz := Nw.keep Bz
  replace Bp := Nw.keep Bp
  replace Bc := Nw.keep Bc
  replace E := E.ext Nw.ext
  have Bw := Nw.blk
  refine WpL_nil ?_
  refine Wp_seq_region ?_
  refine WpL_val rfl rfl (by decide) (r_move (v := (.func (.func 96) #[] #[(.pointer (some ⟨bp, 0, none⟩)), (.pointer (some ⟨bv, 0, none⟩)), (.pointer (some ⟨bc, 0, none⟩))])) rfl) ?_
  refine WpL_val rfl rfl (by decide) (r_makeFunc (vs := []) (us := [(.pointer (some ⟨bw, 0, none⟩)), (.pointer (some ⟨bd, 0, none⟩))]) rfl rfl) ?_
  have hbwl := Bw.lt
  refine WpL_enter rfl rfl (by decide) (r_callV (first := #[]) (cap := #[(.pointer (some ⟨bp, 0, none⟩)), (.pointer (some ⟨bv, 0, none⟩)), (.pointer (some ⟨bc, 0, none⟩))]) (vs := [(.func (.func 98) #[] #[(.pointer (some ⟨bw, 0, none⟩)), (.pointer (some ⟨bd, 0, none⟩))])]) (ws := #[(.func (.func 98) #[] #[(.pointer (some ⟨bw, 0, none⟩)), (.pointer (some ⟨bd, 0, none⟩))]), (.pointer (some ⟨bp, 0, none⟩)), (.pointer (some ⟨bv, 0, none⟩)), (.pointer (some ⟨bc, 0, none⟩))]) rfl Try.func96 nm96 bd96 rfl rfl) (numb_c _ bp bv lb bc n n _ _ 0 M (fun s => [atD d ((s : Nat) : Int)]) Bp Bv hLB Bc (by omega) hM.len hn.1 (fun w s hs hq hE => CallV.mk (first := #[]) (cap := #[.pointer (some ⟨bw, 0, none⟩), .pointer (some ⟨bd, 0, none⟩)]) Try.func98 nm98 bd98 rfl (key1_c w bw bd n d _ s _ (hE.keep Bw) (hE.keep Bd) (hdw _ (Chg.ext E hE)) hal (acc_at ok hs) ⟨ok.at', hac _ (List.mem_of_getElem? (acc_at ok hs))⟩)) (fun s hs _ x hx => by rw [List.mem_singleton] at hx; rw [hx]; exact ⟨ok.at', hac _ (List.mem_of_getElem? (acc_at ok hs))⟩)) ?_
  rintro _ w19 ⟨rfl, ⟨q0, ks0, b1, hN0, hP0, hB0, hb0, hC0⟩, C19⟩
  replace Bd := C19.keep (by omega) Bd
  replace hLB := C19.keep (by omega) hLB
  replace Bv := C19.keep (by omega) Bv
  replace Bz := C19.keep (by omega) Bz
  replace Bw := C19.keep (by omega) Bw
  replace E := E.step C19 (by intro x hx hm; omega)
  have hR0 : Refd n c d q0 ks0.length := refd_num hM hN0 (fun s t _ _ _ _ h => by simpa using h) (fun s t _ _ _ _ h => by have := h [] (inW.nil c); simpa [beh] using this)
  have hbw1 : bw < b1 := by omega
  refine WpL_nil ?_
  refine Wp_block ?_
  refine Wp_loop (fun nn_ σ W1 => ∃ (p : List Int) (cnt pb : Nat), (∃ jj_, σ = upds jj_ [(1, (.pointer (some ⟨bd, 0, none⟩))), (4, (.pointer (some ⟨bp, 0, none⟩))), (5, (.pointer (some ⟨bc, 0, none⟩))), (6, (.func (.func 96) #[] #[(.pointer (some ⟨bp, 0, none⟩)), (.pointer (some ⟨bv, 0, none⟩)), (.pointer (some ⟨bc, 0, none⟩))])), (7, (.pointer (some ⟨bw, 0, none⟩)))]) ∧ Chg none1 w0 W1 ∧ Blk W1 bd #[(.int .i64 d.start), (.slice aa n ac), (.slice na n nc)] 25 ∧ Blk W1 lb ((M.map Value.bool).toArray) 4 ∧ Blk W1 bv #[(.slice (some ⟨lb, 0, none⟩) n n)] 130 ∧ Blk W1 bz ((List.replicate n (.int .i64 0)).toArray) 3 ∧ Blk W1 bw #[(.func (.func 97) #[] #[])] 134 ∧ Blk W1 bp (#[Value.slice (some ⟨pb, 0, none⟩) n n]) 22 ∧ Blk W1 bc (#[Value.int .i64 ((cnt : Nat) : Int)]) 3 ∧ (Refd n c d p cnt) ∧ (Blk W1 pb (p.map (Value.int .i64)).toArray 3) ∧ (bw < pb) ∧ nn_ = n - cnt) (n := n - ks0.length) ?_ ?_
  · exact ⟨q0, ks0.length, b1, Fits.out ⟨rfl, rfl, rfl, rfl, rfl, trivial⟩, E, Bd, hLB, Bv, Bz, Bw, hP0, hC0, hR0, hB0, hbw1, rfl⟩
  · clear E Bd hLB Bv Bz Bw hP0 hC0
    rintro _ _ W1 ⟨p, cnt, pb, ⟨j1, rfl⟩, E, Bd, hLB, Bv, Bz, Bw, hP0, hC0, hR, hPB, hpb, rfl⟩
    have hPlt := hPB.lt
    obtain ⟨n9, hn9⟩ : ∃ n9, n9 = (W1).heap.size := ⟨_, rfl⟩
    refine Wp_block ?_
    refine Wp_seq ?_
    obtain ⟨Fs2, hFs2⟩ : ∃ Fs : List (FactT (none1)), Fs = [.eq (.int .i64 ((cnt : Nat) : Int)), .eq (.slice (some ⟨pb, 0, none⟩) n n), .gen (oldF n9) (oldF_ext _), .eq (.int .i64 ((cnt : Nat) : Int))] := ⟨_, rfl⟩
    refine Wp_dagT (none1) 4 2 [20, 21, 9, 8] [[], [], [], [0, 2]] Fs2 hFs2 rfl mixed (by kernel_rfl) (by kernel_rfl) (by kernel_rfl) ?_ ?_
    · intro wd X0
      refine DagStepsT.cons (fun s' w' X U H => ?_) ?_
      · exact DoesT_val (r_load (v := (.int .i64 ((cnt : Nat) : Int))) (U 5 rfl) flat3 ((Chg.keep X (fun f => f) (X0.keep hC0)).cell rfl)) (Chg.refl _ _) rfl
      refine DagStepsT.cons (fun s' w' X U H => ?_) ?_
      · exact DoesT_val (r_load (v := (.slice (some ⟨pb, 0, none⟩) n n)) (U 4 rfl) flat22 ((Chg.keep X (fun f => f) (X0.keep hP0)).cell rfl)) (Chg.refl _ _) rfl
      refine DagStepsT.cons (fun s' w' X U H => ?_) ?_
      · exact DoesT_old (by have := X0.size; have := X.size; omega)
      refine DagStepsT.cons (fun s' w' X U H => ?_) ?_
      · have e20 : s' 20 = (.int .i64 ((cnt : Nat) : Int)) := H 0 rfl 20 (.eq (.int .i64 ((cnt : Nat) : Int))) rfl (by rw [hFs2]; rfl)
        exact DoesT_val (r_assign (v := (.int .i64 ((cnt : Nat) : Int))) e20) (Chg.refl _ _) rfl
      exact DagStepsT.nil
    · intro s' wd2 w2 X0 X2 U H
      have e21 : s' 21 = (.slice (some ⟨pb, 0, none⟩) n n) := H 1 21 (.eq (.slice (some ⟨pb, 0, none⟩) n n)) rfl (by rw [hFs2]; rfl)
      obtain ⟨b9, e9, g9, B9⟩ := (show (.gen (oldF n9) (oldF_ext _) : FactT (none1)).In (s' 9) w2 from H 2 9 (.gen (oldF n9) (oldF_ext _)) rfl (by rw [hFs2]; rfl))
      have e8 : s' 8 = (.int .i64 ((cnt : Nat) : Int)) := H 3 8 (.eq (.int .i64 ((cnt : Nat) : Int))) rfl (by rw [hFs2]; rfl)
      obtain ⟨j2, rfl⟩ := Fits.out (σ := s') (l := [(1, (.pointer (some ⟨bd, 0, none⟩))), (4, (.pointer (some ⟨bp, 0, none⟩))), (5, (.pointer (some ⟨bc, 0, none⟩))), (6, (.func (.func 96) #[] #[(.pointer (some ⟨bp, 0, none⟩)), (.pointer (some ⟨bv, 0, none⟩)), (.pointer (some ⟨bc, 0, none⟩))])), (7, (.pointer (some ⟨bw, 0, none⟩))), (21, (.slice (some ⟨pb, 0, none⟩) n n)), (9, (.pointer (some ⟨b9, 0, none⟩))), (8, (.int .i64 ((cnt : Nat) : Int)))]) ⟨U 1 rfl, U 4 rfl, U 5 rfl, U 6 rfl, U 7 rfl, e21, e9, e8, trivial⟩
      clear U H
      replace Bd := Chg.keep X2 (fun f => f) (X0.keep Bd)
      replace hLB := Chg.keep X2 (fun f => f) (X0.keep hLB)
      replace Bv := Chg.keep X2 (fun f => f) (X0.keep Bv)
      replace Bz := Chg.keep X2 (fun f => f) (X0.keep Bz)
      replace Bw := Chg.keep X2 (fun f => f) (X0.keep Bw)
      replace hP0 := Chg.keep X2 (fun f => f) (X0.keep hP0)
      replace hC0 := Chg.keep X2 (fun f => f) (X0.keep hC0)
      replace hPB := Chg.keep X2 (fun f => f) (X0.keep hPB)
      replace E := (E.ext X0).step X2 (fun _ _ f => f.elim)
      refine s_store (b := b9) (o := 0) (c' := #[(.slice (some ⟨pb, 0, none⟩) n n)]) (v := (.slice (some ⟨pb, 0, none⟩) n n)) rfl rfl rfl siz22 B9 (by simp) rfl ?_
      intro w3 S3
      replace Bd := S3.keep (by omega) Bd
      replace hLB := S3.keep (by omega) hLB
      replace Bv := S3.keep (by omega) Bv
      replace Bz := S3.keep (by omega) Bz
      replace Bw := S3.keep (by omega) Bw
      replace hP0 := S3.keep (by omega) hP0
      replace hC0 := S3.keep (by omega) hC0
      replace hPB := S3.keep (by omega) hPB
      replace E := S3.step E (by first | exact Or.inl (by omega) | exact Or.inr rfl | exact Or.inr (by assumption) | exact Or.inr (by simp) | exact Or.inr (by omega) | exact Or.inr (by dsimp only; omega))
      replace B9 := S3.blk
      refine WpL_nil ?_
      refine thn_normal ?_
      refine Wp_seq_region ?_
      refine WpL_val rfl rfl (by decide) (r_move (v := (.func (.func 96) #[] #[(.pointer (some ⟨bp, 0, none⟩)), (.pointer (some ⟨bv, 0, none⟩)), (.pointer (some ⟨bc, 0, none⟩))])) rfl) ?_
      refine WpL_val rfl rfl (by decide) (r_makeFunc (vs := []) (us := [(.pointer (some ⟨bw, 0, none⟩)), (.pointer (some ⟨b9, 0, none⟩)), (.pointer (some ⟨bd, 0, none⟩))]) rfl rfl) ?_
      have hbwl2 := Bw.lt
      refine WpL_enter rfl rfl (by decide) (r_callV (first := #[]) (cap := #[(.pointer (some ⟨bp, 0, none⟩)), (.pointer (some ⟨bv, 0, none⟩)), (.pointer (some ⟨bc, 0, none⟩))]) (vs := [(.func (.func 99) #[] #[(.pointer (some ⟨bw, 0, none⟩)), (.pointer (some ⟨b9, 0, none⟩)), (.pointer (some ⟨bd, 0, none⟩))])]) (ws := #[(.func (.func 99) #[] #[(.pointer (some ⟨bw, 0, none⟩)), (.pointer (some ⟨b9, 0, none⟩)), (.pointer (some ⟨bd, 0, none⟩))]), (.pointer (some ⟨bp, 0, none⟩)), (.pointer (some ⟨bv, 0, none⟩)), (.pointer (some ⟨bc, 0, none⟩))]) rfl Try.func96 nm96 bd96 rfl rfl) (numb_c _ bp bv lb bc n n _ _ ((cnt : Nat) : Int) M (nextKey c d p) hP0 Bv hLB hC0 (by omega) hM.len hn.1 (fun w s hs hq hE => CallV.mk (first := #[]) (cap := #[.pointer (some ⟨bw, 0, none⟩), .pointer (some ⟨b9, 0, none⟩), .pointer (some ⟨bd, 0, none⟩)]) Try.func99 nm99 bd99 rfl (key2_c w bw b9 bd n c pb n d _ p s ok (hE.keep Bw) (hE.keep B9) (hE.keep Bd) (hdw _ (Chg.ext E hE)) (by have := blk_ints (hE.keep hPB) hR.len; exact this) hR.len hR.rng hs hn)) (fun s hs _ => okK_next hR hn.1 s)) ?_
      rintro _ w29 ⟨rfl, ⟨q1, ks1, b2, hN1, hP1, hB1, hb1, hC1⟩, C29⟩
      replace Bd := C29.keep (by omega) Bd
      replace hLB := C29.keep (by omega) hLB
      replace Bv := C29.keep (by omega) Bv
      replace Bz := C29.keep (by omega) Bz
      replace Bw := C29.keep (by omega) Bw
      replace hPB := C29.keep (by omega) hPB
      replace B9 := C29.keep (by omega) B9
      replace E := E.step C29 (by intro x hx hm; omega)
      have hR1 := hR.next ok hM hN1
      have hfi := hR.finer hM hN1
      have hmono := Refd.cnt_mono hR hR1 hfi
      have hcle := hR1.cnt_le
      refine WpL_nil ?_
      refine Wp_seq_region ?_
      refine WpL_val rfl rfl (by decide) (r_load (v := (.int .i64 ((ks1.length : Nat) : Int))) rfl flat3 (hC1.cell rfl)) ?_
      refine WpL_val rfl rfl (by decide) (r_move (v := (.int .i64 ((cnt : Nat) : Int))) rfl) ?_
      refine WpL_val rfl rfl (by decide) (r_eql (k := .i64) (a := ((ks1.length : Nat) : Int)) (b := ((cnt : Nat) : Int)) rfl rfl) ?_
      refine WpL_nil ?_
      refine Wp_cond (b := decide ((((ks1.length : Nat) : Int) : Int) = ((cnt : Nat) : Int))) rfl (fun hsame => ?_) (fun hsame => ?_)
      · have khsame := hsame
        replace hsame := of_decide_eq_true hsame
        have hce : ks1.length = cnt := by omega
        refine Wp_seq_region ?_
        refine WpL_val rfl rfl (by decide) (r_load (v := (.slice (some ⟨b2, 0, none⟩) n n)) rfl flat22 (hP1.cell rfl)) ?_
        refine WpL_val rfl rfl (by decide) (r_assign (v := (.slice (some ⟨b2, 0, none⟩) n n)) rfl) ?_
        refine WpL_nil ?_
        refine Wp_ret ?_
        refine inB_ret ?_
        refine thn_ret ?_
        refine inB_ret ?_
        refine fin_tmp Try.results71 (v := (.slice (some ⟨b2, 0, none⟩) n n)) rfl ?_
        rw [hce] at hR1
        exact ⟨⟨q1, b2, Refd.final ok hR hR1 (num_iff hM hN1), rfl, by omega, hB1⟩, E⟩
      · have khsame := hsame
        replace hsame := of_decide_eq_false hsame
        refine Wp_skip ?_
        refine inB_normal ?_
        refine thn_normal ?_
        exact ⟨n - ks1.length, by omega, q1, ks1.length, b2, Fits.out ⟨rfl, rfl, rfl, rfl, rfl, trivial⟩, E, Bd, hLB, Bv, Bz, Bw, hP1, hC1, hR1, hB1, (by omega), rfl⟩
end Go.Proofs
namespace Go.Proofs
open Go Go.Eng Go.Sort
def EntP (d : Dfa) (p : List Int) (st : List Int) (s : Int) (x : Nat) (y : Int) : Prop := (y = -1 ∧ ptD p (toD d s x) < 0) ∨ ∃ (j : Nat) (t : Int), y = ((j : Nat) : Int) ∧ st[j]? = some t ∧ ptD p t = ptD p (toD d s x) ∧ 0 ≤ ptD p t
theorem EntP.mono {d : Dfa} {p st : List Int} {s y : Int} {x : Nat} (h : EntP d p st s x y) (u : List Int) : EntP d p (st ++ u) s x y := by
  rcases h with h | ⟨j, t, h1, h2, h3⟩
  · exact .inl h
  · exact .inr ⟨j, t, h1, by rw [List.getElem?_append_left (lt_of_get h2)]; exact h2, h3⟩
structure CanP (n c : Nat) (d : Dfa) (p : List Int) (rows : List (List Int)) (row st : List Int) : Prop where
  s0 : st[0]? = some d.start
  sl : ∀ s ∈ st, 0 ≤ s ∧ s < n ∧ 0 ≤ ptD p s
  inj : ∀ (i j : Nat) s t, st[i]? = some s → st[j]? = some t → ptD p s = ptD p t → i = j
  len : ∀ r ∈ rows, r.length = c
  ent : ∀ (i x : Nat) r y s, rows[i]? = some r → r[x]? = some y → st[i]? = some s → EntP d p st s x y
  cur : ∀ (x : Nat) y s, row[x]? = some y → st[rows.length]? = some s → EntP d p st s x y
  ord : ∀ (k : Nat) y, (rows.flatten ++ row)[k]? = some y → y ≤ mxL ((rows.flatten ++ row).take k) + 1
  mx : mxL (rows.flatten ++ row) + 1 = st.length
  rch : ∀ i : Nat, i < rows.length → ((i : Nat) : Int) ≤ mxL (rows.take i).flatten
theorem CanP.start {n c : Nat} {d : Dfa} {p : List Int} (hs : 0 ≤ d.start ∧ d.start < n) (hp : 0 ≤ ptD p d.start) : CanP n c d p [] [] [d.start] := by
  refine ⟨rfl, fun s h => by rw [List.mem_singleton] at h; subst h; exact ⟨hs.1, hs.2, hp⟩, fun i j s t h1 h2 _ => ?_, fun r h => absurd h List.not_mem_nil, fun i x r y s h => by simp at h, fun x y s h => by simp at h, fun k y h => by simp at h, by simp [mxL], fun i h => by simp at h⟩
  have a := lt_of_get h1
  have b := lt_of_get h2
  simp at a b
  omega
theorem ord_snoc {F : List Int} {y : Int} (h : ∀ (k : Nat) z, F[k]? = some z → z ≤ mxL (F.take k) + 1) (hy : y ≤ mxL F + 1) : ∀ (k : Nat) z, (F ++ [y])[k]? = some z → z ≤ mxL ((F ++ [y]).take k) + 1 := by
  intro k z hz
  rcases snoc_get hz with h1 | ⟨h1, h2⟩
  · rw [List.take_append_of_le_length (by have := lt_of_get h1; omega)]
    exact h k z h1
  · rw [h1, h2, List.take_append_of_le_length (Nat.le_refl _), List.take_length]
    exact hy
theorem CanP.add {n c : Nat} {d : Dfa} {p : List Int} {rows : List (List Int)} {row st : List Int} {s y : Int} (h : CanP n c d p rows row st) (hs : st[rows.length]? = some s) (hE : EntP d p st s row.length y) : CanP n c d p rows (row ++ [y]) st := by
  have hy : y ≤ mxL (rows.flatten ++ row) := by
    have hm := h.mx
    have hl := List.length_pos_of_mem (List.mem_of_getElem? h.s0)
    rcases hE with ⟨h1, _⟩ | ⟨j, t, h1, h2, _⟩
    · omega
    · have := lt_of_get h2; omega
  refine ⟨h.s0, h.sl, h.inj, h.len, h.ent, fun x z q hx hq => ?_, ?_, ?_, h.rch⟩
  · rcases snoc_get hx with h1 | ⟨h1, h2⟩
    · exact h.cur x z q h1 hq
    · rw [hs] at hq; cases hq
      rw [h1, h2]; exact hE
  · rw [← List.append_assoc]; exact ord_snoc h.ord (by omega)
  · rw [← List.append_assoc, mxL_snoc]; have := h.mx; omega
theorem CanP.new {n c : Nat} {d : Dfa} {p : List Int} {rows : List (List Int)} {row st : List Int} {s : Int} (h : CanP n c d p rows row st) (hs : st[rows.length]? = some s) (ht : 0 ≤ toD d s row.length ∧ toD d s row.length < n) (hp : 0 ≤ ptD p (toD d s row.length)) (hnew : ∀ t ∈ st, ptD p t ≠ ptD p (toD d s row.length)) :
    CanP n c d p rows (row ++ [((st.length : Nat) : Int)]) (st ++ [toD d s row.length]) := by
  have hsl := lt_of_get hs
  have hE : EntP d p (st ++ [toD d s row.length]) s row.length ((st.length : Nat) : Int) := .inr ⟨st.length, _, rfl, by rw [List.getElem?_append_right (Nat.le_refl _), Nat.sub_self]; rfl, rfl, hp⟩
  refine ⟨by rw [List.getElem?_append_left (lt_of_get h.s0)]; exact h.s0, fun q hq => ?_, fun i j q r hi hj he => ?_, h.len, fun i x r y q hr hy hq => ?_, fun x z q hx hq => ?_, ?_, ?_, h.rch⟩
  · rcases List.mem_append.1 hq with h1 | h1
    · exact h.sl q h1
    · rw [List.mem_singleton] at h1; subst h1; exact ⟨ht.1, ht.2, hp⟩
  · rcases snoc_get hi with h1 | ⟨h1, h2⟩ <;> rcases snoc_get hj with h3 | ⟨h3, h4⟩
    · exact h.inj i j q r h1 h3 he
    · exact absurd (by rw [he, h4]) (hnew q (List.mem_of_getElem? h1))
    · exact absurd (by rw [← he, h2]) (hnew r (List.mem_of_getElem? h3))
    · omega
  · rcases snoc_get hq with h1 | ⟨h1, _⟩
    · exact (h.ent i x r y q hr hy h1).mono _
    · have := lt_of_get hr; omega
  · have hq2 : q = s := by
      rw [List.getElem?_append_left hsl, hs] at hq
      exact (Option.some.inj hq).symm
    subst hq2
    rcases snoc_get hx with h1 | ⟨h1, h2⟩
    · exact (h.cur x z q h1 hs).mono _
    · rw [h1, h2]; exact hE
  · rw [← List.append_assoc]; exact ord_snoc h.ord (by have := h.mx; omega)
  · rw [← List.append_assoc, mxL_snoc]; have := h.mx; simp; omega
theorem CanP.row {n c : Nat} {d : Dfa} {p : List Int} {rows : List (List Int)} {row st : List Int} (h : CanP n c d p rows row st) (hl : row.length = c) (hr : ((rows.length : Nat) : Int) ≤ mxL rows.flatten) : CanP n c d p (rows ++ [row]) [] st := by
  have hf : (rows ++ [row]).flatten ++ [] = rows.flatten ++ row := by simp
  refine ⟨h.s0, h.sl, h.inj, fun r hm => ?_, fun i x r y s h1 h2 h3 => ?_, fun x y s h1 => by simp at h1, by rw [hf]; exact h.ord, by rw [hf]; exact h.mx, fun i hi => ?_⟩
  · rcases List.mem_append.1 hm with h1 | h1
    · exact h.len r h1
    · rw [List.mem_singleton] at h1; rw [h1]; exact hl
  · rcases snoc_get h1 with h4 | ⟨h4, h5⟩
    · exact h.ent i x r y s h4 h2 h3
    · subst h5; rw [h4] at h3; exact h.cur x y s h2 h3
  · simp at hi
    rcases Nat.lt_or_ge i rows.length with h1 | h1
    · rw [List.take_append_of_le_length (by omega)]; exact h.rch i h1
    · have : i = rows.length := by omega
      rw [this, List.take_append_of_le_length (Nat.le_refl _), List.take_length]; exact hr
theorem flat_take {c : Nat} : ∀ {L : List (List Int)} {i : Nat}, (∀ r ∈ L, r.length = c) → i ≤ L.length → L.flatten.take (i * c) = (L.take i).flatten
  | [], i, _, _ => by simp
  | q :: L, 0, _, _ => by simp
  | q :: L, i + 1, h, hi => by
    have hq := h q List.mem_cons_self
    rw [List.flatten_cons, List.take_succ_cons, List.flatten_cons, show (i + 1) * c = q.length + i * c by rw [hq, Nat.add_mul]; omega, List.take_append, Nat.add_sub_cancel_left, flat_take (fun r hr => h r (List.mem_cons_of_mem _ hr)) (by simpa using hi), List.take_of_length_le (by omega)]
theorem CanP.done {n c : Nat} {d : Dfa} {p : List Int} {rows : List (List Int)} {st : List Int} (h : CanP n c d p rows [] st) (ok : OkD n c d) (hP : PartsOf n c d p) (hl : rows.length = st.length) : CanOf c (beh d d.start) ⟨0, st.map (atD d), rows⟩ := by
  have hmx := h.mx
  rw [List.append_nil] at hmx
  have hm0 := List.length_pos_of_mem (List.mem_of_getElem? h.s0)
  have hgs : ∀ i : Nat, i < rows.length → ∃ s, st[i]? = some s := fun i hi => get_of_lt (by omega)
  have hrow : ∀ r ∈ rows, r.length = c ∧ ∀ y ∈ r, -1 ≤ y ∧ y < st.length := fun r hr => by
    refine ⟨h.len r hr, fun y hy => ?_⟩
    obtain ⟨i, hi⟩ := List.getElem?_of_mem hr
    obtain ⟨x, hx⟩ := List.getElem?_of_mem hy
    obtain ⟨s, hs⟩ := hgs i (lt_of_get hi)
    rcases h.ent i x r y s hi hx hs with ⟨h1, _⟩ | ⟨j, t, h1, h2, _⟩
    · omega
    · have := lt_of_get h2; omega
  have okC : OkD st.length c ⟨0, st.map (atD d), rows⟩ := ⟨hl, by simp, ⟨Int.le_refl _, by show (0 : Int) < _; omega⟩, fun x hx => by
    obtain ⟨s, _, h1⟩ := List.mem_map.1 hx
    rw [← h1]; exact ok.at', hrow⟩
  have hb : Bfs st.length c ⟨0, st.map (atD d), rows⟩ := by
    refine ⟨okC, rfl, fun k y hk => ?_, fun i hi => ?_, ?_⟩
    · have := h.ord k y (by rw [List.append_nil]; exact hk)
      rwa [List.append_nil] at this
    · show _ ≤ mxL (rows.flatten.take (i * c))
      rw [flat_take h.len (by omega)]
      exact h.rch i (by omega)
    · show mxL rows.flatten = _
      omega
  refine canOf_states ok hb rfl h.s0 (fun i j s t hi hj he => ?_) (fun i s hs => ?_) fun i x s hs hx => ?_
  · have a := h.sl s (List.mem_of_getElem? hi)
    have b := h.sl t (List.mem_of_getElem? hj)
    exact h.inj i j s t hi hj ((hP.iff s t ⟨by omega, a.2.1⟩ ⟨by omega, b.2.1⟩).2 he)
  · exact atD_get (by rw [List.getElem?_map, hs]; rfl)
  · obtain ⟨r, hr⟩ := get_of_lt (l := rows) (i := i) (by have := lt_of_get hs; omega)
    have hrl := h.len r (List.mem_of_getElem? hr)
    obtain ⟨y, hy⟩ := get_of_lt (l := r) (i := x) (by omega)
    have hto : toD ⟨0, st.map (atD d), rows⟩ ((i : Nat) : Int) x = y := toD_get hr hy
    have hrg := ok.to (s := s) (x := x)
    rcases h.ent i x r y s hr hy hs with ⟨h1, h2⟩ | ⟨j, t, h1, h2, h3, h4⟩
    · left
      refine ⟨by rw [hto]; exact h1, fun hl => ?_⟩
      have := (hP.live _ hrg).1.2 hl
      omega
    · right
      have b := h.sl t (List.mem_of_getElem? h2)
      exact ⟨j, t, by rw [hto]; exact h1, h2, (hP.iff t _ ⟨by omega, b.2.1⟩ hrg).1 h3, (hP.live t ⟨by omega, b.2.1⟩).1.1 h4⟩
/-- Nothing is accepted. -/
theorem canOf_dead {n c : Nat} {d : Dfa} (ok : OkD n c d) (hd : ¬ liveD c d d.start) : CanOf c (beh d d.start) ⟨0, [-1], [List.replicate c (-1)]⟩ := by
  have hto : ∀ (s : Int) (x : Nat), toD ⟨0, [-1], [List.replicate c (-1)]⟩ s x = -1 := fun s x => by
    unfold toD
    split
    · rfl
    · rw [List.getD_eq_getElem?_getD, List.getD_eq_getElem?_getD]
      cases h : ([List.replicate c (-1 : Int)])[s.toNat]? with
      | none => simp
      | some r =>
        have := List.mem_of_getElem? h
        rw [List.mem_singleton] at this
        subst this
        simp only [Option.getD_some, List.getElem?_replicate]
        split <;> rfl
  have hmx : mxL ([List.replicate c (-1 : Int)]).flatten = 0 := by
    simp only [List.flatten_cons, List.flatten_nil, List.append_nil]
    induction c with
    | zero => rfl
    | succ c ih => 
      have e : ∀ k, mxL (List.replicate k (-1 : Int)) = 0 := fun k => by
        induction k with
        | zero => rfl
        | succ k ih2 => rw [List.replicate_succ', mxL_snoc, ih2]; decide
      exact e _
  have okC : OkD 1 c ⟨0, [-1], [List.replicate c (-1)]⟩ := ⟨rfl, rfl, ⟨Int.le_refl _, by show (0 : Int) < 1; decide⟩, fun x hx => by rw [List.mem_singleton] at hx; rw [hx]; exact Int.le_refl _, fun r hr => by
    rw [List.mem_singleton] at hr
    subst hr
    exact ⟨by simp, fun x hx => by rw [(List.mem_replicate.1 hx).2]; decide⟩⟩
  have hbeh : ∀ (w : List Nat), beh ⟨0, [-1], [List.replicate c (-1)]⟩ 0 w = -1 := fun w => by
    cases w with
    | nil => rfl
    | cons x w => simp only [beh]; rw [hto]; exact beh_neg (by decide)
  refine ⟨1, ⟨okC, rfl, fun k x hk => ?_, fun i hi => ?_, by rw [hmx]; rfl⟩, fun w hw => by rw [hbeh, ok.dead hd hw], fun s t h1 h2 h3 h4 _ => by omega, fun s x _ h => by rw [hto] at h; exact absurd h (by decide)⟩
  · have h1 := List.mem_of_getElem? hk
    simp at h1
    have := mxL_nn ((([List.replicate c (-1 : Int)]).flatten).take k)
    have h2 : x = -1 := h1.2
    show x ≤ mxL ((([List.replicate c (-1 : Int)]).flatten).take k) + 1
    omega
  · have : i = 0 := by omega
    rw [this]; exact mxL_nn _
def keysC : List Int → Nat → List (Int × Int)
  | [], _ => []
  | m :: ks, n => (m, ((n : Nat) : Int)) :: keysC ks (n + 1)
theorem keysC_snoc : ∀ (ks : List Int) (m : Int) (n : Nat), keysC (ks ++ [m]) n = keysC ks n ++ [(m, (((n + ks.length : Nat) : Nat) : Int))]
  | [], m, n => rfl
  | x :: ks, m, n => by
    show (x, _) :: keysC (ks ++ [m]) (n + 1) = (x, _) :: (keysC ks (n + 1) ++ _)
    rw [keysC_snoc ks m (n + 1), List.length_cons, show n + 1 + ks.length = n + (ks.length + 1) by omega]
theorem keysC_mem : ∀ {ks : List Int} {n : Nat} {q : Int × Int}, q ∈ keysC ks n → ∃ (j : Nat) (m : Int), ks[j]? = some m ∧ q = (m, (((n + j : Nat) : Nat) : Int))
  | [], _, _, h => by cases h
  | x :: ks, n, q, h => by
    rcases List.mem_cons.1 h with h | h
    · exact ⟨0, x, rfl, h⟩
    · obtain ⟨j, m, h1, h2⟩ := keysC_mem h
      exact ⟨j + 1, m, h1, by rw [h2]; congr 2; omega⟩
theorem keysC_key : ∀ {ks : List Int} {n : Nat} {m : Int}, m ∈ ks → m ∈ (keysC ks n).map (·.1)
  | x :: ks, n, m, h => by
    rcases List.mem_cons.1 h with rfl | h
    · exact List.mem_cons_self
    · exact List.mem_cons_of_mem _ (keysC_key (n := n + 1) h)
theorem keysC_get {ks : List Int} {m v : Int} (h : getM (keysC ks 0) m = some v) : ∃ j : Nat, v = ((j : Nat) : Int) ∧ ks[j]? = some m := by
  obtain ⟨j, m', h1, h2⟩ := keysC_mem (getM_some_mem h)
  simp only [Prod.mk.injEq, Nat.zero_add] at h2
  exact ⟨j, h2.2, by rw [h1, h2.1]⟩
theorem keysC_none {ks : List Int} {m : Int} (h : getM (keysC ks 0) m = none) : m ∉ ks ∧ putM (keysC ks 0) m ((ks.length : Nat) : Int) = keysC (ks ++ [m]) 0 := by
  refine ⟨fun hm => ?_, ?_⟩
  · have := getM_isSome.2 (keysC_key (n := 0) hm)
    rw [h] at this; cases this
  · rw [putM_none _ h, keysC_snoc, Nat.zero_add]
end Go.Proofs
