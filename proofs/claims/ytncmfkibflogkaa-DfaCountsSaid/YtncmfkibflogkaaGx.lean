/- Generic rules and structures: slices made of zeros, bytes to strings, appends in drawn regions, lists of booleans, lists of lists of one's own. -/
import Derived.Test.YtncmfkibflogkaaSf
import Derived.Test.YtncmfkibflogkaaMq
import Derived.Laws.BytesArg
namespace Go.Proofs
open Go Go.Eng Go.Sort

section
variable {P : Program} {N : Nat} {Q : Post} {σ : Env} {w : World} {K : Env → World → Prop} {ops : Array Oper} {rest : List Oper} {d : Nat} {ty : TypeId} {pos : String} {af : Array Edge} {t : TypeId} {x y : Operand}
theorem s_make {e bytes n : Nat} {z : Value} (hN : d < N) (hu : P.underlying t = some (.slice e)) (hsz : Siz P e 1) (hby : Byt P e bytes) (hz : Zer P e z) (hz1 : z.cells = #[z]) (hx : ev σ x = .int .i64 ((n : Nat) : Int)) (hy : ev σ y = .int .i64 ((n : Nat) : Int)) (hb : n * bytes ≤ 140737488355328) (hn : n ≤ 140737488355328)
    (k : ∀ b w', New w w' b (List.replicate n z).toArray e → WpL P N ops K Q rest (upd σ d (.slice (some ⟨b, 0, none⟩) n n)) w') : WpL P N ops K Q (⟨some d, .makeSlice t x y, ty, pos, af, none⟩ :: rest) σ w := by
  refine WpL_val (v := .slice (some ⟨w.heap.size, 0, none⟩) n n) (w' := { w with heap := w.heap.push (.cells (List.replicate n z).toArray e (0, 0)) }) rfl rfl hN ?_ (k _ _ (New.mk' w _ e))
  unfold Siz at hsz; unfold Byt at hby; unfold Zer at hz
  cases hi : P.info? e with
  | none => rw [hi] at hsz; simp at hsz
  | some i =>
  rw [hi] at hsz hby hz
  simp at hsz hby hz
  have h := run_make (P := P) w t e i _ hu hi hz .i64 .i64 ((n : Nat) : Int) ((n : Nat) : Int) (by omega) (Int.le_refl _) (by rw [hby]; have : ((bytes : Nat) : Int) * ((n : Nat) : Int) = (((n * bytes : Nat) : Nat) : Int) := (by rw [Int.natCast_mul, Int.mul_comm]); rw [this]; omega) (by omega)
  have hc : madeCells z.cells (n * i.size) = (List.replicate n z).toArray := by
    rw [hsz, Nat.mul_one, hz1]
    apply Array.ext'
    simp only [madeCells]
    apply List.ext_getElem?
    intro j
    simp only [Array.toList_map, List.getElem?_map, List.getElem?_replicate]
    rcases Nat.lt_or_ge j n with hj | hj
    · have h1 : (Array.range n).toList[j]? = some j := by simp [hj]
      rw [h1, if_pos hj]
      simp [Nat.mod_one]
    · have h1 : (Array.range n).toList[j]? = none := by simp; omega
      rw [h1, if_neg (by omega)]; rfl
  simp only [Int.toNat_natCast, hc] at h
  simp only [execOp, hx, hy, Sem.run_bind, h, Result.andThen_ok]
  rfl
theorem r_bytesStr {dst : Option Tmp} {g : Option (Nat × Bool)} {s : TypeId} {e : TypeId} {b n c : Nat} {l : List Int} (hs : P.underlying s = some (.slice e)) (he : P.underlying e = some (.int .u8)) (ht : P.underlying t = some .string) (hx : ev σ x = .slice (some ⟨b, 0, none⟩) n c)
    (hB : Blk w b (l.map (Value.int .u8)).toArray e) (hl : l.length = n) : (execOp (ev σ) ⟨dst, .convert s t x, ty, pos, af, g⟩).run P w = .ok (.value (.string (strOfNums l))) w := by
  have h := run_convert_bytes_arg (P := P) w s e hs he b 0 n c l hl (fun i hi => by
    rw [Nat.zero_add]
    have h1 : l[i]? = some l[i] := List.getElem?_eq_getElem (by omega)
    have h2 := hB.cell (o := i) (v := .int .u8 (l.getD i 0)) (by simp [List.getD, h1])
    exact h2) t ht
  simp only [execOp, hx, Sem.run_bind, h, Result.andThen_ok]
  rfl
end
def appF (base e size n : Nat) (xs : List Value) (old : Value) (hs : Nat) : Fct := fun v w => (∃ a c, v = .slice a n c) ∧ w.ownsRow base e size v n xs ∧ ∀ k, v.ownBlock = some k → old.ownBlock = some k ∨ hs ≤ k
theorem appF_ext (base e size n : Nat) (xs : List Value) (old : Value) (hs : Nat) : ∀ v w w', Ext w w' → appF base e size n xs old hs v w → appF base e size n xs old hs v w' := by
  rintro v w w' e ⟨h1, h2, h3⟩
  exact ⟨h1, own_ext h2 e, h3⟩
/-- The append to a slice of one's own, in a region that draws its order. -/
theorem DoesT_append {P : Program} {N : Nat} {σ : Env} {w : World} {dst : Option Tmp} {ty : TypeId} {pos : String} {af : Array Edge} {g : Option (Nat × Bool)} {M : Nat → Prop} {t : TypeId} {s x : Operand} {base e size bytes n m c bx ox hs : Nat} {z v : Value} {xs news : List Value} (hu : P.underlying t = some (.slice e)) (hsz : Siz P e size) (hby : Byt P e bytes) (hz : Zer P e z) (hzs : z.cells.size = size) (h0 : 0 < size)
    (he : ev σ s = v) (hown : w.ownsRow base e size v n xs) (hx : ev σ x = .slice (some ⟨bx, ox, none⟩) m c) (hl : news.length = m * size) (hnews : CellsAt w bx ox news) (h1 : ∀ u ∈ news, u.oneCell' = true)
    (h63 : n + m ≤ maxLen) (hbytes : (n + m) * bytes ≤ 140737488355328) (hbase : base ≤ w.heap.size) (hM : ∀ y, v.ownBlock = some y → M y) (hhs : hs ≤ w.heap.size) :
    DoesT M P N ⟨dst, .call ⟨.builtin .append, #[s, x], #[t, t]⟩, ty, pos, af, g⟩ (appF base e size (n + m) (xs ++ news) v hs) σ w := by
  unfold Siz at hsz; unfold Byt at hby; unfold Zer at hz
  cases hi : P.info? e with
  | none => rw [hi] at hsz; simp at hsz
  | some i =>
  rw [hi] at hsz hby hz
  simp at hsz hby hz
  have hcells : ∀ j u, news[j]? = some u → w.cell? ((⟨bx, ox, none⟩ : Addr).add j) = some u := fun j u hj => by rw [Addr.add_lit]; exact hnews j u hj
  obtain ⟨v', w', hr, h2, h3, _⟩ := run_append_own (P := P) w base t ty e i z size bytes hu hi hz hsz hby hzs h0 v n xs hown ⟨bx, ox, none⟩ m c news hl hcells h1 h63 hbytes hbase
  have hC : Chg (fun x => v.ownBlock = some x) w w' := ⟨h3.os, h3.tape, h3.output, append_drawn (P := P) hu hi hz hsz hby hown hl hcells h1 h63 hbytes hr, h3.size, fun b hb hn => h3.block b hb (fun h => hn h.symm)⟩
  have hW := append_where (P := P) hu hi hz hsz hby hzs h0 hown hl hcells h1 h63 hbytes hr
  refine DoesT_val (v := v') (w' := w') (by simp [execOp, resolve, invoke, builtin, he, hx, hr]) (hC.mono fun y _ hy => hM y hy) ⟨own_form h2, h2, fun k hk => ?_⟩
  rcases hW k hk with h4 | h4
  · exact .inl h4
  · exact .inr (Nat.le_trans hhs h4)
/-- A slice of one new element, whose cells are known. -/
def litF (e : Nat) (c : Array Value) (hs : Nat) : Fct := fun v w => ∃ b, v = .slice (some ⟨b, 0, none⟩) 1 1 ∧ Blk w b c e ∧ hs ≤ b
theorem litF_ext (e : Nat) (c : Array Value) (hs : Nat) : ∀ v w w', Ext w w' → litF e c hs v w → litF e c hs v w' := by
  rintro v w w' x ⟨b, h1, h2, h3⟩
  exact ⟨b, h1, Ext.keep x h2, h3⟩
theorem DoesT_lit {P : Program} {N : Nat} {σ : Env} {w : World} {dst : Option Tmp} {ty : TypeId} {pos : String} {af : Array Edge} {g : Option (Nat × Bool)} {M : Nat → Prop} {t e n hs : Nat} {x : Operand} {v z : Value} {c : Array Value} (hu : P.underlying t = some (.slice e)) (hsz : Siz P e n) (hz : Zer P e z) (hx : ev σ x = v)
    (hl : ¬ (1 * n > 2 ^ 24)) (h0 : 1 * n ≠ 0) (hc : Instr.fill (fun i => some (i * n, n)) ((Array.range (1 * n)).map (z.cells[· % z.cells.size]!)) [(0, v)] = some c) (hhs : hs ≤ w.heap.size) :
    DoesT M P N ⟨dst, .buildSlice t 1 #[(0, x)], ty, pos, af, g⟩ (litF e c hs) σ w := by
  have hn := New.mk' w c e
  exact DoesT_val (run_buildSlice (parts := [(0, x)]) (ps := [(0, v)]) (by simp only [List.map, hx]) hu hsz hz hl h0 hc) (Ext.chg hn.ext) ⟨_, rfl, hn.blk, hhs⟩
theorem own_lit1 {w : World} {b e base : Nat} {v : Value} (h : Blk w b #[v] e) (hb : base ≤ b) : w.ownsRow base e 1 (.slice (some ⟨b, 0, none⟩) 1 1) 1 [v] :=
  ⟨rfl, .inr ⟨b, 1, #[v], rfl, hb, h, Nat.le_refl _, by decide, rfl, rfl⟩⟩
def boolV (b : Bool) : List Value := [.bool b]
def BoolsAt (w : World) (v : Value) (l : List Bool) : Prop := SlAt w 1 v (l.map boolV)
theorem bools_cells {w : World} {a : Option Addr} {n c : Nat} {l : List Bool} (h : BoolsAt w (.slice a n c) l) (hn : 0 < n) :
    ∃ b o, a = some ⟨b, o, none⟩ ∧ ∀ i x, l[i]? = some x → w.cell? ⟨b, o + i, none⟩ = some (.bool x) := by
  obtain ⟨b, o, ha, h⟩ := SlAt.at h hn
  refine ⟨b, o, ha, fun i x hx => ?_⟩
  have := h i (boolV x) (by simp [hx]) 0 _ rfl
  simpa using this
theorem bools_flat (l : List Bool) : (l.map boolV).flatten = l.map Value.bool := by
  induction l with
  | nil => rfl
  | cons x l ih => simp [boolV]; simpa [boolV] using ih
abbrev TB : Nat := 4
abbrev TBs : Nat := 130
theorem own_bools {w : World} {base n : Nat} {v : Value} {l : List Bool} (h : w.ownsRow base TB 1 v n (l.map Value.bool)) (hn : n = l.length) : BoolsAt w v l := by
  rw [← bools_flat] at h
  exact own_slat h (by intro x hx; simp only [List.mem_map] at hx; obtain ⟨p, _, rfl⟩ := hx; rfl) (by simp [hn]) (by decide)
/-! A list of lists that are all one's own. -/
structure LSt (To e sz : Nat) (w : World) (base : Nat) (vo : Value) (vs : List Value) (ns : List (Nat × List Value)) : Prop where
  o : w.ownsRow base To 1 vo ns.length vs
  len : vs.length = ns.length
  inn : ∀ (i : Nat) v p, vs[i]? = some v → ns[i]? = some p → w.ownsRow base e sz v p.1 p.2
  apo : ∀ (i : Nat) v b, vs[i]? = some v → v.ownBlock = some b → vo.ownBlock ≠ some b
theorem LSt.start (To e sz : Nat) (w : World) (base : Nat) : LSt To e sz w base (.slice none 0 0) [] [] :=
  ⟨World.ownsRow_nil _ _ _ _, rfl, fun i v p h => by simp at h, fun i v b h => by simp at h⟩
theorem LSt.chg {M : Nat → Prop} {To e sz base : Nat} {w w' : World} {vo : Value} {vs : List Value} {ns : List (Nat × List Value)} (h : LSt To e sz w base vo vs ns) (c : Chg M w w') (hM : ∀ b, base ≤ b → b < w.heap.size → ¬ M b) : LSt To e sz w' base vo vs ns :=
  ⟨own_chg h.o c fun k hk => hM k (h.o.lt k hk).1 (h.o.lt k hk).2, h.len, fun i v l hv hl => own_chg (h.inn i v l hv hl) c fun k hk => hM k ((h.inn i v l hv hl).lt k hk).1 ((h.inn i v l hv hl).lt k hk).2, h.apo⟩
theorem LSt.ext {To e sz base : Nat} {w w' : World} {vo : Value} {vs : List Value} {ns : List (Nat × List Value)} (h : LSt To e sz w base vo vs ns) (c : Ext w w') : LSt To e sz w' base vo vs ns := h.chg c fun _ _ _ f => f
theorem LSt.on {To e sz base n : Nat} {w : World} {vo : Value} {vs : List Value} {ns : List (Nat × List Value)} (h : LSt To e sz w base vo vs ns) (hn : n = ns.length) : w.ownsRow base To 1 vo n vs := by subst hn; exact h.o
/-- A slice that was made later is appended. -/
theorem LSt.push {To e sz base bu n m : Nat} {w w' : World} {vo v' u : Value} {vs us : List Value} {ns : List (Nat × List Value)} (h : LSt To e sz w base vo vs ns) (hn : n = ns.length) (hu : w.ownsRow bu e sz u m us) (hb : base ≤ bu) (hbu : ∀ k, vo.ownBlock = some k → k < bu)
    (Ov : w'.ownsRow base To 1 v' (n + 1) (vs ++ [u])) (Cv : Chg (fun x => vo.ownBlock = some x) w w') (Wv : ∀ k, v'.ownBlock = some k → vo.ownBlock = some k ∨ w.heap.size ≤ k) : LSt To e sz w' base v' (vs ++ [u]) (ns ++ [(m, us)]) := by
  have hold : ∀ (i : Nat) v, (vs ++ [u])[i]? = some v → vs[i]? = some v ∨ (i = vs.length ∧ v = u) := by
    intro i v hv
    rcases Nat.lt_or_ge i vs.length with h1 | h1
    · left; rwa [List.getElem?_append_left h1] at hv
    · right
      rw [List.getElem?_append_right h1] at hv
      have h2 := lt_of_get hv
      simp at h2
      obtain rfl : i = vs.length := by omega
      simp at hv
      exact ⟨rfl, hv.symm⟩
  have hun : ∀ b, u.ownBlock = some b → vo.ownBlock ≠ some b := fun b hb' e' => by
    have h1 := hbu b e'
    have h2 := (hu.lt b hb').1
    omega
  refine ⟨by rw [List.length_append, ← hn]; exact Ov, by simp [h.len], ?_, ?_⟩
  · intro i v p hv hp
    rcases hold i v hv with h1 | ⟨h1, rfl⟩
    · rw [List.getElem?_append_left (by have := lt_of_get h1; have := h.len; omega)] at hp
      exact own_chg (h.inn i v p h1 hp) Cv fun k hk => h.apo i v k h1 hk
    · rw [h1, h.len] at hp
      simp at hp
      subst hp
      exact own_low (own_chg hu Cv fun k hk => hun k hk) hb
  · intro i v b hv hb1 hb2
    rcases hold i v hv with h1 | ⟨_, rfl⟩
    · rcases Wv b hb2 with h2 | h2
      · exact h.apo i v b h1 hb1 h2
      · obtain ⟨p, hp⟩ := get_of_lt (l := ns) (i := i) (by have := lt_of_get h1; have := h.len; omega)
        have := ((h.inn i v p h1 hp).lt b hb1).2
        omega
    · rcases Wv b hb2 with h2 | h2
      · exact hun b hb1 h2
      · have := (hu.lt b hb1).2; omega
theorem own_writeG {w w' : World} {base e size n cap g i : Nat} {xs : List Value} {cur : Array Value} {v : Value} (h : w.ownsRow base e size (.slice (some ⟨g, 0, none⟩) n cap) n xs) (hB : Blk w g cur e) (hi : i < n * size) (hB' : Blk w' g (cur.setIfInBounds i v) e) : w'.ownsRow base e size (.slice (some ⟨g, 0, none⟩) n cap) n (xs.set i v) := by
  rcases h.2 with ⟨h1, _⟩ | ⟨g', cap', cur', hv, hbg, hg, hnc, hcm, hcs, htake⟩
  · simp at h1
  · simp only [Value.slice.injEq, Option.some.injEq, Addr.mk.injEq, and_true] at hv
    obtain ⟨rfl, _, rfl⟩ := hv
    unfold Blk at hB hB'
    rw [hB] at hg
    simp only [Option.some.injEq, Obj.cells.injEq, and_true] at hg
    obtain ⟨rfl, _⟩ := hg
    refine ⟨by simpa using h.1, .inr ⟨g, cap, _, rfl, hbg, hB', hnc, hcm, by simpa using hcs, ?_⟩⟩
    rw [← htake, Array.toList_setIfInBounds, List.take_set]
theorem own_blkG {w : World} {base e size n cap g : Nat} {xs : List Value} (h : w.ownsRow base e size (.slice (some ⟨g, 0, none⟩) n cap) n xs) : ∃ cur, Blk w g cur e ∧ n * size ≤ cur.size := by
  rcases h.2 with ⟨h1, _⟩ | ⟨g', cap', cur', hv, hbg, hg, hnc, hcm, hcs, htake⟩
  · simp at h1
  · simp only [Value.slice.injEq, Option.some.injEq, Addr.mk.injEq, and_true] at hv
    obtain ⟨rfl, _, rfl⟩ := hv
    exact ⟨cur', hg, by rw [hcs]; exact Nat.mul_le_mul_right _ hnc⟩
/-- The same, and no two members share a block: a member may grow. -/
structure GSt (To e sz : Nat) (w : World) (base : Nat) (vo : Value) (vs : List Value) (ns : List (Nat × List Value)) : Prop where
  l : LSt To e sz w base vo vs ns
  ap : ∀ (i j : Nat) v u b, vs[i]? = some v → vs[j]? = some u → v.ownBlock = some b → u.ownBlock = some b → i = j
theorem GSt.chg {M : Nat → Prop} {To e sz base : Nat} {w w' : World} {vo : Value} {vs : List Value} {ns : List (Nat × List Value)} (h : GSt To e sz w base vo vs ns) (c : Chg M w w') (hM : ∀ b, base ≤ b → b < w.heap.size → ¬ M b) : GSt To e sz w' base vo vs ns := ⟨h.l.chg c hM, h.ap⟩
theorem GSt.ext {To e sz base : Nat} {w w' : World} {vo : Value} {vs : List Value} {ns : List (Nat × List Value)} (h : GSt To e sz w base vo vs ns) (c : Ext w w') : GSt To e sz w' base vo vs ns := ⟨h.l.ext c, h.ap⟩
theorem GSt.made {To e sz base b n : Nat} {w : World} (hB : Blk w b (List.replicate n (Value.slice none 0 0)).toArray To) (hb : base ≤ b) (hn : n ≤ 9223372036854775807) (hbw : base ≤ b) : GSt To e sz w base (.slice (some ⟨b, 0, none⟩) n n) (List.replicate n (.slice none 0 0)) (List.replicate n (0, [])) := by
  have hv : ∀ (i : Nat) v, (List.replicate n (Value.slice none 0 0))[i]? = some v → v = .slice none 0 0 := fun i v h => by
    have := List.mem_of_getElem? h
    exact (List.mem_replicate.1 this).2
  refine ⟨⟨?_, by simp, fun i v p h hp => ?_, fun i v b h h2 => ?_⟩, fun i j v u b h _ h2 => ?_⟩
  · rw [List.length_replicate]
    exact ⟨by simp, .inr ⟨b, n, _, rfl, hb, hB, Nat.le_refl _, hn, by simp, by simp⟩⟩
  · have hp2 := (List.mem_replicate.1 (List.mem_of_getElem? hp)).2
    subst hp2
    rw [hv i v h]
    exact World.ownsRow_nil _ _ _ _
  · rw [hv i v h] at h2; cases h2
  · rw [hv i v h] at h2; cases h2
/-- One member grows, and its new slice is stored in the outer one. -/
theorem GSt.grow {To e sz : Nat} {w w' w2 : World} {base g cap k n m m' : Nat} {v v' : Value} {vs : List Value} {ns : List (Nat × List Value)} {xs xs' : List Value} {cur : Array Value} (h : GSt To e sz w base (.slice (some ⟨g, 0, none⟩) n cap) vs ns) (hn : n = ns.length) (hv : vs[k]? = some v) (hp : ns[k]? = some (m, xs))
    (Ov : w'.ownsRow base e sz v' m' xs') (Cv : Chg (fun x => v.ownBlock = some x) w w') (Wv : ∀ k, v'.ownBlock = some k → v.ownBlock = some k ∨ w.heap.size ≤ k)
    (hB : Blk w' g cur To) (P2 : Put w' w2 g (cur.setIfInBounds k v') To) : GSt To e sz w2 base (.slice (some ⟨g, 0, none⟩) n cap) (vs.set k v') (ns.set k (m', xs')) := by
  have hkl := lt_of_get hv
  have hgv : v.ownBlock ≠ some g := fun e => h.l.apo k v g hv e rfl
  have hgl := (h.l.o.lt g rfl).2
  have hv'g : v'.ownBlock ≠ some g := fun e => by rcases Wv g e with h1 | h1; exact hgv h1; omega
  have ho1 : w'.ownsRow base To 1 (.slice (some ⟨g, 0, none⟩) n cap) ns.length vs := own_chg h.l.o Cv fun q hq => by cases hq; exact hgv
  rw [← hn] at ho1
  have ho2 := own_writeG ho1 hB (i := k) (by have := h.l.len; omega) P2.blk
  have hset : ∀ (i : Nat) u, (vs.set k v')[i]? = some u → (i = k ∧ u = v') ∨ (i ≠ k ∧ vs[i]? = some u) := by
    intro i u hu
    rw [List.getElem?_set] at hu
    split at hu
    · rename_i he
      exact .inl ⟨he.symm, (Option.some.inj hu).symm⟩
    · rename_i he
      exact .inr ⟨fun e => he e.symm, hu⟩
  have hsome : ∀ (i : Nat) u, vs[i]? = some u → ∃ q, ns[i]? = some q := fun i u hu => get_of_lt (by have := lt_of_get hu; have := h.l.len; omega)
  have hne : ∀ (i : Nat) u b, i ≠ k → vs[i]? = some u → u.ownBlock = some b → v.ownBlock ≠ some b ∧ v'.ownBlock ≠ some b ∧ b ≠ g := by
    intro i u b hi hu hb
    have h1 : v.ownBlock ≠ some b := fun e => hi (h.ap i k u v b hu hv hb e)
    refine ⟨h1, fun e => ?_, fun e => h.l.apo i u b hu hb (by rw [e]; rfl)⟩
    rcases Wv b e with h2 | h2
    · exact h1 h2
    · obtain ⟨q, hq⟩ := hsome i u hu
      have := ((h.l.inn i u q hu hq).lt b hb).2
      omega
  refine ⟨⟨by rw [List.length_set, ← hn]; exact ho2, by simp [h.l.len], ?_, ?_⟩, ?_⟩
  · intro i u q hu hq
    rcases hset i u hu with ⟨rfl, rfl⟩ | ⟨h1, h2⟩
    · rw [List.getElem?_set, if_pos rfl, if_pos (by have := h.l.len; omega)] at hq
      have hq' := Option.some.inj hq
      subst hq'
      exact own_chg Ov P2.chg fun b hb e => hv'g (e ▸ hb)
    · rw [List.getElem?_set, if_neg (fun e => h1 e.symm)] at hq
      exact own_chg (own_chg (h.l.inn i u q h2 hq) Cv fun b hb => (hne i u b h1 h2 hb).1) P2.chg fun b hb e => (hne i u b h1 h2 hb).2.2 e
  · intro i u b hu hb
    rcases hset i u hu with ⟨rfl, rfl⟩ | ⟨h1, h2⟩
    · intro e; cases e; exact hv'g hb
    · exact h.l.apo i u b h2 hb
  · intro i j u z b hu hz hb hb'
    rcases hset i u hu with ⟨rfl, rfl⟩ | ⟨h1, h2⟩ <;> rcases hset j z hz with ⟨rfl, rfl⟩ | ⟨h3, h4⟩
    · rfl
    · exact absurd hb (hne j z b h3 h4 hb').2.1
    · exact absurd hb' (hne i u b h1 h2 hb).2.1
    · exact h.ap i j u z b h2 h4 hb hb'
end Go.Proofs
