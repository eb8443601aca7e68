/- The reference's ClassesOf. -/
import Derived.Test.YtpjamnekclkhhaaCb
import Derived.Test.YtpjamnekclkhhaaLf
namespace Go.Proofs
open Go Go.Eng Go.Sort
set_option maxRecDepth 100000

def boolV (b : Bool) : List Value := [.bool b]
def BoolsAt (w : World) (v : Value) (l : List Bool) : Prop := SlAt w 1 v (l.map boolV)
theorem bools_cells {w : World} {a : Option Addr} {n c : Nat} {l : List Bool} (h : BoolsAt w (.slice a n c) l) (hn : 0 < n) :
    ∃ b o, a = some ⟨b, o, none⟩ ∧ ∀ i x, l[i]? = some x → w.cell? ⟨b, o + i, none⟩ = some (.bool x) := by
  obtain ⟨b, o, ha, h⟩ := SlAt.at h hn
  refine ⟨b, o, ha, fun i x hx => ?_⟩
  have := h i (boolV x) (by simp [hx]) 0 _ rfl
  simpa using this
theorem bools_flat (l : List Bool) : (l.map boolV).flatten = l.map Value.bool := by
  induction l with
  | nil => rfl
  | cons x l ih => simp [boolV]; simpa [boolV] using ih
abbrev TB : Nat := 4
abbrev TBs : Nat := 97
theorem own_bools {w : World} {base n : Nat} {v : Value} {l : List Bool} (h : w.ownsRow base TB 1 v n (l.map Value.bool)) (hn : n = l.length) : BoolsAt w v l := by
  rw [← bools_flat] at h
  exact own_slat h (by intro x hx; simp only [List.mem_map] at hx; obtain ⟨p, _, rfl⟩ := hx; rfl) (by simp [hn]) (by decide)
set_option maxHeartbeats 1000000 in
theorem bleq_c (w0 : World) (v1 v2 : Value) (l1 l2 : List Bool) (h1 : BoolsAt w0 v1 l1) (h2 : BoolsAt w0 v2 l2) (hl : l1.length = l2.length) :
    Ret Try.prog 85 #[v1, v2] w0 fun v w => v = .bool (decide (l1 = l2)) ∧ Ext w0 w := by
  obtain ⟨a1, c1, rfl⟩ := SlAt.form h1
  obtain ⟨a2, c2, rfl⟩ := SlAt.form h2
  have hb1 : l1.length ≤ 9223372036854775807 := by simpa using SlAt.le h1
  simp only [List.length_map] at h1 h2 ⊢
  refine Ret_of Try.func85 rfl Try.ntmps85 (Nat.le_of_ble_eq_true rfl) ?_
  have E : Chg none1 w0 w0 := Chg.refl _ _
  refine Wp_seq_region ?_
  refine WpL_val rfl rfl (by decide) (r_assign (v := (.bool false)) rfl) ?_
  refine WpL_nil ?_
  refine Wp_seq ?_
  refine Wp_seq_region ?_
  refine WpL_val rfl rfl (by decide) (r_move (v := (.slice a1 l1.length c1)) rfl) ?_
  refine WpL_val rfl rfl (by decide) (r_lenSlice (ad := a1) (n := l1.length) (cap := c1) Try.underlying97 rfl) ?_
  refine WpL_val rfl rfl (by decide) (r_move (v := (.int .i64 0)) rfl) ?_
  refine WpL_nil ?_
  refine Wp_block ?_
  refine Wp_loop (fun nn_ σ W1 => ∃ (k : Nat), (∃ jj_, σ = upds jj_ [(0, (.slice a1 l1.length c1)), (1, (.slice a2 l2.length c2)), (7, (.int .i64 ((l1.length : Nat) : Int))), (8, (.int .i64 ((k : Nat) : Int)))]) ∧ Chg none1 w0 W1 ∧ (k ≤ l1.length) ∧ (∀ (i : Nat), i < k → l1[i]? = l2[i]?) ∧ nn_ = l1.length - k) (n := l1.length - 0) ?_ ?_
  · exact ⟨0, Fits.out ⟨rfl, rfl, rfl, rfl, trivial⟩, E, Nat.zero_le _, (fun i h => absurd h (Nat.not_lt_zero _)), rfl⟩
  · clear E
    rintro _ _ W1 ⟨k, ⟨j1, rfl⟩, E, hk, heq, rfl⟩
    refine Wp_seq_region ?_
    refine WpL_val rfl rfl (by decide) (r_lss (k := .i64) (a := ((k : Nat) : Int)) (b := ((l1.length : Nat) : Int)) rfl rfl) ?_
    refine WpL_nil ?_
    refine Wp_seq ?_
    refine Wp_cond (b := decide ((((k : Nat) : Int) : Int) < ((l1.length : Nat) : Int))) rfl (fun hlt => ?_) (fun hlt => ?_)
    · have khlt := hlt
      replace hlt := of_decide_eq_true hlt
      obtain ⟨p, hp⟩ := get_of_lt (l := l1) (i := k) (by omega)
      obtain ⟨q, hq⟩ := get_of_lt (l := l2) (i := k) (by omega)
      obtain ⟨b1, o1, rfl, hc1⟩ := bools_cells h1 (by omega)
      obtain ⟨b2, o2, rfl, hc2⟩ := bools_cells h2 (by omega)
      refine Wp_skip ?_
      refine thn_normal ?_
      refine Wp_seq ?_
      refine Wp_block ?_
      refine Wp_seq_region ?_
      refine WpL_val rfl rfl (by decide) (r_move (v := (.int .i64 ((k : Nat) : Int))) rfl) ?_
      refine WpL_val rfl rfl (by decide) (r_assign (v := (.int .i64 ((k : Nat) : Int))) rfl) ?_
      refine WpL_nil ?_
      refine Wp_seq_draw 8 mixed (by kernel_rfl) ?_
      intro w3 X3 _
      replace E := E.ext X3
      refine WpT_val rfl rfl (by decide) (r_move (v := (.slice (some ⟨b1, o1, none⟩) l1.length c1)) rfl) ?_
      refine WpT_val rfl rfl (by decide) (r_move (v := (.int .i64 ((k : Nat) : Int))) rfl) ?_
      refine WpT_val rfl rfl (by decide) (r_indexSlice (b := b1) (o := o1) (len := l1.length) (cap := c1) (i := k) (o' := o1 + k) rfl rfl rfl Try.underlying97 siz4 (by omega) (by omega)) ?_
      refine WpT_val rfl rfl (by decide) (r_load (v := (.bool p)) rfl flat4 (E.cell (fun f => f) (hc1 k p hp))) ?_
      refine WpT_val rfl rfl (by decide) (r_move (v := (.slice (some ⟨b2, o2, none⟩) l2.length c2)) rfl) ?_
      refine WpT_val rfl rfl (by decide) (r_move (v := (.int .i64 ((k : Nat) : Int))) rfl) ?_
      refine WpT_val rfl rfl (by decide) (r_indexSlice (b := b2) (o := o2) (len := l2.length) (cap := c2) (i := k) (o' := o2 + k) rfl rfl rfl Try.underlying97 siz4 (by omega) (by omega)) ?_
      refine WpT_val rfl rfl (by decide) (r_load (v := (.bool q)) rfl flat4 (E.cell (fun f => f) (hc2 k q hq))) ?_
      refine WpT_zero ?_
      refine WpL_val rfl rfl (by decide) (r_neqB (p := p) (q := q) Try.underlying4 rfl rfl) ?_
      refine WpL_nil ?_
      refine Wp_cond (b := p != q) rfl (fun hne => ?_) (fun hne => ?_)
      · have khne := hne
        refine Wp_seq_region ?_
        refine WpL_val rfl rfl (by decide) (r_assign (v := (.bool false)) rfl) ?_
        refine WpL_nil ?_
        refine Wp_ret ?_
        refine inB_ret ?_
        refine thn_ret ?_
        refine thn_ret ?_
        refine inB_ret ?_
        refine thn_ret ?_
        refine fin_tmp Try.results85 (v := (.bool false)) rfl ?_
        exact ⟨bool_eq (by symm; rw [decide_eq_false_iff_not]; intro h; subst h; rw [hp] at hq; cases hq; simp at hne), E⟩
      · have khne := hne
        refine Wp_skip ?_
        refine inB_normal ?_
        refine thn_normal ?_
        refine Wp_region ?_
        refine WpL_val rfl rfl (by decide) (r_add (k := .i64) (a := ((k : Nat) : Int)) (b := 1) (c := ((k : Nat) : Int) + 1) rfl rfl (wI64 (by omega))) ?_
        refine WpL_val rfl rfl (by decide) (r_move (v := (.int .i64 (((k : Nat) : Int) + 1))) rfl) ?_
        refine WpL_nil ?_
        refine thn_normal ?_
        exact ⟨l1.length - (k + 1), by omega, k + 1, Fits.out ⟨rfl, rfl, rfl, rfl, trivial⟩, E, (by omega), (fun i hi => by rcases Nat.lt_or_ge i k with h | h; exact heq i h; obtain rfl : i = k := (by omega); rw [hp, hq]; simpa using hne), rfl⟩
    · have khlt := hlt
      replace hlt := of_decide_eq_false hlt
      refine Wp_exit ?_
      refine thn_exit ?_
      refine thn_exit ?_
      refine inB_here ?_
      refine thn_normal ?_
      refine Wp_seq_region ?_
      refine WpL_val rfl rfl (by decide) (r_move (v := (.slice a1 l1.length c1)) rfl) ?_
      refine WpL_val rfl rfl (by decide) (r_lenSlice (ad := a1) (n := l1.length) (cap := c1) Try.underlying97 rfl) ?_
      refine WpL_val rfl rfl (by decide) (r_move (v := (.slice a2 l2.length c2)) rfl) ?_
      refine WpL_val rfl rfl (by decide) (r_lenSlice (ad := a2) (n := l2.length) (cap := c2) Try.underlying97 rfl) ?_
      refine WpL_val rfl rfl (by decide) (r_eql (k := .i64) (a := ((l1.length : Nat) : Int)) (b := ((l2.length : Nat) : Int)) rfl rfl) ?_
      refine WpL_val rfl rfl (by decide) (r_assign (v := (.bool (decide ((((l1.length : Nat) : Int) : Int) = ((l2.length : Nat) : Int))))) rfl) ?_
      refine WpL_nil ?_
      refine Wp_ret ?_
      refine fin_tmp Try.results85 (v := (.bool (decide ((((l1.length : Nat) : Int) : Int) = ((l2.length : Nat) : Int))))) rfl ?_
      exact ⟨bool_eq (by rw [decide_eq_true (show ((l1.length : Nat) : Int) = ((l2.length : Nat) : Int) by omega)]; symm; rw [decide_eq_true_eq]; apply List.ext_getElem?; intro i; rcases Nat.lt_or_ge i l1.length with h | h; exact heq i (by omega); rw [List.getElem?_eq_none h, List.getElem?_eq_none (by omega)]), E⟩
/-! A list of lists that are all one's own. -/
structure LSt (To e sz : Nat) (w : World) (base : Nat) (vo : Value) (vs : List Value) (ns : List (Nat × List Value)) : Prop where
  o : w.ownsRow base To 1 vo ns.length vs
  len : vs.length = ns.length
  inn : ∀ (i : Nat) v p, vs[i]? = some v → ns[i]? = some p → w.ownsRow base e sz v p.1 p.2
  apo : ∀ (i : Nat) v b, vs[i]? = some v → v.ownBlock = some b → vo.ownBlock ≠ some b
theorem LSt.start (To e sz : Nat) (w : World) (base : Nat) : LSt To e sz w base (.slice none 0 0) [] [] :=
  ⟨World.ownsRow_nil _ _ _ _, rfl, fun i v p h => by simp at h, fun i v b h => by simp at h⟩
theorem LSt.chg {M : Nat → Prop} {To e sz base : Nat} {w w' : World} {vo : Value} {vs : List Value} {ns : List (Nat × List Value)} (h : LSt To e sz w base vo vs ns) (c : Chg M w w') (hM : ∀ b, base ≤ b → b < w.heap.size → ¬ M b) : LSt To e sz w' base vo vs ns :=
  ⟨own_chg h.o c fun k hk => hM k (h.o.lt k hk).1 (h.o.lt k hk).2, h.len, fun i v l hv hl => own_chg (h.inn i v l hv hl) c fun k hk => hM k ((h.inn i v l hv hl).lt k hk).1 ((h.inn i v l hv hl).lt k hk).2, h.apo⟩
theorem LSt.ext {To e sz base : Nat} {w w' : World} {vo : Value} {vs : List Value} {ns : List (Nat × List Value)} (h : LSt To e sz w base vo vs ns) (c : Ext w w') : LSt To e sz w' base vo vs ns := h.chg c fun _ _ _ f => f
theorem LSt.on {To e sz base n : Nat} {w : World} {vo : Value} {vs : List Value} {ns : List (Nat × List Value)} (h : LSt To e sz w base vo vs ns) (hn : n = ns.length) : w.ownsRow base To 1 vo n vs := by subst hn; exact h.o
/-- A slice that was made later is appended. -/
theorem LSt.push {To e sz base bu n m : Nat} {w w' : World} {vo v' u : Value} {vs us : List Value} {ns : List (Nat × List Value)} (h : LSt To e sz w base vo vs ns) (hn : n = ns.length) (hu : w.ownsRow bu e sz u m us) (hb : base ≤ bu) (hbu : ∀ k, vo.ownBlock = some k → k < bu)
    (Ov : w'.ownsRow base To 1 v' (n + 1) (vs ++ [u])) (Cv : Chg (fun x => vo.ownBlock = some x) w w') (Wv : ∀ k, v'.ownBlock = some k → vo.ownBlock = some k ∨ w.heap.size ≤ k) : LSt To e sz w' base v' (vs ++ [u]) (ns ++ [(m, us)]) := by
  have hold : ∀ (i : Nat) v, (vs ++ [u])[i]? = some v → vs[i]? = some v ∨ (i = vs.length ∧ v = u) := by
    intro i v hv
    rcases Nat.lt_or_ge i vs.length with h1 | h1
    · left; rwa [List.getElem?_append_left h1] at hv
    · right
      rw [List.getElem?_append_right h1] at hv
      have h2 := lt_of_get hv
      simp at h2
      obtain rfl : i = vs.length := by omega
      simp at hv
      exact ⟨rfl, hv.symm⟩
  have hun : ∀ b, u.ownBlock = some b → vo.ownBlock ≠ some b := fun b hb' e' => by
    have h1 := hbu b e'
    have h2 := (hu.lt b hb').1
    omega
  refine ⟨by rw [List.length_append, ← hn]; exact Ov, by simp [h.len], ?_, ?_⟩
  · intro i v p hv hp
    rcases hold i v hv with h1 | ⟨h1, rfl⟩
    · rw [List.getElem?_append_left (by have := lt_of_get h1; have := h.len; omega)] at hp
      exact own_chg (h.inn i v p h1 hp) Cv fun k hk => h.apo i v k h1 hk
    · rw [h1, h.len] at hp
      simp at hp
      subst hp
      exact own_low (own_chg hu Cv fun k hk => hun k hk) hb
  · intro i v b hv hb1 hb2
    rcases hold i v hv with h1 | ⟨_, rfl⟩
    · rcases Wv b hb2 with h2 | h2
      · exact h.apo i v b h1 hb1 h2
      · obtain ⟨p, hp⟩ := get_of_lt (l := ns) (i := i) (by have := lt_of_get h1; have := h.len; omega)
        have := ((h.inn i v p h1 hp).lt b hb1).2
        omega
    · rcases Wv b hb2 with h2 | h2
      · exact hun b hb1 h2
      · have := (hu.lt b hb1).2; omega
def bRow (m : List Bool) : Nat × List Value := (m.length, m.map Value.bool)
def sRow (l : List Sp) : Nat × List Value := (l.length, (l.map spanV).flatten)
theorem LSt.spss {w : World} {base : Nat} {vo : Value} {vs : List Value} {ll : List (List Sp)} (h : LSt TSs TSp 2 w base vo vs (ll.map sRow)) : SpssAt w vo ll := by
  have hl : vs.length = ll.length := by simpa using h.len
  refine ⟨vs, ?_, hl, fun i u l hu hl => ?_⟩
  · have ho := h.o
    rw [show vs = (vs.map fun x => [x]).flatten by simp [List.flatten_eq_flatMap, List.flatMap_map]] at ho
    exact own_slat ho (by intro r hr; simp only [List.mem_map] at hr; obtain ⟨x, _, rfl⟩ := hr; rfl) (by simp [hl]) (by decide)
  · have h1 := h.inn i u (sRow l) hu (by rw [List.getElem?_map, hl]; rfl)
    exact OwnS.at ⟨own_form h1, h1⟩
/-! The closure of ClassesOf: a rune has these marks. -/
set_option maxHeartbeats 1000000 in
theorem clof1_c (w0 : World) (b1 b2 : Nat) (v u : Value) (ll : List (List Sp)) (m : List Bool) (r : Int) (hB1 : Blk w0 b1 #[v] 53) (hB2 : Blk w0 b2 #[u] 97) (h : SpssAt w0 v ll) (hm : BoolsAt w0 u m) (hl : m.length = ll.length) :
    Ret Try.prog 86 #[.int .i64 r, .pointer (some ⟨b1, 0, none⟩), .pointer (some ⟨b2, 0, none⟩)] w0 fun v w => v = .bool (decide (markL ll r = m)) ∧ Ext w0 w := by
  obtain ⟨a, c, rfl, _, hle⟩ := h.form
  obtain ⟨a2, c2, rfl⟩ := SlAt.form hm
  simp only [List.length_map] at hm hB2
  refine Ret_of Try.func86 rfl Try.ntmps86 (Nat.le_of_ble_eq_true rfl) ?_
  have E : Chg none1 w0 w0 := Chg.refl _ _
  refine Wp_seq_region ?_
  refine WpL_val rfl rfl (by decide) (r_assign (v := (.bool false)) rfl) ?_
  refine WpL_nil ?_
  refine Wp_seq ?_
  refine Wp_seq_region ?_
  refine WpL_val rfl rfl (by decide) (r_load (v := (.slice a ll.length c)) rfl flat53 (hB1.cell rfl)) ?_
  refine WpL_val rfl rfl (by decide) (r_lenSlice (ad := a) (n := ll.length) (cap := c) Try.underlying53 rfl) ?_
  refine WpL_val rfl rfl (by decide) (r_move (v := (.int .i64 0)) rfl) ?_
  refine WpL_nil ?_
  refine Wp_block ?_
  refine Wp_loop (fun nn_ σ W1 => ∃ (k : Nat), (∃ jj_, σ = upds jj_ [(0, (.int .i64 r)), (1, (.pointer (some ⟨b1, 0, none⟩))), (2, (.pointer (some ⟨b2, 0, none⟩))), (7, (.int .i64 ((ll.length : Nat) : Int))), (8, (.int .i64 ((k : Nat) : Int)))]) ∧ Chg none1 w0 W1 ∧ Blk W1 b1 #[(.slice a ll.length c)] 53 ∧ Blk W1 b2 #[(.slice a2 m.length c2)] 97 ∧ (k ≤ ll.length) ∧ (∀ (i : Nat), i < k → (markL ll r)[i]? = m[i]?) ∧ nn_ = ll.length - k) (n := ll.length - 0) ?_ ?_
  · exact ⟨0, Fits.out ⟨rfl, rfl, rfl, rfl, rfl, trivial⟩, E, hB1, hB2, Nat.zero_le _, (fun i h => absurd h (Nat.not_lt_zero _)), rfl⟩
  · clear E hB1 hB2
    rintro _ _ W1 ⟨k, ⟨j1, rfl⟩, E, hB1, hB2, hk, heq, rfl⟩
    refine Wp_seq_region ?_
    refine WpL_val rfl rfl (by decide) (r_lss (k := .i64) (a := ((k : Nat) : Int)) (b := ((ll.length : Nat) : Int)) rfl rfl) ?_
    refine WpL_nil ?_
    refine Wp_seq ?_
    refine Wp_cond (b := decide ((((k : Nat) : Int) : Int) < ((ll.length : Nat) : Int))) rfl (fun hlt => ?_) (fun hlt => ?_)
    · have khlt := hlt
      replace hlt := of_decide_eq_true hlt
      obtain ⟨l, hx⟩ := get_of_lt (l := ll) (i := k) (by omega)
      obtain ⟨q, hq⟩ := get_of_lt (l := m) (i := k) (by omega)
      have hmk : (markL ll r)[k]? = some (inS l r) := by unfold markL; rw [List.getElem?_map, hx]; rfl
      obtain ⟨b, o, rfl, hcl⟩ := spss_cells h (by omega)
      obtain ⟨b', o', rfl, hcb⟩ := bools_cells hm (by omega)
      obtain ⟨ra, rc, hcell, hsp⟩ := hcl k l hx
      refine Wp_skip ?_
      refine thn_normal ?_
      refine Wp_seq ?_
      refine Wp_block ?_
      refine Wp_seq_region ?_
      refine WpL_val rfl rfl (by decide) (r_move (v := (.int .i64 ((k : Nat) : Int))) rfl) ?_
      refine WpL_val rfl rfl (by decide) (r_assign (v := (.int .i64 ((k : Nat) : Int))) rfl) ?_
      refine WpL_nil ?_
      refine Wp_seq ?_
      obtain ⟨Fs3, hFs3⟩ : ∃ Fs : List Fact, Fs = [.eq (.slice (some ⟨b, o, none⟩) ll.length c), .eq (.int .i64 ((k : Nat) : Int)), .eq (.pointer (some ⟨b, o + k, none⟩)), .eq (.slice ra l.length rc), .eq (.int .i64 r), .eq (.bool (inS l r)), .eq (.slice (some ⟨b', o', none⟩) m.length c2), .eq (.int .i64 ((k : Nat) : Int)), .eq (.pointer (some ⟨b', o' + k, none⟩)), .eq (.bool q), .eq (.bool (inS l r != q))] := ⟨_, rfl⟩
      refine Wp_dag [11, 12, 13, 14, 15, 16, 17, 18, 19, 20, 21] [[], [], [0, 1], [2], [], [3, 4], [], [], [6, 7], [8], [5, 9]] Fs3 hFs3 mixed (by kernel_rfl) (by kernel_rfl) ?_ ?_
      · intro wd X0
        refine DagSteps.cons (fun s' w' X U H => Or.inl ⟨?_, ?_⟩) ?_
        · exact Guarded_none rfl
        · exact Does_val (r_load (v := (.slice (some ⟨b, o, none⟩) ll.length c)) (U 1 rfl) flat53 (((X0.trans X).keep hB1).cell rfl)) (Ext.refl _) rfl
        refine DagSteps.cons (fun s' w' X U H => Or.inl ⟨?_, ?_⟩) ?_
        · exact Guarded_none rfl
        · exact Does_val (r_move (v := (.int .i64 ((k : Nat) : Int))) (U 5 rfl)) (Ext.refl _) rfl
        refine DagSteps.cons (fun s' w' X U H => Or.inl ⟨?_, ?_⟩) ?_
        · exact Guarded_none rfl
        · have e11 : s' 11 = (.slice (some ⟨b, o, none⟩) ll.length c) := H 0 rfl 11 (.eq (.slice (some ⟨b, o, none⟩) ll.length c)) rfl (by rw [hFs3]; rfl)
          have e12 : s' 12 = (.int .i64 ((k : Nat) : Int)) := H 1 rfl 12 (.eq (.int .i64 ((k : Nat) : Int))) rfl (by rw [hFs3]; rfl)
          exact Does_val (r_indexSlice (b := b) (o := o) (len := ll.length) (cap := c) (i := k) (o' := o + k) e11 e12 rfl Try.underlying53 siz23 (by omega) (by omega)) (Ext.refl _) rfl
        refine DagSteps.cons (fun s' w' X U H => Or.inl ⟨?_, ?_⟩) ?_
        · exact Guarded_none rfl
        · have e13 : s' 13 = (.pointer (some ⟨b, o + k, none⟩)) := H 2 rfl 13 (.eq (.pointer (some ⟨b, o + k, none⟩))) rfl (by rw [hFs3]; rfl)
          exact Does_val (r_load (v := (.slice ra l.length rc)) e13 flat23 ((Chg.ext E (X0.trans X)).cell (fun f => f) hcell)) (Ext.refl _) rfl
        refine DagSteps.cons (fun s' w' X U H => Or.inl ⟨?_, ?_⟩) ?_
        · exact Guarded_none rfl
        · exact Does_val (r_move (v := (.int .i64 r)) (U 0 rfl)) (Ext.refl _) rfl
        refine DagSteps.cons (fun s' w' X U H => Or.inl ⟨?_, ?_⟩) ?_
        · exact Guarded_none rfl
        · have e14 : s' 14 = (.slice ra l.length rc) := H 3 rfl 14 (.eq (.slice ra l.length rc)) rfl (by rw [hFs3]; rfl)
          have e15 : s' 15 = (.int .i64 r) := H 4 rfl 15 (.eq (.int .i64 r)) rfl (by rw [hFs3]; rfl)
          exact Does_enter (r_callF (vs := [(.slice ra l.length rc), (.int .i64 r)]) Try.func39 nm39 bd39 (lst2 e14 e15)) (inset_c _ _ l r (hsp.ext (Chg.ext E (X0.trans X))))
        refine DagSteps.cons (fun s' w' X U H => Or.inl ⟨?_, ?_⟩) ?_
        · exact Guarded_none rfl
        · exact Does_val (r_load (v := (.slice (some ⟨b', o', none⟩) m.length c2)) (U 2 rfl) flat97 (((X0.trans X).keep hB2).cell rfl)) (Ext.refl _) rfl
        refine DagSteps.cons (fun s' w' X U H => Or.inl ⟨?_, ?_⟩) ?_
        · exact Guarded_none rfl
        · exact Does_val (r_move (v := (.int .i64 ((k : Nat) : Int))) (U 5 rfl)) (Ext.refl _) rfl
        refine DagSteps.cons (fun s' w' X U H => Or.inl ⟨?_, ?_⟩) ?_
        · exact Guarded_none rfl
        · have e17 : s' 17 = (.slice (some ⟨b', o', none⟩) m.length c2) := H 6 rfl 17 (.eq (.slice (some ⟨b', o', none⟩) m.length c2)) rfl (by rw [hFs3]; rfl)
          have e18 : s' 18 = (.int .i64 ((k : Nat) : Int)) := H 7 rfl 18 (.eq (.int .i64 ((k : Nat) : Int))) rfl (by rw [hFs3]; rfl)
          exact Does_val (r_indexSlice (b := b') (o := o') (len := m.length) (cap := c2) (i := k) (o' := o' + k) e17 e18 rfl Try.underlying97 siz4 (by omega) (by omega)) (Ext.refl _) rfl
        refine DagSteps.cons (fun s' w' X U H => Or.inl ⟨?_, ?_⟩) ?_
        · exact Guarded_none rfl
        · have e19 : s' 19 = (.pointer (some ⟨b', o' + k, none⟩)) := H 8 rfl 19 (.eq (.pointer (some ⟨b', o' + k, none⟩))) rfl (by rw [hFs3]; rfl)
          exact Does_val (r_load (v := (.bool q)) e19 flat4 ((Chg.ext E (X0.trans X)).cell (fun f => f) (hcb k q hq))) (Ext.refl _) rfl
        refine DagSteps.cons (fun s' w' X U H => Or.inl ⟨?_, ?_⟩) ?_
        · exact Guarded_none rfl
        · have e16 : s' 16 = (.bool (inS l r)) := H 5 rfl 16 (.eq (.bool (inS l r))) rfl (by rw [hFs3]; rfl)
          have e20 : s' 20 = (.bool q) := H 9 rfl 20 (.eq (.bool q)) rfl (by rw [hFs3]; rfl)
          exact Does_val (r_neqB (p := inS l r) (q := q) Try.underlying4 e16 e20) (Ext.refl _) rfl
        exact DagSteps.nil
      · intro s' w3 X3 U H
        obtain ⟨j3, rfl⟩ := Fits.out (σ := s') (l := [(0, (.int .i64 r)), (1, (.pointer (some ⟨b1, 0, none⟩))), (2, (.pointer (some ⟨b2, 0, none⟩))), (5, (.int .i64 ((k : Nat) : Int))), (7, (.int .i64 ((ll.length : Nat) : Int))), (8, (.int .i64 ((k : Nat) : Int))), (9, (.bool (decide ((((k : Nat) : Int) : Int) < ((ll.length : Nat) : Int))))), (10, (.int .i64 ((k : Nat) : Int))), (11, (.slice (some ⟨b, o, none⟩) ll.length c)), (12, (.int .i64 ((k : Nat) : Int))), (13, (.pointer (some ⟨b, o + k, none⟩))), (14, (.slice ra l.length rc)), (15, (.int .i64 r)), (16, (.bool (inS l r))), (17, (.slice (some ⟨b', o', none⟩) m.length c2)), (18, (.int .i64 ((k : Nat) : Int))), (19, (.pointer (some ⟨b', o' + k, none⟩))), (20, (.bool q)), (21, (.bool (inS l r != q)))]) ⟨U 0 rfl, U 1 rfl, U 2 rfl, U 5 rfl, U 7 rfl, U 8 rfl, U 9 rfl, U 10 rfl, (show s' 11 = (.slice (some ⟨b, o, none⟩) ll.length c) from H 0 11 (.eq (.slice (some ⟨b, o, none⟩) ll.length c)) rfl (by rw [hFs3]; rfl)), (show s' 12 = (.int .i64 ((k : Nat) : Int)) from H 1 12 (.eq (.int .i64 ((k : Nat) : Int))) rfl (by rw [hFs3]; rfl)), (show s' 13 = (.pointer (some ⟨b, o + k, none⟩)) from H 2 13 (.eq (.pointer (some ⟨b, o + k, none⟩))) rfl (by rw [hFs3]; rfl)), (show s' 14 = (.slice ra l.length rc) from H 3 14 (.eq (.slice ra l.length rc)) rfl (by rw [hFs3]; rfl)), (show s' 15 = (.int .i64 r) from H 4 15 (.eq (.int .i64 r)) rfl (by rw [hFs3]; rfl)), (show s' 16 = (.bool (inS l r)) from H 5 16 (.eq (.bool (inS l r))) rfl (by rw [hFs3]; rfl)), (show s' 17 = (.slice (some ⟨b', o', none⟩) m.length c2) from H 6 17 (.eq (.slice (some ⟨b', o', none⟩) m.length c2)) rfl (by rw [hFs3]; rfl)), (show s' 18 = (.int .i64 ((k : Nat) : Int)) from H 7 18 (.eq (.int .i64 ((k : Nat) : Int))) rfl (by rw [hFs3]; rfl)), (show s' 19 = (.pointer (some ⟨b', o' + k, none⟩)) from H 8 19 (.eq (.pointer (some ⟨b', o' + k, none⟩))) rfl (by rw [hFs3]; rfl)), (show s' 20 = (.bool q) from H 9 20 (.eq (.bool q)) rfl (by rw [hFs3]; rfl)), (show s' 21 = (.bool (inS l r != q)) from H 10 21 (.eq (.bool (inS l r != q))) rfl (by rw [hFs3]; rfl)), trivial⟩
        clear U H
        replace hB1 := X3.keep hB1
        replace hB2 := X3.keep hB2
        replace E := E.ext X3
        refine thn_normal ?_
        refine Wp_cond (b := inS l r != q) rfl (fun hne => ?_) (fun hne => ?_)
        · have khne := hne
          refine Wp_seq_region ?_
          refine WpL_val rfl rfl (by decide) (r_assign (v := (.bool false)) rfl) ?_
          refine WpL_nil ?_
          refine Wp_ret ?_
          refine inB_ret ?_
          refine thn_ret ?_
          refine thn_ret ?_
          refine inB_ret ?_
          refine thn_ret ?_
          refine fin_tmp Try.results86 (v := (.bool false)) rfl ?_
          exact ⟨bool_eq (by symm; rw [decide_eq_false_iff_not]; intro h; rw [h, hq] at hmk; cases hmk; simp at hne), E⟩
        · have khne := hne
          refine Wp_skip ?_
          refine inB_normal ?_
          refine thn_normal ?_
          refine Wp_region ?_
          refine WpL_val rfl rfl (by decide) (r_add (k := .i64) (a := ((k : Nat) : Int)) (b := 1) (c := ((k : Nat) : Int) + 1) rfl rfl (wI64 (by omega))) ?_
          refine WpL_val rfl rfl (by decide) (r_move (v := (.int .i64 (((k : Nat) : Int) + 1))) rfl) ?_
          refine WpL_nil ?_
          refine thn_normal ?_
          exact ⟨ll.length - (k + 1), by omega, k + 1, Fits.out ⟨rfl, rfl, rfl, rfl, rfl, trivial⟩, E, hB1, hB2, (by omega), (fun i hi => by rcases Nat.lt_or_ge i k with h | h; exact heq i h; obtain rfl : i = k := (by omega); rw [hmk, hq]; simpa using hne), rfl⟩
    · have khlt := hlt
      replace hlt := of_decide_eq_false hlt
      refine Wp_exit ?_
      refine thn_exit ?_
      refine thn_exit ?_
      refine inB_here ?_
      refine thn_normal ?_
      refine Wp_seq_region ?_
      refine WpL_val rfl rfl (by decide) (r_assign (v := (.bool true)) rfl) ?_
      refine WpL_nil ?_
      refine Wp_ret ?_
      refine fin_tmp Try.results86 (v := (.bool true)) rfl ?_
      exact ⟨bool_eq (by symm; rw [decide_eq_true_eq]; apply List.ext_getElem?; intro i; rcases Nat.lt_or_ge i ll.length with h | h; exact heq i (by omega); rw [List.getElem?_eq_none (by simpa [markL] using h), List.getElem?_eq_none (by omega)]), E⟩
theorem const_ex {l : List Sp} {p : List Int} {f : Int → Bool} (hP : PcsOf l p) (hok : ∀ s ∈ l, vSp s) (hc : Const f p) : ∃ ou, IsSet ou f := by
  have key : ∀ k, k ≤ p.length → ∃ ou, CInv p f ou k := by
    intro k
    induction k with
    | zero => exact fun _ => ⟨[], CInv.start hP hok⟩
    | succ k ih =>
      intro hk
      obtain ⟨ou, h⟩ := ih (by omega)
      obtain ⟨lo, hlo⟩ := get_of_lt (l := p) (i := k) (by omega)
      cases hf : f lo with
      | false => exact ⟨ou, h.skip hP hok hc hlo hf⟩
      | true => exact ⟨_, h.take hP hok hc hlo hf⟩
  obtain ⟨ou, h⟩ := key p.length (Nat.le_refl _)
  exact ⟨ou, h.done⟩
theorem sets_ex {l : List Sp} {p : List Int} (ll : List (List Sp)) (hP : PcsOf l p) (hok : ∀ s ∈ l, vSp s) (hl : l = ll.flatten) : ∀ ks : List (List Bool), ∃ cs : List (List Sp), cs.length = ks.length ∧ ∀ (k : Nat) key c, ks[k]? = some key → cs[k]? = some c → IsSet c (fun r => decide (markL ll r = key))
  | [] => ⟨[], rfl, fun k key c h => by simp at h⟩
  | m :: ks => by
    obtain ⟨c, hc⟩ := const_ex hP hok (mark_const (hl ▸ hP) m)
    obtain ⟨cs, h1, h2⟩ := sets_ex ll hP hok hl ks
    refine ⟨c :: cs, by simp [h1], fun k key d hk hd => ?_⟩
    cases k with
    | zero => simp at hk hd; subst hk; subst hd; exact hc
    | succ k => exact h2 k key d (by simpa using hk) (by simpa using hd)
theorem cls_some {ll : List (List Sp)} {p : List Int} {k : Nat} {key : List Bool} {c : List Sp} (hP : PcsOf ll.flatten p) (hok : ∀ s ∈ ll.flatten, vSp s) (hk : (firsts (p.map (markL ll)))[k]? = some key) (hc : IsSet c (fun r => decide (markL ll r = key))) (hl : 16 < c.length) : ∃ cs, clsL ll cs ∧ largeB cs := by
  obtain ⟨cs, h1, h2⟩ := sets_ex ll hP hok rfl (firsts (p.map (markL ll)))
  refine ⟨cs, ⟨p, hP, h1, h2⟩, .inl ?_⟩
  obtain ⟨d, hd⟩ := get_of_lt (l := cs) (i := k) (by have := lt_of_get hk; omega)
  refine ⟨d, List.mem_of_getElem? hd, ?_⟩
  rw [IsSet.eq (h2 k key d hk hd) hc fun _ _ _ => rfl]
  exact hl
theorem sets_snoc {ll cs : List (List Sp)} {ks : List (List Bool)} {k : Nat} {mk : List Bool} {out : List Sp} (h : ∀ (j : Nat) key d, ks[j]? = some key → cs[j]? = some d → IsSet d (fun r => decide (markL ll r = key))) (hcl : cs.length = k) (hmk : ks[k]? = some mk) (hI : IsSet out (fun r => decide (markL ll r = mk))) :
    ∀ (j : Nat) key d, ks[j]? = some key → (cs ++ [out])[j]? = some d → IsSet d (fun r => decide (markL ll r = key)) := by
  intro j key d hj hd
  rcases Nat.lt_or_ge j cs.length with h1 | h1
  · rw [List.getElem?_append_left h1] at hd; exact h j key d hj hd
  · rw [List.getElem?_append_right h1] at hd
    have h2 := lt_of_get hd
    simp at h2
    obtain rfl : j = k := by omega
    rw [hcl, Nat.sub_self] at hd
    simp at hd
    rw [hmk] at hj
    cases hj
    subst hd
    exact hI
theorem dec_snoc {m mk : List Bool} {l : List (List Bool)} (h : decide (m ∈ l) = false) : decide (mk = m) = decide (m ∈ l ++ [mk]) := by
  have h9 := of_decide_eq_false h
  rw [decide_eq_decide, List.mem_append, List.mem_singleton]
  constructor
  · exact fun e => .inr e.symm
  · rintro (h1 | h1)
    · exact absurd h1 h9
    · exact h1.symm
set_option maxHeartbeats 4000000 in
theorem cof_c (w0 : World) (v : Value) (ll : List (List Sp)) (h : SpssAt w0 v ll) (hL : ll.flatten.length ≤ 1048576) (hL2 : ll.length ≤ 1048576) :
    Ret Try.prog 41 #[v] w0 fun r w => (∃ out e, clsP ll out e ∧ ClsRes w r out e) ∧ Ext w0 w := by
  obtain ⟨a, c, rfl, _, hle⟩ := h.form
  obtain ⟨base, hbase⟩ : ∃ base, base = w0.heap.size := ⟨_, rfl⟩
  refine Ret_of Try.func41 rfl Try.ntmps41 (Nat.le_of_ble_eq_true rfl) ?_
  have E : Chg none1 w0 w0 := Chg.refl _ _
  refine Wp_seq_region ?_
  refine s_box (v := (.slice a ll.length c)) (c := #[(.slice a ll.length c)]) (by decide) rfl rfl ?_
  intro bs ws Ns
  have Fs := Ns.ge E
  replace E := E.ext Ns.ext
  have Bs := Ns.blk
  refine WpL_val rfl rfl (by decide) (r_assign (v := (.slice none 0 0)) rfl) ?_
  refine WpL_val rfl rfl (by decide) (r_assign (v := (.int .i64 0)) rfl) ?_
  refine WpL_nil ?_
  refine Wp_seq ?_
  refine Wp_seq_region ?_
  refine WpL_val rfl rfl (by decide) (r_load (v := (.slice a ll.length c)) rfl flat53 (Bs.cell rfl)) ?_
  refine WpL_val rfl rfl (by decide) (r_lenSlice (ad := a) (n := ll.length) (cap := c) Try.underlying53 rfl) ?_
  refine WpL_val rfl rfl (by decide) (r_move (v := (.int .i64 0)) rfl) ?_
  refine WpL_nil ?_
  refine Wp_block ?_
  refine Wp_loop (fun nn_ σ W1 => ∃ (k : Nat), (∃ jj_, σ = upds jj_ [(1, (.pointer (some ⟨bs, 0, none⟩))), (20, (.slice a ll.length c)), (21, (.int .i64 ((ll.length : Nat) : Int))), (22, (.int .i64 ((k : Nat) : Int)))]) ∧ Chg none1 w0 W1 ∧ Blk W1 bs #[(.slice a ll.length c)] 53 ∧ (k ≤ ll.length) ∧ (∀ l ∈ ll.take k, checkE l = 0) ∧ nn_ = ll.length - k) (n := ll.length - 0) ?_ ?_
  · exact ⟨0, Fits.out ⟨rfl, rfl, rfl, rfl, trivial⟩, E, Bs, Nat.zero_le _, (by simp), rfl⟩
  · clear E Bs
    rintro _ _ W1 ⟨k, ⟨j1, rfl⟩, E, Bs, hk, hz, rfl⟩
    refine Wp_seq_region ?_
    refine WpL_val rfl rfl (by decide) (r_lss (k := .i64) (a := ((k : Nat) : Int)) (b := ((ll.length : Nat) : Int)) rfl rfl) ?_
    refine WpL_nil ?_
    refine Wp_seq ?_
    refine Wp_cond (b := decide ((((k : Nat) : Int) : Int) < ((ll.length : Nat) : Int))) rfl (fun hlt => ?_) (fun hlt => ?_)
    · have khlt := hlt
      replace hlt := of_decide_eq_true hlt
      obtain ⟨l, hx⟩ := get_of_lt (l := ll) (i := k) (by omega)
      obtain ⟨b, o, rfl, hcl⟩ := spss_cells h (by omega)
      obtain ⟨ra, rc, hcell, hsp⟩ := hcl k l hx
      refine Wp_skip ?_
      refine thn_normal ?_
      refine Wp_seq ?_
      refine Wp_block ?_
      refine Wp_seq_region ?_
      refine WpL_val rfl rfl (by decide) (r_indexSlice (b := b) (o := o) (len := ll.length) (cap := c) (i := k) (o' := o + k) rfl rfl rfl Try.underlying53 siz23 (by omega) (by omega)) ?_
      refine WpL_val rfl rfl (by decide) (r_load (v := (.slice ra l.length rc)) rfl flat23 (E.cell (fun f => f) hcell)) ?_
      refine WpL_val rfl rfl (by decide) (r_assign (v := (.slice ra l.length rc)) rfl) ?_
      refine WpL_nil ?_
      refine Wp_seq_region ?_
      refine WpL_val rfl rfl (by decide) (r_move (v := (.slice ra l.length rc)) rfl) ?_
      refine WpL_enter rfl rfl (by decide) (r_callF (vs := [(.slice ra l.length rc)]) Try.func34 nm34 bd34 rfl) (cset_c _ _ l (hsp.ext E)) ?_
      rintro _ w9 ⟨rfl, X9⟩
      replace Bs := X9.keep Bs
      replace E := E.ext X9
      refine WpL_val rfl rfl (by decide) (r_assign (v := (.int .i64 (checkE l))) rfl) ?_
      refine WpL_nil ?_
      refine Wp_seq_region ?_
      refine WpL_val rfl rfl (by decide) (r_move (v := (.int .i64 (checkE l))) rfl) ?_
      refine WpL_val rfl rfl (by decide) (r_neq (k := .i64) (a := checkE l) (b := 0) rfl rfl) ?_
      refine WpL_nil ?_
      refine Wp_cond (b := decide ((checkE l : Int) ≠ 0)) rfl (fun hc => ?_) (fun hc => ?_)
      · have khc := hc
        replace hc := of_decide_eq_true hc
        refine Wp_seq_region ?_
        refine WpL_val rfl rfl (by decide) (r_move (v := (.int .i64 (checkE l))) rfl) ?_
        refine WpL_val rfl rfl (by decide) (r_assign (v := (.slice none 0 0)) rfl) ?_
        refine WpL_val rfl rfl (by decide) (r_assign (v := (.int .i64 (checkE l))) rfl) ?_
        refine WpL_nil ?_
        refine Wp_ret ?_
        refine inB_ret ?_
        refine thn_ret ?_
        refine thn_ret ?_
        refine inB_ret ?_
        refine thn_ret ?_
        refine fin_tmp2 Try.results41 (v := (.slice none 0 0)) (v' := (.int .i64 (checkE l))) rfl rfl ?_
        exact ⟨⟨[], checkE l, .inl ⟨by rw [badE_at hz hx hc]; exact hc, (badE_at hz hx hc).symm, rfl⟩, none, 0, rfl, spss_nil _⟩, E⟩
      · have khc := hc
        replace hc := of_decide_eq_false hc
        refine Wp_skip ?_
        refine inB_normal ?_
        refine thn_normal ?_
        refine Wp_region ?_
        refine WpL_val rfl rfl (by decide) (r_add (k := .i64) (a := ((k : Nat) : Int)) (b := 1) (c := ((k : Nat) : Int) + 1) rfl rfl (wI64 (by omega))) ?_
        refine WpL_val rfl rfl (by decide) (r_move (v := (.int .i64 (((k : Nat) : Int) + 1))) rfl) ?_
        refine WpL_nil ?_
        refine thn_normal ?_
        exact ⟨ll.length - (k + 1), by omega, k + 1, Fits.out ⟨rfl, rfl, rfl, rfl, trivial⟩, E, Bs, (by omega), (fun y hy => by rw [take_snoc hx] at hy; rcases List.mem_append.1 hy with h1 | h1; exact hz y h1; rw [List.mem_singleton] at h1; subst h1; omega), rfl⟩
    · have khlt := hlt
      replace hlt := of_decide_eq_false hlt
      have hkk : k = ll.length := by omega
      rw [hkk, List.take_length] at hz
      have hz0 := badE_zero hz
      have hok : ∀ s ∈ ll.flatten, vSp s := fun s hs => by obtain ⟨l, hl, hs⟩ := List.mem_flatten.1 hs; exact (checkE_canon (hz l hl)).1.ok s hs
      refine Wp_exit ?_
      refine thn_exit ?_
      refine thn_exit ?_
      refine inB_here ?_
      refine thn_normal ?_
      refine Wp_seq_region ?_
      refine WpL_val rfl rfl (by decide) (r_assign (v := (.slice none 0 0)) rfl) ?_
      refine WpL_nil ?_
      refine Wp_seq ?_
      refine Wp_seq_region ?_
      refine WpL_val rfl rfl (by decide) (r_load (v := (.slice a ll.length c)) rfl flat53 (Bs.cell rfl)) ?_
      refine WpL_enter rfl rfl (by decide) (r_callF (vs := [(.slice a ll.length c)]) Try.func84 nm84 bd84 rfl) (pieces_c _ _ ll (h.ext E) (by omega) hok) ?_
      rintro _ w9 ⟨⟨p, hP, ⟨pa, pc, rfl⟩, hp⟩, X9⟩
      replace Bs := X9.keep Bs
      replace E := E.ext X9
      obtain ⟨n1, hn1e⟩ : ∃ n1, n1 = (w9).heap.size := ⟨_, rfl⟩
      have hbs1 : bs < n1 := by have := Bs.lt; omega
      have hwn1 : w0.heap.size ≤ n1 := by have := E.size; omega
      have hpl : p.length ≤ 1114112 := pcs_len hP.1 (fun x hx => pcs_range hP hok hx)
      have E1 : Chg none1 w9 w9 := Chg.refl _ _
      refine WpL_val rfl rfl (by decide) (r_lenSlice (ad := pa) (n := p.length) (cap := pc) Try.underlying22 rfl) ?_
      refine WpL_val rfl rfl (by decide) (r_move (v := (.int .i64 0)) rfl) ?_
      refine WpL_nil ?_
      refine Wp_block ?_
      refine Wp_loop (fun nn_ σ W4 => ∃ (i : Nat) (ks : List (List Bool)) (vs : List Value) (oa : Option Addr) (oc on : Nat), (∃ jj_, σ = upds jj_ [(1, (.pointer (some ⟨bs, 0, none⟩))), (33, (.slice pa p.length pc)), (34, (.int .i64 ((p.length : Nat) : Int))), (35, (.int .i64 ((i : Nat) : Int))), (7, (.slice oa on oc))]) ∧ Chg none1 w0 W4 ∧ Chg none1 w9 W4 ∧ Blk W4 bs #[(.slice a ll.length c)] 53 ∧ (i ≤ p.length) ∧ (ks = firsts ((p.take i).map (markL ll))) ∧ (∀ m ∈ ks, m.length = ll.length) ∧ (on = ks.length) ∧ (on ≤ i) ∧ (LSt TBs TB 1 W4 n1 (.slice oa on oc) vs (ks.map bRow)) ∧ (n1 ≤ W4.heap.size) ∧ nn_ = p.length - i) (n := p.length - 0) ?_ ?_
      · exact ⟨0, [], [], none, 0, 0, Fits.out ⟨rfl, rfl, rfl, rfl, rfl, trivial⟩, E, E1, Bs, Nat.zero_le _, rfl, (fun m h => absurd h List.not_mem_nil), rfl, Nat.le_refl _, LSt.start _ _ _ _ _, (by omega), rfl⟩
      · clear E E1 Bs
        rintro _ _ W4 ⟨i, ks, vs, oa, oc, on, ⟨j4, rfl⟩, E, E1, Bs, hi, hks, hkl, hon, hki, hC, hbs, rfl⟩
        refine Wp_seq_region ?_
        refine WpL_val rfl rfl (by decide) (r_lss (k := .i64) (a := ((i : Nat) : Int)) (b := ((p.length : Nat) : Int)) rfl rfl) ?_
        refine WpL_nil ?_
        refine Wp_seq ?_
        refine Wp_cond (b := decide ((((i : Nat) : Int) : Int) < ((p.length : Nat) : Int))) rfl (fun hlt2 => ?_) (fun hlt2 => ?_)
        · have khlt2 := hlt2
          replace hlt2 := of_decide_eq_true hlt2
          obtain ⟨x, hx⟩ := get_of_lt (l := p) (i := i) (by omega)
          obtain ⟨pb, po, rfl, hpc⟩ := ints_cells (l := p) (hp.ext E1) (by omega)
          obtain ⟨z0, hz0e⟩ : ∃ z0, z0 = (W4).heap.size := ⟨_, rfl⟩
          have hznz : n1 ≤ z0 := by omega
          have hbsz : bs < z0 := by have := Bs.lt; omega
          have hbz : w0.heap.size ≤ z0 := by have := E.size; omega
          have E6 : Chg none1 W4 W4 := Chg.refl _ _
          refine Wp_skip ?_
          refine thn_normal ?_
          refine Wp_seq ?_
          refine Wp_block ?_
          refine Wp_seq_region ?_
          refine WpL_val rfl rfl (by decide) (r_indexSlice (b := pb) (o := po) (len := p.length) (cap := pc) (i := i) (o' := po + i) rfl rfl rfl Try.underlying22 siz3 (by omega) (by omega)) ?_
          refine WpL_val rfl rfl (by decide) (r_load (v := (.int .i64 x)) rfl flat3 (hpc i x hx)) ?_
          refine WpL_val rfl rfl (by decide) (r_assign (v := (.int .i64 x)) rfl) ?_
          refine WpL_nil ?_
          refine Wp_seq_region ?_
          refine WpL_val rfl rfl (by decide) (r_assign (v := (.slice none 0 0)) rfl) ?_
          refine WpL_nil ?_
          refine Wp_seq ?_
          refine Wp_seq_region ?_
          refine WpL_val rfl rfl (by decide) (r_load (v := (.slice a ll.length c)) rfl flat53 (Bs.cell rfl)) ?_
          refine WpL_val rfl rfl (by decide) (r_lenSlice (ad := a) (n := ll.length) (cap := c) Try.underlying53 rfl) ?_
          refine WpL_val rfl rfl (by decide) (r_move (v := (.int .i64 0)) rfl) ?_
          refine WpL_nil ?_
          refine Wp_block ?_
          refine Wp_loop (fun nn_ σ W6 => ∃ (e : Nat) (ma : Option Addr) (mc : Nat), (∃ jj_, σ = upds jj_ [(1, (.pointer (some ⟨bs, 0, none⟩))), (7, (.slice oa on oc)), (9, (.int .i64 x)), (33, (.slice (some ⟨pb, po, none⟩) p.length pc)), (34, (.int .i64 ((p.length : Nat) : Int))), (35, (.int .i64 ((i : Nat) : Int))), (39, (.slice a ll.length c)), (40, (.int .i64 ((ll.length : Nat) : Int))), (41, (.int .i64 ((e : Nat) : Int))), (10, (.slice ma e mc))]) ∧ Chg none1 w0 W6 ∧ Chg none1 w9 W6 ∧ Chg none1 W4 W6 ∧ Blk W6 bs #[(.slice a ll.length c)] 53 ∧ (e ≤ ll.length) ∧ (W6.ownsRow z0 TB 1 (.slice ma e mc) e ((markL (ll.take e) x).map Value.bool)) ∧ (z0 ≤ W6.heap.size) ∧ nn_ = ll.length - e) (n := ll.length - 0) ?_ ?_
          · exact ⟨0, none, 0, Fits.out ⟨rfl, rfl, rfl, rfl, rfl, rfl, rfl, rfl, rfl, rfl, trivial⟩, E, E1, E6, Bs, Nat.zero_le _, World.ownsRow_nil _ _ _ _, (by omega), rfl⟩
          · clear E E1 E6 Bs
            rintro _ _ W6 ⟨e, ma, mc, ⟨j6, rfl⟩, E, E1, E6, Bs, he, hm, hzs, rfl⟩
            refine Wp_seq_region ?_
            refine WpL_val rfl rfl (by decide) (r_lss (k := .i64) (a := ((e : Nat) : Int)) (b := ((ll.length : Nat) : Int)) rfl rfl) ?_
            refine WpL_nil ?_
            refine Wp_seq ?_
            refine Wp_cond (b := decide ((((e : Nat) : Int) : Int) < ((ll.length : Nat) : Int))) rfl (fun hlt3 => ?_) (fun hlt3 => ?_)
            · have khlt3 := hlt3
              replace hlt3 := of_decide_eq_true hlt3
              obtain ⟨l, hl⟩ := get_of_lt (l := ll) (i := e) (by omega)
              obtain ⟨b, o, rfl, hcl⟩ := spss_cells h (by omega)
              obtain ⟨ra, rc, hcell, hsp⟩ := hcl e l hl
              refine Wp_skip ?_
              refine thn_normal ?_
              refine Wp_seq ?_
              refine Wp_block ?_
              refine Wp_seq_region ?_
              refine WpL_val rfl rfl (by decide) (r_indexSlice (b := b) (o := o) (len := ll.length) (cap := c) (i := e) (o' := o + e) rfl rfl rfl Try.underlying53 siz23 (by omega) (by omega)) ?_
              refine WpL_val rfl rfl (by decide) (r_load (v := (.slice ra l.length rc)) rfl flat23 (E.cell (fun f => f) hcell)) ?_
              refine WpL_val rfl rfl (by decide) (r_assign (v := (.slice ra l.length rc)) rfl) ?_
              refine WpL_nil ?_
              refine Wp_region ?_
              refine WpL_val rfl rfl (by decide) (r_move (v := (.slice ma e mc)) rfl) ?_
              refine WpL_val rfl rfl (by decide) (r_move (v := (.slice ra l.length rc)) rfl) ?_
              refine WpL_val rfl rfl (by decide) (r_move (v := (.int .i64 x)) rfl) ?_
              refine WpL_enter rfl rfl (by decide) (r_callF (vs := [(.slice ra l.length rc), (.int .i64 x)]) Try.func39 nm39 bd39 rfl) (inset_c _ _ l x (hsp.ext E)) ?_
              rintro _ w51 ⟨rfl, X51⟩
              replace Bs := X51.keep Bs
              replace hm := own_ext hm X51
              replace hzs := Nat.le_trans hzs X51.size
              replace E := E.ext X51
              replace E1 := E1.ext X51
              replace E6 := E6.ext X51
              refine s_buildSlice (ps := [(0, (.bool (inS l x)))]) (c := #[(.bool (inS l x))]) (by decide) rfl Try.underlying97 siz4 zer4 (by decide) (by decide) (by kernel_rfl) ?_
              intro b8 w8 N8
              have F8 := N8.ge E
              have F8_E1 := N8.ge E1
              have F8_E6 := N8.ge E6
              have O8_bs := N8.lt Bs
              replace Bs := N8.keep Bs
              replace hm := own_ext hm N8.ext
              replace hzs := Nat.le_trans hzs N8.ext.size
              replace E := E.ext N8.ext
              have B8 := N8.blk
              replace E1 := E1.ext N8.ext
              replace E6 := E6.ext N8.ext
              refine s_append (base := z0) (n := e) (m := 1) (xs := ((markL (ll.take e) x).map Value.bool)) (news := [(.bool (inS l x))]) (size := 1) (bytes := 1) (v := (.slice ma e mc)) (by decide) Try.underlying97 siz4 byt4 zer4 rfl (by decide) rfl hm rfl (rfl) (B8.cells rfl) (by simp [Value.oneCell']) (by unfold maxLen; omega) (by omega) (hzs) ?_
              intro v7 w59 Ov7 Cv7 Dv7
              replace Bs := Cv7.keep (fun h => by have := (hm.lt _ h).1; omega) Bs
              replace E := E.step Cv7 (fun x hx h => absurd (hm.lt x h).1 (by omega))
              replace E6 := E6.step Cv7 (fun x hx h => absurd (hm.lt x h).1 (by omega))
              replace E1 := E1.step Cv7 (fun x hx h => absurd (hm.lt x h).1 (by omega))
              obtain ⟨ma2, mc2, rfl⟩ := own_form Ov7
              refine WpL_val rfl rfl (by decide) (r_assign (v := (.slice ma2 (e + 1) mc2)) rfl) ?_
              refine WpL_nil ?_
              refine inB_normal ?_
              refine thn_normal ?_
              refine Wp_region ?_
              refine WpL_val rfl rfl (by decide) (r_add (k := .i64) (a := ((e : Nat) : Int)) (b := 1) (c := ((e : Nat) : Int) + 1) rfl rfl (wI64 (by omega))) ?_
              refine WpL_val rfl rfl (by decide) (r_move (v := (.int .i64 (((e : Nat) : Int) + 1))) rfl) ?_
              refine WpL_nil ?_
              refine thn_normal ?_
              exact ⟨ll.length - (e + 1), by omega, e + 1, ma2, mc2, Fits.out ⟨rfl, rfl, rfl, rfl, rfl, rfl, rfl, rfl, rfl, rfl, trivial⟩, E, E1, E6, Bs, (by omega), (by rw [take_snoc hl]; unfold markL; rw [List.map_append, List.map_append]; simpa [markL] using Ov7), Nat.le_trans hzs Cv7.size, rfl⟩
            · have khlt3 := hlt3
              replace hlt3 := of_decide_eq_false hlt3
              have hee : e = ll.length := by omega
              rw [hee, List.take_length, ← hee] at hm
              have hmB : BoolsAt W6 (.slice ma e mc) (markL ll x) := own_bools hm (by simp [markL, hee])
              have hC6 := hC.ext E6
              refine Wp_exit ?_
              refine thn_exit ?_
              refine thn_exit ?_
              refine inB_here ?_
              refine thn_normal ?_
              refine Wp_seq_region ?_
              refine WpL_val rfl rfl (by decide) (r_assign (v := (.bool false)) rfl) ?_
              refine WpL_nil ?_
              refine Wp_seq ?_
              refine Wp_seq_region ?_
              refine WpL_val rfl rfl (by decide) (r_move (v := (.slice oa on oc)) rfl) ?_
              refine WpL_val rfl rfl (by decide) (r_lenSlice (ad := oa) (n := on) (cap := oc) Try.underlying95 rfl) ?_
              refine WpL_val rfl rfl (by decide) (r_move (v := (.int .i64 0)) rfl) ?_
              refine WpL_nil ?_
              refine Wp_block ?_
              refine Wp_loop (fun nn_ σ W9 => ∃ (k : Nat) (od : Bool), (∃ jj_, σ = upds jj_ [(1, (.pointer (some ⟨bs, 0, none⟩))), (7, (.slice oa on oc)), (10, (.slice ma e mc)), (33, (.slice (some ⟨pb, po, none⟩) p.length pc)), (34, (.int .i64 ((p.length : Nat) : Int))), (35, (.int .i64 ((i : Nat) : Int))), (52, (.slice oa on oc)), (53, (.int .i64 ((on : Nat) : Int))), (54, (.int .i64 ((k : Nat) : Int))), (13, (.bool od))]) ∧ Chg none1 w0 W9 ∧ Chg none1 w9 W9 ∧ Blk W9 bs #[(.slice a ll.length c)] 53 ∧ (k ≤ ks.length) ∧ (od = decide (markL ll x ∈ ks.take k)) ∧ (LSt TBs TB 1 W9 n1 (.slice oa on oc) vs (ks.map bRow)) ∧ (W9.ownsRow z0 TB 1 (.slice ma e mc) e ((markL ll x).map Value.bool)) ∧ (z0 ≤ W9.heap.size) ∧ nn_ = ks.length - k) (n := ks.length - 0) ?_ ?_
              · exact ⟨0, false, Fits.out ⟨rfl, rfl, rfl, rfl, rfl, rfl, rfl, rfl, rfl, rfl, trivial⟩, E, E1, Bs, Nat.zero_le _, (by simp), hC6, hm, hzs, rfl⟩
              · clear E E1 Bs
                rintro _ _ W9 ⟨k, od, ⟨j9, rfl⟩, E, E1, Bs, hk2, hod, hC7, hm7, hzs7, rfl⟩
                refine Wp_seq_region ?_
                refine WpL_val rfl rfl (by decide) (r_lss (k := .i64) (a := ((k : Nat) : Int)) (b := ((on : Nat) : Int)) rfl rfl) ?_
                refine WpL_nil ?_
                refine Wp_seq ?_
                refine Wp_cond (b := decide ((((k : Nat) : Int) : Int) < ((on : Nat) : Int))) rfl (fun hlt4 => ?_) (fun hlt4 => ?_)
                · have khlt4 := hlt4
                  replace hlt4 := of_decide_eq_true hlt4
                  obtain ⟨mk, hmk⟩ := get_of_lt (l := ks) (i := k) (by omega)
                  obtain ⟨u, hu⟩ := get_of_lt (l := vs) (i := k) (by have := hC7.len; simp at this; omega)
                  have hin := hC7.inn k u (bRow mk) hu (by rw [List.getElem?_map, hmk]; rfl)
                  obtain ⟨ua, uc, rfl⟩ := own_form hin
                  obtain ⟨gg, rfl, hg1, hg2⟩ := own_cells (hC7.on (by rw [List.length_map]; exact hon)) (by omega)
                  have hmkl := hkl mk (List.mem_of_getElem? hmk)
                  have hub : BoolsAt W9 (.slice ua mk.length uc) mk := own_bools hin rfl
                  have hmB7 : BoolsAt W9 (.slice ma e mc) (markL ll x) := own_bools hm7 (by simp [markL, hee])
                  refine Wp_skip ?_
                  refine thn_normal ?_
                  refine Wp_seq ?_
                  refine Wp_block ?_
                  refine Wp_seq_region ?_
                  refine WpL_val rfl rfl (by decide) (r_indexSlice (b := gg) (o := 0) (len := on) (cap := oc) (i := k) (o' := 0 + k) rfl rfl rfl Try.underlying95 siz97 (by omega) (by omega)) ?_
                  refine WpL_val rfl rfl (by decide) (r_load (v := (.slice ua mk.length uc)) rfl flat97 ((by have h1 := hg2 k _ hu; exact h1))) ?_
                  refine WpL_val rfl rfl (by decide) (r_assign (v := (.slice ua mk.length uc)) rfl) ?_
                  refine WpL_nil ?_
                  refine Wp_region ?_
                  refine WpL_val rfl rfl (by decide) (r_move (v := (.bool od)) rfl) ?_
                  refine WpL_val rfl rfl (by decide) (r_move (v := (.bool od)) rfl) ?_
                  rcases Bool.eq_false_or_eq_true (od) with hg | hg
                  · have khg := hg
                    refine WpL_guard_no (oj := _) rfl rfl (by decide) (v := .bool true) (congrArg Value.bool hg) (Or.inl rfl) ?_
                    refine WpL_guard_no (oj := _) rfl rfl (by decide) (v := .bool true) (congrArg Value.bool hg) (Or.inl rfl) ?_
                    refine WpL_guard_no (oj := _) rfl rfl (by decide) (v := .bool true) (congrArg Value.bool hg) (Or.inl rfl) ?_
                    refine WpL_val rfl rfl (by decide) (r_pick (b := od) (v := (.bool true)) rfl (by rw [hg]; rfl)) ?_
                    refine WpL_val rfl rfl (by decide) (r_assign (v := (.bool true)) rfl) ?_
                    refine WpL_nil ?_
                    refine inB_normal ?_
                    refine thn_normal ?_
                    refine Wp_region ?_
                    refine WpL_val rfl rfl (by decide) (r_add (k := .i64) (a := ((k : Nat) : Int)) (b := 1) (c := ((k : Nat) : Int) + 1) rfl rfl (wI64 (by omega))) ?_
                    refine WpL_val rfl rfl (by decide) (r_move (v := (.int .i64 (((k : Nat) : Int) + 1))) rfl) ?_
                    refine WpL_nil ?_
                    refine thn_normal ?_
                    exact ⟨ks.length - (k + 1), by omega, k + 1, true, Fits.out ⟨rfl, rfl, rfl, rfl, rfl, rfl, rfl, rfl, rfl, rfl, trivial⟩, E, E1, Bs, (by omega), (by rw [take_snoc hmk]; symm; rw [decide_eq_true_eq]; exact List.mem_append_left _ (of_decide_eq_true (hod.symm.trans hg))), hC7, hm7, hzs7, rfl⟩
                  · have khg := hg
                    refine WpL_guard_yes (oj := _) rfl rfl (by decide) (congrArg Value.bool hg) ?_
                    refine WpL_val rfl rfl (by decide) (r_move (v := (.slice ua mk.length uc)) rfl) ?_
                    refine WpL_guard_yes (oj := _) rfl rfl (by decide) (congrArg Value.bool hg) ?_
                    refine WpL_val rfl rfl (by decide) (r_move (v := (.slice ma e mc)) rfl) ?_
                    refine WpL_guard_yes (oj := _) rfl rfl (by decide) (congrArg Value.bool hg) ?_
                    refine WpL_enter rfl rfl (by decide) (r_callF (vs := [(.slice ua mk.length uc), (.slice ma e mc)]) Try.func85 nm85 bd85 rfl) (bleq_c _ _ _ mk (markL ll x) hub hmB7 (by rw [hmkl]; simp [markL])) ?_
                    rintro _ w61 ⟨rfl, X61⟩
                    replace Bs := X61.keep Bs
                    replace E := E.ext X61
                    replace E1 := E1.ext X61
                    refine WpL_val rfl rfl (by decide) (r_pick (b := od) (v := (.bool (decide (mk = markL ll x)))) rfl (by rw [hg]; rfl)) ?_
                    refine WpL_val rfl rfl (by decide) (r_assign (v := (.bool (decide (mk = markL ll x)))) rfl) ?_
                    refine WpL_nil ?_
                    refine inB_normal ?_
                    refine thn_normal ?_
                    refine Wp_region ?_
                    refine WpL_val rfl rfl (by decide) (r_add (k := .i64) (a := ((k : Nat) : Int)) (b := 1) (c := ((k : Nat) : Int) + 1) rfl rfl (wI64 (by omega))) ?_
                    refine WpL_val rfl rfl (by decide) (r_move (v := (.int .i64 (((k : Nat) : Int) + 1))) rfl) ?_
                    refine WpL_nil ?_
                    refine thn_normal ?_
                    exact ⟨ks.length - (k + 1), by omega, k + 1, decide (mk = markL ll x), Fits.out ⟨rfl, rfl, rfl, rfl, rfl, rfl, rfl, rfl, rfl, rfl, trivial⟩, E, E1, Bs, (by omega), (by rw [take_snoc hmk]; exact dec_snoc (hod.symm.trans hg)), hC7.ext X61, own_ext hm7 X61, Nat.le_trans hzs7 X61.size, rfl⟩
                · have khlt4 := hlt4
                  replace hlt4 := of_decide_eq_false hlt4
                  have hkk2 : k = ks.length := by omega
                  rw [hkk2, List.take_length] at hod
                  have hps : (p.take (i + 1)).map (markL ll) = (p.take i).map (markL ll) ++ [markL ll x] := by rw [take_snoc hx, List.map_append]; rfl
                  refine Wp_exit ?_
                  refine thn_exit ?_
                  refine thn_exit ?_
                  refine inB_here ?_
                  refine thn_normal ?_
                  refine Wp_seq_region ?_
                  refine WpL_val rfl rfl (by decide) (r_move (v := (.bool od)) rfl) ?_
                  refine WpL_val rfl rfl (by decide) (r_not (b := od) rfl) ?_
                  refine WpL_nil ?_
                  refine Wp_cond (b := !od) rfl (fun hnew => ?_) (fun hnew => ?_)
                  · have khnew := hnew
                    replace hnew := by simpa using hnew
                    have hodf : od = false := by simpa using hnew
                    have hon2 : on = (ks.map bRow).length := by rw [List.length_map]; exact hon
                    have hnin : markL ll x ∉ ks := of_decide_eq_false (hod.symm.trans hodf)
                    refine Wp_region ?_
                    refine WpL_val rfl rfl (by decide) (r_move (v := (.slice oa on oc)) rfl) ?_
                    refine WpL_val rfl rfl (by decide) (r_move (v := (.slice ma e mc)) rfl) ?_
                    refine s_buildSlice (ps := [(0, (.slice ma e mc))]) (c := #[(.slice ma e mc)]) (by decide) rfl Try.underlying95 siz97 zer97 (by decide) (by decide) (by kernel_rfl) ?_
                    intro b13 w13 N13
                    have F13 := N13.ge E
                    have F13_E1 := N13.ge E1
                    have O13_bs := N13.lt Bs
                    replace Bs := N13.keep Bs
                    replace hC7 := hC7.ext N13.ext
                    replace hm7 := own_ext hm7 N13.ext
                    replace hzs7 := Nat.le_trans hzs7 N13.ext.size
                    replace E := E.ext N13.ext
                    have B13 := N13.blk
                    replace E1 := E1.ext N13.ext
                    refine s_append (base := n1) (n := on) (m := 1) (xs := vs) (news := [(.slice ma e mc)]) (size := 1) (bytes := 24) (v := (.slice oa on oc)) (by decide) Try.underlying95 siz97 byt97 zer97 rfl (by decide) rfl (hC7.on hon2) rfl (rfl) (B13.cells rfl) (by simp [Value.oneCell']) (by unfold maxLen; omega) (by omega) ((by omega)) ?_
                    intro v8 w69 Ov8 Cv8 Dv8
                    replace Bs := Cv8.keep (fun h => by have := ((hC7.on hon2).lt _ h).1; omega) Bs
                    replace E := E.step Cv8 (fun x hx h => absurd ((hC7.on hon2).lt x h).1 (by omega))
                    replace E1 := E1.step Cv8 (fun x hx h => absurd ((hC7.on hon2).lt x h).1 (by omega))
                    obtain ⟨oa2, oc2, rfl⟩ := own_form Ov8
                    have hC8 := hC7.push hon2 hm7 hznz (fun k hk => by have := (hC.o.lt k hk).2; omega) Ov8 Cv8 Dv8
                    refine WpL_val rfl rfl (by decide) (r_assign (v := (.slice oa2 (on + 1) oc2)) rfl) ?_
                    refine WpL_nil ?_
                    refine inB_normal ?_
                    refine thn_normal ?_
                    refine Wp_region ?_
                    refine WpL_val rfl rfl (by decide) (r_add (k := .i64) (a := ((i : Nat) : Int)) (b := 1) (c := ((i : Nat) : Int) + 1) rfl rfl (wI64 (by omega))) ?_
                    refine WpL_val rfl rfl (by decide) (r_move (v := (.int .i64 (((i : Nat) : Int) + 1))) rfl) ?_
                    refine WpL_nil ?_
                    refine thn_normal ?_
                    exact ⟨p.length - (i + 1), by omega, i + 1, ks ++ [markL ll x], vs ++ [.slice ma e mc], oa2, oc2, on + 1, Fits.out ⟨rfl, rfl, rfl, rfl, rfl, trivial⟩, E, E1, Bs, (by omega), (by rw [hps, firsts_snoc, ← hks]; unfold addF; rw [if_neg hnin]), (fun m hm => by rcases List.mem_append.1 hm with h1 | h1; exact hkl m h1; rw [List.mem_singleton] at h1; rw [h1]; simp [markL]), (by simp; omega), (by omega), (by rw [List.map_append]; have h9 := hC8; rw [show (e, (markL ll x).map Value.bool) = bRow (markL ll x) by unfold bRow; simp [markL, hee]] at h9; exact h9), (by have := Cv8.size; omega), rfl⟩
                  · have khnew := hnew
                    replace hnew := by simpa using hnew
                    refine Wp_skip ?_
                    refine inB_normal ?_
                    refine thn_normal ?_
                    refine Wp_region ?_
                    refine WpL_val rfl rfl (by decide) (r_add (k := .i64) (a := ((i : Nat) : Int)) (b := 1) (c := ((i : Nat) : Int) + 1) rfl rfl (wI64 (by omega))) ?_
                    refine WpL_val rfl rfl (by decide) (r_move (v := (.int .i64 (((i : Nat) : Int) + 1))) rfl) ?_
                    refine WpL_nil ?_
                    refine thn_normal ?_
                    exact ⟨p.length - (i + 1), by omega, i + 1, ks, vs, oa, oc, on, Fits.out ⟨rfl, rfl, rfl, rfl, rfl, trivial⟩, E, E1, Bs, (by omega), (by rw [hps, firsts_snoc, ← hks]; unfold addF; rw [if_pos (of_decide_eq_true (hod.symm.trans (by simpa using hnew)))]), hkl, hon, (by omega), hC7, (by omega), rfl⟩
        · have khlt2 := hlt2
          replace hlt2 := of_decide_eq_false hlt2
          have hii : i = p.length := by omega
          rw [hii, List.take_length] at hks
          obtain ⟨n2, hn2e⟩ : ∃ n2, n2 = (W4).heap.size := ⟨_, rfl⟩
          have hbs2 : bs < n2 := by have := Bs.lt; omega
          have hwn2 : w0.heap.size ≤ n2 := by have := E.size; omega
          have E2 : Chg none1 W4 W4 := Chg.refl _ _
          refine Wp_exit ?_
          refine thn_exit ?_
          refine thn_exit ?_
          refine inB_here ?_
          refine thn_normal ?_
          refine Wp_seq_region ?_
          refine WpL_val rfl rfl (by decide) (r_assign (v := (.slice none 0 0)) rfl) ?_
          refine WpL_nil ?_
          refine Wp_seq ?_
          refine Wp_seq_region ?_
          refine WpL_val rfl rfl (by decide) (r_move (v := (.slice oa on oc)) rfl) ?_
          refine WpL_val rfl rfl (by decide) (r_lenSlice (ad := oa) (n := on) (cap := oc) Try.underlying95 rfl) ?_
          refine WpL_val rfl rfl (by decide) (r_move (v := (.int .i64 0)) rfl) ?_
          refine WpL_nil ?_
          refine Wp_block ?_
          refine Wp_loop (fun nn_ σ W14 => ∃ (k : Nat) (cs : List (List Sp)) (us : List Value) (ca : Option Addr) (cc cn : Nat), (∃ jj_, σ = upds jj_ [(1, (.pointer (some ⟨bs, 0, none⟩))), (72, (.slice oa on oc)), (73, (.int .i64 ((on : Nat) : Int))), (74, (.int .i64 ((k : Nat) : Int))), (16, (.slice ca cn cc))]) ∧ Chg none1 w0 W14 ∧ Chg none1 W4 W14 ∧ Blk W14 bs #[(.slice a ll.length c)] 53 ∧ (k ≤ ks.length) ∧ (cs.length = k) ∧ (cn = k) ∧ (∀ (j : Nat) key d, ks[j]? = some key → cs[j]? = some d → IsSet d (fun r => decide (markL ll r = key))) ∧ (∀ d ∈ cs, d.length ≤ 16) ∧ (LSt TSs TSp 2 W14 n2 (.slice ca cn cc) us (cs.map sRow)) ∧ (n2 ≤ W14.heap.size) ∧ nn_ = ks.length - k) (n := ks.length - 0) ?_ ?_
          · exact ⟨0, [], [], none, 0, 0, Fits.out ⟨rfl, rfl, rfl, rfl, rfl, trivial⟩, E, E2, Bs, Nat.zero_le _, rfl, rfl, (fun j key d _ h => by simp at h), (fun d h => absurd h List.not_mem_nil), LSt.start _ _ _ _ _, (by omega), rfl⟩
          · clear E E2 Bs
            rintro _ _ W14 ⟨k, cs, us, ca, cc, cn, ⟨j14, rfl⟩, E, E2, Bs, hk3, hcl, hcn, hset, hsm, hC2, hbw, rfl⟩
            refine Wp_seq_region ?_
            refine WpL_val rfl rfl (by decide) (r_lss (k := .i64) (a := ((k : Nat) : Int)) (b := ((on : Nat) : Int)) rfl rfl) ?_
            refine WpL_nil ?_
            refine Wp_seq ?_
            refine Wp_cond (b := decide ((((k : Nat) : Int) : Int) < ((on : Nat) : Int))) rfl (fun hlt5 => ?_) (fun hlt5 => ?_)
            · have khlt5 := hlt5
              replace hlt5 := of_decide_eq_true hlt5
              obtain ⟨mk, hmk⟩ := get_of_lt (l := ks) (i := k) (by omega)
              obtain ⟨u, hu⟩ := get_of_lt (l := vs) (i := k) (by have := hC.len; simp at this; omega)
              have hin := hC.inn k u (bRow mk) hu (by rw [List.getElem?_map, hmk]; rfl)
              obtain ⟨ua, uc, rfl⟩ := own_form hin
              have hon2 : on = (ks.map bRow).length := by rw [List.length_map]; exact hon
              obtain ⟨gg, rfl, hg1, hg2⟩ := own_cells (hC.on hon2) (by omega)
              have hmkl := hkl mk (List.mem_of_getElem? hmk)
              have hub := own_bools hin rfl
              refine Wp_skip ?_
              refine thn_normal ?_
              refine Wp_seq ?_
              refine Wp_block ?_
              refine Wp_seq_region ?_
              refine WpL_val rfl rfl (by decide) (r_indexSlice (b := gg) (o := 0) (len := on) (cap := oc) (i := k) (o' := 0 + k) rfl rfl rfl Try.underlying95 siz97 (by omega) (by omega)) ?_
              refine WpL_val rfl rfl (by decide) (r_load (v := (.slice ua mk.length uc)) rfl flat97 ((by have h1 := hg2 k _ hu; exact E2.cell (fun f => f) h1))) ?_
              have hC20 := hC2
              have hbw0 := hbw
              have hw20 : (W14).heap.size ≤ (W14).heap.size := Nat.le_refl _
              refine s_allocStore (v := (.slice ua mk.length uc)) (c := #[(.slice ua mk.length uc)]) (n := 1) (by decide) zer97 rfl siz97 rfl rfl rfl (by simp [Value.oneCell']) ?_
              intro bm wm Nm
              have Fm := Nm.ge E
              have Fm_E2 := Nm.ge E2
              have Om_bs := Nm.lt Bs
              replace Bs := Nm.keep Bs
              replace hw20 := Nat.le_trans hw20 Nm.ext.size
              replace hC2 := hC2.ext Nm.ext
              replace hbw := Nat.le_trans hbw Nm.ext.size
              replace E := E.ext Nm.ext
              have Bm := Nm.blk
              replace E2 := E2.ext Nm.ext
              refine WpL_nil ?_
              refine Wp_seq_region ?_
              refine WpL_val rfl rfl (by decide) (r_makeFunc (vs := []) (us := [(.pointer (some ⟨bs, 0, none⟩)), (.pointer (some ⟨bm, 0, none⟩))]) rfl rfl) ?_
              refine WpL_val rfl rfl (by decide) (r_load (v := (.slice a ll.length c)) rfl flat53 (Bs.cell rfl)) ?_
              refine WpL_enter rfl rfl (by decide) (r_callF (vs := [(.func (.func 86) #[] #[(.pointer (some ⟨bs, 0, none⟩)), (.pointer (some ⟨bm, 0, none⟩))]), (.slice a ll.length c)]) Try.func78 nm78 bd78 rfl) (chosen_c _ _ _ (fun r => decide (markL ll r = mk)) ll (h.ext E) (by omega) hok (fun p hp => mark_const hp mk) (fun w x hE => CallV.mk (first := #[]) (cap := #[.pointer (some ⟨bs, 0, none⟩), .pointer (some ⟨bm, 0, none⟩)]) Try.func86 nm86 bd86 rfl (clof1_c w bs bm _ _ ll mk x (hE.keep Bs) (hE.keep Bm) ((h.ext E).ext hE) ((SlAt.ext hub E2).ext hE) hmkl))) ?_
              rintro _ w61 ⟨⟨out, hI, ⟨⟨xa, xc, rfl⟩, O61⟩⟩, X61⟩
              replace Bs := X61.keep Bs
              replace Bm := X61.keep Bm
              replace hw20 := Nat.le_trans hw20 X61.size
              replace hC2 := hC2.ext X61
              replace hbw := Nat.le_trans hbw X61.size
              replace E := E.ext X61
              replace E2 := E2.ext X61
              have hwm := Nm.ext.size
              have O62 := O61
              refine WpL_val rfl rfl (by decide) (r_assign (v := (.slice xa out.length xc)) rfl) ?_
              refine WpL_nil ?_
              refine Wp_seq ?_
              refine Wp_seq_region ?_
              refine WpL_val rfl rfl (by decide) (r_move (v := (.slice xa out.length xc)) rfl) ?_
              refine WpL_val rfl rfl (by decide) (r_lenSlice (ad := xa) (n := out.length) (cap := xc) Try.underlying23 rfl) ?_
              refine WpL_val rfl rfl (by decide) (r_gtr (k := .i64) (a := ((out.length : Nat) : Int)) (b := 16) rfl rfl) ?_
              refine WpL_nil ?_
              refine Wp_cond (b := decide ((16 : Int) < ((out.length : Nat) : Int))) rfl (fun hlg => ?_) (fun hlg => ?_)
              · have khlg := hlg
                replace hlg := of_decide_eq_true hlg
                refine Wp_seq_region ?_
                refine WpL_val rfl rfl (by decide) (r_assign (v := (.slice none 0 0)) rfl) ?_
                refine WpL_val rfl rfl (by decide) (r_assign (v := (.int .i64 2)) rfl) ?_
                refine WpL_nil ?_
                refine Wp_ret ?_
                refine thn_ret ?_
                refine inB_ret ?_
                refine thn_ret ?_
                refine thn_ret ?_
                refine inB_ret ?_
                refine thn_ret ?_
                refine fin_tmp2 Try.results41 (v := (.slice none 0 0)) (v' := (.int .i64 2)) rfl rfl ?_
                obtain ⟨cF, hF1, hF2⟩ := cls_some hP hok (hks ▸ hmk) hI (by omega)
                exact ⟨⟨[], 2, .inr ⟨hz0, cF, hF1, .inl ⟨hF2, rfl, rfl⟩⟩, none, 0, rfl, spss_nil _⟩, E⟩
              · have khlg := hlg
                replace hlg := of_decide_eq_false hlg
                have hcn2 : cn = (cs.map sRow).length := by rw [List.length_map]; omega
                refine Wp_skip ?_
                refine thn_normal ?_
                refine Wp_region ?_
                refine WpL_val rfl rfl (by decide) (r_move (v := (.slice ca cn cc)) rfl) ?_
                refine WpL_val rfl rfl (by decide) (r_move (v := (.slice xa out.length xc)) rfl) ?_
                refine s_buildSlice (ps := [(0, (.slice xa out.length xc))]) (c := #[(.slice xa out.length xc)]) (by decide) rfl Try.underlying53 siz23 zer23 (by decide) (by decide) (by kernel_rfl) ?_
                intro b17 w17 N17
                have F17 := N17.ge E
                have F17_E2 := N17.ge E2
                have O17_bs := N17.lt Bs
                have O17_bm := N17.lt Bm
                replace Bs := N17.keep Bs
                replace Bm := N17.keep Bm
                replace hw20 := Nat.le_trans hw20 N17.ext.size
                replace hC2 := hC2.ext N17.ext
                replace hbw := Nat.le_trans hbw N17.ext.size
                replace O62 := own_ext O62 N17.ext
                replace E := E.ext N17.ext
                have B17 := N17.blk
                replace E2 := E2.ext N17.ext
                refine s_append (base := n2) (n := cn) (m := 1) (xs := us) (news := [(.slice xa out.length xc)]) (size := 1) (bytes := 24) (v := (.slice ca cn cc)) (by decide) Try.underlying53 siz23 byt23 zer23 rfl (by decide) rfl (hC2.on hcn2) rfl (rfl) (B17.cells rfl) (by simp [Value.oneCell']) (by unfold maxLen; omega) (by omega) (hbw) ?_
                intro v8 w69 Ov8 Cv8 Dv8
                replace Bs := Cv8.keep (fun h => by have := ((hC2.on hcn2).lt _ h).1; omega) Bs
                replace E := E.step Cv8 (fun x hx h => absurd ((hC2.on hcn2).lt x h).1 (by omega))
                replace E2 := E2.step Cv8 (fun x hx h => absurd ((hC2.on hcn2).lt x h).1 (by omega))
                obtain ⟨ca2, cc2, rfl⟩ := own_form Ov8
                refine WpL_val rfl rfl (by decide) (r_assign (v := (.slice ca2 (cn + 1) cc2)) rfl) ?_
                refine WpL_nil ?_
                refine inB_normal ?_
                refine thn_normal ?_
                refine Wp_region ?_
                refine WpL_val rfl rfl (by decide) (r_add (k := .i64) (a := ((k : Nat) : Int)) (b := 1) (c := ((k : Nat) : Int) + 1) rfl rfl (wI64 (by omega))) ?_
                refine WpL_val rfl rfl (by decide) (r_move (v := (.int .i64 (((k : Nat) : Int) + 1))) rfl) ?_
                refine WpL_nil ?_
                refine thn_normal ?_
                exact ⟨ks.length - (k + 1), by omega, k + 1, cs ++ [out], us ++ [.slice xa out.length xc], ca2, cc2, cn + 1, Fits.out ⟨rfl, rfl, rfl, rfl, rfl, trivial⟩, E, E2, Bs, (by omega), (by simp; omega), (by omega), sets_snoc hset hcl hmk hI, (fun d hd => by rcases List.mem_append.1 hd with h1 | h1; exact hsm d h1; rw [List.mem_singleton] at h1; rw [h1]; omega), (by rw [List.map_append]; exact hC2.push hcn2 O62 (by omega) (fun k hk => by have := (hC20.o.lt k hk).2; omega) Ov8 Cv8 Dv8), (by have := Cv8.size; omega), rfl⟩
            · have khlt5 := hlt5
              replace hlt5 := of_decide_eq_false hlt5
              have hkk3 : k = ks.length := by omega
              have hcls : clsL ll cs := ⟨p, hP, by rw [← hks, hcl, hkk3], fun k key d h1 h2 => hset k key d (hks ▸ h1) h2⟩
              have hsp := hC2.spss
              have hcnl : cn = cs.length := by omega
              refine Wp_exit ?_
              refine thn_exit ?_
              refine thn_exit ?_
              refine inB_here ?_
              refine thn_normal ?_
              refine Wp_seq ?_
              refine Wp_seq_region ?_
              refine WpL_val rfl rfl (by decide) (r_move (v := (.slice ca cn cc)) rfl) ?_
              refine WpL_val rfl rfl (by decide) (r_lenSlice (ad := ca) (n := cn) (cap := cc) Try.underlying53 rfl) ?_
              refine WpL_val rfl rfl (by decide) (r_gtr (k := .i64) (a := ((cn : Nat) : Int)) (b := 16) rfl rfl) ?_
              refine WpL_nil ?_
              refine Wp_cond (b := decide ((16 : Int) < ((cn : Nat) : Int))) rfl (fun hlg2 => ?_) (fun hlg2 => ?_)
              · have khlg2 := hlg2
                replace hlg2 := of_decide_eq_true hlg2
                refine Wp_seq_region ?_
                refine WpL_val rfl rfl (by decide) (r_assign (v := (.slice none 0 0)) rfl) ?_
                refine WpL_val rfl rfl (by decide) (r_assign (v := (.int .i64 2)) rfl) ?_
                refine WpL_nil ?_
                refine Wp_ret ?_
                refine thn_ret ?_
                refine fin_tmp2 Try.results41 (v := (.slice none 0 0)) (v' := (.int .i64 2)) rfl rfl ?_
                exact ⟨⟨[], 2, .inr ⟨hz0, cs, hcls, .inl ⟨.inr (by omega), rfl, rfl⟩⟩, none, 0, rfl, spss_nil _⟩, E⟩
              · have khlg2 := hlg2
                replace hlg2 := of_decide_eq_false hlg2
                refine Wp_skip ?_
                refine thn_normal ?_
                refine Wp_seq_region ?_
                refine WpL_val rfl rfl (by decide) (r_move (v := (.slice ca cn cc)) rfl) ?_
                refine WpL_val rfl rfl (by decide) (r_assign (v := (.slice ca cn cc)) rfl) ?_
                refine WpL_val rfl rfl (by decide) (r_assign (v := (.int .i64 0)) rfl) ?_
                refine WpL_nil ?_
                refine Wp_ret ?_
                refine fin_tmp2 Try.results41 (v := (.slice ca cn cc)) (v' := (.int .i64 0)) rfl rfl ?_
                rw [hcnl] at hsp
                exact ⟨⟨cs, 0, .inr ⟨hz0, cs, hcls, .inr ⟨fun hl9 => by rcases hl9 with ⟨d, h1, h2⟩ | h2; have := hsm d h1; omega; omega, rfl, rfl⟩⟩, ca, cc, by rw [hcnl], hsp⟩, E⟩
end Go.Proofs
