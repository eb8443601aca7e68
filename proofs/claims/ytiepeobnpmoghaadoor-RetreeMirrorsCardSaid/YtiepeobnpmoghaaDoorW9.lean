/- Contract: the relation of an expression. -/
import Derived.Test.YtiepeobnpmoghaaDoorW4
import Derived.Test.YtiepeobnpmoghaaDoorW6
import Derived.Test.YtiepeobnpmoghaaDoorW8
namespace Go.Proofs
open Go Go.Eng
set_option maxRecDepth 100000

mutual
def okRe : Re → Prop
  | .mk k set args mn mx ng => nodeE (.mk k set args mn mx ng) = 0 ∧ okRes args
def okRes : List Re → Prop
  | [] => True
  | t :: ts => okRe t ∧ okRes ts
end
theorem okRes_get {ts : List Re} (h : okRes ts) {i : Nat} {x : Re} (hx : ts[i]? = some x) : okRe x := by
  induction ts generalizing i with
  | nil => simp at hx
  | cons t ts ih =>
    simp only [okRes] at h
    cases i with
    | zero => simp at hx; subst hx; exact h.1
    | succ i => exact ih h.2 (by simpa using hx)
theorem okRe_node {t : Re} (h : okRe t) : nodeE t = 0 := by cases t; simp only [okRe] at h; exact h.1
theorem okRe_args {t : Re} (h : okRe t) : okRes t.args := by cases t; simp only [okRe] at h; exact h.2
theorem okRe_form {t : Re} (h : okRe t) : 0 ≤ t.kind ∧ t.kind ≤ 10 ∧ formB t = true := by
  have := okRe_node h
  unfold nodeE at this
  split at this
  · omega
  · rename_i hk
    split at this
    · omega
    · rename_i hf; exact ⟨by omega, by omega, by simpa using hf⟩
theorem okRe_one {t : Re} (h : okRe t) (hk : t.kind = 5 ∨ t.kind = 6 ∨ t.kind = 8 ∨ t.kind = 9 ∨ t.kind = 10) : t.args.length = 1 := by
  obtain ⟨_, _, hf⟩ := okRe_form h
  simp only [formB, Bool.and_eq_true] at hf
  have := hf.1.1.1.1
  unfold okB at this
  rw [if_neg (by omega), if_pos hk] at this
  simp at this; omega
theorem okRe_two {t : Re} (h : okRe t) (hk : t.kind = 3 ∨ t.kind = 4 ∨ t.kind = 7) : 2 ≤ t.args.length := by
  obtain ⟨_, _, hf⟩ := okRe_form h
  simp only [formB, Bool.and_eq_true] at hf
  have := hf.1.1.1.1
  unfold okB at this
  rw [if_pos hk] at this
  simp at this; omega
theorem okRe_rep {t : Re} (h : okRe t) (hk : t.kind = 6) : 0 ≤ t.mn ∧ t.mn ≤ t.mx ∧ t.mx ≤ 8 := by
  have := okRe_node h
  obtain ⟨h1, h2, hf⟩ := okRe_form h
  unfold nodeE at this
  rw [if_neg (by omega), if_neg (by simp [hf]), if_neg (by omega), if_pos hk] at this
  split at this <;> omega

/-- Pointers to relations. -/
def PtrsAt (lo : Nat) (w : World) (ptrs : List Value) (Rs : List Rl) : Prop :=
  ptrs.length = Rs.length ∧ ∀ (i : Nat) (R : Rl), Rs[i]? = some R → ∃ b, ptrs[i]? = some (.pointer (some ⟨b, 0, none⟩)) ∧ Blk w b (rowArr R) TR ∧ lo ≤ b
theorem PtrsAt.ext {lo : Nat} {w w' : World} {ptrs : List Value} {Rs : List Rl} (h : PtrsAt lo w ptrs Rs) (e : Ext w w') : PtrsAt lo w' ptrs Rs :=
  ⟨h.1, fun i R hR => let ⟨b, h1, h2, h3⟩ := h.2 i R hR; ⟨b, h1, e.keep h2, h3⟩⟩
theorem PtrsAt.chg {lo : Nat} {M : Nat → Prop} {w w' : World} {ptrs : List Value} {Rs : List Rl} (h : PtrsAt lo w ptrs Rs) (e : Chg M w w') (hm : ∀ b R, Blk w b (rowArr R) TR → ¬ M b) : PtrsAt lo w' ptrs Rs :=
  ⟨h.1, fun i R hR => let ⟨b, h1, h2, h3⟩ := h.2 i R hR; ⟨b, h1, e.keep (hm b R h2) h2, h3⟩⟩
theorem PtrsAt.snoc {lo : Nat} {w : World} {ptrs : List Value} {Rs : List Rl} (h : PtrsAt lo w ptrs Rs) {b : Nat} {R : Rl} (hB : Blk w b (rowArr R) TR) (hlo : lo ≤ b) : PtrsAt lo w (ptrs ++ [.pointer (some ⟨b, 0, none⟩)]) (Rs ++ [R]) := by
  refine ⟨by simp [h.1], fun i R' hi => ?_⟩
  rcases Nat.lt_or_ge i Rs.length with hlt | hge
  · rw [List.getElem?_append_left hlt] at hi
    obtain ⟨b', h1, h2, h3⟩ := h.2 i R' hi
    exact ⟨b', by rw [List.getElem?_append_left (by rw [h.1]; exact hlt)]; exact h1, h2, h3⟩
  · rw [List.getElem?_append_right hge] at hi
    have hi0 : i - Rs.length = 0 := by have := lt_of_get hi; simp at this; omega
    rw [hi0] at hi; simp at hi; subst hi
    exact ⟨b, by rw [List.getElem?_append_right (by rw [h.1]; exact hge), h.1, hi0]; rfl, hB, hlo⟩
theorem own_elem {w : World} {base e size n : Nat} {v : Value} {xs : List Value} (h : w.ownsRow base e size v n xs) {g : Nat} (hg : v.ownBlock = some g) {c : Array Value} {t : TypeId} (hB : Blk w g c t) : t = e := by
  rcases h.2 with ⟨rfl, _⟩ | ⟨g', cap, cur, rfl, _, hgg, _⟩
  · simp [Value.ownBlock] at hg
  · simp [Value.ownBlock] at hg
    subst hg
    unfold Blk at hB
    rw [hgg] at hB
    simp only [Option.some.injEq, Obj.cells.injEq] at hB
    exact hB.2.1.symm
abbrev TP : Nat := 68

theorem fold_take {α β : Type} {f : β → α → β} {a : β} {L : List α} {i : Nat} {x : α} (h : L[i]? = some x) : (L.take (i + 1)).foldl f a = f ((L.take i).foldl f a) x := by
  rw [List.take_add_one, h]; simp
theorem len_lt_size (t : Re) : t.args.length < t.size := by
  rw [Re.size_eq]
  have : ∀ ts : List Re, ts.length ≤ Re.sizes ts := by
    intro ts
    induction ts with
    | nil => simp
    | cons x r ih => have := x.size_pos; simp [Re.sizes]; omega
  have := this t.args
  omega
theorem head_get {α : Type} {L : List α} {x d : α} (h : L[0]? = some x) : L.headD d = x := by cases L <;> simp_all
theorem sub1_u32 {p : Nat} (h0 : 0 < p) (h : p ≤ 4294967296) : IntKind.u32.wrap ((p : Int) - 1) = ((p - 1 : Nat) : Int) := by
  rw [wU32 (by omega)]; omega
theorem pow_le25 {k : Nat} (h : k ≤ 25) : 0 < 2 ^ k ∧ 2 ^ k ≤ 33554432 := ⟨Nat.two_pow_pos k, (Nat.pow_le_pow_right (by omega) h : 2 ^ k ≤ 2 ^ 25)⟩
theorem look_cast (m : Nat) (ng : Bool) : (decide (((m : Nat) : Int) ≠ 0) != ng) = (decide (m ≠ 0) != ng) := by
  have : decide (((m : Nat) : Int) ≠ 0) = decide (m ≠ 0) := by rw [Bool.eq_iff_iff]; simp
  rw [this]
theorem not_mask {n i : Nat} (hi : i ≤ n) (hn : n ≤ 24) (f : Nat → Bool) :
    ((2 ^ (n + 1) - 1) &&& (4294967295 - (2 ^ i - 1))) &&& (4294967295 - maskN 25 f) = maskN 25 fun j => (decide (i ≤ j) && decide (j ≤ n)) && !f j := by
  have hp : 2 ^ (n + 1) ≤ 2 ^ 25 := Nat.pow_le_pow_right (by omega) (by omega)
  have hpi : 2 ^ i ≤ 2 ^ 24 := Nat.pow_le_pow_right (by omega) (by omega)
  have hpos := Nat.two_pow_pos i
  have hposn := Nat.two_pow_pos (n + 1)
  have hm := maskN_lt 25 f
  refine mask_ext ?_ fun j hj => ?_
  · refine Nat.lt_of_le_of_lt Nat.and_le_left (Nat.lt_of_le_of_lt Nat.and_le_left ?_)
    simp only [Nat.reducePow] at hp ⊢; omega
  · have e1 : 4294967295 - (2 ^ i - 1) = 2 ^ 32 - ((2 ^ i - 1) + 1) := by simp only [Nat.reducePow]; omega
    have e2 : 4294967295 - maskN 25 f = 2 ^ 32 - (maskN 25 f + 1) := by simp only [Nat.reducePow] at hm ⊢; omega
    have b2 : (2 ^ 32 - ((2 ^ i - 1) + 1)).testBit j = (decide (j < 32) && !(2 ^ i - 1).testBit j) := Nat.testBit_two_pow_sub_succ (by simp only [Nat.reducePow] at hpi ⊢; omega) j
    have b3 : (2 ^ 32 - (maskN 25 f + 1)).testBit j = (decide (j < 32) && !(maskN 25 f).testBit j) := Nat.testBit_two_pow_sub_succ (by simp only [Nat.reducePow] at hm ⊢; omega) j
    rw [e1, e2, Nat.testBit_and, Nat.testBit_and, b2, b3, Nat.testBit_two_pow_sub_one, Nat.testBit_two_pow_sub_one, maskN_bit]
    rw [Bool.eq_iff_iff]
    simp [hj, show j < 32 by omega]
    intro _
    omega

set_option maxHeartbeats 4000000 in
theorem of_c (text : List Int) (hn : text.length ≤ 24) : ∀ N, N ≤ 1000000 → ∀ t, t.size ≤ N → okRe t → ∀ (w0 : World) (vs : List Value) (vt : Value), ReAt w0 t vs → IntsAt w0 vt text → TabOk w0 →
    Ret Tryd.prog 40 #[.agg vs.toArray, vt] w0 fun v w => ∃ b, v = .pointer (some ⟨b, 0, none⟩) ∧ w0.heap.size ≤ b ∧ Blk w b (rowArr (relOf text t)) TR ∧ Ext w0 w := by
  intro N
  induction N with
  | zero => intro _ t ht; have := t.size_pos; omega
  | succ N ih =>
  intro hNb t hN hok w0 vs vt ht htx hT
  have ht0 := ht
  obtain ⟨sa, sc, aa, ac, rfl, hset, hlen, hargs⟩ := ht.form
  obtain ⟨ta, tc, rfl⟩ := SlAt.form htx
  simp only [List.length_map] at htx ⊢
  have hR := relOf_eq text t
  have hal := len_lt_size t
  refine Ret_of Tryd.func40 rfl Tryd.ntmps40 (Nat.le_of_ble_eq_true rfl) ?_
  have E : Chg none1 w0 w0 := Chg.refl _ _
  refine Wp_seq_region ?_
  refine s_box (v := (.agg #[(.int .i64 t.kind), (.slice sa t.set.length sc), (.slice aa t.args.length ac), (.int .i64 t.mn), (.int .i64 t.mx), (.bool t.neg)])) (c := #[(.int .i64 t.kind), (.slice sa t.set.length sc), (.slice aa t.args.length ac), (.int .i64 t.mn), (.int .i64 t.mx), (.bool t.neg)]) (by decide) rfl rfl ?_
  intro b1 w1 N1
  have F1 := N1.ge E
  replace E := E.ext N1.ext
  have B1 := N1.blk
  refine WpL_val rfl rfl (by decide) (r_assign (v := (.pointer none)) rfl) ?_
  refine WpL_nil ?_
  refine Wp_seq_region ?_
  refine WpL_val rfl rfl (by decide) (r_move (v := (.slice ta text.length tc)) rfl) ?_
  refine WpL_val rfl rfl (by decide) (r_lenSlice (ad := ta) (n := text.length) (cap := tc) Tryd.underlying22 rfl) ?_
  refine WpL_val rfl rfl (by decide) (r_assign (v := (.int .i64 ((text.length : Nat) : Int))) rfl) ?_
  refine WpL_nil ?_
  refine Wp_seq_region ?_
  refine WpL_val rfl rfl (by decide) (r_assign (v := (.slice none 0 0)) rfl) ?_
  refine WpL_nil ?_
  refine Wp_seq ?_
  refine Wp_seq_region ?_
  refine WpL_val rfl rfl (by decide) (r_fieldAddr (b := b1) (o := 0) (o' := 2) rfl Tryd.underlying27 rfl siz25 rfl) ?_
  refine WpL_val rfl rfl (by decide) (r_load (v := (.slice aa t.args.length ac)) rfl flat25 (B1.cell rfl)) ?_
  refine WpL_val rfl rfl (by decide) (r_lenSlice (ad := aa) (n := t.args.length) (cap := ac) Tryd.underlying25 rfl) ?_
  refine WpL_val rfl rfl (by decide) (r_move (v := (.int .i64 0)) rfl) ?_
  refine WpL_nil ?_
  refine Wp_block ?_
  obtain ⟨base, hbase⟩ : ∃ base, base = w1.heap.size := ⟨_, rfl⟩
  have hb1 : b1 < base := by have := B1.lt; omega
  have hb0 : w0.heap.size ≤ base := by have := N1.size; omega
  refine Wp_loop (fun nn_ σ W2 => ∃ (k : Nat) (la : Option Addr) (lc : Nat) (ptrs : List Value), (∃ jj_, σ = upds jj_ [(1, (.slice ta text.length tc)), (2, (.pointer (some ⟨b1, 0, none⟩))), (5, (.int .i64 ((text.length : Nat) : Int))), (26, (.slice aa t.args.length ac)), (27, (.int .i64 ((t.args.length : Nat) : Int))), (28, (.int .i64 ((k : Nat) : Int))), (6, (.slice la k lc))]) ∧ Chg none1 w0 W2 ∧ Blk W2 b1 #[(.int .i64 t.kind), (.slice sa t.set.length sc), (.slice aa t.args.length ac), (.int .i64 t.mn), (.int .i64 t.mx), (.bool t.neg)] 27 ∧ (k ≤ t.args.length) ∧ (W2.ownsRow base TP 1 (.slice la k lc) k ptrs) ∧ (PtrsAt w0.heap.size W2 ptrs ((t.args.take k).map (relOf text))) ∧ (base ≤ W2.heap.size) ∧ nn_ = t.args.length - k) (n := t.args.length - 0) ?_ ?_
  · exact ⟨0, none, 0, [], Fits.out ⟨rfl, rfl, rfl, rfl, rfl, rfl, rfl, trivial⟩, E, B1, Nat.zero_le _, World.ownsRow_nil _ _ _ _, ⟨rfl, fun i R h => by simp at h⟩, (by omega), rfl⟩
  · clear E B1
    rintro _ _ W2 ⟨k, la, lc, ptrs, ⟨j2, rfl⟩, E, B1, hk, hown, hps, hbs, rfl⟩
    refine Wp_seq_region ?_
    refine WpL_val rfl rfl (by decide) (r_lss (k := .i64) (a := ((k : Nat) : Int)) (b := ((t.args.length : Nat) : Int)) rfl rfl) ?_
    refine WpL_nil ?_
    refine Wp_seq ?_
    refine Wp_cond (b := decide ((((k : Nat) : Int) : Int) < ((t.args.length : Nat) : Int))) rfl (fun hlt => ?_) (fun hlt => ?_)
    · have khlt := hlt
      replace hlt := of_decide_eq_true hlt
      obtain ⟨x, hx⟩ := get_of_lt (l := t.args) (i := k) (by omega)
      obtain ⟨ab, ao, rfl, hres⟩ : ∃ b o, aa = some ⟨b, o, none⟩ ∧ ResAt w0 b o t.args := by
        rcases hargs with h | h
        · rw [h] at hx; simp at hx
        · exact h
      obtain ⟨us, hus, hxt⟩ := hres.get hx
      have hsz := Re.size_arg hx
      have hxo := okRes_get (okRe_args hok) hx
      refine Wp_skip ?_
      refine thn_normal ?_
      refine Wp_seq ?_
      refine Wp_block ?_
      refine Wp_seq_region ?_
      refine WpL_val rfl rfl (by decide) (r_indexSlice (b := ab) (o := ao) (len := t.args.length) (cap := ac) (i := k) (o' := ao + k * 6) rfl rfl rfl Tryd.underlying25 siz27 (by omega) (by omega)) ?_
      refine WpL_val rfl rfl (by decide) (r_loadAgg (vs := us) rfl agg27 siz27 hxt.len (hus.ext E)) ?_
      refine s_allocStore (v := (.agg us.toArray)) (c := us.toArray) (n := 6) (by decide) zer27 rfl siz27 rfl rfl (by simpa using hxt.len) (by simpa using ReAt.one hxt) ?_
      intro b4 w4 N4
      have F4 := N4.ge E
      have O4_b1 := N4.lt B1
      replace B1 := N4.keep B1
      replace hown := own_ext hown N4.ext
      replace hps := hps.ext N4.ext
      replace hbs := Nat.le_trans hbs N4.ext.size
      replace E := E.ext N4.ext
      have B4 := N4.blk
      refine WpL_nil ?_
      refine Wp_region ?_
      refine WpL_val rfl rfl (by decide) (r_move (v := (.slice la k lc)) rfl) ?_
      refine WpL_val rfl rfl (by decide) (r_loadAgg (vs := us) rfl agg27 siz27 hxt.len (B4.cells (by simp))) ?_
      refine WpL_val rfl rfl (by decide) (r_move (v := (.slice ta text.length tc)) rfl) ?_
      refine WpL_enter rfl rfl (by decide) (r_callF (vs := [(.agg us.toArray), (.slice ta text.length tc)]) Tryd.func40 nm40 bd40 rfl) (ih (by omega) x (by omega) hxo _ us _ (ReAt.ext E x hxt) (htx.ext E) (hT.ext E)) ?_
      rintro _ w9 ⟨bq, rfl, hbq, Bq, X9⟩
      replace B1 := X9.keep B1
      replace B4 := X9.keep B4
      replace hown := own_ext hown X9
      replace hps := hps.ext X9
      replace hbs := Nat.le_trans hbs X9.size
      replace E := E.ext X9
      refine s_buildSlice (ps := [(0, (.pointer (some ⟨bq, 0, none⟩)))]) (c := #[(.pointer (some ⟨bq, 0, none⟩))]) (by decide) rfl Tryd.underlying89 siz68 zer68 (by decide) (by decide) (by kernel_rfl) ?_
      intro b5 w5 N5
      have F5 := N5.ge E
      have O5_b1 := N5.lt B1
      have O5_b4 := N5.lt B4
      have O5_bq := N5.lt Bq
      replace B1 := N5.keep B1
      replace B4 := N5.keep B4
      replace Bq := N5.keep Bq
      replace hown := own_ext hown N5.ext
      replace hps := hps.ext N5.ext
      replace hbs := Nat.le_trans hbs N5.ext.size
      replace E := E.ext N5.ext
      have B5 := N5.blk
      refine s_append (base := base) (n := k) (m := 1) (xs := ptrs) (news := [(.pointer (some ⟨bq, 0, none⟩))]) (size := 1) (bytes := 8) (v := (.slice la k lc)) (by decide) Tryd.underlying89 siz68 byt68 zer68 rfl (by decide) rfl hown rfl (rfl) (B5.cells rfl) (by simp [Value.oneCell']) (by unfold maxLen; omega) (by omega) (hbs) ?_
      intro v9 w10 Ov9 Cv9 Dv9
      replace B1 := Cv9.keep (fun h => by have := (hown.lt _ h).1; omega) B1
      replace E := E.step Cv9 (fun x hx h => absurd (hown.lt x h).1 (by omega))
      obtain ⟨la2, lc2, rfl⟩ := own_form Ov9
      have Bq2 := Cv9.keep (fun h => absurd (own_elem hown h Bq) (by decide)) Bq
      have hps2 := (hps.chg Cv9 (fun b R hB h => absurd (own_elem hown h hB) (by decide))).snoc Bq2 (by have := N4.size; have := N4.eq; omega)
      have hbs2 := Nat.le_trans hbs Cv9.size
      refine WpL_val rfl rfl (by decide) (r_assign (v := (.slice la2 (k + 1) lc2)) rfl) ?_
      refine WpL_nil ?_
      refine inB_normal ?_
      refine thn_normal ?_
      refine Wp_region ?_
      refine WpL_val rfl rfl (by decide) (r_add (k := .i64) (a := ((k : Nat) : Int)) (b := 1) (c := ((k : Nat) : Int) + 1) rfl rfl (wI64 (by omega))) ?_
      refine WpL_val rfl rfl (by decide) (r_move (v := (.int .i64 (((k : Nat) : Int) + 1))) rfl) ?_
      refine WpL_nil ?_
      refine thn_normal ?_
      exact ⟨t.args.length - (k + 1), by omega, k + 1, la2, lc2, ptrs ++ [.pointer (some ⟨bq, 0, none⟩)], Fits.out ⟨rfl, rfl, rfl, rfl, rfl, rfl, rfl, trivial⟩, E, B1, (by omega), Ov9, (by rw [List.take_add_one, hx]; simpa using hps2), hbs2, rfl⟩
    · have khlt := hlt
      replace hlt := of_decide_eq_false hlt
      obtain rfl : k = t.args.length := by omega
      rw [List.take_length] at hps
      have hz2 : w0.heap.size ≤ W2.heap.size := E.size
      have hcl : 0 < t.args.length → ∃ g, la = some ⟨g, 0, none⟩ ∧ CellsAt W2 g 0 ptrs := fun h => let ⟨g, h1, _, h2⟩ := own_cells hown h; ⟨g, h1, h2⟩
      have E2 : Chg none1 W2 W2 := Chg.refl _ _
      refine Wp_exit ?_
      refine thn_exit ?_
      refine thn_exit ?_
      refine inB_here ?_
      refine thn_normal ?_
      refine Wp_seq_region ?_
      refine WpL_val rfl rfl (by decide) (r_build (ps := []) (v := (.agg #[(.int .u32 0), (.int .u32 0), (.int .u32 0), (.int .u32 0), (.int .u32 0), (.int .u32 0), (.int .u32 0), (.int .u32 0), (.int .u32 0), (.int .u32 0), (.int .u32 0), (.int .u32 0), (.int .u32 0), (.int .u32 0), (.int .u32 0), (.int .u32 0), (.int .u32 0), (.int .u32 0), (.int .u32 0), (.int .u32 0), (.int .u32 0), (.int .u32 0), (.int .u32 0), (.int .u32 0), (.int .u32 0)])) rfl (by kernel_rfl)) ?_
      refine s_box (v := (.agg #[(.int .u32 0), (.int .u32 0), (.int .u32 0), (.int .u32 0), (.int .u32 0), (.int .u32 0), (.int .u32 0), (.int .u32 0), (.int .u32 0), (.int .u32 0), (.int .u32 0), (.int .u32 0), (.int .u32 0), (.int .u32 0), (.int .u32 0), (.int .u32 0), (.int .u32 0), (.int .u32 0), (.int .u32 0), (.int .u32 0), (.int .u32 0), (.int .u32 0), (.int .u32 0), (.int .u32 0), (.int .u32 0)])) (c := #[(.int .u32 0), (.int .u32 0), (.int .u32 0), (.int .u32 0), (.int .u32 0), (.int .u32 0), (.int .u32 0), (.int .u32 0), (.int .u32 0), (.int .u32 0), (.int .u32 0), (.int .u32 0), (.int .u32 0), (.int .u32 0), (.int .u32 0), (.int .u32 0), (.int .u32 0), (.int .u32 0), (.int .u32 0), (.int .u32 0), (.int .u32 0), (.int .u32 0), (.int .u32 0), (.int .u32 0), (.int .u32 0)]) (by decide) rfl rfl ?_
      intro b6 w6 N6
      have F6 := N6.ge E
      have F6_E2 := N6.ge E2
      have O6_b1 := N6.lt B1
      replace B1 := N6.keep B1
      replace E := E.ext N6.ext
      have B6 := N6.blk
      replace E2 := E2.ext N6.ext
      refine WpL_val rfl rfl (by decide) (r_assign (v := (.pointer (some ⟨b6, 0, none⟩))) rfl) ?_
      refine WpL_nil ?_
      refine Wp_seq ?_
      refine Wp_seq_region ?_
      refine WpL_val rfl rfl (by decide) (r_fieldAddr (b := b1) (o := 0) (o' := 0) rfl Tryd.underlying27 rfl siz3 rfl) ?_
      refine WpL_val rfl rfl (by decide) (r_load (v := (.int .i64 t.kind)) rfl flat3 (B1.cell rfl)) ?_
      refine WpL_nil ?_
      refine Wp_block ?_
      refine Wp_seq_region ?_
      refine WpL_val rfl rfl (by decide) (r_eql (k := .i64) (a := t.kind) (b := 1) rfl rfl) ?_
      refine WpL_val rfl rfl (by decide) (r_assign (v := (.bool (decide ((t.kind : Int) = 1)))) rfl) ?_
      refine WpL_nil ?_
      refine Wp_cond (b := decide ((t.kind : Int) = 1)) rfl (fun h1 => ?_) (fun h1 => ?_)
      · have kh1 := h1
        replace h1 := of_decide_eq_true h1
        have hK : relOf text t = idR text.length := by rw [hR]; simp [relK, h1]
        refine Wp_seq_region ?_
        refine WpL_val rfl rfl (by decide) (r_move (v := (.int .i64 ((text.length : Nat) : Int))) rfl) ?_
        refine WpL_enter rfl rfl (by decide) (r_callF (vs := [(.int .i64 ((text.length : Nat) : Int))]) Tryd.func65 nm65 bd65 rfl) (rsame_c _ text.length hn) ?_
        rintro _ w9 ⟨bq, rfl, hbq, Bq, X9⟩
        replace B1 := X9.keep B1
        replace B6 := X9.keep B6
        replace E := E.ext X9
        replace E2 := E2.ext X9
        refine WpL_val rfl rfl (by decide) (r_assign (v := (.pointer (some ⟨bq, 0, none⟩))) rfl) ?_
        refine WpL_nil ?_
        refine Wp_ret ?_
        refine inB_ret ?_
        refine thn_ret ?_
        refine fin_tmp Tryd.results40 (v := (.pointer (some ⟨bq, 0, none⟩))) rfl ?_
        exact ⟨bq, rfl, by have := N6.size; omega, by rw [hK]; exact Bq, E⟩
      · have kh1 := h1
        replace h1 := of_decide_eq_false h1
        replace B6 : Blk w6 b6 (rowArr noR) TR := B6
        refine Wp_seq_region ?_
        refine WpL_val rfl rfl (by decide) (r_eql (k := .i64) (a := t.kind) (b := 2) rfl rfl) ?_
        refine WpL_val rfl rfl (by decide) (r_assign (v := (.bool (decide ((t.kind : Int) = 2)))) rfl) ?_
        refine WpL_nil ?_
        refine Wp_cond (b := decide ((t.kind : Int) = 2)) rfl (fun h2 => ?_) (fun h2 => ?_)
        · have kh2 := h2
          replace h2 := of_decide_eq_true h2
          have hK : relOf text t = setR text t.set := by rw [hR]; simp [relK, h2]
          rw [show rowArr noR = rowArr (fun i' j => decide (i' < 0) && setR text t.set i' j) from rowArr_congr fun i _ j _ => by simp [noR]] at B6
          refine Wp_seq_region ?_
          refine WpL_val rfl rfl (by decide) (r_move (v := (.slice ta text.length tc)) rfl) ?_
          refine WpL_val rfl rfl (by decide) (r_lenSlice (ad := ta) (n := text.length) (cap := tc) Tryd.underlying22 rfl) ?_
          refine WpL_val rfl rfl (by decide) (r_move (v := (.int .i64 0)) rfl) ?_
          refine WpL_nil ?_
          refine Wp_block ?_
          refine Wp_loop (fun nn_ σ W9 => ∃ (i : Nat), (∃ jj_, σ = upds jj_ [(2, (.pointer (some ⟨b1, 0, none⟩))), (9, (.pointer (some ⟨b6, 0, none⟩))), (49, (.slice ta text.length tc)), (50, (.int .i64 ((text.length : Nat) : Int))), (51, (.int .i64 ((i : Nat) : Int)))]) ∧ Chg none1 w0 W9 ∧ Chg none1 W2 W9 ∧ Blk W9 b1 #[(.int .i64 t.kind), (.slice sa t.set.length sc), (.slice aa t.args.length ac), (.int .i64 t.mn), (.int .i64 t.mx), (.bool t.neg)] 27 ∧ Blk W9 b6 (rowArr fun i' j => decide (i' < i) && setR text t.set i' j) TR ∧ (i ≤ text.length) ∧ nn_ = text.length - i) (n := text.length - 0) ?_ ?_
          · exact ⟨0, Fits.out ⟨rfl, rfl, rfl, rfl, rfl, trivial⟩, E, E2, B1, B6, Nat.zero_le _, rfl⟩
          · clear E E2 B1 B6
            rintro _ _ W9 ⟨i, ⟨j9, rfl⟩, E, E2, B1, B6, hi, rfl⟩
            refine Wp_seq_region ?_
            refine WpL_val rfl rfl (by decide) (r_lss (k := .i64) (a := ((i : Nat) : Int)) (b := ((text.length : Nat) : Int)) rfl rfl) ?_
            refine WpL_nil ?_
            refine Wp_seq ?_
            refine Wp_cond (b := decide ((((i : Nat) : Int) : Int) < ((text.length : Nat) : Int))) rfl (fun hlt2 => ?_) (fun hlt2 => ?_)
            · have khlt2 := hlt2
              replace hlt2 := of_decide_eq_true hlt2
              obtain ⟨c, hc⟩ := get_of_lt (l := text) (i := i) (by omega)
              obtain ⟨tb, to, rfl, htc⟩ := ints_cells htx (by omega)
              refine Wp_skip ?_
              refine thn_normal ?_
              refine Wp_seq ?_
              refine Wp_block ?_
              refine Wp_seq_region ?_
              refine WpL_val rfl rfl (by decide) (r_move (v := (.int .i64 ((i : Nat) : Int))) rfl) ?_
              refine WpL_val rfl rfl (by decide) (r_indexSlice (b := tb) (o := to) (len := text.length) (cap := tc) (i := i) (o' := to + i) rfl rfl rfl Tryd.underlying22 siz3 (by omega) (by omega)) ?_
              refine WpL_val rfl rfl (by decide) (r_load (v := (.int .i64 c)) rfl flat3 (E.cell (fun f => f) (htc i c hc))) ?_
              refine WpL_val rfl rfl (by decide) (r_assign (v := (.int .i64 ((i : Nat) : Int))) rfl) ?_
              refine WpL_val rfl rfl (by decide) (r_assign (v := (.int .i64 c)) rfl) ?_
              refine WpL_nil ?_
              refine Wp_seq_region ?_
              refine WpL_val rfl rfl (by decide) (r_fieldAddr (b := b1) (o := 0) (o' := 1) rfl Tryd.underlying27 rfl siz24 rfl) ?_
              refine WpL_val rfl rfl (by decide) (r_load (v := (.slice sa t.set.length sc)) rfl flat24 (B1.cell rfl)) ?_
              refine WpL_val rfl rfl (by decide) (r_move (v := (.int .i64 c)) rfl) ?_
              refine WpL_enter rfl rfl (by decide) (r_callF (vs := [(.slice sa t.set.length sc), (.int .i64 c)]) Tryd.func66 nm66 bd66 rfl) (in_c _ (.slice sa t.set.length sc) t.set c (hset.ext E)) ?_
              rintro _ w19 ⟨rfl, X19⟩
              replace B1 := X19.keep B1
              replace B6 := X19.keep B6
              replace E := E.ext X19
              replace E2 := E2.ext X19
              refine WpL_nil ?_
              refine Wp_cond (b := inS t.set c) rfl (fun hin => ?_) (fun hin => ?_)
              · have khin := hin
                refine Wp_draw 7 mixed (by kernel_rfl) ?_
                intro w12 X12 _
                replace B1 := X12.keep B1
                replace B6 := X12.keep B6
                replace E := E.ext X12
                replace E2 := E2.ext X12
                refine WpT_val rfl rfl (by decide) (r_move (v := (.pointer (some ⟨b6, 0, none⟩))) rfl) ?_
                refine WpT_val rfl rfl (by decide) (r_move (v := (.int .i64 ((i : Nat) : Int))) rfl) ?_
                refine WpT_val rfl rfl (by decide) (r_move (v := (.int .i64 ((i : Nat) : Int))) rfl) ?_
                refine WpT_val rfl rfl (by decide) (r_add (k := .i64) (a := ((i : Nat) : Int)) (b := 1) (c := ((i : Nat) : Int) + 1) rfl rfl (wI64 (by omega))) ?_
                refine WpT_val rfl rfl (by decide) (r_shl (k := .u32) (a := 1) (b := ((i : Nat) : Int) + 1) (c := ((2 ^ (i + 1) : Nat) : Int)) (k' := .i64) rfl rfl (by omega) (shl1 (k := i + 1) (by omega))) ?_
                refine WpT_val rfl rfl (by decide) (r_nilCheck (a := ⟨b6, 0, none⟩) rfl) ?_
                refine WpT_val rfl rfl (by decide) (r_indexArr (b := b6) (o := 0) (i := i) (o' := i) rfl rfl rfl Tryd.underlying91 siz70 (by omega) (by omega)) ?_
                refine WpT_zero ?_
                refine s_store (b := b6) (o := i) (c' := rowArr fun i' j => decide (i' < i + 1) && setR text t.set i' j) (v := (.int .u32 ((2 ^ (i + 1) : Nat) : Int))) rfl rfl rfl siz70 B6 (by rw [rowArr_size]; omega) (rowArr_set (by omega) (by rw [mask_one (n := 25) (i := i + 1) (by omega), mask_congr (g := fun j => decide (i < i + 1) && setR text t.set i j) (fun j _ => by simp [setR, hc, hin])]) (fun i' _ hne j _ => by rw [Bool.eq_iff_iff]; simp; omega)) ?_
                intro w13 S13
                replace B1 := S13.keep (by omega) B1
                replace E := S13.step E (by first | exact Or.inl (by omega) | exact Or.inr rfl | exact Or.inr (by assumption) | exact Or.inr (by simp) | exact Or.inr (by omega) | exact Or.inr (by dsimp only; omega))
                replace E2 := S13.step E2 (Or.inl (by omega))
                replace B6 := S13.blk
                refine WpL_nil ?_
                refine inB_normal ?_
                refine thn_normal ?_
                refine Wp_region ?_
                refine WpL_val rfl rfl (by decide) (r_add (k := .i64) (a := ((i : Nat) : Int)) (b := 1) (c := ((i : Nat) : Int) + 1) rfl rfl (wI64 (by omega))) ?_
                refine WpL_val rfl rfl (by decide) (r_move (v := (.int .i64 (((i : Nat) : Int) + 1))) rfl) ?_
                refine WpL_nil ?_
                refine thn_normal ?_
                exact ⟨text.length - (i + 1), by omega, i + 1, Fits.out ⟨rfl, rfl, rfl, rfl, rfl, trivial⟩, E, E2, B1, B6, (by omega), rfl⟩
              · have khin := hin
                rw [show rowArr (fun i' j => decide (i' < i) && setR text t.set i' j) = rowArr (fun i' j => decide (i' < i + 1) && setR text t.set i' j) from rowArr_congr fun i' _ j _ => by rcases Nat.lt_trichotomy i' i with h | h | h; simp [h, show i' < i + 1 by omega]; subst h; simp [setR, hc, hin]; simp [show ¬ i' < i by omega, show ¬ i' < i + 1 by omega]] at B6
                refine Wp_skip ?_
                refine inB_normal ?_
                refine thn_normal ?_
                refine Wp_region ?_
                refine WpL_val rfl rfl (by decide) (r_add (k := .i64) (a := ((i : Nat) : Int)) (b := 1) (c := ((i : Nat) : Int) + 1) rfl rfl (wI64 (by omega))) ?_
                refine WpL_val rfl rfl (by decide) (r_move (v := (.int .i64 (((i : Nat) : Int) + 1))) rfl) ?_
                refine WpL_nil ?_
                refine thn_normal ?_
                exact ⟨text.length - (i + 1), by omega, i + 1, Fits.out ⟨rfl, rfl, rfl, rfl, rfl, trivial⟩, E, E2, B1, B6, (by omega), rfl⟩
            · have khlt2 := hlt2
              replace hlt2 := of_decide_eq_false hlt2
              obtain rfl : i = text.length := by omega
              rw [show rowArr (fun i' j => decide (i' < text.length) && setR text t.set i' j) = rowArr (setR text t.set) from rowArr_congr fun i' _ j _ => by by_cases h : i' < text.length; simp [h]; simp [h, setR]] at B6
              refine Wp_exit ?_
              refine thn_exit ?_
              refine thn_exit ?_
              refine inB_here ?_
              refine inB_normal ?_
              refine thn_normal ?_
              refine Wp_seq_region ?_
              refine WpL_val rfl rfl (by decide) (r_move (v := (.pointer (some ⟨b6, 0, none⟩))) rfl) ?_
              refine WpL_val rfl rfl (by decide) (r_assign (v := (.pointer (some ⟨b6, 0, none⟩))) rfl) ?_
              refine WpL_nil ?_
              refine Wp_ret ?_
              refine fin_tmp Tryd.results40 (v := (.pointer (some ⟨b6, 0, none⟩))) rfl ?_
              exact ⟨b6, rfl, by omega, by rw [hK]; exact B6, E⟩
        · have kh2 := h2
          replace h2 := of_decide_eq_false h2
          refine Wp_seq_region ?_
          refine WpL_val rfl rfl (by decide) (r_eql (k := .i64) (a := t.kind) (b := 3) rfl rfl) ?_
          refine WpL_val rfl rfl (by decide) (r_assign (v := (.bool (decide ((t.kind : Int) = 3)))) rfl) ?_
          refine WpL_nil ?_
          refine Wp_cond (b := decide ((t.kind : Int) = 3)) rfl (fun h3 => ?_) (fun h3 => ?_)
          · have kh3 := h3
            replace h3 := of_decide_eq_true h3
            have hK : relOf text t = (t.args.map (relOf text)).foldl (fun a x => thenR a x text.length) (idR text.length) := by rw [hR]; simp [relK, h3]
            refine Wp_seq_region ?_
            refine WpL_val rfl rfl (by decide) (r_move (v := (.int .i64 ((text.length : Nat) : Int))) rfl) ?_
            refine WpL_enter rfl rfl (by decide) (r_callF (vs := [(.int .i64 ((text.length : Nat) : Int))]) Tryd.func65 nm65 bd65 rfl) (rsame_c _ text.length hn) ?_
            rintro _ w29 ⟨bo, rfl, hbo, Bo, X29⟩
            replace B1 := X29.keep B1
            replace B6 := X29.keep B6
            replace E := E.ext X29
            replace E2 := E2.ext X29
            have hbo0 : w0.heap.size ≤ bo := by have := N6.size; omega
            refine WpL_val rfl rfl (by decide) (r_assign (v := (.pointer (some ⟨bo, 0, none⟩))) rfl) ?_
            refine WpL_nil ?_
            refine Wp_seq_region ?_
            refine WpL_val rfl rfl (by decide) (r_move (v := (.slice la t.args.length lc)) rfl) ?_
            refine WpL_val rfl rfl (by decide) (r_lenSlice (ad := la) (n := t.args.length) (cap := lc) Tryd.underlying89 rfl) ?_
            refine WpL_val rfl rfl (by decide) (r_move (v := (.int .i64 0)) rfl) ?_
            refine WpL_nil ?_
            refine Wp_block ?_
            refine Wp_loop (fun nn_ σ W15 => ∃ (i : Nat) (ob : Nat), (∃ jj_, σ = upds jj_ [(5, (.int .i64 ((text.length : Nat) : Int))), (72, (.slice la t.args.length lc)), (73, (.int .i64 ((t.args.length : Nat) : Int))), (74, (.int .i64 ((i : Nat) : Int))), (9, (.pointer (some ⟨ob, 0, none⟩)))]) ∧ Chg none1 w0 W15 ∧ Chg none1 W2 W15 ∧ Blk W15 b1 #[(.int .i64 t.kind), (.slice sa t.set.length sc), (.slice aa t.args.length ac), (.int .i64 t.mn), (.int .i64 t.mx), (.bool t.neg)] 27 ∧ Blk W15 b6 (rowArr noR) TR ∧ (i ≤ t.args.length) ∧ (w0.heap.size ≤ ob) ∧ (Blk W15 ob (rowArr (((t.args.map (relOf text)).take i).foldl (fun a x => thenR a x text.length) (idR text.length))) TR) ∧ nn_ = t.args.length - i) (n := t.args.length - 0) ?_ ?_
            · exact ⟨0, bo, Fits.out ⟨rfl, rfl, rfl, rfl, rfl, trivial⟩, E, E2, B1, B6, Nat.zero_le _, hbo0, Bo, rfl⟩
            · clear E E2 B1 B6
              rintro _ _ W15 ⟨i, ob, ⟨j15, rfl⟩, E, E2, B1, B6, hi, hob, Bo, rfl⟩
              refine Wp_seq_region ?_
              refine WpL_val rfl rfl (by decide) (r_lss (k := .i64) (a := ((i : Nat) : Int)) (b := ((t.args.length : Nat) : Int)) rfl rfl) ?_
              refine WpL_nil ?_
              refine Wp_seq ?_
              refine Wp_cond (b := decide ((((i : Nat) : Int) : Int) < ((t.args.length : Nat) : Int))) rfl (fun hlt3 => ?_) (fun hlt3 => ?_)
              · have khlt3 := hlt3
                replace hlt3 := of_decide_eq_true hlt3
                obtain ⟨R, hRi⟩ := get_of_lt (l := t.args.map (relOf text)) (i := i) (by simp; omega)
                obtain ⟨g, rfl, hg⟩ := hcl (by omega)
                obtain ⟨bx, hpx, Bx, _⟩ := hps.2 i R hRi
                refine Wp_skip ?_
                refine thn_normal ?_
                refine Wp_seq ?_
                refine Wp_block ?_
                refine Wp_seq_region ?_
                refine WpL_val rfl rfl (by decide) (r_indexSlice (b := g) (o := 0) (len := t.args.length) (cap := lc) (i := i) (o' := 0 + i) rfl rfl rfl Tryd.underlying89 siz68 (by omega) (by omega)) ?_
                refine WpL_val rfl rfl (by decide) (r_load (v := (.pointer (some ⟨bx, 0, none⟩))) rfl flat68 (E2.cell (fun f => f) (hg i _ hpx))) ?_
                refine WpL_val rfl rfl (by decide) (r_assign (v := (.pointer (some ⟨bx, 0, none⟩))) rfl) ?_
                refine WpL_nil ?_
                refine Wp_region ?_
                refine WpL_val rfl rfl (by decide) (r_move (v := (.pointer (some ⟨ob, 0, none⟩))) rfl) ?_
                refine WpL_val rfl rfl (by decide) (r_move (v := (.pointer (some ⟨bx, 0, none⟩))) rfl) ?_
                refine WpL_val rfl rfl (by decide) (r_move (v := (.int .i64 ((text.length : Nat) : Int))) rfl) ?_
                refine WpL_enter rfl rfl (by decide) (r_callF (vs := [(.pointer (some ⟨ob, 0, none⟩)), (.pointer (some ⟨bx, 0, none⟩)), (.int .i64 ((text.length : Nat) : Int))]) Tryd.func67 nm67 bd67 rfl) (then_c _ ob bx text.length _ R hn Bo (E2.keep (fun f => f) Bx) (hT.ext E)) ?_
                rintro _ w39 ⟨ob2, rfl, hob2, Bo2, X39⟩
                replace B1 := X39.keep B1
                replace B6 := X39.keep B6
                replace E := E.ext X39
                replace E2 := E2.ext X39
                refine WpL_val rfl rfl (by decide) (r_assign (v := (.pointer (some ⟨ob2, 0, none⟩))) rfl) ?_
                refine WpL_nil ?_
                refine inB_normal ?_
                refine thn_normal ?_
                refine Wp_region ?_
                refine WpL_val rfl rfl (by decide) (r_add (k := .i64) (a := ((i : Nat) : Int)) (b := 1) (c := ((i : Nat) : Int) + 1) rfl rfl (wI64 (by omega))) ?_
                refine WpL_val rfl rfl (by decide) (r_move (v := (.int .i64 (((i : Nat) : Int) + 1))) rfl) ?_
                refine WpL_nil ?_
                refine thn_normal ?_
                exact ⟨t.args.length - (i + 1), by omega, i + 1, ob2, Fits.out ⟨rfl, rfl, rfl, rfl, rfl, trivial⟩, E, E2, B1, B6, (by omega), (by have := Bo.lt; omega), (by rw [fold_take hRi]; exact Bo2), rfl⟩
              · have khlt3 := hlt3
                replace hlt3 := of_decide_eq_false hlt3
                obtain rfl : i = t.args.length := by omega
                rw [List.take_of_length_le (by simp)] at Bo
                refine Wp_exit ?_
                refine thn_exit ?_
                refine thn_exit ?_
                refine inB_here ?_
                refine inB_normal ?_
                refine thn_normal ?_
                refine Wp_seq_region ?_
                refine WpL_val rfl rfl (by decide) (r_move (v := (.pointer (some ⟨ob, 0, none⟩))) rfl) ?_
                refine WpL_val rfl rfl (by decide) (r_assign (v := (.pointer (some ⟨ob, 0, none⟩))) rfl) ?_
                refine WpL_nil ?_
                refine Wp_ret ?_
                refine fin_tmp Tryd.results40 (v := (.pointer (some ⟨ob, 0, none⟩))) rfl ?_
                exact ⟨ob, rfl, hob, by rw [hK]; exact Bo, E⟩
          · have kh3 := h3
            replace h3 := of_decide_eq_false h3
            refine Wp_seq_region ?_
            refine WpL_val rfl rfl (by decide) (r_eql (k := .i64) (a := t.kind) (b := 4) rfl rfl) ?_
            refine WpL_val rfl rfl (by decide) (r_assign (v := (.bool (decide ((t.kind : Int) = 4)))) rfl) ?_
            refine WpL_nil ?_
            refine Wp_cond (b := decide ((t.kind : Int) = 4)) rfl (fun h4 => ?_) (fun h4 => ?_)
            · have kh4 := h4
              replace h4 := of_decide_eq_true h4
              have hK : relOf text t = (t.args.map (relOf text)).foldl orR noR := by rw [hR]; simp [relK, h4]
              refine Wp_seq_region ?_
              refine WpL_val rfl rfl (by decide) (r_move (v := (.slice la t.args.length lc)) rfl) ?_
              refine WpL_val rfl rfl (by decide) (r_lenSlice (ad := la) (n := t.args.length) (cap := lc) Tryd.underlying89 rfl) ?_
              refine WpL_val rfl rfl (by decide) (r_move (v := (.int .i64 0)) rfl) ?_
              refine WpL_nil ?_
              refine Wp_block ?_
              refine Wp_loop (fun nn_ σ W18 => ∃ (i : Nat) (ob : Nat), (∃ jj_, σ = upds jj_ [(85, (.slice la t.args.length lc)), (86, (.int .i64 ((t.args.length : Nat) : Int))), (87, (.int .i64 ((i : Nat) : Int))), (9, (.pointer (some ⟨ob, 0, none⟩)))]) ∧ Chg none1 w0 W18 ∧ Chg none1 W2 W18 ∧ Blk W18 b1 #[(.int .i64 t.kind), (.slice sa t.set.length sc), (.slice aa t.args.length ac), (.int .i64 t.mn), (.int .i64 t.mx), (.bool t.neg)] 27 ∧ Blk W18 b6 (rowArr noR) TR ∧ (i ≤ t.args.length) ∧ (w0.heap.size ≤ ob) ∧ (Blk W18 ob (rowArr (((t.args.map (relOf text)).take i).foldl orR noR)) TR) ∧ nn_ = t.args.length - i) (n := t.args.length - 0) ?_ ?_
              · exact ⟨0, b6, Fits.out ⟨rfl, rfl, rfl, rfl, trivial⟩, E, E2, B1, B6, Nat.zero_le _, (by omega), B6, rfl⟩
              · clear E E2 B1 B6
                rintro _ _ W18 ⟨i, ob, ⟨j18, rfl⟩, E, E2, B1, B6, hi, hob, Bo, rfl⟩
                refine Wp_seq_region ?_
                refine WpL_val rfl rfl (by decide) (r_lss (k := .i64) (a := ((i : Nat) : Int)) (b := ((t.args.length : Nat) : Int)) rfl rfl) ?_
                refine WpL_nil ?_
                refine Wp_seq ?_
                refine Wp_cond (b := decide ((((i : Nat) : Int) : Int) < ((t.args.length : Nat) : Int))) rfl (fun hlt4 => ?_) (fun hlt4 => ?_)
                · have khlt4 := hlt4
                  replace hlt4 := of_decide_eq_true hlt4
                  obtain ⟨R, hRi⟩ := get_of_lt (l := t.args.map (relOf text)) (i := i) (by simp; omega)
                  obtain ⟨g, rfl, hg⟩ := hcl (by omega)
                  obtain ⟨bx, hpx, Bx, _⟩ := hps.2 i R hRi
                  refine Wp_skip ?_
                  refine thn_normal ?_
                  refine Wp_seq ?_
                  refine Wp_block ?_
                  refine Wp_seq_region ?_
                  refine WpL_val rfl rfl (by decide) (r_indexSlice (b := g) (o := 0) (len := t.args.length) (cap := lc) (i := i) (o' := 0 + i) rfl rfl rfl Tryd.underlying89 siz68 (by omega) (by omega)) ?_
                  refine WpL_val rfl rfl (by decide) (r_load (v := (.pointer (some ⟨bx, 0, none⟩))) rfl flat68 (E2.cell (fun f => f) (hg i _ hpx))) ?_
                  refine WpL_val rfl rfl (by decide) (r_assign (v := (.pointer (some ⟨bx, 0, none⟩))) rfl) ?_
                  refine WpL_nil ?_
                  refine Wp_region ?_
                  refine WpL_val rfl rfl (by decide) (r_move (v := (.pointer (some ⟨ob, 0, none⟩))) rfl) ?_
                  refine WpL_val rfl rfl (by decide) (r_move (v := (.pointer (some ⟨bx, 0, none⟩))) rfl) ?_
                  refine WpL_enter rfl rfl (by decide) (r_callF (vs := [(.pointer (some ⟨ob, 0, none⟩)), (.pointer (some ⟨bx, 0, none⟩))]) Tryd.func68 nm68 bd68 rfl) (or_c _ ob bx _ R Bo (E2.keep (fun f => f) Bx)) ?_
                  rintro _ w39 ⟨ob2, rfl, hob2, Bo2, X39⟩
                  replace B1 := X39.keep B1
                  replace B6 := X39.keep B6
                  replace E := E.ext X39
                  replace E2 := E2.ext X39
                  refine WpL_val rfl rfl (by decide) (r_assign (v := (.pointer (some ⟨ob2, 0, none⟩))) rfl) ?_
                  refine WpL_nil ?_
                  refine inB_normal ?_
                  refine thn_normal ?_
                  refine Wp_region ?_
                  refine WpL_val rfl rfl (by decide) (r_add (k := .i64) (a := ((i : Nat) : Int)) (b := 1) (c := ((i : Nat) : Int) + 1) rfl rfl (wI64 (by omega))) ?_
                  refine WpL_val rfl rfl (by decide) (r_move (v := (.int .i64 (((i : Nat) : Int) + 1))) rfl) ?_
                  refine WpL_nil ?_
                  refine thn_normal ?_
                  exact ⟨t.args.length - (i + 1), by omega, i + 1, ob2, Fits.out ⟨rfl, rfl, rfl, rfl, trivial⟩, E, E2, B1, B6, (by omega), (by have := Bo.lt; omega), (by rw [fold_take hRi]; exact Bo2), rfl⟩
                · have khlt4 := hlt4
                  replace hlt4 := of_decide_eq_false hlt4
                  obtain rfl : i = t.args.length := by omega
                  rw [List.take_of_length_le (by simp)] at Bo
                  refine Wp_exit ?_
                  refine thn_exit ?_
                  refine thn_exit ?_
                  refine inB_here ?_
                  refine inB_normal ?_
                  refine thn_normal ?_
                  refine Wp_seq_region ?_
                  refine WpL_val rfl rfl (by decide) (r_move (v := (.pointer (some ⟨ob, 0, none⟩))) rfl) ?_
                  refine WpL_val rfl rfl (by decide) (r_assign (v := (.pointer (some ⟨ob, 0, none⟩))) rfl) ?_
                  refine WpL_nil ?_
                  refine Wp_ret ?_
                  refine fin_tmp Tryd.results40 (v := (.pointer (some ⟨ob, 0, none⟩))) rfl ?_
                  exact ⟨ob, rfl, hob, by rw [hK]; exact Bo, E⟩
            · have kh4 := h4
              replace h4 := of_decide_eq_false h4
              refine Wp_seq_region ?_
              refine WpL_val rfl rfl (by decide) (r_eql (k := .i64) (a := t.kind) (b := 7) rfl rfl) ?_
              refine WpL_val rfl rfl (by decide) (r_assign (v := (.bool (decide ((t.kind : Int) = 7)))) rfl) ?_
              refine WpL_nil ?_
              refine Wp_cond (b := decide ((t.kind : Int) = 7)) rfl (fun h7 => ?_) (fun h7 => ?_)
              · have kh7 := h7
                replace h7 := of_decide_eq_true h7
                have h2a := okRe_two hok (by omega)
                obtain ⟨g, rfl, hg⟩ := hcl (by omega)
                obtain ⟨R0, hR0⟩ := get_of_lt (l := t.args.map (relOf text)) (i := 0) (by simp; omega)
                obtain ⟨bz, hpz, Bz, hbz⟩ := hps.2 0 R0 hR0
                have hK : relOf text t = (t.args.map (relOf text)).foldl andR R0 := by rw [hR, ← head_get (d := noR) hR0]; simp only [relK, h7]; rfl
                refine Wp_seq_region ?_
                refine WpL_val rfl rfl (by decide) (r_move (v := (.pointer (some ⟨b6, 0, none⟩))) rfl) ?_
                refine WpL_val rfl rfl (by decide) (r_move (v := (.slice (some ⟨g, 0, none⟩) t.args.length lc)) rfl) ?_
                refine WpL_val rfl rfl (by decide) (r_indexSlice (b := g) (o := 0) (len := t.args.length) (cap := lc) (i := 0) (o' := 0) rfl rfl rfl Tryd.underlying89 siz68 (by omega) (by omega)) ?_
                refine WpL_val rfl rfl (by decide) (r_load (v := (.pointer (some ⟨bz, 0, none⟩))) rfl flat68 (E2.cell (fun f => f) (hg 0 _ hpz))) ?_
                refine WpL_val rfl rfl (by decide) (r_nilCheck (a := ⟨bz, 0, none⟩) rfl) ?_
                refine WpL_val rfl rfl (by decide) (r_loadAgg (vs := (rowArr R0).toList) rfl agg91 siz91 (by simp [rowArr]) ((E2.keep (fun f => f) Bz).cells (by simp only [List.drop_zero]; exact List.take_length))) ?_
                refine WpL_val rfl rfl (by decide) (r_nilCheck (a := ⟨b6, 0, none⟩) rfl) ?_
                refine s_storeAgg (b := b6) (o := 0) (n := 25) (c' := rowArr R0) (vs := ((rowArr R0).toList.toArray)) rfl rfl (by simpa using rowArr_one R0) siz91 (by simp [rowArr]) B6 (by rw [rowArr_size]; decide) (by simp [rowArr]) ?_
                intro w21 S21
                replace B1 := S21.keep (by omega) B1
                replace E := S21.step E (by first | exact Or.inl (by omega) | exact Or.inr rfl | exact Or.inr (by assumption) | exact Or.inr (by simp) | exact Or.inr (by omega) | exact Or.inr (by dsimp only; omega))
                replace E2 := S21.step E2 (Or.inl (by omega))
                replace B6 := S21.blk
                rw [show R0 = ((t.args.map (relOf text)).take 0).foldl andR R0 from rfl] at B6
                refine WpL_nil ?_
                refine Wp_seq_region ?_
                refine WpL_val rfl rfl (by decide) (r_move (v := (.slice (some ⟨g, 0, none⟩) t.args.length lc)) rfl) ?_
                refine WpL_val rfl rfl (by decide) (r_lenSlice (ad := some ⟨g, 0, none⟩) (n := t.args.length) (cap := lc) Tryd.underlying89 rfl) ?_
                refine WpL_val rfl rfl (by decide) (r_move (v := (.int .i64 0)) rfl) ?_
                refine WpL_nil ?_
                refine Wp_block ?_
                refine Wp_loop (fun nn_ σ W22 => ∃ (i : Nat), (∃ jj_, σ = upds jj_ [(9, (.pointer (some ⟨b6, 0, none⟩))), (104, (.slice (some ⟨g, 0, none⟩) t.args.length lc)), (105, (.int .i64 ((t.args.length : Nat) : Int))), (106, (.int .i64 ((i : Nat) : Int)))]) ∧ Chg none1 w0 W22 ∧ Chg none1 W2 W22 ∧ Blk W22 b1 #[(.int .i64 t.kind), (.slice sa t.set.length sc), (.slice aa t.args.length ac), (.int .i64 t.mn), (.int .i64 t.mx), (.bool t.neg)] 27 ∧ Blk W22 b6 (rowArr (((t.args.map (relOf text)).take i).foldl andR R0)) TR ∧ (i ≤ t.args.length) ∧ nn_ = t.args.length - i) (n := t.args.length - 0) ?_ ?_
                · exact ⟨0, Fits.out ⟨rfl, rfl, rfl, rfl, trivial⟩, E, E2, B1, B6, Nat.zero_le _, rfl⟩
                · clear E E2 B1 B6
                  rintro _ _ W22 ⟨i, ⟨j22, rfl⟩, E, E2, B1, B6, hi, rfl⟩
                  refine Wp_seq_region ?_
                  refine WpL_val rfl rfl (by decide) (r_lss (k := .i64) (a := ((i : Nat) : Int)) (b := ((t.args.length : Nat) : Int)) rfl rfl) ?_
                  refine WpL_nil ?_
                  refine Wp_seq ?_
                  refine Wp_cond (b := decide ((((i : Nat) : Int) : Int) < ((t.args.length : Nat) : Int))) rfl (fun hlt7 => ?_) (fun hlt7 => ?_)
                  · have khlt7 := hlt7
                    replace hlt7 := of_decide_eq_true hlt7
                    obtain ⟨R, hRi⟩ := get_of_lt (l := t.args.map (relOf text)) (i := i) (by simp; omega)
                    obtain ⟨bx, hpx, Bx, _⟩ := hps.2 i R hRi
                    have hft := fold_take (f := andR) (a := R0) hRi
                    generalize ((t.args.map (relOf text)).take i).foldl andR R0 = A at B6 hft
                    refine Wp_skip ?_
                    refine thn_normal ?_
                    refine Wp_seq ?_
                    refine Wp_block ?_
                    refine Wp_seq_region ?_
                    refine WpL_val rfl rfl (by decide) (r_indexSlice (b := g) (o := 0) (len := t.args.length) (cap := lc) (i := i) (o' := 0 + i) rfl rfl rfl Tryd.underlying89 siz68 (by omega) (by omega)) ?_
                    refine WpL_val rfl rfl (by decide) (r_load (v := (.pointer (some ⟨bx, 0, none⟩))) rfl flat68 (E2.cell (fun f => f) (hg i _ hpx))) ?_
                    refine WpL_val rfl rfl (by decide) (r_assign (v := (.pointer (some ⟨bx, 0, none⟩))) rfl) ?_
                    refine WpL_nil ?_
                    refine Wp_seq_region ?_
                    refine WpL_val rfl rfl (by decide) (r_move (v := (.int .i64 0)) rfl) ?_
                    refine WpL_nil ?_
                    refine Wp_block ?_
                    rw [show rowArr A = rowArr (fun i' j => if i' < 0 then andR A R i' j else A i' j) from rowArr_congr fun i' _ j _ => by simp] at B6
                    refine Wp_loop (fun nn_ σ W24 => ∃ (p : Nat), (∃ jj_, σ = upds jj_ [(9, (.pointer (some ⟨b6, 0, none⟩))), (17, (.pointer (some ⟨bx, 0, none⟩))), (104, (.slice (some ⟨g, 0, none⟩) t.args.length lc)), (105, (.int .i64 ((t.args.length : Nat) : Int))), (106, (.int .i64 ((i : Nat) : Int))), (110, (.int .i64 ((p : Nat) : Int)))]) ∧ Chg none1 w0 W24 ∧ Chg none1 W2 W24 ∧ Blk W24 b1 #[(.int .i64 t.kind), (.slice sa t.set.length sc), (.slice aa t.args.length ac), (.int .i64 t.mn), (.int .i64 t.mx), (.bool t.neg)] 27 ∧ Blk W24 b6 (rowArr fun i' j => if i' < p then andR A R i' j else A i' j) TR ∧ (p ≤ 25) ∧ nn_ = 25 - p) (n := 25 - 0) ?_ ?_
                    · exact ⟨0, Fits.out ⟨rfl, rfl, rfl, rfl, rfl, rfl, trivial⟩, E, E2, B1, B6, Nat.zero_le _, rfl⟩
                    · clear E E2 B1 B6
                      rintro _ _ W24 ⟨p, ⟨j24, rfl⟩, E, E2, B1, B6, hp, rfl⟩
                      refine Wp_seq_region ?_
                      refine WpL_val rfl rfl (by decide) (r_lss (k := .i64) (a := ((p : Nat) : Int)) (b := 25) rfl rfl) ?_
                      refine WpL_nil ?_
                      refine Wp_seq ?_
                      refine Wp_cond (b := decide ((((p : Nat) : Int) : Int) < 25)) rfl (fun hltp => ?_) (fun hltp => ?_)
                      · have khltp := hltp
                        replace hltp := of_decide_eq_true hltp
                        refine Wp_skip ?_
                        refine thn_normal ?_
                        refine Wp_seq ?_
                        refine Wp_block ?_
                        refine Wp_seq_region ?_
                        refine WpL_val rfl rfl (by decide) (r_move (v := (.int .i64 ((p : Nat) : Int))) rfl) ?_
                        refine WpL_val rfl rfl (by decide) (r_assign (v := (.int .i64 ((p : Nat) : Int))) rfl) ?_
                        refine WpL_nil ?_
                        refine Wp_draw 13 mixed (by kernel_rfl) ?_
                        intro w26 X26 _
                        replace B1 := X26.keep B1
                        replace B6 := X26.keep B6
                        replace E := E.ext X26
                        replace E2 := E2.ext X26
                        refine WpT_val rfl rfl (by decide) (r_move (v := (.pointer (some ⟨b6, 0, none⟩))) rfl) ?_
                        refine WpT_val rfl rfl (by decide) (r_move (v := (.int .i64 ((p : Nat) : Int))) rfl) ?_
                        refine WpT_val rfl rfl (by decide) (r_nilCheck (a := ⟨b6, 0, none⟩) rfl) ?_
                        refine WpT_val rfl rfl (by decide) (r_indexArr (b := b6) (o := 0) (i := p) (o' := p) rfl rfl rfl Tryd.underlying91 siz70 (by omega) (by omega)) ?_
                        refine WpT_val rfl rfl (by decide) (r_load (v := (.int .u32 ((maskN 25 (A p) : Nat) : Int))) rfl flat70 ((B6.cell (rowArr_get _ (by omega))).trans (by simp))) ?_
                        refine WpT_val rfl rfl (by decide) (r_move (v := (.pointer (some ⟨bx, 0, none⟩))) rfl) ?_
                        refine WpT_val rfl rfl (by decide) (r_move (v := (.int .i64 ((p : Nat) : Int))) rfl) ?_
                        refine WpT_val rfl rfl (by decide) (r_nilCheck (a := ⟨bx, 0, none⟩) rfl) ?_
                        refine WpT_val rfl rfl (by decide) (r_indexArr (b := bx) (o := 0) (i := p) (o' := p) rfl rfl rfl Tryd.underlying91 siz70 (by omega) (by omega)) ?_
                        refine WpT_val rfl rfl (by decide) (r_load (v := (.int .u32 ((maskN 25 (R p) : Nat) : Int))) rfl flat70 ((E2.keep (fun f => f) Bx).cell (rowArr_get _ (by omega)))) ?_
                        refine WpT_val rfl rfl (by decide) (r_bits (k := .u32) (a := ((maskN 25 (A p) : Nat) : Int)) (b := ((maskN 25 (R p) : Nat) : Int)) (v := .int .u32 ((maskN 25 (andR A R p) : Nat) : Int)) rfl rfl (by simp) ((bits_and _ _ (mask_lt32 _) (mask_lt32 _)).trans (by rw [mask_and]; rfl))) ?_
                        refine WpT_val rfl rfl (by decide) (r_nilCheck (a := ⟨b6, 0, none⟩) rfl) ?_
                        refine WpT_val rfl rfl (by decide) (r_indexArr (b := b6) (o := 0) (i := p) (o' := p) rfl rfl rfl Tryd.underlying91 siz70 (by omega) (by omega)) ?_
                        refine WpT_zero ?_
                        refine s_store (b := b6) (o := p) (c' := rowArr fun i' j => if i' < p + 1 then andR A R i' j else A i' j) (v := (.int .u32 ((maskN 25 (andR A R p) : Nat) : Int))) rfl rfl rfl siz70 B6 (by rw [rowArr_size]; omega) (rowArr_set (by omega) (by simp) (fun i' _ hne j _ => by by_cases h : i' < p; rw [if_pos h, if_pos (by omega)]; rw [if_neg h, if_neg (by omega)])) ?_
                        intro w27 S27
                        replace B1 := S27.keep (by omega) B1
                        replace E := S27.step E (by first | exact Or.inl (by omega) | exact Or.inr rfl | exact Or.inr (by assumption) | exact Or.inr (by simp) | exact Or.inr (by omega) | exact Or.inr (by dsimp only; omega))
                        replace E2 := S27.step E2 (Or.inl (by omega))
                        replace B6 := S27.blk
                        refine WpL_nil ?_
                        refine inB_normal ?_
                        refine thn_normal ?_
                        refine Wp_region ?_
                        refine WpL_val rfl rfl (by decide) (r_add (k := .i64) (a := ((p : Nat) : Int)) (b := 1) (c := ((p : Nat) : Int) + 1) rfl rfl (wI64 (by omega))) ?_
                        refine WpL_val rfl rfl (by decide) (r_move (v := (.int .i64 (((p : Nat) : Int) + 1))) rfl) ?_
                        refine WpL_nil ?_
                        refine thn_normal ?_
                        exact ⟨25 - (p + 1), by omega, p + 1, Fits.out ⟨rfl, rfl, rfl, rfl, rfl, rfl, trivial⟩, E, E2, B1, B6, (by omega), rfl⟩
                      · have khltp := hltp
                        replace hltp := of_decide_eq_false hltp
                        obtain rfl : p = 25 := by omega
                        rw [show rowArr (fun i' j => if i' < 25 then andR A R i' j else A i' j) = rowArr (andR A R) from rowArr_congr fun i h j _ => by rw [if_pos h], ← hft] at B6
                        refine Wp_exit ?_
                        refine thn_exit ?_
                        refine thn_exit ?_
                        refine inB_here ?_
                        refine inB_normal ?_
                        refine thn_normal ?_
                        refine Wp_region ?_
                        refine WpL_val rfl rfl (by decide) (r_add (k := .i64) (a := ((i : Nat) : Int)) (b := 1) (c := ((i : Nat) : Int) + 1) rfl rfl (wI64 (by omega))) ?_
                        refine WpL_val rfl rfl (by decide) (r_move (v := (.int .i64 (((i : Nat) : Int) + 1))) rfl) ?_
                        refine WpL_nil ?_
                        refine thn_normal ?_
                        exact ⟨t.args.length - (i + 1), by omega, i + 1, Fits.out ⟨rfl, rfl, rfl, rfl, trivial⟩, E, E2, B1, B6, (by omega), rfl⟩
                  · have khlt7 := hlt7
                    replace hlt7 := of_decide_eq_false hlt7
                    obtain rfl : i = t.args.length := by omega
                    rw [List.take_of_length_le (by simp)] at B6
                    refine Wp_exit ?_
                    refine thn_exit ?_
                    refine thn_exit ?_
                    refine inB_here ?_
                    refine inB_normal ?_
                    refine thn_normal ?_
                    refine Wp_seq_region ?_
                    refine WpL_val rfl rfl (by decide) (r_move (v := (.pointer (some ⟨b6, 0, none⟩))) rfl) ?_
                    refine WpL_val rfl rfl (by decide) (r_assign (v := (.pointer (some ⟨b6, 0, none⟩))) rfl) ?_
                    refine WpL_nil ?_
                    refine Wp_ret ?_
                    refine fin_tmp Tryd.results40 (v := (.pointer (some ⟨b6, 0, none⟩))) rfl ?_
                    exact ⟨b6, rfl, by omega, by rw [hK]; exact B6, E⟩
              · have kh7 := h7
                replace h7 := of_decide_eq_false h7
                refine Wp_seq_region ?_
                refine WpL_val rfl rfl (by decide) (r_eql (k := .i64) (a := t.kind) (b := 8) rfl rfl) ?_
                refine WpL_val rfl rfl (by decide) (r_assign (v := (.bool (decide ((t.kind : Int) = 8)))) rfl) ?_
                refine WpL_nil ?_
                refine Wp_cond (b := decide ((t.kind : Int) = 8)) rfl (fun h8 => ?_) (fun h8 => ?_)
                · have kh8 := h8
                  replace h8 := of_decide_eq_true h8
                  have h1a := okRe_one hok (by omega)
                  obtain ⟨g, rfl, hg⟩ := hcl (by omega)
                  obtain ⟨R0, hR0⟩ := get_of_lt (l := t.args.map (relOf text)) (i := 0) (by simp; omega)
                  obtain ⟨bz, hpz, Bz, hbz⟩ := hps.2 0 R0 hR0
                  have hK : relOf text t = notR text.length R0 := by rw [hR, ← head_get (d := noR) hR0]; simp only [relK, h8]; rfl
                  rw [show rowArr noR = rowArr (fun i' j => decide (i' < 0) && notR text.length R0 i' j) from rowArr_congr fun i _ j _ => by simp [noR]] at B6
                  refine Wp_seq_region ?_
                  refine WpL_val rfl rfl (by decide) (r_move (v := (.int .i64 ((text.length : Nat) : Int))) rfl) ?_
                  refine WpL_val rfl rfl (by decide) (r_add (k := .i64) (a := ((text.length : Nat) : Int)) (b := 1) (c := ((text.length : Nat) : Int) + 1) rfl rfl (wI64 (by omega))) ?_
                  refine WpL_val rfl rfl (by decide) (r_move (v := (.int .i64 0)) rfl) ?_
                  refine WpL_nil ?_
                  refine Wp_block ?_
                  refine Wp_loop (fun nn_ σ W29 => ∃ (i : Nat), (∃ jj_, σ = upds jj_ [(5, (.int .i64 ((text.length : Nat) : Int))), (6, (.slice (some ⟨g, 0, none⟩) t.args.length lc)), (9, (.pointer (some ⟨b6, 0, none⟩))), (131, (.int .i64 (((text.length : Nat) : Int) + 1))), (132, (.int .i64 ((i : Nat) : Int)))]) ∧ Chg none1 w0 W29 ∧ Chg none1 W2 W29 ∧ Blk W29 b1 #[(.int .i64 t.kind), (.slice sa t.set.length sc), (.slice aa t.args.length ac), (.int .i64 t.mn), (.int .i64 t.mx), (.bool t.neg)] 27 ∧ Blk W29 b6 (rowArr fun i' j => decide (i' < i) && notR text.length R0 i' j) TR ∧ (i ≤ text.length + 1) ∧ nn_ = text.length + 1 - i) (n := text.length + 1 - 0) ?_ ?_
                  · exact ⟨0, Fits.out ⟨rfl, rfl, rfl, rfl, rfl, trivial⟩, E, E2, B1, B6, Nat.zero_le _, rfl⟩
                  · clear E E2 B1 B6
                    rintro _ _ W29 ⟨i, ⟨j29, rfl⟩, E, E2, B1, B6, hi, rfl⟩
                    refine Wp_seq_region ?_
                    refine WpL_val rfl rfl (by decide) (r_lss (k := .i64) (a := ((i : Nat) : Int)) (b := ((text.length : Nat) : Int) + 1) rfl rfl) ?_
                    refine WpL_nil ?_
                    refine Wp_seq ?_
                    refine Wp_cond (b := decide ((((i : Nat) : Int) : Int) < ((text.length : Nat) : Int) + 1)) rfl (fun hlt8 => ?_) (fun hlt8 => ?_)
                    · have khlt8 := hlt8
                      replace hlt8 := of_decide_eq_true hlt8
                      have hq1 := pow_le25 (k := text.length + 1) (by omega)
                      have hq2 := pow_le25 (k := i) (by omega)
                      refine Wp_skip ?_
                      refine thn_normal ?_
                      refine Wp_seq ?_
                      refine Wp_block ?_
                      refine Wp_seq_region ?_
                      refine WpL_val rfl rfl (by decide) (r_move (v := (.int .i64 ((i : Nat) : Int))) rfl) ?_
                      refine WpL_val rfl rfl (by decide) (r_assign (v := (.int .i64 ((i : Nat) : Int))) rfl) ?_
                      refine WpL_nil ?_
                      refine Wp_draw 20 mixed (by kernel_rfl) ?_
                      intro w31 X31 _
                      replace B1 := X31.keep B1
                      replace B6 := X31.keep B6
                      replace E := E.ext X31
                      replace E2 := E2.ext X31
                      refine WpT_val rfl rfl (by decide) (r_move (v := (.pointer (some ⟨b6, 0, none⟩))) rfl) ?_
                      refine WpT_val rfl rfl (by decide) (r_move (v := (.int .i64 ((i : Nat) : Int))) rfl) ?_
                      refine WpT_val rfl rfl (by decide) (r_move (v := (.int .i64 ((text.length : Nat) : Int))) rfl) ?_
                      refine WpT_val rfl rfl (by decide) (r_add (k := .i64) (a := ((text.length : Nat) : Int)) (b := 1) (c := ((text.length : Nat) : Int) + 1) rfl rfl (wI64 (by omega))) ?_
                      refine WpT_val rfl rfl (by decide) (r_shl (k := .u32) (a := 1) (b := ((text.length : Nat) : Int) + 1) (c := ((2 ^ (text.length + 1) : Nat) : Int)) (k' := .i64) rfl rfl (by omega) (shl1 (k := text.length + 1) (by omega))) ?_
                      refine WpT_val rfl rfl (by decide) (r_sub (k := .u32) (a := ((2 ^ (text.length + 1) : Nat) : Int)) (b := 1) (c := ((2 ^ (text.length + 1) - 1 : Nat) : Int)) rfl rfl (sub1_u32 hq1.1 (by omega))) ?_
                      refine WpT_val rfl rfl (by decide) (r_move (v := (.int .i64 ((i : Nat) : Int))) rfl) ?_
                      refine WpT_val rfl rfl (by decide) (r_shl (k := .u32) (a := 1) (b := ((i : Nat) : Int)) (c := ((2 ^ i : Nat) : Int)) (k' := .i64) rfl rfl (by omega) (shl1 (k := i) (by omega))) ?_
                      refine WpT_val rfl rfl (by decide) (r_sub (k := .u32) (a := ((2 ^ i : Nat) : Int)) (b := 1) (c := ((2 ^ i - 1 : Nat) : Int)) rfl rfl (sub1_u32 hq2.1 (by omega))) ?_
                      refine WpT_val rfl rfl (by decide) (r_bits (k := .u32) (a := ((2 ^ (text.length + 1) - 1 : Nat) : Int)) (b := ((2 ^ i - 1 : Nat) : Int)) (v := .int .u32 (((2 ^ (text.length + 1) - 1) &&& (4294967295 - (2 ^ i - 1)) : Nat) : Int)) rfl rfl (by simp) (bits_andNot _ _ (by omega) (by omega))) ?_
                      refine WpT_val rfl rfl (by decide) (r_move (v := (.slice (some ⟨g, 0, none⟩) t.args.length lc)) rfl) ?_
                      refine WpT_val rfl rfl (by decide) (r_indexSlice (b := g) (o := 0) (len := t.args.length) (cap := lc) (i := 0) (o' := 0) rfl rfl rfl Tryd.underlying89 siz68 (by omega) (by omega)) ?_
                      refine WpT_val rfl rfl (by decide) (r_load (v := (.pointer (some ⟨bz, 0, none⟩))) rfl flat68 (E2.cell (fun f => f) (hg 0 _ hpz))) ?_
                      refine WpT_val rfl rfl (by decide) (r_move (v := (.int .i64 ((i : Nat) : Int))) rfl) ?_
                      refine WpT_val rfl rfl (by decide) (r_nilCheck (a := ⟨bz, 0, none⟩) rfl) ?_
                      refine WpT_val rfl rfl (by decide) (r_indexArr (b := bz) (o := 0) (i := i) (o' := i) rfl rfl rfl Tryd.underlying91 siz70 (by omega) (by omega)) ?_
                      refine WpT_val rfl rfl (by decide) (r_load (v := (.int .u32 ((maskN 25 (R0 i) : Nat) : Int))) rfl flat70 ((E2.keep (fun f => f) Bz).cell (rowArr_get _ (by omega)))) ?_
                      refine WpT_val rfl rfl (by decide) (r_bits (k := .u32) (a := (((2 ^ (text.length + 1) - 1) &&& (4294967295 - (2 ^ i - 1)) : Nat) : Int)) (b := ((maskN 25 (R0 i) : Nat) : Int)) (v := .int .u32 ((maskN 25 (fun j => (decide (i ≤ j) && decide (j ≤ text.length)) && !R0 i j) : Nat) : Int)) rfl rfl (by simp) ((bits_andNot _ _ (Nat.lt_of_le_of_lt Nat.and_le_left (by omega)) (mask_lt32 _)).trans (by rw [not_mask (by omega) hn]))) ?_
                      refine WpT_val rfl rfl (by decide) (r_nilCheck (a := ⟨b6, 0, none⟩) rfl) ?_
                      refine WpT_val rfl rfl (by decide) (r_indexArr (b := b6) (o := 0) (i := i) (o' := i) rfl rfl rfl Tryd.underlying91 siz70 (by omega) (by omega)) ?_
                      refine WpT_zero ?_
                      refine s_store (b := b6) (o := i) (c' := rowArr fun i' j => decide (i' < i + 1) && notR text.length R0 i' j) (v := (.int .u32 ((maskN 25 (fun j => (decide (i ≤ j) && decide (j ≤ text.length)) && !R0 i j) : Nat) : Int))) rfl rfl rfl siz70 B6 (by rw [rowArr_size]; omega) (rowArr_set (by omega) (by rw [mask_congr (g := fun j => decide (i < i + 1) && notR text.length R0 i j) (fun j _ => by simp [notR, show i ≤ text.length by omega])]) (fun i' _ hne j _ => by rw [Bool.eq_iff_iff]; simp; omega)) ?_
                      intro w32 S32
                      replace B1 := S32.keep (by omega) B1
                      replace E := S32.step E (by first | exact Or.inl (by omega) | exact Or.inr rfl | exact Or.inr (by assumption) | exact Or.inr (by simp) | exact Or.inr (by omega) | exact Or.inr (by dsimp only; omega))
                      replace E2 := S32.step E2 (Or.inl (by omega))
                      replace B6 := S32.blk
                      refine WpL_nil ?_
                      refine inB_normal ?_
                      refine thn_normal ?_
                      refine Wp_region ?_
                      refine WpL_val rfl rfl (by decide) (r_add (k := .i64) (a := ((i : Nat) : Int)) (b := 1) (c := ((i : Nat) : Int) + 1) rfl rfl (wI64 (by omega))) ?_
                      refine WpL_val rfl rfl (by decide) (r_move (v := (.int .i64 (((i : Nat) : Int) + 1))) rfl) ?_
                      refine WpL_nil ?_
                      refine thn_normal ?_
                      exact ⟨text.length + 1 - (i + 1), by omega, i + 1, Fits.out ⟨rfl, rfl, rfl, rfl, rfl, trivial⟩, E, E2, B1, B6, (by omega), rfl⟩
                    · have khlt8 := hlt8
                      replace hlt8 := of_decide_eq_false hlt8
                      obtain rfl : i = text.length + 1 := by omega
                      rw [show rowArr (fun i' j => decide (i' < text.length + 1) && notR text.length R0 i' j) = rowArr (notR text.length R0) from rowArr_congr fun i' _ j _ => by by_cases h : i' < text.length + 1; simp [h]; simp [h, notR, show ¬ i' ≤ text.length by omega]] at B6
                      refine Wp_exit ?_
                      refine thn_exit ?_
                      refine thn_exit ?_
                      refine inB_here ?_
                      refine inB_normal ?_
                      refine thn_normal ?_
                      refine Wp_seq_region ?_
                      refine WpL_val rfl rfl (by decide) (r_move (v := (.pointer (some ⟨b6, 0, none⟩))) rfl) ?_
                      refine WpL_val rfl rfl (by decide) (r_assign (v := (.pointer (some ⟨b6, 0, none⟩))) rfl) ?_
                      refine WpL_nil ?_
                      refine Wp_ret ?_
                      refine fin_tmp Tryd.results40 (v := (.pointer (some ⟨b6, 0, none⟩))) rfl ?_
                      exact ⟨b6, rfl, by omega, by rw [hK]; exact B6, E⟩
                · have kh8 := h8
                  replace h8 := of_decide_eq_false h8
                  refine Wp_seq_region ?_
                  refine WpL_val rfl rfl (by decide) (r_eql (k := .i64) (a := t.kind) (b := 5) rfl rfl) ?_
                  refine WpL_val rfl rfl (by decide) (r_assign (v := (.bool (decide ((t.kind : Int) = 5)))) rfl) ?_
                  refine WpL_nil ?_
                  refine Wp_cond (b := decide ((t.kind : Int) = 5)) rfl (fun h5 => ?_) (fun h5 => ?_)
                  · have kh5 := h5
                    replace h5 := of_decide_eq_true h5
                    have h1a := okRe_one hok (by omega)
                    obtain ⟨g, rfl, hg⟩ := hcl (by omega)
                    obtain ⟨R0, hR0⟩ := get_of_lt (l := t.args.map (relOf text)) (i := 0) (by simp; omega)
                    obtain ⟨bz, hpz, Bz, hbz⟩ := hps.2 0 R0 hR0
                    have hK : relOf text t = starN text.length R0 (text.length + 1) := by rw [hR, ← head_get (d := noR) hR0]; simp only [relK, h5]; rfl
                    refine Wp_seq_region ?_
                    refine WpL_val rfl rfl (by decide) (r_move (v := (.int .i64 ((text.length : Nat) : Int))) rfl) ?_
                    refine WpL_enter rfl rfl (by decide) (r_callF (vs := [(.int .i64 ((text.length : Nat) : Int))]) Tryd.func65 nm65 bd65 rfl) (rsame_c _ text.length hn) ?_
                    rintro _ w29 ⟨bo, rfl, hbo, Bo, X29⟩
                    replace B1 := X29.keep B1
                    replace B6 := X29.keep B6
                    replace E := E.ext X29
                    replace E2 := E2.ext X29
                    have hbo0 : w0.heap.size ≤ bo := by have := N6.size; omega
                    refine WpL_val rfl rfl (by decide) (r_assign (v := (.pointer (some ⟨bo, 0, none⟩))) rfl) ?_
                    refine WpL_nil ?_
                    refine Wp_seq_region ?_
                    refine WpL_val rfl rfl (by decide) (r_move (v := (.int .i64 ((text.length : Nat) : Int))) rfl) ?_
                    refine WpL_val rfl rfl (by decide) (r_add (k := .i64) (a := ((text.length : Nat) : Int)) (b := 1) (c := ((text.length : Nat) : Int) + 1) rfl rfl (wI64 (by omega))) ?_
                    refine WpL_val rfl rfl (by decide) (r_move (v := (.int .i64 0)) rfl) ?_
                    refine WpL_nil ?_
                    refine Wp_block ?_
                    refine Wp_loop (fun nn_ σ W34 => ∃ (i : Nat) (ob : Nat), (∃ jj_, σ = upds jj_ [(5, (.int .i64 ((text.length : Nat) : Int))), (6, (.slice (some ⟨g, 0, none⟩) t.args.length lc)), (161, (.int .i64 (((text.length : Nat) : Int) + 1))), (162, (.int .i64 ((i : Nat) : Int))), (9, (.pointer (some ⟨ob, 0, none⟩)))]) ∧ Chg none1 w0 W34 ∧ Chg none1 W2 W34 ∧ Blk W34 b1 #[(.int .i64 t.kind), (.slice sa t.set.length sc), (.slice aa t.args.length ac), (.int .i64 t.mn), (.int .i64 t.mx), (.bool t.neg)] 27 ∧ Blk W34 b6 (rowArr noR) TR ∧ (i ≤ text.length + 1) ∧ (w0.heap.size ≤ ob) ∧ (Blk W34 ob (rowArr (starN text.length R0 i)) TR) ∧ nn_ = text.length + 1 - i) (n := text.length + 1 - 0) ?_ ?_
                    · exact ⟨0, bo, Fits.out ⟨rfl, rfl, rfl, rfl, rfl, trivial⟩, E, E2, B1, B6, Nat.zero_le _, hbo0, Bo, rfl⟩
                    · clear E E2 B1 B6
                      rintro _ _ W34 ⟨i, ob, ⟨j34, rfl⟩, E, E2, B1, B6, hi, hob, Bo, rfl⟩
                      refine Wp_seq_region ?_
                      refine WpL_val rfl rfl (by decide) (r_lss (k := .i64) (a := ((i : Nat) : Int)) (b := ((text.length : Nat) : Int) + 1) rfl rfl) ?_
                      refine WpL_nil ?_
                      refine Wp_seq ?_
                      refine Wp_cond (b := decide ((((i : Nat) : Int) : Int) < ((text.length : Nat) : Int) + 1)) rfl (fun hlt5 => ?_) (fun hlt5 => ?_)
                      · have khlt5 := hlt5
                        replace hlt5 := of_decide_eq_true hlt5
                        have hol := Bo.lt
                        refine Wp_skip ?_
                        refine thn_normal ?_
                        refine Wp_seq ?_
                        refine Wp_block ?_
                        refine Wp_region ?_
                        refine WpL_val rfl rfl (by decide) (r_move (v := (.pointer (some ⟨ob, 0, none⟩))) rfl) ?_
                        refine WpL_val rfl rfl (by decide) (r_move (v := (.pointer (some ⟨ob, 0, none⟩))) rfl) ?_
                        refine WpL_val rfl rfl (by decide) (r_move (v := (.slice (some ⟨g, 0, none⟩) t.args.length lc)) rfl) ?_
                        refine WpL_val rfl rfl (by decide) (r_indexSlice (b := g) (o := 0) (len := t.args.length) (cap := lc) (i := 0) (o' := 0) rfl rfl rfl Tryd.underlying89 siz68 (by omega) (by omega)) ?_
                        refine WpL_val rfl rfl (by decide) (r_load (v := (.pointer (some ⟨bz, 0, none⟩))) rfl flat68 (E2.cell (fun f => f) (hg 0 _ hpz))) ?_
                        refine WpL_val rfl rfl (by decide) (r_move (v := (.int .i64 ((text.length : Nat) : Int))) rfl) ?_
                        refine WpL_enter rfl rfl (by decide) (r_callF (vs := [(.pointer (some ⟨ob, 0, none⟩)), (.pointer (some ⟨bz, 0, none⟩)), (.int .i64 ((text.length : Nat) : Int))]) Tryd.func67 nm67 bd67 rfl) (then_c _ ob bz text.length _ R0 hn Bo (E2.keep (fun f => f) Bz) (hT.ext E)) ?_
                        rintro _ w39 ⟨ob1, rfl, hob1, Bo1, X39⟩
                        replace B1 := X39.keep B1
                        replace B6 := X39.keep B6
                        replace Bo := X39.keep Bo
                        replace E := E.ext X39
                        replace E2 := E2.ext X39
                        refine WpL_enter rfl rfl (by decide) (r_callF (vs := [(.pointer (some ⟨ob, 0, none⟩)), (.pointer (some ⟨ob1, 0, none⟩))]) Tryd.func68 nm68 bd68 rfl) (or_c _ ob ob1 _ _ Bo Bo1) ?_
                        rintro _ w49 ⟨ob2, rfl, hob2, Bo2, X49⟩
                        replace B1 := X49.keep B1
                        replace B6 := X49.keep B6
                        replace Bo := X49.keep Bo
                        replace E := E.ext X49
                        replace E2 := E2.ext X49
                        refine WpL_val rfl rfl (by decide) (r_assign (v := (.pointer (some ⟨ob2, 0, none⟩))) rfl) ?_
                        refine WpL_nil ?_
                        refine inB_normal ?_
                        refine thn_normal ?_
                        refine Wp_region ?_
                        refine WpL_val rfl rfl (by decide) (r_add (k := .i64) (a := ((i : Nat) : Int)) (b := 1) (c := ((i : Nat) : Int) + 1) rfl rfl (wI64 (by omega))) ?_
                        refine WpL_val rfl rfl (by decide) (r_move (v := (.int .i64 (((i : Nat) : Int) + 1))) rfl) ?_
                        refine WpL_nil ?_
                        refine thn_normal ?_
                        exact ⟨text.length + 1 - (i + 1), by omega, i + 1, ob2, Fits.out ⟨rfl, rfl, rfl, rfl, rfl, trivial⟩, E, E2, B1, B6, (by omega), (by have := X39.size; omega), Bo2, rfl⟩
                      · have khlt5 := hlt5
                        replace hlt5 := of_decide_eq_false hlt5
                        obtain rfl : i = text.length + 1 := by omega
                        refine Wp_exit ?_
                        refine thn_exit ?_
                        refine thn_exit ?_
                        refine inB_here ?_
                        refine inB_normal ?_
                        refine thn_normal ?_
                        refine Wp_seq_region ?_
                        refine WpL_val rfl rfl (by decide) (r_move (v := (.pointer (some ⟨ob, 0, none⟩))) rfl) ?_
                        refine WpL_val rfl rfl (by decide) (r_assign (v := (.pointer (some ⟨ob, 0, none⟩))) rfl) ?_
                        refine WpL_nil ?_
                        refine Wp_ret ?_
                        refine fin_tmp Tryd.results40 (v := (.pointer (some ⟨ob, 0, none⟩))) rfl ?_
                        exact ⟨ob, rfl, hob, by rw [hK]; exact Bo, E⟩
                  · have kh5 := h5
                    replace h5 := of_decide_eq_false h5
                    refine Wp_seq_region ?_
                    refine WpL_val rfl rfl (by decide) (r_eql (k := .i64) (a := t.kind) (b := 6) rfl rfl) ?_
                    refine WpL_val rfl rfl (by decide) (r_assign (v := (.bool (decide ((t.kind : Int) = 6)))) rfl) ?_
                    refine WpL_nil ?_
                    refine Wp_cond (b := decide ((t.kind : Int) = 6)) rfl (fun h6 => ?_) (fun h6 => ?_)
                    · have kh6 := h6
                      replace h6 := of_decide_eq_true h6
                      have h1a := okRe_one hok (by omega)
                      have hrp := okRe_rep hok h6
                      obtain ⟨g, rfl, hg⟩ := hcl (by omega)
                      obtain ⟨R0, hR0⟩ := get_of_lt (l := t.args.map (relOf text)) (i := 0) (by simp; omega)
                      obtain ⟨bz, hpz, Bz, hbz⟩ := hps.2 0 R0 hR0
                      have hK : relOf text t = repR text.length R0 t.mn (t.mx + 1).toNat := by rw [hR, ← head_get (d := noR) hR0]; simp only [relK, h6]; rfl
                      refine Wp_seq_region ?_
                      refine WpL_val rfl rfl (by decide) (r_move (v := (.int .i64 ((text.length : Nat) : Int))) rfl) ?_
                      refine WpL_enter rfl rfl (by decide) (r_callF (vs := [(.int .i64 ((text.length : Nat) : Int))]) Tryd.func65 nm65 bd65 rfl) (rsame_c _ text.length hn) ?_
                      rintro _ w29 ⟨bo, rfl, hbo, Bo, X29⟩
                      replace B1 := X29.keep B1
                      replace B6 := X29.keep B6
                      replace E := E.ext X29
                      replace E2 := E2.ext X29
                      have hbo0 : w0.heap.size ≤ bo := by have := N6.size; omega
                      refine WpL_val rfl rfl (by decide) (r_assign (v := (.pointer (some ⟨bo, 0, none⟩))) rfl) ?_
                      refine WpL_nil ?_
                      refine Wp_seq_region ?_
                      refine WpL_val rfl rfl (by decide) (r_fieldAddr (b := b1) (o := 0) (o' := 4) rfl Tryd.underlying27 rfl siz3 rfl) ?_
                      refine WpL_val rfl rfl (by decide) (r_load (v := (.int .i64 t.mx)) rfl flat3 (B1.cell rfl)) ?_
                      refine WpL_val rfl rfl (by decide) (r_add (k := .i64) (a := t.mx) (b := 1) (c := t.mx + 1) rfl rfl (wI64 (by omega))) ?_
                      refine WpL_val rfl rfl (by decide) (r_move (v := (.int .i64 0)) rfl) ?_
                      refine WpL_nil ?_
                      refine Wp_block ?_
                      refine Wp_loop (fun nn_ σ W37 => ∃ (i : Nat) (ob : Nat) (pb : Nat), (∃ jj_, σ = upds jj_ [(2, (.pointer (some ⟨b1, 0, none⟩))), (5, (.int .i64 ((text.length : Nat) : Int))), (6, (.slice (some ⟨g, 0, none⟩) t.args.length lc)), (179, (.int .i64 (t.mx + 1))), (180, (.int .i64 ((i : Nat) : Int))), (9, (.pointer (some ⟨ob, 0, none⟩))), (20, (.pointer (some ⟨pb, 0, none⟩)))]) ∧ Chg none1 w0 W37 ∧ Chg none1 W2 W37 ∧ Blk W37 b1 #[(.int .i64 t.kind), (.slice sa t.set.length sc), (.slice aa t.args.length ac), (.int .i64 t.mn), (.int .i64 t.mx), (.bool t.neg)] 27 ∧ Blk W37 b6 (rowArr noR) TR ∧ (i ≤ (t.mx + 1).toNat) ∧ (w0.heap.size ≤ ob) ∧ (Blk W37 ob (rowArr (repR text.length R0 t.mn i)) TR) ∧ (Blk W37 pb (rowArr (powR text.length R0 i)) TR) ∧ nn_ = (t.mx + 1).toNat - i) (n := (t.mx + 1).toNat - 0) ?_ ?_
                      · exact ⟨0, b6, bo, Fits.out ⟨rfl, rfl, rfl, rfl, rfl, rfl, rfl, trivial⟩, E, E2, B1, B6, Nat.zero_le _, (by omega), B6, Bo, rfl⟩
                      · clear E E2 B1 B6
                        rintro _ _ W37 ⟨i, ob, pb, ⟨j37, rfl⟩, E, E2, B1, B6, hi, hob, Bo, Bp, rfl⟩
                        refine Wp_seq_region ?_
                        refine WpL_val rfl rfl (by decide) (r_lss (k := .i64) (a := ((i : Nat) : Int)) (b := t.mx + 1) rfl rfl) ?_
                        refine WpL_nil ?_
                        refine Wp_seq ?_
                        refine Wp_cond (b := decide ((((i : Nat) : Int) : Int) < t.mx + 1)) rfl (fun hlt6 => ?_) (fun hlt6 => ?_)
                        · have khlt6 := hlt6
                          replace hlt6 := of_decide_eq_true hlt6
                          have hol := Bo.lt
                          refine Wp_skip ?_
                          refine thn_normal ?_
                          refine Wp_seq ?_
                          refine Wp_block ?_
                          refine Wp_seq_region ?_
                          refine WpL_val rfl rfl (by decide) (r_move (v := (.int .i64 ((i : Nat) : Int))) rfl) ?_
                          refine WpL_val rfl rfl (by decide) (r_assign (v := (.int .i64 ((i : Nat) : Int))) rfl) ?_
                          refine WpL_nil ?_
                          refine Wp_seq ?_
                          refine Wp_seq_region ?_
                          refine WpL_val rfl rfl (by decide) (r_move (v := (.int .i64 ((i : Nat) : Int))) rfl) ?_
                          refine WpL_val rfl rfl (by decide) (r_fieldAddr (b := b1) (o := 0) (o' := 3) rfl Tryd.underlying27 rfl siz3 rfl) ?_
                          refine WpL_val rfl rfl (by decide) (r_load (v := (.int .i64 t.mn)) rfl flat3 (B1.cell rfl)) ?_
                          refine WpL_val rfl rfl (by decide) (r_geq (k := .i64) (a := ((i : Nat) : Int)) (b := t.mn) rfl rfl) ?_
                          refine WpL_nil ?_
                          refine Wp_cond (b := decide ((t.mn : Int) ≤ ((i : Nat) : Int))) rfl (fun hge => ?_) (fun hge => ?_)
                          · have khge := hge
                            replace hge := of_decide_eq_true hge
                            refine Wp_region ?_
                            refine WpL_val rfl rfl (by decide) (r_move (v := (.pointer (some ⟨ob, 0, none⟩))) rfl) ?_
                            refine WpL_val rfl rfl (by decide) (r_move (v := (.pointer (some ⟨pb, 0, none⟩))) rfl) ?_
                            refine WpL_enter rfl rfl (by decide) (r_callF (vs := [(.pointer (some ⟨ob, 0, none⟩)), (.pointer (some ⟨pb, 0, none⟩))]) Tryd.func68 nm68 bd68 rfl) (or_c _ ob pb _ _ Bo Bp) ?_
                            rintro _ w39 ⟨ob2, rfl, hob2, Bo2, X39⟩
                            replace B1 := X39.keep B1
                            replace B6 := X39.keep B6
                            replace Bo := X39.keep Bo
                            replace Bp := X39.keep Bp
                            replace E := E.ext X39
                            replace E2 := E2.ext X39
                            refine WpL_val rfl rfl (by decide) (r_assign (v := (.pointer (some ⟨ob2, 0, none⟩))) rfl) ?_
                            refine WpL_nil ?_
                            refine thn_normal ?_
                            refine Wp_region ?_
                            refine WpL_val rfl rfl (by decide) (r_move (v := (.pointer (some ⟨pb, 0, none⟩))) rfl) ?_
                            refine WpL_val rfl rfl (by decide) (r_move (v := (.slice (some ⟨g, 0, none⟩) t.args.length lc)) rfl) ?_
                            refine WpL_val rfl rfl (by decide) (r_indexSlice (b := g) (o := 0) (len := t.args.length) (cap := lc) (i := 0) (o' := 0) rfl rfl rfl Tryd.underlying89 siz68 (by omega) (by omega)) ?_
                            refine WpL_val rfl rfl (by decide) (r_load (v := (.pointer (some ⟨bz, 0, none⟩))) rfl flat68 (E2.cell (fun f => f) (hg 0 _ hpz))) ?_
                            refine WpL_val rfl rfl (by decide) (r_move (v := (.int .i64 ((text.length : Nat) : Int))) rfl) ?_
                            refine WpL_enter rfl rfl (by decide) (r_callF (vs := [(.pointer (some ⟨pb, 0, none⟩)), (.pointer (some ⟨bz, 0, none⟩)), (.int .i64 ((text.length : Nat) : Int))]) Tryd.func67 nm67 bd67 rfl) (then_c _ pb bz text.length _ R0 hn Bp (E2.keep (fun f => f) Bz) (hT.ext E)) ?_
                            rintro _ w49 ⟨pb2, rfl, hpb2, Bp2, X49⟩
                            replace B1 := X49.keep B1
                            replace B6 := X49.keep B6
                            replace Bo := X49.keep Bo
                            replace Bp := X49.keep Bp
                            replace Bo2 := X49.keep Bo2
                            replace E := E.ext X49
                            replace E2 := E2.ext X49
                            refine WpL_val rfl rfl (by decide) (r_assign (v := (.pointer (some ⟨pb2, 0, none⟩))) rfl) ?_
                            refine WpL_nil ?_
                            refine inB_normal ?_
                            refine thn_normal ?_
                            refine Wp_region ?_
                            refine WpL_val rfl rfl (by decide) (r_add (k := .i64) (a := ((i : Nat) : Int)) (b := 1) (c := ((i : Nat) : Int) + 1) rfl rfl (wI64 (by omega))) ?_
                            refine WpL_val rfl rfl (by decide) (r_move (v := (.int .i64 (((i : Nat) : Int) + 1))) rfl) ?_
                            refine WpL_nil ?_
                            refine thn_normal ?_
                            exact ⟨(t.mx + 1).toNat - (i + 1), by omega, i + 1, ob2, pb2, Fits.out ⟨rfl, rfl, rfl, rfl, rfl, rfl, rfl, trivial⟩, E, E2, B1, B6, (by omega), (by omega), (by rw [repR, if_pos hge]; exact Bo2), Bp2, rfl⟩
                          · have khge := hge
                            replace hge := of_decide_eq_false hge
                            refine Wp_skip ?_
                            refine thn_normal ?_
                            refine Wp_region ?_
                            refine WpL_val rfl rfl (by decide) (r_move (v := (.pointer (some ⟨pb, 0, none⟩))) rfl) ?_
                            refine WpL_val rfl rfl (by decide) (r_move (v := (.slice (some ⟨g, 0, none⟩) t.args.length lc)) rfl) ?_
                            refine WpL_val rfl rfl (by decide) (r_indexSlice (b := g) (o := 0) (len := t.args.length) (cap := lc) (i := 0) (o' := 0) rfl rfl rfl Tryd.underlying89 siz68 (by omega) (by omega)) ?_
                            refine WpL_val rfl rfl (by decide) (r_load (v := (.pointer (some ⟨bz, 0, none⟩))) rfl flat68 (E2.cell (fun f => f) (hg 0 _ hpz))) ?_
                            refine WpL_val rfl rfl (by decide) (r_move (v := (.int .i64 ((text.length : Nat) : Int))) rfl) ?_
                            refine WpL_enter rfl rfl (by decide) (r_callF (vs := [(.pointer (some ⟨pb, 0, none⟩)), (.pointer (some ⟨bz, 0, none⟩)), (.int .i64 ((text.length : Nat) : Int))]) Tryd.func67 nm67 bd67 rfl) (then_c _ pb bz text.length _ R0 hn Bp (E2.keep (fun f => f) Bz) (hT.ext E)) ?_
                            rintro _ w49 ⟨pb2, rfl, hpb2, Bp2, X49⟩
                            replace B1 := X49.keep B1
                            replace B6 := X49.keep B6
                            replace Bo := X49.keep Bo
                            replace Bp := X49.keep Bp
                            replace E := E.ext X49
                            replace E2 := E2.ext X49
                            refine WpL_val rfl rfl (by decide) (r_assign (v := (.pointer (some ⟨pb2, 0, none⟩))) rfl) ?_
                            refine WpL_nil ?_
                            refine inB_normal ?_
                            refine thn_normal ?_
                            refine Wp_region ?_
                            refine WpL_val rfl rfl (by decide) (r_add (k := .i64) (a := ((i : Nat) : Int)) (b := 1) (c := ((i : Nat) : Int) + 1) rfl rfl (wI64 (by omega))) ?_
                            refine WpL_val rfl rfl (by decide) (r_move (v := (.int .i64 (((i : Nat) : Int) + 1))) rfl) ?_
                            refine WpL_nil ?_
                            refine thn_normal ?_
                            exact ⟨(t.mx + 1).toNat - (i + 1), by omega, i + 1, ob, pb2, Fits.out ⟨rfl, rfl, rfl, rfl, rfl, rfl, rfl, trivial⟩, E, E2, B1, B6, (by omega), hob, (by rw [repR, if_neg hge]; exact Bo), Bp2, rfl⟩
                        · have khlt6 := hlt6
                          replace hlt6 := of_decide_eq_false hlt6
                          obtain rfl : i = (t.mx + 1).toNat := by omega
                          refine Wp_exit ?_
                          refine thn_exit ?_
                          refine thn_exit ?_
                          refine inB_here ?_
                          refine inB_normal ?_
                          refine thn_normal ?_
                          refine Wp_seq_region ?_
                          refine WpL_val rfl rfl (by decide) (r_move (v := (.pointer (some ⟨ob, 0, none⟩))) rfl) ?_
                          refine WpL_val rfl rfl (by decide) (r_assign (v := (.pointer (some ⟨ob, 0, none⟩))) rfl) ?_
                          refine WpL_nil ?_
                          refine Wp_ret ?_
                          refine fin_tmp Tryd.results40 (v := (.pointer (some ⟨ob, 0, none⟩))) rfl ?_
                          exact ⟨ob, rfl, hob, by rw [hK]; exact Bo, E⟩
                    · have kh6 := h6
                      replace h6 := of_decide_eq_false h6
                      refine Wp_seq_region ?_
                      refine WpL_val rfl rfl (by decide) (r_eql (k := .i64) (a := t.kind) (b := 9) rfl rfl) ?_
                      refine WpL_val rfl rfl (by decide) (r_assign (v := (.bool (decide ((t.kind : Int) = 9)))) rfl) ?_
                      refine WpL_nil ?_
                      refine Wp_cond (b := decide ((t.kind : Int) = 9)) rfl (fun h9 => ?_) (fun h9 => ?_)
                      · have kh9 := h9
                        replace h9 := of_decide_eq_true h9
                        have h1a := okRe_one hok (by omega)
                        obtain ⟨g, rfl, hg⟩ := hcl (by omega)
                        obtain ⟨R0, hR0⟩ := get_of_lt (l := t.args.map (relOf text)) (i := 0) (by simp; omega)
                        obtain ⟨bz, hpz, Bz, hbz⟩ := hps.2 0 R0 hR0
                        have hK : relOf text t = R0 := by rw [hR, ← head_get (d := noR) hR0]; simp only [relK, h9]; rfl
                        refine Wp_seq_region ?_
                        refine WpL_val rfl rfl (by decide) (r_move (v := (.slice (some ⟨g, 0, none⟩) t.args.length lc)) rfl) ?_
                        refine WpL_val rfl rfl (by decide) (r_indexSlice (b := g) (o := 0) (len := t.args.length) (cap := lc) (i := 0) (o' := 0) rfl rfl rfl Tryd.underlying89 siz68 (by omega) (by omega)) ?_
                        refine WpL_val rfl rfl (by decide) (r_load (v := (.pointer (some ⟨bz, 0, none⟩))) rfl flat68 (E2.cell (fun f => f) (hg 0 _ hpz))) ?_
                        refine WpL_val rfl rfl (by decide) (r_assign (v := (.pointer (some ⟨bz, 0, none⟩))) rfl) ?_
                        refine WpL_nil ?_
                        refine Wp_ret ?_
                        refine inB_ret ?_
                        refine thn_ret ?_
                        refine fin_tmp Tryd.results40 (v := (.pointer (some ⟨bz, 0, none⟩))) rfl ?_
                        exact ⟨bz, rfl, hbz, by rw [hK]; exact E2.keep (fun f => f) Bz, E⟩
                      · have kh9 := h9
                        replace h9 := of_decide_eq_false h9
                        refine Wp_seq_region ?_
                        refine WpL_val rfl rfl (by decide) (r_eql (k := .i64) (a := t.kind) (b := 10) rfl rfl) ?_
                        refine WpL_val rfl rfl (by decide) (r_assign (v := (.bool (decide ((t.kind : Int) = 10)))) rfl) ?_
                        refine WpL_nil ?_
                        refine Wp_cond (b := decide ((t.kind : Int) = 10)) rfl (fun h10 => ?_) (fun h10 => ?_)
                        · have kh10 := h10
                          replace h10 := of_decide_eq_true h10
                          have h1a := okRe_one hok (by omega)
                          obtain ⟨g, rfl, hg⟩ := hcl (by omega)
                          obtain ⟨R0, hR0⟩ := get_of_lt (l := t.args.map (relOf text)) (i := 0) (by simp; omega)
                          obtain ⟨bz, hpz, Bz, hbz⟩ := hps.2 0 R0 hR0
                          have hK : relOf text t = lookR text.length R0 t.neg := by rw [hR, ← head_get (d := noR) hR0]; simp only [relK, h10]; rfl
                          rw [show rowArr noR = rowArr (fun i' j => decide (i' < 0) && lookR text.length R0 t.neg i' j) from rowArr_congr fun i _ j _ => by simp [noR]] at B6
                          refine Wp_seq_region ?_
                          refine WpL_val rfl rfl (by decide) (r_move (v := (.int .i64 ((text.length : Nat) : Int))) rfl) ?_
                          refine WpL_val rfl rfl (by decide) (r_add (k := .i64) (a := ((text.length : Nat) : Int)) (b := 1) (c := ((text.length : Nat) : Int) + 1) rfl rfl (wI64 (by omega))) ?_
                          refine WpL_val rfl rfl (by decide) (r_move (v := (.int .i64 0)) rfl) ?_
                          refine WpL_nil ?_
                          refine Wp_block ?_
                          refine Wp_loop (fun nn_ σ W42 => ∃ (i : Nat), (∃ jj_, σ = upds jj_ [(2, (.pointer (some ⟨b1, 0, none⟩))), (6, (.slice (some ⟨g, 0, none⟩) t.args.length lc)), (9, (.pointer (some ⟨b6, 0, none⟩))), (205, (.int .i64 (((text.length : Nat) : Int) + 1))), (206, (.int .i64 ((i : Nat) : Int)))]) ∧ Chg none1 w0 W42 ∧ Chg none1 W2 W42 ∧ Blk W42 b1 #[(.int .i64 t.kind), (.slice sa t.set.length sc), (.slice aa t.args.length ac), (.int .i64 t.mn), (.int .i64 t.mx), (.bool t.neg)] 27 ∧ Blk W42 b6 (rowArr fun i' j => decide (i' < i) && lookR text.length R0 t.neg i' j) TR ∧ (i ≤ text.length + 1) ∧ nn_ = text.length + 1 - i) (n := text.length + 1 - 0) ?_ ?_
                          · exact ⟨0, Fits.out ⟨rfl, rfl, rfl, rfl, rfl, trivial⟩, E, E2, B1, B6, Nat.zero_le _, rfl⟩
                          · clear E E2 B1 B6
                            rintro _ _ W42 ⟨i, ⟨j42, rfl⟩, E, E2, B1, B6, hi, rfl⟩
                            refine Wp_seq_region ?_
                            refine WpL_val rfl rfl (by decide) (r_lss (k := .i64) (a := ((i : Nat) : Int)) (b := ((text.length : Nat) : Int) + 1) rfl rfl) ?_
                            refine WpL_nil ?_
                            refine Wp_seq ?_
                            refine Wp_cond (b := decide ((((i : Nat) : Int) : Int) < ((text.length : Nat) : Int) + 1)) rfl (fun hlt10 => ?_) (fun hlt10 => ?_)
                            · have khlt10 := hlt10
                              replace hlt10 := of_decide_eq_true hlt10
                              refine Wp_skip ?_
                              refine thn_normal ?_
                              refine Wp_seq ?_
                              refine Wp_block ?_
                              refine Wp_seq_region ?_
                              refine WpL_val rfl rfl (by decide) (r_move (v := (.int .i64 ((i : Nat) : Int))) rfl) ?_
                              refine WpL_val rfl rfl (by decide) (r_assign (v := (.int .i64 ((i : Nat) : Int))) rfl) ?_
                              refine WpL_nil ?_
                              refine Wp_seq_draw 10 mixed (by kernel_rfl) ?_
                              intro w44 X44 _
                              replace B1 := X44.keep B1
                              replace B6 := X44.keep B6
                              replace E := E.ext X44
                              replace E2 := E2.ext X44
                              refine WpT_val rfl rfl (by decide) (r_move (v := (.slice (some ⟨g, 0, none⟩) t.args.length lc)) rfl) ?_
                              refine WpT_val rfl rfl (by decide) (r_indexSlice (b := g) (o := 0) (len := t.args.length) (cap := lc) (i := 0) (o' := 0) rfl rfl rfl Tryd.underlying89 siz68 (by omega) (by omega)) ?_
                              refine WpT_val rfl rfl (by decide) (r_load (v := (.pointer (some ⟨bz, 0, none⟩))) rfl flat68 (E2.cell (fun f => f) (hg 0 _ hpz))) ?_
                              refine WpT_val rfl rfl (by decide) (r_move (v := (.int .i64 ((i : Nat) : Int))) rfl) ?_
                              refine WpT_val rfl rfl (by decide) (r_nilCheck (a := ⟨bz, 0, none⟩) rfl) ?_
                              refine WpT_val rfl rfl (by decide) (r_indexArr (b := bz) (o := 0) (i := i) (o' := i) rfl rfl rfl Tryd.underlying91 siz70 (by omega) (by omega)) ?_
                              refine WpT_val rfl rfl (by decide) (r_load (v := (.int .u32 ((maskN 25 (R0 i) : Nat) : Int))) rfl flat70 ((E2.keep (fun f => f) Bz).cell (rowArr_get _ (by omega)))) ?_
                              refine WpT_val rfl rfl (by decide) (r_neq (k := .u32) (a := ((maskN 25 (R0 i) : Nat) : Int)) (b := 0) rfl rfl) ?_
                              refine WpT_val rfl rfl (by decide) (r_fieldAddr (b := b1) (o := 0) (o' := 5) rfl Tryd.underlying27 rfl siz4 rfl) ?_
                              refine WpT_val rfl rfl (by decide) (r_load (v := (.bool t.neg)) rfl flat4 (B1.cell rfl)) ?_
                              refine WpT_zero ?_
                              refine WpL_val rfl rfl (by decide) (r_neqB (p := decide ((((maskN 25 (R0 i) : Nat) : Int) : Int) ≠ 0)) (q := t.neg) Tryd.underlying4 rfl rfl) ?_
                              refine WpL_nil ?_
                              refine Wp_cond (b := (decide ((((maskN 25 (R0 i) : Nat) : Int) : Int) ≠ 0)) != t.neg) rfl (fun hlk => ?_) (fun hlk => ?_)
                              · have khlk := hlk
                                have hlk' : (decide (maskN 25 (R0 i) ≠ 0) != t.neg) = true := by rw [← hlk, look_cast]
                                refine Wp_draw 6 mixed (by kernel_rfl) ?_
                                intro w46 X46 _
                                replace B1 := X46.keep B1
                                replace B6 := X46.keep B6
                                replace E := E.ext X46
                                replace E2 := E2.ext X46
                                refine WpT_val rfl rfl (by decide) (r_move (v := (.pointer (some ⟨b6, 0, none⟩))) rfl) ?_
                                refine WpT_val rfl rfl (by decide) (r_move (v := (.int .i64 ((i : Nat) : Int))) rfl) ?_
                                refine WpT_val rfl rfl (by decide) (r_move (v := (.int .i64 ((i : Nat) : Int))) rfl) ?_
                                refine WpT_val rfl rfl (by decide) (r_shl (k := .u32) (a := 1) (b := ((i : Nat) : Int)) (c := ((2 ^ i : Nat) : Int)) (k' := .i64) rfl rfl (by omega) (shl1 (k := i) (by omega))) ?_
                                refine WpT_val rfl rfl (by decide) (r_nilCheck (a := ⟨b6, 0, none⟩) rfl) ?_
                                refine WpT_val rfl rfl (by decide) (r_indexArr (b := b6) (o := 0) (i := i) (o' := i) rfl rfl rfl Tryd.underlying91 siz70 (by omega) (by omega)) ?_
                                refine WpT_zero ?_
                                refine s_store (b := b6) (o := i) (c' := rowArr fun i' j => decide (i' < i + 1) && lookR text.length R0 t.neg i' j) (v := (.int .u32 ((2 ^ i : Nat) : Int))) rfl rfl rfl siz70 B6 (by rw [rowArr_size]; omega) (rowArr_set (by omega) (by rw [mask_one (n := 25) (i := i) (by omega), mask_congr (g := fun j => decide (i < i + 1) && lookR text.length R0 t.neg i j) (fun j _ => by simp only [lookR, hlk', Bool.and_true]; simp [show i ≤ text.length by omega])]) (fun i' _ hne j _ => by rw [Bool.eq_iff_iff]; simp; omega)) ?_
                                intro w47 S47
                                replace B1 := S47.keep (by omega) B1
                                replace E := S47.step E (by first | exact Or.inl (by omega) | exact Or.inr rfl | exact Or.inr (by assumption) | exact Or.inr (by simp) | exact Or.inr (by omega) | exact Or.inr (by dsimp only; omega))
                                replace E2 := S47.step E2 (Or.inl (by omega))
                                replace B6 := S47.blk
                                refine WpL_nil ?_
                                refine inB_normal ?_
                                refine thn_normal ?_
                                refine Wp_region ?_
                                refine WpL_val rfl rfl (by decide) (r_add (k := .i64) (a := ((i : Nat) : Int)) (b := 1) (c := ((i : Nat) : Int) + 1) rfl rfl (wI64 (by omega))) ?_
                                refine WpL_val rfl rfl (by decide) (r_move (v := (.int .i64 (((i : Nat) : Int) + 1))) rfl) ?_
                                refine WpL_nil ?_
                                refine thn_normal ?_
                                exact ⟨text.length + 1 - (i + 1), by omega, i + 1, Fits.out ⟨rfl, rfl, rfl, rfl, rfl, trivial⟩, E, E2, B1, B6, (by omega), rfl⟩
                              · have khlk := hlk
                                have hlk' : (decide (maskN 25 (R0 i) ≠ 0) != t.neg) = false := by rw [← hlk, look_cast]
                                rw [show rowArr (fun i' j => decide (i' < i) && lookR text.length R0 t.neg i' j) = rowArr (fun i' j => decide (i' < i + 1) && lookR text.length R0 t.neg i' j) from rowArr_congr fun i' _ j _ => by rcases Nat.lt_trichotomy i' i with h | h | h; simp [h, show i' < i + 1 by omega]; subst h; simp only [lookR, hlk', Bool.and_false]; simp [show ¬ i' < i by omega, show ¬ i' < i + 1 by omega]] at B6
                                refine Wp_skip ?_
                                refine inB_normal ?_
                                refine thn_normal ?_
                                refine Wp_region ?_
                                refine WpL_val rfl rfl (by decide) (r_add (k := .i64) (a := ((i : Nat) : Int)) (b := 1) (c := ((i : Nat) : Int) + 1) rfl rfl (wI64 (by omega))) ?_
                                refine WpL_val rfl rfl (by decide) (r_move (v := (.int .i64 (((i : Nat) : Int) + 1))) rfl) ?_
                                refine WpL_nil ?_
                                refine thn_normal ?_
                                exact ⟨text.length + 1 - (i + 1), by omega, i + 1, Fits.out ⟨rfl, rfl, rfl, rfl, rfl, trivial⟩, E, E2, B1, B6, (by omega), rfl⟩
                            · have khlt10 := hlt10
                              replace hlt10 := of_decide_eq_false hlt10
                              obtain rfl : i = text.length + 1 := by omega
                              rw [show rowArr (fun i' j => decide (i' < text.length + 1) && lookR text.length R0 t.neg i' j) = rowArr (lookR text.length R0 t.neg) from rowArr_congr fun i' _ j _ => by by_cases h : i' < text.length + 1; simp [h]; simp [h, lookR, show ¬ i' ≤ text.length by omega]] at B6
                              refine Wp_exit ?_
                              refine thn_exit ?_
                              refine thn_exit ?_
                              refine inB_here ?_
                              refine inB_normal ?_
                              refine thn_normal ?_
                              refine Wp_seq_region ?_
                              refine WpL_val rfl rfl (by decide) (r_move (v := (.pointer (some ⟨b6, 0, none⟩))) rfl) ?_
                              refine WpL_val rfl rfl (by decide) (r_assign (v := (.pointer (some ⟨b6, 0, none⟩))) rfl) ?_
                              refine WpL_nil ?_
                              refine Wp_ret ?_
                              refine fin_tmp Tryd.results40 (v := (.pointer (some ⟨b6, 0, none⟩))) rfl ?_
                              exact ⟨b6, rfl, by omega, by rw [hK]; exact B6, E⟩
                        · have kh10 := h10
                          replace h10 := of_decide_eq_false h10
                          have hK : relOf text t = noR := by rw [hR]; simp [relK, h1, h2, h3, h4, h5, h6, h7, h8, h9, h10]
                          refine Wp_skip ?_
                          refine inB_normal ?_
                          refine thn_normal ?_
                          refine Wp_seq_region ?_
                          refine WpL_val rfl rfl (by decide) (r_move (v := (.pointer (some ⟨b6, 0, none⟩))) rfl) ?_
                          refine WpL_val rfl rfl (by decide) (r_assign (v := (.pointer (some ⟨b6, 0, none⟩))) rfl) ?_
                          refine WpL_nil ?_
                          refine Wp_ret ?_
                          refine fin_tmp Tryd.results40 (v := (.pointer (some ⟨b6, 0, none⟩))) rfl ?_
                          exact ⟨b6, rfl, by omega, by rw [hK]; exact B6, E⟩
end Go.Proofs
