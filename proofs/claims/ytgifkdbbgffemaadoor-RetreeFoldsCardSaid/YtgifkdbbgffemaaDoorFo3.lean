/- Contracts and plain lemmas, part 3. -/
import Derived.Tactics
import Derived.Deep.Quiet
import Derived.Laws.AppendOwn
import Derived.KernelRfl
import Derived.Laws.Entries
import Derived.Laws.Build
import Derived.Below
import Derived.RowKit3
import Derived.StillTail
import Derived.Sort.Grow
import Derived.Deep.Draws
import Derived.Test.YtgifkdbbgffemaaDoorChecked
import Derived.Laws.StructEq
import Derived.MapKept
import Derived.Laws.BytesArg
import Derived.DeepKeys3
import Derived.Shelf.SlSortCmp.WholeK
import Derived.Test.YtgifkdbbgffemaaDoorProg
import Derived.Test.YtgifkdbbgffemaaDoorFo2
namespace Go.Proofs
open Go Go.Eng
set_option maxRecDepth 100000
mutual
def okRe : Re → Prop
  | .mk k set args mn mx ng => nodeE (.mk k set args mn mx ng) = 0 ∧ okRes args
def okRes : List Re → Prop
  | [] => True
  | t :: ts => okRe t ∧ okRes ts
end
theorem okRes_get {ts : List Re} (h : okRes ts) {i : Nat} {x : Re} (hx : ts[i]? = some x) : okRe x := by
  induction ts generalizing i with
  | nil => simp at hx
  | cons t ts ih =>
    simp only [okRes] at h
    cases i with
    | zero => simp at hx; subst hx; exact h.1
    | succ i => exact ih h.2 (by simpa using hx)
theorem okRe_node {t : Re} (h : okRe t) : nodeE t = 0 := by cases t; simp only [okRe] at h; exact h.1
theorem okRe_args {t : Re} (h : okRe t) : okRes t.args := by cases t; simp only [okRe] at h; exact h.2
theorem okRe_form {t : Re} (h : okRe t) : 0 ≤ t.kind ∧ t.kind ≤ 10 ∧ formB t = true := by
  have := okRe_node h
  unfold nodeE at this
  split at this
  · omega
  · rename_i hk
    split at this
    · omega
    · rename_i hf; exact ⟨by omega, by omega, by simpa using hf⟩
theorem okRe_one {t : Re} (h : okRe t) (hk : t.kind = 5 ∨ t.kind = 6 ∨ t.kind = 8 ∨ t.kind = 9 ∨ t.kind = 10) : t.args.length = 1 := by
  obtain ⟨_, _, hf⟩ := okRe_form h
  simp only [formB, Bool.and_eq_true] at hf
  have := hf.1.1.1.1
  unfold okB at this
  rw [if_neg (by omega), if_pos hk] at this
  simp at this; omega
theorem okRe_two {t : Re} (h : okRe t) (hk : t.kind = 3 ∨ t.kind = 4 ∨ t.kind = 7) : 2 ≤ t.args.length := by
  obtain ⟨_, _, hf⟩ := okRe_form h
  simp only [formB, Bool.and_eq_true] at hf
  have := hf.1.1.1.1
  unfold okB at this
  rw [if_pos hk] at this
  simp at this; omega
theorem okRe_rep {t : Re} (h : okRe t) (hk : t.kind = 6) : 0 ≤ t.mn ∧ t.mn ≤ t.mx ∧ t.mx ≤ 8 := by
  have := okRe_node h
  obtain ⟨h1, h2, hf⟩ := okRe_form h
  unfold nodeE at this
  rw [if_neg (by omega), if_neg (by simp [hf]), if_neg (by omega), if_pos hk] at this
  split at this <;> omega
/-- Pointers to relations. -/
def PtrsAt (lo : Nat) (w : World) (ptrs : List Value) (Rs : List Rl) : Prop :=
  ptrs.length = Rs.length ∧ ∀ (i : Nat) (R : Rl), Rs[i]? = some R → ∃ b, ptrs[i]? = some (.pointer (some ⟨b, 0, none⟩)) ∧ Blk w b (rowArr R) TR ∧ lo ≤ b
theorem PtrsAt.ext {lo : Nat} {w w' : World} {ptrs : List Value} {Rs : List Rl} (h : PtrsAt lo w ptrs Rs) (e : Ext w w') : PtrsAt lo w' ptrs Rs :=
  ⟨h.1, fun i R hR => let ⟨b, h1, h2, h3⟩ := h.2 i R hR; ⟨b, h1, e.keep h2, h3⟩⟩
theorem PtrsAt.chg {lo : Nat} {M : Nat → Prop} {w w' : World} {ptrs : List Value} {Rs : List Rl} (h : PtrsAt lo w ptrs Rs) (e : Chg M w w') (hm : ∀ b R, Blk w b (rowArr R) TR → ¬ M b) : PtrsAt lo w' ptrs Rs :=
  ⟨h.1, fun i R hR => let ⟨b, h1, h2, h3⟩ := h.2 i R hR; ⟨b, h1, e.keep (hm b R h2) h2, h3⟩⟩
theorem PtrsAt.snoc {lo : Nat} {w : World} {ptrs : List Value} {Rs : List Rl} (h : PtrsAt lo w ptrs Rs) {b : Nat} {R : Rl} (hB : Blk w b (rowArr R) TR) (hlo : lo ≤ b) : PtrsAt lo w (ptrs ++ [.pointer (some ⟨b, 0, none⟩)]) (Rs ++ [R]) := by
  refine ⟨by simp [h.1], fun i R' hi => ?_⟩
  rcases Nat.lt_or_ge i Rs.length with hlt | hge
  · rw [List.getElem?_append_left hlt] at hi
    obtain ⟨b', h1, h2, h3⟩ := h.2 i R' hi
    exact ⟨b', by rw [List.getElem?_append_left (by rw [h.1]; exact hlt)]; exact h1, h2, h3⟩
  · rw [List.getElem?_append_right hge] at hi
    have hi0 : i - Rs.length = 0 := by have := lt_of_get hi; simp at this; omega
    rw [hi0] at hi; simp at hi; subst hi
    exact ⟨b, by rw [List.getElem?_append_right (by rw [h.1]; exact hge), h.1, hi0]; rfl, hB, hlo⟩
theorem own_elem {w : World} {base e size n : Nat} {v : Value} {xs : List Value} (h : w.ownsRow base e size v n xs) {g : Nat} (hg : v.ownBlock = some g) {c : Array Value} {t : TypeId} (hB : Blk w g c t) : t = e := by
  rcases h.2 with ⟨rfl, _⟩ | ⟨g', cap, cur, rfl, _, hgg, _⟩
  · simp [Value.ownBlock] at hg
  · simp [Value.ownBlock] at hg
    subst hg
    unfold Blk at hB
    rw [hgg] at hB
    simp only [Option.some.injEq, Obj.cells.injEq] at hB
    exact hB.2.1.symm
abbrev TP : Nat := 62
theorem fold_take {α β : Type} {f : β → α → β} {a : β} {L : List α} {i : Nat} {x : α} (h : L[i]? = some x) : (L.take (i + 1)).foldl f a = f ((L.take i).foldl f a) x := by
  rw [List.take_add_one, h]; simp
theorem len_lt_size (t : Re) : t.args.length < t.size := by
  rw [Re.size_eq]
  have : ∀ ts : List Re, ts.length ≤ Re.sizes ts := by
    intro ts
    induction ts with
    | nil => simp
    | cons x r ih => have := x.size_pos; simp [Re.sizes]; omega
  have := this t.args
  omega
theorem head_get {α : Type} {L : List α} {x d : α} (h : L[0]? = some x) : L.headD d = x := by cases L <;> simp_all
theorem sub1_u32 {p : Nat} (h0 : 0 < p) (h : p ≤ 4294967296) : IntKind.u32.wrap ((p : Int) - 1) = ((p - 1 : Nat) : Int) := by
  rw [wU32 (by omega)]; omega
theorem pow_le25 {k : Nat} (h : k ≤ 25) : 0 < 2 ^ k ∧ 2 ^ k ≤ 33554432 := ⟨Nat.two_pow_pos k, (Nat.pow_le_pow_right (by omega) h : 2 ^ k ≤ 2 ^ 25)⟩
theorem look_cast (m : Nat) (ng : Bool) : (decide (((m : Nat) : Int) ≠ 0) != ng) = (decide (m ≠ 0) != ng) := by
  have : decide (((m : Nat) : Int) ≠ 0) = decide (m ≠ 0) := by rw [Bool.eq_iff_iff]; simp
  rw [this]
theorem not_mask {n i : Nat} (hi : i ≤ n) (hn : n ≤ 24) (f : Nat → Bool) :
    ((2 ^ (n + 1) - 1) &&& (4294967295 - (2 ^ i - 1))) &&& (4294967295 - maskN 25 f) = maskN 25 fun j => (decide (i ≤ j) && decide (j ≤ n)) && !f j := by
  have hp : 2 ^ (n + 1) ≤ 2 ^ 25 := Nat.pow_le_pow_right (by omega) (by omega)
  have hpi : 2 ^ i ≤ 2 ^ 24 := Nat.pow_le_pow_right (by omega) (by omega)
  have hpos := Nat.two_pow_pos i
  have hposn := Nat.two_pow_pos (n + 1)
  have hm := maskN_lt 25 f
  refine mask_ext ?_ fun j hj => ?_
  · refine Nat.lt_of_le_of_lt Nat.and_le_left (Nat.lt_of_le_of_lt Nat.and_le_left ?_)
    simp only [Nat.reducePow] at hp ⊢; omega
  · have e1 : 4294967295 - (2 ^ i - 1) = 2 ^ 32 - ((2 ^ i - 1) + 1) := by simp only [Nat.reducePow]; omega
    have e2 : 4294967295 - maskN 25 f = 2 ^ 32 - (maskN 25 f + 1) := by simp only [Nat.reducePow] at hm ⊢; omega
    have b2 : (2 ^ 32 - ((2 ^ i - 1) + 1)).testBit j = (decide (j < 32) && !(2 ^ i - 1).testBit j) := Nat.testBit_two_pow_sub_succ (by simp only [Nat.reducePow] at hpi ⊢; omega) j
    have b3 : (2 ^ 32 - (maskN 25 f + 1)).testBit j = (decide (j < 32) && !(maskN 25 f).testBit j) := Nat.testBit_two_pow_sub_succ (by simp only [Nat.reducePow] at hm ⊢; omega) j
    rw [e1, e2, Nat.testBit_and, Nat.testBit_and, b2, b3, Nat.testBit_two_pow_sub_one, Nat.testBit_two_pow_sub_one, maskN_bit]
    rw [Bool.eq_iff_iff]
    simp [hj, show j < 32 by omega]
    intro _
    omega
set_option maxHeartbeats 4000000 in
theorem of_c (text : List Int) (hn : text.length ≤ 24) : ∀ N, N ≤ 1000000 → ∀ t, t.size ≤ N → okRe t → ∀ (w0 : World) (vs : List Value) (vt : Value), ReAt w0 t vs → IntsAt w0 vt text → TabOk w0 →
    Ret Tryd.prog 26 #[.agg vs.toArray, vt] w0 fun v w => ∃ b, v = .pointer (some ⟨b, 0, none⟩) ∧ w0.heap.size ≤ b ∧ Blk w b (rowArr (relOf text t)) TR ∧ Ext w0 w := by
  intro N
  induction N with
  | zero => intro _ t ht; have := t.size_pos; omega
  | succ N ih =>
  intro hNb t hN hok w0 vs vt ht htx hT
  have ht0 := ht
  obtain ⟨sa, sc, aa, ac, rfl, hset, hlen, hargs⟩ := ht.form
  obtain ⟨ta, tc, rfl⟩ := SlAt.form htx
  simp only [List.length_map] at htx ⊢
  have hR := relOf_eq text t
  have hal := len_lt_size t
  refine Ret_of Tryd.func26 rfl Tryd.ntmps26 (Nat.le_of_ble_eq_true rfl) ?_
  have E : Chg none1 w0 w0 := Chg.refl _ _
  refine Wp_seq_region ?_
  refine s_box (v := (.agg #[(.int .i64 t.kind), (.slice sa t.set.length sc), (.slice aa t.args.length ac), (.int .i64 t.mn), (.int .i64 t.mx), (.bool t.neg)])) (c := #[(.int .i64 t.kind), (.slice sa t.set.length sc), (.slice aa t.args.length ac), (.int .i64 t.mn), (.int .i64 t.mx), (.bool t.neg)]) (by decide) rfl rfl ?_
  intro b1 w1 N1
  have F1 := N1.ge E
  replace E := E.ext N1.ext
  have B1 := N1.blk
  refine WpL_val rfl rfl (by decide) (r_assign (v := (.pointer none)) rfl) ?_
  refine WpL_nil ?_
  refine Wp_seq_region ?_
  refine WpL_val rfl rfl (by decide) (r_move (v := (.slice ta text.length tc)) rfl) ?_
  refine WpL_val rfl rfl (by decide) (r_lenSlice (ad := ta) (n := text.length) (cap := tc) Tryd.underlying22 rfl) ?_
  refine WpL_val rfl rfl (by decide) (r_assign (v := (.int .i64 ((text.length : Nat) : Int))) rfl) ?_
  refine WpL_nil ?_
  refine Wp_seq_region ?_
  refine WpL_val rfl rfl (by decide) (r_assign (v := (.slice none 0 0)) rfl) ?_
  refine WpL_nil ?_
  refine Wp_seq ?_
  refine Wp_seq_region ?_
  refine WpL_val rfl rfl (by decide) (r_fieldAddr (b := b1) (o := 0) (o' := 2) rfl Tryd.underlying27 rfl siz25 rfl) ?_
  refine WpL_val rfl rfl (by decide) (r_load (v := (.slice aa t.args.length ac)) rfl flat25 (B1.cell rfl)) ?_
  refine WpL_val rfl rfl (by decide) (r_lenSlice (ad := aa) (n := t.args.length) (cap := ac) Tryd.underlying25 rfl) ?_
  refine WpL_val rfl rfl (by decide) (r_move (v := (.int .i64 0)) rfl) ?_
  refine WpL_nil ?_
  refine Wp_block ?_
  obtain ⟨base, hbase⟩ : ∃ base, base = w1.heap.size := ⟨_, rfl⟩
  have hb1 : b1 < base := by have := B1.lt; omega
  have hb0 : w0.heap.size ≤ base := by have := N1.size; omega
  refine Wp_loop (fun nn_ σ W2 => ∃ (k : Nat) (la : Option Addr) (lc : Nat) (ptrs : List Value), (∃ jj_, σ = upds jj_ [(1, (.slice ta text.length tc)), (2, (.pointer (some ⟨b1, 0, none⟩))), (5, (.int .i64 ((text.length : Nat) : Int))), (26, (.slice aa t.args.length ac)), (27, (.int .i64 ((t.args.length : Nat) : Int))), (28, (.int .i64 ((k : Nat) : Int))), (6, (.slice la k lc))]) ∧ Chg none1 w0 W2 ∧ Blk W2 b1 #[(.int .i64 t.kind), (.slice sa t.set.length sc), (.slice aa t.args.length ac), (.int .i64 t.mn), (.int .i64 t.mx), (.bool t.neg)] 27 ∧ (k ≤ t.args.length) ∧ (W2.ownsRow base TP 1 (.slice la k lc) k ptrs) ∧ (PtrsAt w0.heap.size W2 ptrs ((t.args.take k).map (relOf text))) ∧ (base ≤ W2.heap.size) ∧ nn_ = t.args.length - k) (n := t.args.length - 0) ?_ ?_
  · exact ⟨0, none, 0, [], Fits.out ⟨rfl, rfl, rfl, rfl, rfl, rfl, rfl, trivial⟩, E, B1, Nat.zero_le _, World.ownsRow_nil _ _ _ _, ⟨rfl, fun i R h => by simp at h⟩, (by omega), rfl⟩
  · clear E B1
    rintro _ _ W2 ⟨k, la, lc, ptrs, ⟨j2, rfl⟩, E, B1, hk, hown, hps, hbs, rfl⟩
    refine Wp_seq_region ?_
    refine WpL_val rfl rfl (by decide) (r_lss (k := .i64) (a := ((k : Nat) : Int)) (b := ((t.args.length : Nat) : Int)) rfl rfl) ?_
    refine WpL_nil ?_
    refine Wp_seq ?_
    refine Wp_cond (b := decide ((((k : Nat) : Int) : Int) < ((t.args.length : Nat) : Int))) rfl (fun hlt => ?_) (fun hlt => ?_)
    · have khlt := hlt
      replace hlt := of_decide_eq_true hlt
      obtain ⟨x, hx⟩ := get_of_lt (l := t.args) (i := k) (by omega)
      obtain ⟨ab, ao, rfl, hres⟩ : ∃ b o, aa = some ⟨b, o, none⟩ ∧ ResAt w0 b o t.args := by
        rcases hargs with h | h
        · rw [h] at hx; simp at hx
        · exact h
      obtain ⟨us, hus, hxt⟩ := hres.get hx
      have hsz := Re.size_arg hx
      have hxo := okRes_get (okRe_args hok) hx
      refine Wp_skip ?_
      refine thn_normal ?_
      refine Wp_seq ?_
      refine Wp_block ?_
      refine Wp_seq_region ?_
      refine WpL_val rfl rfl (by decide) (r_indexSlice (b := ab) (o := ao) (len := t.args.length) (cap := ac) (i := k) (o' := ao + k * 6) rfl rfl rfl Tryd.underlying25 siz27 (by omega) (by omega)) ?_
      refine WpL_val rfl rfl (by decide) (r_loadAgg (vs := us) rfl agg27 siz27 hxt.len (hus.ext E)) ?_
      refine s_allocStore (v := (.agg us.toArray)) (c := us.toArray) (n := 6) (by decide) zer27 rfl siz27 rfl rfl (by simpa using hxt.len) (by simpa using ReAt.one hxt) ?_
      intro b4 w4 N4
      have F4 := N4.ge E
      have O4_b1 := N4.lt B1
      replace B1 := N4.keep B1
      replace hown := own_ext hown N4.ext
      replace hps := hps.ext N4.ext
      replace hbs := Nat.le_trans hbs N4.ext.size
      replace E := E.ext N4.ext
      have B4 := N4.blk
      refine WpL_nil ?_
      refine Wp_region ?_
      refine WpL_val rfl rfl (by decide) (r_move (v := (.slice la k lc)) rfl) ?_
      refine WpL_val rfl rfl (by decide) (r_loadAgg (vs := us) rfl agg27 siz27 hxt.len (B4.cells (by simp))) ?_
      refine WpL_val rfl rfl (by decide) (r_move (v := (.slice ta text.length tc)) rfl) ?_
      refine WpL_enter rfl rfl (by decide) (r_callF (vs := [(.agg us.toArray), (.slice ta text.length tc)]) Tryd.func26 nm26 bd26 rfl) (ih (by omega) x (by omega) hxo _ us _ (ReAt.ext E x hxt) (htx.ext E) (hT.ext E)) ?_
      rintro _ w9 ⟨bq, rfl, hbq, Bq, X9⟩
      replace B1 := X9.keep B1
      replace B4 := X9.keep B4
      replace hown := own_ext hown X9
      replace hps := hps.ext X9
      replace hbs := Nat.le_trans hbs X9.size
      replace E := E.ext X9
      refine s_buildSlice (ps := [(0, (.pointer (some ⟨bq, 0, none⟩)))]) (c := #[(.pointer (some ⟨bq, 0, none⟩))]) (by decide) rfl Tryd.underlying99 siz62 zer62 (by decide) (by decide) (by kernel_rfl) ?_
      intro b5 w5 N5
      have F5 := N5.ge E
      have O5_b1 := N5.lt B1
      have O5_b4 := N5.lt B4
      have O5_bq := N5.lt Bq
      replace B1 := N5.keep B1
      replace B4 := N5.keep B4
      replace Bq := N5.keep Bq
      replace hown := own_ext hown N5.ext
      replace hps := hps.ext N5.ext
      replace hbs := Nat.le_trans hbs N5.ext.size
      replace E := E.ext N5.ext
      have B5 := N5.blk
      refine s_append (base := base) (n := k) (m := 1) (xs := ptrs) (news := [(.pointer (some ⟨bq, 0, none⟩))]) (size := 1) (bytes := 8) (v := (.slice la k lc)) (by decide) Tryd.underlying99 siz62 byt62 zer62 rfl (by decide) rfl hown rfl (rfl) (B5.cells rfl) (by simp [Value.oneCell']) (by unfold maxLen; omega) (by omega) (hbs) ?_
      intro v9 w10 Ov9 Cv9 Dv9
      replace B1 := Cv9.keep (fun h => by have := (hown.lt _ h).1; omega) B1
      replace E := E.step Cv9 (fun x hx h => absurd (hown.lt x h).1 (by omega))
      obtain ⟨la2, lc2, rfl⟩ := own_form Ov9
      have Bq2 := Cv9.keep (fun h => absurd (own_elem hown h Bq) (by decide)) Bq
      have hps2 := (hps.chg Cv9 (fun b R hB h => absurd (own_elem hown h hB) (by decide))).snoc Bq2 (by have := N4.size; have := N4.eq; omega)
      have hbs2 := Nat.le_trans hbs Cv9.size
      refine WpL_val rfl rfl (by decide) (r_assign (v := (.slice la2 (k + 1) lc2)) rfl) ?_
      refine WpL_nil ?_
      refine inB_normal ?_
      refine thn_normal ?_
      refine Wp_region ?_
      refine WpL_val rfl rfl (by decide) (r_add (k := .i64) (a := ((k : Nat) : Int)) (b := 1) (c := ((k : Nat) : Int) + 1) rfl rfl (wI64 (by omega))) ?_
      refine WpL_val rfl rfl (by decide) (r_move (v := (.int .i64 (((k : Nat) : Int) + 1))) rfl) ?_
      refine WpL_nil ?_
      refine thn_normal ?_
      exact ⟨t.args.length - (k + 1), by omega, k + 1, la2, lc2, ptrs ++ [.pointer (some ⟨bq, 0, none⟩)], Fits.out ⟨rfl, rfl, rfl, rfl, rfl, rfl, rfl, trivial⟩, E, B1, (by omega), Ov9, (by rw [List.take_add_one, hx]; simpa using hps2), hbs2, rfl⟩
    · have khlt := hlt
      replace hlt := of_decide_eq_false hlt
      obtain rfl : k = t.args.length := by omega
      rw [List.take_length] at hps
      have hz2 : w0.heap.size ≤ W2.heap.size := E.size
      have hcl : 0 < t.args.length → ∃ g, la = some ⟨g, 0, none⟩ ∧ CellsAt W2 g 0 ptrs := fun h => let ⟨g, h1, _, h2⟩ := own_cells hown h; ⟨g, h1, h2⟩
      have E2 : Chg none1 W2 W2 := Chg.refl _ _
      refine Wp_exit ?_
      refine thn_exit ?_
      refine thn_exit ?_
      refine inB_here ?_
      refine thn_normal ?_
      refine Wp_seq_region ?_
      refine WpL_val rfl rfl (by decide) (r_build (ps := []) (v := (.agg #[(.int .u32 0), (.int .u32 0), (.int .u32 0), (.int .u32 0), (.int .u32 0), (.int .u32 0), (.int .u32 0), (.int .u32 0), (.int .u32 0), (.int .u32 0), (.int .u32 0), (.int .u32 0), (.int .u32 0), (.int .u32 0), (.int .u32 0), (.int .u32 0), (.int .u32 0), (.int .u32 0), (.int .u32 0), (.int .u32 0), (.int .u32 0), (.int .u32 0), (.int .u32 0), (.int .u32 0), (.int .u32 0)])) rfl (by kernel_rfl)) ?_
      refine s_box (v := (.agg #[(.int .u32 0), (.int .u32 0), (.int .u32 0), (.int .u32 0), (.int .u32 0), (.int .u32 0), (.int .u32 0), (.int .u32 0), (.int .u32 0), (.int .u32 0), (.int .u32 0), (.int .u32 0), (.int .u32 0), (.int .u32 0), (.int .u32 0), (.int .u32 0), (.int .u32 0), (.int .u32 0), (.int .u32 0), (.int .u32 0), (.int .u32 0), (.int .u32 0), (.int .u32 0), (.int .u32 0), (.int .u32 0)])) (c := #[(.int .u32 0), (.int .u32 0), (.int .u32 0), (.int .u32 0), (.int .u32 0), (.int .u32 0), (.int .u32 0), (.int .u32 0), (.int .u32 0), (.int .u32 0), (.int .u32 0), (.int .u32 0), (.int .u32 0), (.int .u32 0), (.int .u32 0), (.int .u32 0), (.int .u32 0), (.int .u32 0), (.int .u32 0), (.int .u32 0), (.int .u32 0), (.int .u32 0), (.int .u32 0), (.int .u32 0), (.int .u32 0)]) (by decide) rfl rfl ?_
      intro b6 w6 N6
      have F6 := N6.ge E
      have F6_E2 := N6.ge E2
      have O6_b1 := N6.lt B1
      replace B1 := N6.keep B1
      replace E := E.ext N6.ext
      have B6 := N6.blk
      replace E2 := E2.ext N6.ext
      refine WpL_val rfl rfl (by decide) (r_assign (v := (.pointer (some ⟨b6, 0, none⟩))) rfl) ?_
      refine WpL_nil ?_
      refine Wp_seq ?_
      refine Wp_seq_region ?_
      refine WpL_val rfl rfl (by decide) (r_fieldAddr (b := b1) (o := 0) (o' := 0) rfl Tryd.underlying27 rfl siz3 rfl) ?_
      refine WpL_val rfl rfl (by decide) (r_load (v := (.int .i64 t.kind)) rfl flat3 (B1.cell rfl)) ?_
      refine WpL_nil ?_
      refine Wp_block ?_
      refine Wp_seq_region ?_
      refine WpL_val rfl rfl (by decide) (r_eql (k := .i64) (a := t.kind) (b := 1) rfl rfl) ?_
      refine WpL_val rfl rfl (by decide) (r_assign (v := (.bool (decide ((t.kind : Int) = 1)))) rfl) ?_
      refine WpL_nil ?_
      refine Wp_cond (b := decide ((t.kind : Int) = 1)) rfl (fun h1 => ?_) (fun h1 => ?_)
      · have kh1 := h1
        replace h1 := of_decide_eq_true h1
        have hK : relOf text t = idR text.length := by rw [hR]; simp [relK, h1]
        refine Wp_seq_region ?_
        refine WpL_val rfl rfl (by decide) (r_move (v := (.int .i64 ((text.length : Nat) : Int))) rfl) ?_
        refine WpL_enter rfl rfl (by decide) (r_callF (vs := [(.int .i64 ((text.length : Nat) : Int))]) Tryd.func47 nm47 bd47 rfl) (rsame_c _ text.length hn) ?_
        rintro _ w9 ⟨bq, rfl, hbq, Bq, X9⟩
        replace B1 := X9.keep B1
        replace B6 := X9.keep B6
        replace E := E.ext X9
        replace E2 := E2.ext X9
        refine WpL_val rfl rfl (by decide) (r_assign (v := (.pointer (some ⟨bq, 0, none⟩))) rfl) ?_
        refine WpL_nil ?_
        refine Wp_ret ?_
        refine inB_ret ?_
        refine thn_ret ?_
        refine fin_tmp Tryd.results26 (v := (.pointer (some ⟨bq, 0, none⟩))) rfl ?_
        exact ⟨bq, rfl, by have := N6.size; omega, by rw [hK]; exact Bq, E⟩
      · have kh1 := h1
        replace h1 := of_decide_eq_false h1
        replace B6 : Blk w6 b6 (rowArr noR) TR := B6
        refine Wp_seq_region ?_
        refine WpL_val rfl rfl (by decide) (r_eql (k := .i64) (a := t.kind) (b := 2) rfl rfl) ?_
        refine WpL_val rfl rfl (by decide) (r_assign (v := (.bool (decide ((t.kind : Int) = 2)))) rfl) ?_
        refine WpL_nil ?_
        refine Wp_cond (b := decide ((t.kind : Int) = 2)) rfl (fun h2 => ?_) (fun h2 => ?_)
        · have kh2 := h2
          replace h2 := of_decide_eq_true h2
          have hK : relOf text t = setR text t.set := by rw [hR]; simp [relK, h2]
          rw [show rowArr noR = rowArr (fun i' j => decide (i' < 0) && setR text t.set i' j) from rowArr_congr fun i _ j _ => by simp [noR]] at B6
          refine Wp_seq_region ?_
          refine WpL_val rfl rfl (by decide) (r_move (v := (.slice ta text.length tc)) rfl) ?_
          refine WpL_val rfl rfl (by decide) (r_lenSlice (ad := ta) (n := text.length) (cap := tc) Tryd.underlying22 rfl) ?_
          refine WpL_val rfl rfl (by decide) (r_move (v := (.int .i64 0)) rfl) ?_
          refine WpL_nil ?_
          refine Wp_block ?_
          refine Wp_loop (fun nn_ σ W9 => ∃ (i : Nat), (∃ jj_, σ = upds jj_ [(2, (.pointer (some ⟨b1, 0, none⟩))), (9, (.pointer (some ⟨b6, 0, none⟩))), (49, (.slice ta text.length tc)), (50, (.int .i64 ((text.length : Nat) : Int))), (51, (.int .i64 ((i : Nat) : Int)))]) ∧ Chg none1 w0 W9 ∧ Chg none1 W2 W9 ∧ Blk W9 b1 #[(.int .i64 t.kind), (.slice sa t.set.length sc), (.slice aa t.args.length ac), (.int .i64 t.mn), (.int .i64 t.mx), (.bool t.neg)] 27 ∧ Blk W9 b6 (rowArr fun i' j => decide (i' < i) && setR text t.set i' j) TR ∧ (i ≤ text.length) ∧ nn_ = text.length - i) (n := text.length - 0) ?_ ?_
          · exact ⟨0, Fits.out ⟨rfl, rfl, rfl, rfl, rfl, trivial⟩, E, E2, B1, B6, Nat.zero_le _, rfl⟩
          · clear E E2 B1 B6
            rintro _ _ W9 ⟨i, ⟨j9, rfl⟩, E, E2, B1, B6, hi, rfl⟩
            refine Wp_seq_region ?_
            refine WpL_val rfl rfl (by decide) (r_lss (k := .i64) (a := ((i : Nat) : Int)) (b := ((text.length : Nat) : Int)) rfl rfl) ?_
            refine WpL_nil ?_
            refine Wp_seq ?_
            refine Wp_cond (b := decide ((((i : Nat) : Int) : Int) < ((text.length : Nat) : Int))) rfl (fun hlt2 => ?_) (fun hlt2 => ?_)
            · have khlt2 := hlt2
              replace hlt2 := of_decide_eq_true hlt2
              obtain ⟨c, hc⟩ := get_of_lt (l := text) (i := i) (by omega)
              obtain ⟨tb, to, rfl, htc⟩ := ints_cells htx (by omega)
              refine Wp_skip ?_
              refine thn_normal ?_
              refine Wp_seq ?_
              refine Wp_block ?_
              refine Wp_seq_region ?_
              refine WpL_val rfl rfl (by decide) (r_move (v := (.int .i64 ((i : Nat) : Int))) rfl) ?_
              refine WpL_val rfl rfl (by decide) (r_indexSlice (b := tb) (o := to) (len := text.length) (cap := tc) (i := i) (o' := to + i) rfl rfl rfl Tryd.underlying22 siz3 (by omega) (by omega)) ?_
              refine WpL_val rfl rfl (by decide) (r_load (v := (.int .i64 c)) rfl flat3 (E.cell (fun f => f) (htc i c hc))) ?_
              refine WpL_val rfl rfl (by decide) (r_assign (v := (.int .i64 ((i : Nat) : Int))) rfl) ?_
              refine WpL_val rfl rfl (by decide) (r_assign (v := (.int .i64 c)) rfl) ?_
              refine WpL_nil ?_
              refine Wp_seq_region ?_
              refine WpL_val rfl rfl (by decide) (r_fieldAddr (b := b1) (o := 0) (o' := 1) rfl Tryd.underlying27 rfl siz24 rfl) ?_
              refine WpL_val rfl rfl (by decide) (r_load (v := (.slice sa t.set.length sc)) rfl flat24 (B1.cell rfl)) ?_
              refine WpL_val rfl rfl (by decide) (r_move (v := (.int .i64 c)) rfl) ?_
              refine WpL_enter rfl rfl (by decide) (r_callF (vs := [(.slice sa t.set.length sc), (.int .i64 c)]) Tryd.func48 nm48 bd48 rfl) (in_c _ (.slice sa t.set.length sc) t.set c (hset.ext E)) ?_
              rintro _ w19 ⟨rfl, X19⟩
              replace B1 := X19.keep B1
              replace B6 := X19.keep B6
              replace E := E.ext X19
              replace E2 := E2.ext X19
              refine WpL_nil ?_
              refine Wp_cond (b := inS t.set c) rfl (fun hin => ?_) (fun hin => ?_)
              · have khin := hin
                refine Wp_draw 7 mixed (by kernel_rfl) ?_
                intro w12 X12 _
                replace B1 := X12.keep B1
                replace B6 := X12.keep B6
                replace E := E.ext X12
                replace E2 := E2.ext X12
                refine WpT_val rfl rfl (by decide) (r_move (v := (.pointer (some ⟨b6, 0, none⟩))) rfl) ?_
                refine WpT_val rfl rfl (by decide) (r_move (v := (.int .i64 ((i : Nat) : Int))) rfl) ?_
                refine WpT_val rfl rfl (by decide) (r_move (v := (.int .i64 ((i : Nat) : Int))) rfl) ?_
                refine WpT_val rfl rfl (by decide) (r_add (k := .i64) (a := ((i : Nat) : Int)) (b := 1) (c := ((i : Nat) : Int) + 1) rfl rfl (wI64 (by omega))) ?_
                refine WpT_val rfl rfl (by decide) (r_shl (k := .u32) (a := 1) (b := ((i : Nat) : Int) + 1) (c := ((2 ^ (i + 1) : Nat) : Int)) (k' := .i64) rfl rfl (by omega) (shl1 (k := i + 1) (by omega))) ?_
                refine WpT_val rfl rfl (by decide) (r_nilCheck (a := ⟨b6, 0, none⟩) rfl) ?_
                refine WpT_val rfl rfl (by decide) (r_indexArr (b := b6) (o := 0) (i := i) (o' := i) rfl rfl rfl Tryd.underlying101 siz64 (by omega) (by omega)) ?_
                refine WpT_zero ?_
                refine s_store (b := b6) (o := i) (c' := rowArr fun i' j => decide (i' < i + 1) && setR text t.set i' j) (v := (.int .u32 ((2 ^ (i + 1) : Nat) : Int))) rfl rfl rfl siz64 B6 (by rw [rowArr_size]; omega) (rowArr_set (by omega) (by rw [mask_one (n := 25) (i := i + 1) (by omega), mask_congr (g := fun j => decide (i < i + 1) && setR text t.set i j) (fun j _ => by simp [setR, hc, hin])]) (fun i' _ hne j _ => by rw [Bool.eq_iff_iff]; simp; omega)) ?_
                intro w13 S13
                replace B1 := S13.keep (by omega) B1
                replace E := S13.step E (by first | exact Or.inl (by omega) | exact Or.inr rfl | exact Or.inr (by assumption) | exact Or.inr (by simp) | exact Or.inr (by omega) | exact Or.inr (by dsimp only; omega))
                replace E2 := S13.step E2 (Or.inl (by omega))
                replace B6 := S13.blk
                refine WpL_nil ?_
                refine inB_normal ?_
                refine thn_normal ?_
                refine Wp_region ?_
                refine WpL_val rfl rfl (by decide) (r_add (k := .i64) (a := ((i : Nat) : Int)) (b := 1) (c := ((i : Nat) : Int) + 1) rfl rfl (wI64 (by omega))) ?_
                refine WpL_val rfl rfl (by decide) (r_move (v := (.int .i64 (((i : Nat) : Int) + 1))) rfl) ?_
                refine WpL_nil ?_
                refine thn_normal ?_
                exact ⟨text.length - (i + 1), by omega, i + 1, Fits.out ⟨rfl, rfl, rfl, rfl, rfl, trivial⟩, E, E2, B1, B6, (by omega), rfl⟩
              · have khin := hin
                rw [show rowArr (fun i' j => decide (i' < i) && setR text t.set i' j) = rowArr (fun i' j => decide (i' < i + 1) && setR text t.set i' j) from rowArr_congr fun i' _ j _ => by rcases Nat.lt_trichotomy i' i with h | h | h; simp [h, show i' < i + 1 by omega]; subst h; simp [setR, hc, hin]; simp [show ¬ i' < i by omega, show ¬ i' < i + 1 by omega]] at B6
                refine Wp_skip ?_
                refine inB_normal ?_
                refine thn_normal ?_
                refine Wp_region ?_
                refine WpL_val rfl rfl (by decide) (r_add (k := .i64) (a := ((i : Nat) : Int)) (b := 1) (c := ((i : Nat) : Int) + 1) rfl rfl (wI64 (by omega))) ?_
                refine WpL_val rfl rfl (by decide) (r_move (v := (.int .i64 (((i : Nat) : Int) + 1))) rfl) ?_
                refine WpL_nil ?_
                refine thn_normal ?_
                exact ⟨text.length - (i + 1), by omega, i + 1, Fits.out ⟨rfl, rfl, rfl, rfl, rfl, trivial⟩, E, E2, B1, B6, (by omega), rfl⟩
            · have khlt2 := hlt2
              replace hlt2 := of_decide_eq_false hlt2
              obtain rfl : i = text.length := by omega
              rw [show rowArr (fun i' j => decide (i' < text.length) && setR text t.set i' j) = rowArr (setR text t.set) from rowArr_congr fun i' _ j _ => by by_cases h : i' < text.length; simp [h]; simp [h, setR]] at B6
              refine Wp_exit ?_
              refine thn_exit ?_
              refine thn_exit ?_
              refine inB_here ?_
              refine inB_normal ?_
              refine thn_normal ?_
              refine Wp_seq_region ?_
              refine WpL_val rfl rfl (by decide) (r_move (v := (.pointer (some ⟨b6, 0, none⟩))) rfl) ?_
              refine WpL_val rfl rfl (by decide) (r_assign (v := (.pointer (some ⟨b6, 0, none⟩))) rfl) ?_
              refine WpL_nil ?_
              refine Wp_ret ?_
              refine fin_tmp Tryd.results26 (v := (.pointer (some ⟨b6, 0, none⟩))) rfl ?_
              exact ⟨b6, rfl, by omega, by rw [hK]; exact B6, E⟩
        · have kh2 := h2
          replace h2 := of_decide_eq_false h2
          refine Wp_seq_region ?_
          refine WpL_val rfl rfl (by decide) (r_eql (k := .i64) (a := t.kind) (b := 3) rfl rfl) ?_
          refine WpL_val rfl rfl (by decide) (r_assign (v := (.bool (decide ((t.kind : Int) = 3)))) rfl) ?_
          refine WpL_nil ?_
          refine Wp_cond (b := decide ((t.kind : Int) = 3)) rfl (fun h3 => ?_) (fun h3 => ?_)
          · have kh3 := h3
            replace h3 := of_decide_eq_true h3
            have hK : relOf text t = (t.args.map (relOf text)).foldl (fun a x => thenR a x text.length) (idR text.length) := by rw [hR]; simp [relK, h3]
            refine Wp_seq_region ?_
            refine WpL_val rfl rfl (by decide) (r_move (v := (.int .i64 ((text.length : Nat) : Int))) rfl) ?_
            refine WpL_enter rfl rfl (by decide) (r_callF (vs := [(.int .i64 ((text.length : Nat) : Int))]) Tryd.func47 nm47 bd47 rfl) (rsame_c _ text.length hn) ?_
            rintro _ w29 ⟨bo, rfl, hbo, Bo, X29⟩
            replace B1 := X29.keep B1
            replace B6 := X29.keep B6
            replace E := E.ext X29
            replace E2 := E2.ext X29
            have hbo0 : w0.heap.size ≤ bo := by have := N6.size; omega
            refine WpL_val rfl rfl (by decide) (r_assign (v := (.pointer (some ⟨bo, 0, none⟩))) rfl) ?_
            refine WpL_nil ?_
            refine Wp_seq_region ?_
            refine WpL_val rfl rfl (by decide) (r_move (v := (.slice la t.args.length lc)) rfl) ?_
            refine WpL_val rfl rfl (by decide) (r_lenSlice (ad := la) (n := t.args.length) (cap := lc) Tryd.underlying99 rfl) ?_
            refine WpL_val rfl rfl (by decide) (r_move (v := (.int .i64 0)) rfl) ?_
            refine WpL_nil ?_
            refine Wp_block ?_
            refine Wp_loop (fun nn_ σ W15 => ∃ (i : Nat) (ob : Nat), (∃ jj_, σ = upds jj_ [(5, (.int .i64 ((text.length : Nat) : Int))), (72, (.slice la t.args.length lc)), (73, (.int .i64 ((t.args.length : Nat) : Int))), (74, (.int .i64 ((i : Nat) : Int))), (9, (.pointer (some ⟨ob, 0, none⟩)))]) ∧ Chg none1 w0 W15 ∧ Chg none1 W2 W15 ∧ Blk W15 b1 #[(.int .i64 t.kind), (.slice sa t.set.length sc), (.slice aa t.args.length ac), (.int .i64 t.mn), (.int .i64 t.mx), (.bool t.neg)] 27 ∧ Blk W15 b6 (rowArr noR) TR ∧ (i ≤ t.args.length) ∧ (w0.heap.size ≤ ob) ∧ (Blk W15 ob (rowArr (((t.args.map (relOf text)).take i).foldl (fun a x => thenR a x text.length) (idR text.length))) TR) ∧ nn_ = t.args.length - i) (n := t.args.length - 0) ?_ ?_
            · exact ⟨0, bo, Fits.out ⟨rfl, rfl, rfl, rfl, rfl, trivial⟩, E, E2, B1, B6, Nat.zero_le _, hbo0, Bo, rfl⟩
            · clear E E2 B1 B6
              rintro _ _ W15 ⟨i, ob, ⟨j15, rfl⟩, E, E2, B1, B6, hi, hob, Bo, rfl⟩
              refine Wp_seq_region ?_
              refine WpL_val rfl rfl (by decide) (r_lss (k := .i64) (a := ((i : Nat) : Int)) (b := ((t.args.length : Nat) : Int)) rfl rfl) ?_
              refine WpL_nil ?_
              refine Wp_seq ?_
              refine Wp_cond (b := decide ((((i : Nat) : Int) : Int) < ((t.args.length : Nat) : Int))) rfl (fun hlt3 => ?_) (fun hlt3 => ?_)
              · have khlt3 := hlt3
                replace hlt3 := of_decide_eq_true hlt3
                obtain ⟨R, hRi⟩ := get_of_lt (l := t.args.map (relOf text)) (i := i) (by simp; omega)
                obtain ⟨g, rfl, hg⟩ := hcl (by omega)
                obtain ⟨bx, hpx, Bx, _⟩ := hps.2 i R hRi
                refine Wp_skip ?_
                refine thn_normal ?_
                refine Wp_seq ?_
                refine Wp_block ?_
                refine Wp_seq_region ?_
                refine WpL_val rfl rfl (by decide) (r_indexSlice (b := g) (o := 0) (len := t.args.length) (cap := lc) (i := i) (o' := 0 + i) rfl rfl rfl Tryd.underlying99 siz62 (by omega) (by omega)) ?_
                refine WpL_val rfl rfl (by decide) (r_load (v := (.pointer (some ⟨bx, 0, none⟩))) rfl flat62 (E2.cell (fun f => f) (hg i _ hpx))) ?_
                refine WpL_val rfl rfl (by decide) (r_assign (v := (.pointer (some ⟨bx, 0, none⟩))) rfl) ?_
                refine WpL_nil ?_
                refine Wp_region ?_
                refine WpL_val rfl rfl (by decide) (r_move (v := (.pointer (some ⟨ob, 0, none⟩))) rfl) ?_
                refine WpL_val rfl rfl (by decide) (r_move (v := (.pointer (some ⟨bx, 0, none⟩))) rfl) ?_
                refine WpL_val rfl rfl (by decide) (r_move (v := (.int .i64 ((text.length : Nat) : Int))) rfl) ?_
                refine WpL_enter rfl rfl (by decide) (r_callF (vs := [(.pointer (some ⟨ob, 0, none⟩)), (.pointer (some ⟨bx, 0, none⟩)), (.int .i64 ((text.length : Nat) : Int))]) Tryd.func49 nm49 bd49 rfl) (then_c _ ob bx text.length _ R hn Bo (E2.keep (fun f => f) Bx) (hT.ext E)) ?_
                rintro _ w39 ⟨ob2, rfl, hob2, Bo2, X39⟩
                replace B1 := X39.keep B1
                replace B6 := X39.keep B6
                replace E := E.ext X39
                replace E2 := E2.ext X39
                refine WpL_val rfl rfl (by decide) (r_assign (v := (.pointer (some ⟨ob2, 0, none⟩))) rfl) ?_
                refine WpL_nil ?_
                refine inB_normal ?_
                refine thn_normal ?_
                refine Wp_region ?_
                refine WpL_val rfl rfl (by decide) (r_add (k := .i64) (a := ((i : Nat) : Int)) (b := 1) (c := ((i : Nat) : Int) + 1) rfl rfl (wI64 (by omega))) ?_
                refine WpL_val rfl rfl (by decide) (r_move (v := (.int .i64 (((i : Nat) : Int) + 1))) rfl) ?_
                refine WpL_nil ?_
                refine thn_normal ?_
                exact ⟨t.args.length - (i + 1), by omega, i + 1, ob2, Fits.out ⟨rfl, rfl, rfl, rfl, rfl, trivial⟩, E, E2, B1, B6, (by omega), (by have := Bo.lt; omega), (by rw [fold_take hRi]; exact Bo2), rfl⟩
              · have khlt3 := hlt3
                replace hlt3 := of_decide_eq_false hlt3
                obtain rfl : i = t.args.length := by omega
                rw [List.take_of_length_le (by simp)] at Bo
                refine Wp_exit ?_
                refine thn_exit ?_
                refine thn_exit ?_
                refine inB_here ?_
                refine inB_normal ?_
                refine thn_normal ?_
                refine Wp_seq_region ?_
                refine WpL_val rfl rfl (by decide) (r_move (v := (.pointer (some ⟨ob, 0, none⟩))) rfl) ?_
                refine WpL_val rfl rfl (by decide) (r_assign (v := (.pointer (some ⟨ob, 0, none⟩))) rfl) ?_
                refine WpL_nil ?_
                refine Wp_ret ?_
                refine fin_tmp Tryd.results26 (v := (.pointer (some ⟨ob, 0, none⟩))) rfl ?_
                exact ⟨ob, rfl, hob, by rw [hK]; exact Bo, E⟩
          · have kh3 := h3
            replace h3 := of_decide_eq_false h3
            refine Wp_seq_region ?_
            refine WpL_val rfl rfl (by decide) (r_eql (k := .i64) (a := t.kind) (b := 4) rfl rfl) ?_
            refine WpL_val rfl rfl (by decide) (r_assign (v := (.bool (decide ((t.kind : Int) = 4)))) rfl) ?_
            refine WpL_nil ?_
            refine Wp_cond (b := decide ((t.kind : Int) = 4)) rfl (fun h4 => ?_) (fun h4 => ?_)
            · have kh4 := h4
              replace h4 := of_decide_eq_true h4
              have hK : relOf text t = (t.args.map (relOf text)).foldl orR noR := by rw [hR]; simp [relK, h4]
              refine Wp_seq_region ?_
              refine WpL_val rfl rfl (by decide) (r_move (v := (.slice la t.args.length lc)) rfl) ?_
              refine WpL_val rfl rfl (by decide) (r_lenSlice (ad := la) (n := t.args.length) (cap := lc) Tryd.underlying99 rfl) ?_
              refine WpL_val rfl rfl (by decide) (r_move (v := (.int .i64 0)) rfl) ?_
              refine WpL_nil ?_
              refine Wp_block ?_
              refine Wp_loop (fun nn_ σ W18 => ∃ (i : Nat) (ob : Nat), (∃ jj_, σ = upds jj_ [(85, (.slice la t.args.length lc)), (86, (.int .i64 ((t.args.length : Nat) : Int))), (87, (.int .i64 ((i : Nat) : Int))), (9, (.pointer (some ⟨ob, 0, none⟩)))]) ∧ Chg none1 w0 W18 ∧ Chg none1 W2 W18 ∧ Blk W18 b1 #[(.int .i64 t.kind), (.slice sa t.set.length sc), (.slice aa t.args.length ac), (.int .i64 t.mn), (.int .i64 t.mx), (.bool t.neg)] 27 ∧ Blk W18 b6 (rowArr noR) TR ∧ (i ≤ t.args.length) ∧ (w0.heap.size ≤ ob) ∧ (Blk W18 ob (rowArr (((t.args.map (relOf text)).take i).foldl orR noR)) TR) ∧ nn_ = t.args.length - i) (n := t.args.length - 0) ?_ ?_
              · exact ⟨0, b6, Fits.out ⟨rfl, rfl, rfl, rfl, trivial⟩, E, E2, B1, B6, Nat.zero_le _, (by omega), B6, rfl⟩
              · clear E E2 B1 B6
                rintro _ _ W18 ⟨i, ob, ⟨j18, rfl⟩, E, E2, B1, B6, hi, hob, Bo, rfl⟩
                refine Wp_seq_region ?_
                refine WpL_val rfl rfl (by decide) (r_lss (k := .i64) (a := ((i : Nat) : Int)) (b := ((t.args.length : Nat) : Int)) rfl rfl) ?_
                refine WpL_nil ?_
                refine Wp_seq ?_
                refine Wp_cond (b := decide ((((i : Nat) : Int) : Int) < ((t.args.length : Nat) : Int))) rfl (fun hlt4 => ?_) (fun hlt4 => ?_)
                · have khlt4 := hlt4
                  replace hlt4 := of_decide_eq_true hlt4
                  obtain ⟨R, hRi⟩ := get_of_lt (l := t.args.map (relOf text)) (i := i) (by simp; omega)
                  obtain ⟨g, rfl, hg⟩ := hcl (by omega)
                  obtain ⟨bx, hpx, Bx, _⟩ := hps.2 i R hRi
                  refine Wp_skip ?_
                  refine thn_normal ?_
                  refine Wp_seq ?_
                  refine Wp_block ?_
                  refine Wp_seq_region ?_
                  refine WpL_val rfl rfl (by decide) (r_indexSlice (b := g) (o := 0) (len := t.args.length) (cap := lc) (i := i) (o' := 0 + i) rfl rfl rfl Tryd.underlying99 siz62 (by omega) (by omega)) ?_
                  refine WpL_val rfl rfl (by decide) (r_load (v := (.pointer (some ⟨bx, 0, none⟩))) rfl flat62 (E2.cell (fun f => f) (hg i _ hpx))) ?_
                  refine WpL_val rfl rfl (by decide) (r_assign (v := (.pointer (some ⟨bx, 0, none⟩))) rfl) ?_
                  refine WpL_nil ?_
                  refine Wp_region ?_
                  refine WpL_val rfl rfl (by decide) (r_move (v := (.pointer (some ⟨ob, 0, none⟩))) rfl) ?_
                  refine WpL_val rfl rfl (by decide) (r_move (v := (.pointer (some ⟨bx, 0, none⟩))) rfl) ?_
                  refine WpL_enter rfl rfl (by decide) (r_callF (vs := [(.pointer (some ⟨ob, 0, none⟩)), (.pointer (some ⟨bx, 0, none⟩))]) Tryd.func50 nm50 bd50 rfl) (or_c _ ob bx _ R Bo (E2.keep (fun f => f) Bx)) ?_
                  rintro _ w39 ⟨ob2, rfl, hob2, Bo2, X39⟩
                  replace B1 := X39.keep B1
                  replace B6 := X39.keep B6
                  replace E := E.ext X39
                  replace E2 := E2.ext X39
                  refine WpL_val rfl rfl (by decide) (r_assign (v := (.pointer (some ⟨ob2, 0, none⟩))) rfl) ?_
                  refine WpL_nil ?_
                  refine inB_normal ?_
                  refine thn_normal ?_
                  refine Wp_region ?_
                  refine WpL_val rfl rfl (by decide) (r_add (k := .i64) (a := ((i : Nat) : Int)) (b := 1) (c := ((i : Nat) : Int) + 1) rfl rfl (wI64 (by omega))) ?_
                  refine WpL_val rfl rfl (by decide) (r_move (v := (.int .i64 (((i : Nat) : Int) + 1))) rfl) ?_
                  refine WpL_nil ?_
                  refine thn_normal ?_
                  exact ⟨t.args.length - (i + 1), by omega, i + 1, ob2, Fits.out ⟨rfl, rfl, rfl, rfl, trivial⟩, E, E2, B1, B6, (by omega), (by have := Bo.lt; omega), (by rw [fold_take hRi]; exact Bo2), rfl⟩
                · have khlt4 := hlt4
                  replace hlt4 := of_decide_eq_false hlt4
                  obtain rfl : i = t.args.length := by omega
                  rw [List.take_of_length_le (by simp)] at Bo
                  refine Wp_exit ?_
                  refine thn_exit ?_
                  refine thn_exit ?_
                  refine inB_here ?_
                  refine inB_normal ?_
                  refine thn_normal ?_
                  refine Wp_seq_region ?_
                  refine WpL_val rfl rfl (by decide) (r_move (v := (.pointer (some ⟨ob, 0, none⟩))) rfl) ?_
                  refine WpL_val rfl rfl (by decide) (r_assign (v := (.pointer (some ⟨ob, 0, none⟩))) rfl) ?_
                  refine WpL_nil ?_
                  refine Wp_ret ?_
                  refine fin_tmp Tryd.results26 (v := (.pointer (some ⟨ob, 0, none⟩))) rfl ?_
                  exact ⟨ob, rfl, hob, by rw [hK]; exact Bo, E⟩
            · have kh4 := h4
              replace h4 := of_decide_eq_false h4
              refine Wp_seq_region ?_
              refine WpL_val rfl rfl (by decide) (r_eql (k := .i64) (a := t.kind) (b := 7) rfl rfl) ?_
              refine WpL_val rfl rfl (by decide) (r_assign (v := (.bool (decide ((t.kind : Int) = 7)))) rfl) ?_
              refine WpL_nil ?_
              refine Wp_cond (b := decide ((t.kind : Int) = 7)) rfl (fun h7 => ?_) (fun h7 => ?_)
              · have kh7 := h7
                replace h7 := of_decide_eq_true h7
                have h2a := okRe_two hok (by omega)
                obtain ⟨g, rfl, hg⟩ := hcl (by omega)
                obtain ⟨R0, hR0⟩ := get_of_lt (l := t.args.map (relOf text)) (i := 0) (by simp; omega)
                obtain ⟨bz, hpz, Bz, hbz⟩ := hps.2 0 R0 hR0
                have hK : relOf text t = (t.args.map (relOf text)).foldl andR R0 := by rw [hR, ← head_get (d := noR) hR0]; simp only [relK, h7]; rfl
                refine Wp_seq_region ?_
                refine WpL_val rfl rfl (by decide) (r_move (v := (.pointer (some ⟨b6, 0, none⟩))) rfl) ?_
                refine WpL_val rfl rfl (by decide) (r_move (v := (.slice (some ⟨g, 0, none⟩) t.args.length lc)) rfl) ?_
                refine WpL_val rfl rfl (by decide) (r_indexSlice (b := g) (o := 0) (len := t.args.length) (cap := lc) (i := 0) (o' := 0) rfl rfl rfl Tryd.underlying99 siz62 (by omega) (by omega)) ?_
                refine WpL_val rfl rfl (by decide) (r_load (v := (.pointer (some ⟨bz, 0, none⟩))) rfl flat62 (E2.cell (fun f => f) (hg 0 _ hpz))) ?_
                refine WpL_val rfl rfl (by decide) (r_nilCheck (a := ⟨bz, 0, none⟩) rfl) ?_
                refine WpL_val rfl rfl (by decide) (r_loadAgg (vs := (rowArr R0).toList) rfl agg101 siz101 (by simp [rowArr]) ((E2.keep (fun f => f) Bz).cells (by simp only [List.drop_zero]; exact List.take_length))) ?_
                refine WpL_val rfl rfl (by decide) (r_nilCheck (a := ⟨b6, 0, none⟩) rfl) ?_
                refine s_storeAgg (b := b6) (o := 0) (n := 25) (c' := rowArr R0) (vs := ((rowArr R0).toList.toArray)) rfl rfl (by simpa using rowArr_one R0) siz101 (by simp [rowArr]) B6 (by rw [rowArr_size]; decide) (by simp [rowArr]) ?_
                intro w21 S21
                replace B1 := S21.keep (by omega) B1
                replace E := S21.step E (by first | exact Or.inl (by omega) | exact Or.inr rfl | exact Or.inr (by assumption) | exact Or.inr (by simp) | exact Or.inr (by omega) | exact Or.inr (by dsimp only; omega))
                replace E2 := S21.step E2 (Or.inl (by omega))
                replace B6 := S21.blk
                rw [show R0 = ((t.args.map (relOf text)).take 0).foldl andR R0 from rfl] at B6
                refine WpL_nil ?_
                refine Wp_seq_region ?_
                refine WpL_val rfl rfl (by decide) (r_move (v := (.slice (some ⟨g, 0, none⟩) t.args.length lc)) rfl) ?_
                refine WpL_val rfl rfl (by decide) (r_lenSlice (ad := some ⟨g, 0, none⟩) (n := t.args.length) (cap := lc) Tryd.underlying99 rfl) ?_
                refine WpL_val rfl rfl (by decide) (r_move (v := (.int .i64 0)) rfl) ?_
                refine WpL_nil ?_
                refine Wp_block ?_
                refine Wp_loop (fun nn_ σ W22 => ∃ (i : Nat), (∃ jj_, σ = upds jj_ [(9, (.pointer (some ⟨b6, 0, none⟩))), (104, (.slice (some ⟨g, 0, none⟩) t.args.length lc)), (105, (.int .i64 ((t.args.length : Nat) : Int))), (106, (.int .i64 ((i : Nat) : Int)))]) ∧ Chg none1 w0 W22 ∧ Chg none1 W2 W22 ∧ Blk W22 b1 #[(.int .i64 t.kind), (.slice sa t.set.length sc), (.slice aa t.args.length ac), (.int .i64 t.mn), (.int .i64 t.mx), (.bool t.neg)] 27 ∧ Blk W22 b6 (rowArr (((t.args.map (relOf text)).take i).foldl andR R0)) TR ∧ (i ≤ t.args.length) ∧ nn_ = t.args.length - i) (n := t.args.length - 0) ?_ ?_
                · exact ⟨0, Fits.out ⟨rfl, rfl, rfl, rfl, trivial⟩, E, E2, B1, B6, Nat.zero_le _, rfl⟩
                · clear E E2 B1 B6
                  rintro _ _ W22 ⟨i, ⟨j22, rfl⟩, E, E2, B1, B6, hi, rfl⟩
                  refine Wp_seq_region ?_
                  refine WpL_val rfl rfl (by decide) (r_lss (k := .i64) (a := ((i : Nat) : Int)) (b := ((t.args.length : Nat) : Int)) rfl rfl) ?_
                  refine WpL_nil ?_
                  refine Wp_seq ?_
                  refine Wp_cond (b := decide ((((i : Nat) : Int) : Int) < ((t.args.length : Nat) : Int))) rfl (fun hlt7 => ?_) (fun hlt7 => ?_)
                  · have khlt7 := hlt7
                    replace hlt7 := of_decide_eq_true hlt7
                    obtain ⟨R, hRi⟩ := get_of_lt (l := t.args.map (relOf text)) (i := i) (by simp; omega)
                    obtain ⟨bx, hpx, Bx, _⟩ := hps.2 i R hRi
                    have hft := fold_take (f := andR) (a := R0) hRi
                    generalize ((t.args.map (relOf text)).take i).foldl andR R0 = A at B6 hft
                    refine Wp_skip ?_
                    refine thn_normal ?_
                    refine Wp_seq ?_
                    refine Wp_block ?_
                    refine Wp_seq_region ?_
                    refine WpL_val rfl rfl (by decide) (r_indexSlice (b := g) (o := 0) (len := t.args.length) (cap := lc) (i := i) (o' := 0 + i) rfl rfl rfl Tryd.underlying99 siz62 (by omega) (by omega)) ?_
                    refine WpL_val rfl rfl (by decide) (r_load (v := (.pointer (some ⟨bx, 0, none⟩))) rfl flat62 (E2.cell (fun f => f) (hg i _ hpx))) ?_
                    refine WpL_val rfl rfl (by decide) (r_assign (v := (.pointer (some ⟨bx, 0, none⟩))) rfl) ?_
                    refine WpL_nil ?_
                    refine Wp_seq_region ?_
                    refine WpL_val rfl rfl (by decide) (r_move (v := (.int .i64 0)) rfl) ?_
                    refine WpL_nil ?_
                    refine Wp_block ?_
                    rw [show rowArr A = rowArr (fun i' j => if i' < 0 then andR A R i' j else A i' j) from rowArr_congr fun i' _ j _ => by simp] at B6
                    refine Wp_loop (fun nn_ σ W24 => ∃ (p : Nat), (∃ jj_, σ = upds jj_ [(9, (.pointer (some ⟨b6, 0, none⟩))), (17, (.pointer (some ⟨bx, 0, none⟩))), (104, (.slice (some ⟨g, 0, none⟩) t.args.length lc)), (105, (.int .i64 ((t.args.length : Nat) : Int))), (106, (.int .i64 ((i : Nat) : Int))), (110, (.int .i64 ((p : Nat) : Int)))]) ∧ Chg none1 w0 W24 ∧ Chg none1 W2 W24 ∧ Blk W24 b1 #[(.int .i64 t.kind), (.slice sa t.set.length sc), (.slice aa t.args.length ac), (.int .i64 t.mn), (.int .i64 t.mx), (.bool t.neg)] 27 ∧ Blk W24 b6 (rowArr fun i' j => if i' < p then andR A R i' j else A i' j) TR ∧ (p ≤ 25) ∧ nn_ = 25 - p) (n := 25 - 0) ?_ ?_
                    · exact ⟨0, Fits.out ⟨rfl, rfl, rfl, rfl, rfl, rfl, trivial⟩, E, E2, B1, B6, Nat.zero_le _, rfl⟩
                    · clear E E2 B1 B6
                      rintro _ _ W24 ⟨p, ⟨j24, rfl⟩, E, E2, B1, B6, hp, rfl⟩
                      refine Wp_seq_region ?_
                      refine WpL_val rfl rfl (by decide) (r_lss (k := .i64) (a := ((p : Nat) : Int)) (b := 25) rfl rfl) ?_
                      refine WpL_nil ?_
                      refine Wp_seq ?_
                      refine Wp_cond (b := decide ((((p : Nat) : Int) : Int) < 25)) rfl (fun hltp => ?_) (fun hltp => ?_)
                      · have khltp := hltp
                        replace hltp := of_decide_eq_true hltp
                        refine Wp_skip ?_
                        refine thn_normal ?_
                        refine Wp_seq ?_
                        refine Wp_block ?_
                        refine Wp_seq_region ?_
                        refine WpL_val rfl rfl (by decide) (r_move (v := (.int .i64 ((p : Nat) : Int))) rfl) ?_
                        refine WpL_val rfl rfl (by decide) (r_assign (v := (.int .i64 ((p : Nat) : Int))) rfl) ?_
                        refine WpL_nil ?_
                        refine Wp_draw 13 mixed (by kernel_rfl) ?_
                        intro w26 X26 _
                        replace B1 := X26.keep B1
                        replace B6 := X26.keep B6
                        replace E := E.ext X26
                        replace E2 := E2.ext X26
                        refine WpT_val rfl rfl (by decide) (r_move (v := (.pointer (some ⟨b6, 0, none⟩))) rfl) ?_
                        refine WpT_val rfl rfl (by decide) (r_move (v := (.int .i64 ((p : Nat) : Int))) rfl) ?_
                        refine WpT_val rfl rfl (by decide) (r_nilCheck (a := ⟨b6, 0, none⟩) rfl) ?_
                        refine WpT_val rfl rfl (by decide) (r_indexArr (b := b6) (o := 0) (i := p) (o' := p) rfl rfl rfl Tryd.underlying101 siz64 (by omega) (by omega)) ?_
                        refine WpT_val rfl rfl (by decide) (r_load (v := (.int .u32 ((maskN 25 (A p) : Nat) : Int))) rfl flat64 ((B6.cell (rowArr_get _ (by omega))).trans (by simp))) ?_
                        refine WpT_val rfl rfl (by decide) (r_move (v := (.pointer (some ⟨bx, 0, none⟩))) rfl) ?_
                        refine WpT_val rfl rfl (by decide) (r_move (v := (.int .i64 ((p : Nat) : Int))) rfl) ?_
                        refine WpT_val rfl rfl (by decide) (r_nilCheck (a := ⟨bx, 0, none⟩) rfl) ?_
                        refine WpT_val rfl rfl (by decide) (r_indexArr (b := bx) (o := 0) (i := p) (o' := p) rfl rfl rfl Tryd.underlying101 siz64 (by omega) (by omega)) ?_
                        refine WpT_val rfl rfl (by decide) (r_load (v := (.int .u32 ((maskN 25 (R p) : Nat) : Int))) rfl flat64 ((E2.keep (fun f => f) Bx).cell (rowArr_get _ (by omega)))) ?_
                        refine WpT_val rfl rfl (by decide) (r_bits (k := .u32) (a := ((maskN 25 (A p) : Nat) : Int)) (b := ((maskN 25 (R p) : Nat) : Int)) (v := .int .u32 ((maskN 25 (andR A R p) : Nat) : Int)) rfl rfl (by simp) ((bits_and _ _ (mask_lt32 _) (mask_lt32 _)).trans (by rw [mask_and]; rfl))) ?_
                        refine WpT_val rfl rfl (by decide) (r_nilCheck (a := ⟨b6, 0, none⟩) rfl) ?_
                        refine WpT_val rfl rfl (by decide) (r_indexArr (b := b6) (o := 0) (i := p) (o' := p) rfl rfl rfl Tryd.underlying101 siz64 (by omega) (by omega)) ?_
                        refine WpT_zero ?_
                        refine s_store (b := b6) (o := p) (c' := rowArr fun i' j => if i' < p + 1 then andR A R i' j else A i' j) (v := (.int .u32 ((maskN 25 (andR A R p) : Nat) : Int))) rfl rfl rfl siz64 B6 (by rw [rowArr_size]; omega) (rowArr_set (by omega) (by simp) (fun i' _ hne j _ => by by_cases h : i' < p; rw [if_pos h, if_pos (by omega)]; rw [if_neg h, if_neg (by omega)])) ?_
                        intro w27 S27
                        replace B1 := S27.keep (by omega) B1
                        replace E := S27.step E (by first | exact Or.inl (by omega) | exact Or.inr rfl | exact Or.inr (by assumption) | exact Or.inr (by simp) | exact Or.inr (by omega) | exact Or.inr (by dsimp only; omega))
                        replace E2 := S27.step E2 (Or.inl (by omega))
                        replace B6 := S27.blk
                        refine WpL_nil ?_
                        refine inB_normal ?_
                        refine thn_normal ?_
                        refine Wp_region ?_
                        refine WpL_val rfl rfl (by decide) (r_add (k := .i64) (a := ((p : Nat) : Int)) (b := 1) (c := ((p : Nat) : Int) + 1) rfl rfl (wI64 (by omega))) ?_
                        refine WpL_val rfl rfl (by decide) (r_move (v := (.int .i64 (((p : Nat) : Int) + 1))) rfl) ?_
                        refine WpL_nil ?_
                        refine thn_normal ?_
                        exact ⟨25 - (p + 1), by omega, p + 1, Fits.out ⟨rfl, rfl, rfl, rfl, rfl, rfl, trivial⟩, E, E2, B1, B6, (by omega), rfl⟩
                      · have khltp := hltp
                        replace hltp := of_decide_eq_false hltp
                        obtain rfl : p = 25 := by omega
                        rw [show rowArr (fun i' j => if i' < 25 then andR A R i' j else A i' j) = rowArr (andR A R) from rowArr_congr fun i h j _ => by rw [if_pos h], ← hft] at B6
                        refine Wp_exit ?_
                        refine thn_exit ?_
                        refine thn_exit ?_
                        refine inB_here ?_
                        refine inB_normal ?_
                        refine thn_normal ?_
                        refine Wp_region ?_
                        refine WpL_val rfl rfl (by decide) (r_add (k := .i64) (a := ((i : Nat) : Int)) (b := 1) (c := ((i : Nat) : Int) + 1) rfl rfl (wI64 (by omega))) ?_
                        refine WpL_val rfl rfl (by decide) (r_move (v := (.int .i64 (((i : Nat) : Int) + 1))) rfl) ?_
                        refine WpL_nil ?_
                        refine thn_normal ?_
                        exact ⟨t.args.length - (i + 1), by omega, i + 1, Fits.out ⟨rfl, rfl, rfl, rfl, trivial⟩, E, E2, B1, B6, (by omega), rfl⟩
                  · have khlt7 := hlt7
                    replace hlt7 := of_decide_eq_false hlt7
                    obtain rfl : i = t.args.length := by omega
                    rw [List.take_of_length_le (by simp)] at B6
                    refine Wp_exit ?_
                    refine thn_exit ?_
                    refine thn_exit ?_
                    refine inB_here ?_
                    refine inB_normal ?_
                    refine thn_normal ?_
                    refine Wp_seq_region ?_
                    refine WpL_val rfl rfl (by decide) (r_move (v := (.pointer (some ⟨b6, 0, none⟩))) rfl) ?_
                    refine WpL_val rfl rfl (by decide) (r_assign (v := (.pointer (some ⟨b6, 0, none⟩))) rfl) ?_
                    refine WpL_nil ?_
                    refine Wp_ret ?_
                    refine fin_tmp Tryd.results26 (v := (.pointer (some ⟨b6, 0, none⟩))) rfl ?_
                    exact ⟨b6, rfl, by omega, by rw [hK]; exact B6, E⟩
              · have kh7 := h7
                replace h7 := of_decide_eq_false h7
                refine Wp_seq_region ?_
                refine WpL_val rfl rfl (by decide) (r_eql (k := .i64) (a := t.kind) (b := 8) rfl rfl) ?_
                refine WpL_val rfl rfl (by decide) (r_assign (v := (.bool (decide ((t.kind : Int) = 8)))) rfl) ?_
                refine WpL_nil ?_
                refine Wp_cond (b := decide ((t.kind : Int) = 8)) rfl (fun h8 => ?_) (fun h8 => ?_)
                · have kh8 := h8
                  replace h8 := of_decide_eq_true h8
                  have h1a := okRe_one hok (by omega)
                  obtain ⟨g, rfl, hg⟩ := hcl (by omega)
                  obtain ⟨R0, hR0⟩ := get_of_lt (l := t.args.map (relOf text)) (i := 0) (by simp; omega)
                  obtain ⟨bz, hpz, Bz, hbz⟩ := hps.2 0 R0 hR0
                  have hK : relOf text t = notR text.length R0 := by rw [hR, ← head_get (d := noR) hR0]; simp only [relK, h8]; rfl
                  rw [show rowArr noR = rowArr (fun i' j => decide (i' < 0) && notR text.length R0 i' j) from rowArr_congr fun i _ j _ => by simp [noR]] at B6
                  refine Wp_seq_region ?_
                  refine WpL_val rfl rfl (by decide) (r_move (v := (.int .i64 ((text.length : Nat) : Int))) rfl) ?_
                  refine WpL_val rfl rfl (by decide) (r_add (k := .i64) (a := ((text.length : Nat) : Int)) (b := 1) (c := ((text.length : Nat) : Int) + 1) rfl rfl (wI64 (by omega))) ?_
                  refine WpL_val rfl rfl (by decide) (r_move (v := (.int .i64 0)) rfl) ?_
                  refine WpL_nil ?_
                  refine Wp_block ?_
                  refine Wp_loop (fun nn_ σ W29 => ∃ (i : Nat), (∃ jj_, σ = upds jj_ [(5, (.int .i64 ((text.length : Nat) : Int))), (6, (.slice (some ⟨g, 0, none⟩) t.args.length lc)), (9, (.pointer (some ⟨b6, 0, none⟩))), (131, (.int .i64 (((text.length : Nat) : Int) + 1))), (132, (.int .i64 ((i : Nat) : Int)))]) ∧ Chg none1 w0 W29 ∧ Chg none1 W2 W29 ∧ Blk W29 b1 #[(.int .i64 t.kind), (.slice sa t.set.length sc), (.slice aa t.args.length ac), (.int .i64 t.mn), (.int .i64 t.mx), (.bool t.neg)] 27 ∧ Blk W29 b6 (rowArr fun i' j => decide (i' < i) && notR text.length R0 i' j) TR ∧ (i ≤ text.length + 1) ∧ nn_ = text.length + 1 - i) (n := text.length + 1 - 0) ?_ ?_
                  · exact ⟨0, Fits.out ⟨rfl, rfl, rfl, rfl, rfl, trivial⟩, E, E2, B1, B6, Nat.zero_le _, rfl⟩
                  · clear E E2 B1 B6
                    rintro _ _ W29 ⟨i, ⟨j29, rfl⟩, E, E2, B1, B6, hi, rfl⟩
                    refine Wp_seq_region ?_
                    refine WpL_val rfl rfl (by decide) (r_lss (k := .i64) (a := ((i : Nat) : Int)) (b := ((text.length : Nat) : Int) + 1) rfl rfl) ?_
                    refine WpL_nil ?_
                    refine Wp_seq ?_
                    refine Wp_cond (b := decide ((((i : Nat) : Int) : Int) < ((text.length : Nat) : Int) + 1)) rfl (fun hlt8 => ?_) (fun hlt8 => ?_)
                    · have khlt8 := hlt8
                      replace hlt8 := of_decide_eq_true hlt8
                      have hq1 := pow_le25 (k := text.length + 1) (by omega)
                      have hq2 := pow_le25 (k := i) (by omega)
                      refine Wp_skip ?_
                      refine thn_normal ?_
                      refine Wp_seq ?_
                      refine Wp_block ?_
                      refine Wp_seq_region ?_
                      refine WpL_val rfl rfl (by decide) (r_move (v := (.int .i64 ((i : Nat) : Int))) rfl) ?_
                      refine WpL_val rfl rfl (by decide) (r_assign (v := (.int .i64 ((i : Nat) : Int))) rfl) ?_
                      refine WpL_nil ?_
                      refine Wp_draw 20 mixed (by kernel_rfl) ?_
                      intro w31 X31 _
                      replace B1 := X31.keep B1
                      replace B6 := X31.keep B6
                      replace E := E.ext X31
                      replace E2 := E2.ext X31
                      refine WpT_val rfl rfl (by decide) (r_move (v := (.pointer (some ⟨b6, 0, none⟩))) rfl) ?_
                      refine WpT_val rfl rfl (by decide) (r_move (v := (.int .i64 ((i : Nat) : Int))) rfl) ?_
                      refine WpT_val rfl rfl (by decide) (r_move (v := (.int .i64 ((text.length : Nat) : Int))) rfl) ?_
                      refine WpT_val rfl rfl (by decide) (r_add (k := .i64) (a := ((text.length : Nat) : Int)) (b := 1) (c := ((text.length : Nat) : Int) + 1) rfl rfl (wI64 (by omega))) ?_
                      refine WpT_val rfl rfl (by decide) (r_shl (k := .u32) (a := 1) (b := ((text.length : Nat) : Int) + 1) (c := ((2 ^ (text.length + 1) : Nat) : Int)) (k' := .i64) rfl rfl (by omega) (shl1 (k := text.length + 1) (by omega))) ?_
                      refine WpT_val rfl rfl (by decide) (r_sub (k := .u32) (a := ((2 ^ (text.length + 1) : Nat) : Int)) (b := 1) (c := ((2 ^ (text.length + 1) - 1 : Nat) : Int)) rfl rfl (sub1_u32 hq1.1 (by omega))) ?_
                      refine WpT_val rfl rfl (by decide) (r_move (v := (.int .i64 ((i : Nat) : Int))) rfl) ?_
                      refine WpT_val rfl rfl (by decide) (r_shl (k := .u32) (a := 1) (b := ((i : Nat) : Int)) (c := ((2 ^ i : Nat) : Int)) (k' := .i64) rfl rfl (by omega) (shl1 (k := i) (by omega))) ?_
                      refine WpT_val rfl rfl (by decide) (r_sub (k := .u32) (a := ((2 ^ i : Nat) : Int)) (b := 1) (c := ((2 ^ i - 1 : Nat) : Int)) rfl rfl (sub1_u32 hq2.1 (by omega))) ?_
                      refine WpT_val rfl rfl (by decide) (r_bits (k := .u32) (a := ((2 ^ (text.length + 1) - 1 : Nat) : Int)) (b := ((2 ^ i - 1 : Nat) : Int)) (v := .int .u32 (((2 ^ (text.length + 1) - 1) &&& (4294967295 - (2 ^ i - 1)) : Nat) : Int)) rfl rfl (by simp) (bits_andNot _ _ (by omega) (by omega))) ?_
                      refine WpT_val rfl rfl (by decide) (r_move (v := (.slice (some ⟨g, 0, none⟩) t.args.length lc)) rfl) ?_
                      refine WpT_val rfl rfl (by decide) (r_indexSlice (b := g) (o := 0) (len := t.args.length) (cap := lc) (i := 0) (o' := 0) rfl rfl rfl Tryd.underlying99 siz62 (by omega) (by omega)) ?_
                      refine WpT_val rfl rfl (by decide) (r_load (v := (.pointer (some ⟨bz, 0, none⟩))) rfl flat62 (E2.cell (fun f => f) (hg 0 _ hpz))) ?_
                      refine WpT_val rfl rfl (by decide) (r_move (v := (.int .i64 ((i : Nat) : Int))) rfl) ?_
                      refine WpT_val rfl rfl (by decide) (r_nilCheck (a := ⟨bz, 0, none⟩) rfl) ?_
                      refine WpT_val rfl rfl (by decide) (r_indexArr (b := bz) (o := 0) (i := i) (o' := i) rfl rfl rfl Tryd.underlying101 siz64 (by omega) (by omega)) ?_
                      refine WpT_val rfl rfl (by decide) (r_load (v := (.int .u32 ((maskN 25 (R0 i) : Nat) : Int))) rfl flat64 ((E2.keep (fun f => f) Bz).cell (rowArr_get _ (by omega)))) ?_
                      refine WpT_val rfl rfl (by decide) (r_bits (k := .u32) (a := (((2 ^ (text.length + 1) - 1) &&& (4294967295 - (2 ^ i - 1)) : Nat) : Int)) (b := ((maskN 25 (R0 i) : Nat) : Int)) (v := .int .u32 ((maskN 25 (fun j => (decide (i ≤ j) && decide (j ≤ text.length)) && !R0 i j) : Nat) : Int)) rfl rfl (by simp) ((bits_andNot _ _ (Nat.lt_of_le_of_lt Nat.and_le_left (by omega)) (mask_lt32 _)).trans (by rw [not_mask (by omega) hn]))) ?_
                      refine WpT_val rfl rfl (by decide) (r_nilCheck (a := ⟨b6, 0, none⟩) rfl) ?_
                      refine WpT_val rfl rfl (by decide) (r_indexArr (b := b6) (o := 0) (i := i) (o' := i) rfl rfl rfl Tryd.underlying101 siz64 (by omega) (by omega)) ?_
                      refine WpT_zero ?_
                      refine s_store (b := b6) (o := i) (c' := rowArr fun i' j => decide (i' < i + 1) && notR text.length R0 i' j) (v := (.int .u32 ((maskN 25 (fun j => (decide (i ≤ j) && decide (j ≤ text.length)) && !R0 i j) : Nat) : Int))) rfl rfl rfl siz64 B6 (by rw [rowArr_size]; omega) (rowArr_set (by omega) (by rw [mask_congr (g := fun j => decide (i < i + 1) && notR text.length R0 i j) (fun j _ => by simp [notR, show i ≤ text.length by omega])]) (fun i' _ hne j _ => by rw [Bool.eq_iff_iff]; simp; omega)) ?_
                      intro w32 S32
                      replace B1 := S32.keep (by omega) B1
                      replace E := S32.step E (by first | exact Or.inl (by omega) | exact Or.inr rfl | exact Or.inr (by assumption) | exact Or.inr (by simp) | exact Or.inr (by omega) | exact Or.inr (by dsimp only; omega))
                      replace E2 := S32.step E2 (Or.inl (by omega))
                      replace B6 := S32.blk
                      refine WpL_nil ?_
                      refine inB_normal ?_
                      refine thn_normal ?_
                      refine Wp_region ?_
                      refine WpL_val rfl rfl (by decide) (r_add (k := .i64) (a := ((i : Nat) : Int)) (b := 1) (c := ((i : Nat) : Int) + 1) rfl rfl (wI64 (by omega))) ?_
                      refine WpL_val rfl rfl (by decide) (r_move (v := (.int .i64 (((i : Nat) : Int) + 1))) rfl) ?_
                      refine WpL_nil ?_
                      refine thn_normal ?_
                      exact ⟨text.length + 1 - (i + 1), by omega, i + 1, Fits.out ⟨rfl, rfl, rfl, rfl, rfl, trivial⟩, E, E2, B1, B6, (by omega), rfl⟩
                    · have khlt8 := hlt8
                      replace hlt8 := of_decide_eq_false hlt8
                      obtain rfl : i = text.length + 1 := by omega
                      rw [show rowArr (fun i' j => decide (i' < text.length + 1) && notR text.length R0 i' j) = rowArr (notR text.length R0) from rowArr_congr fun i' _ j _ => by by_cases h : i' < text.length + 1; simp [h]; simp [h, notR, show ¬ i' ≤ text.length by omega]] at B6
                      refine Wp_exit ?_
                      refine thn_exit ?_
                      refine thn_exit ?_
                      refine inB_here ?_
                      refine inB_normal ?_
                      refine thn_normal ?_
                      refine Wp_seq_region ?_
                      refine WpL_val rfl rfl (by decide) (r_move (v := (.pointer (some ⟨b6, 0, none⟩))) rfl) ?_
                      refine WpL_val rfl rfl (by decide) (r_assign (v := (.pointer (some ⟨b6, 0, none⟩))) rfl) ?_
                      refine WpL_nil ?_
                      refine Wp_ret ?_
                      refine fin_tmp Tryd.results26 (v := (.pointer (some ⟨b6, 0, none⟩))) rfl ?_
                      exact ⟨b6, rfl, by omega, by rw [hK]; exact B6, E⟩
                · have kh8 := h8
                  replace h8 := of_decide_eq_false h8
                  refine Wp_seq_region ?_
                  refine WpL_val rfl rfl (by decide) (r_eql (k := .i64) (a := t.kind) (b := 5) rfl rfl) ?_
                  refine WpL_val rfl rfl (by decide) (r_assign (v := (.bool (decide ((t.kind : Int) = 5)))) rfl) ?_
                  refine WpL_nil ?_
                  refine Wp_cond (b := decide ((t.kind : Int) = 5)) rfl (fun h5 => ?_) (fun h5 => ?_)
                  · have kh5 := h5
                    replace h5 := of_decide_eq_true h5
                    have h1a := okRe_one hok (by omega)
                    obtain ⟨g, rfl, hg⟩ := hcl (by omega)
                    obtain ⟨R0, hR0⟩ := get_of_lt (l := t.args.map (relOf text)) (i := 0) (by simp; omega)
                    obtain ⟨bz, hpz, Bz, hbz⟩ := hps.2 0 R0 hR0
                    have hK : relOf text t = starN text.length R0 (text.length + 1) := by rw [hR, ← head_get (d := noR) hR0]; simp only [relK, h5]; rfl
                    refine Wp_seq_region ?_
                    refine WpL_val rfl rfl (by decide) (r_move (v := (.int .i64 ((text.length : Nat) : Int))) rfl) ?_
                    refine WpL_enter rfl rfl (by decide) (r_callF (vs := [(.int .i64 ((text.length : Nat) : Int))]) Tryd.func47 nm47 bd47 rfl) (rsame_c _ text.length hn) ?_
                    rintro _ w29 ⟨bo, rfl, hbo, Bo, X29⟩
                    replace B1 := X29.keep B1
                    replace B6 := X29.keep B6
                    replace E := E.ext X29
                    replace E2 := E2.ext X29
                    have hbo0 : w0.heap.size ≤ bo := by have := N6.size; omega
                    refine WpL_val rfl rfl (by decide) (r_assign (v := (.pointer (some ⟨bo, 0, none⟩))) rfl) ?_
                    refine WpL_nil ?_
                    refine Wp_seq_region ?_
                    refine WpL_val rfl rfl (by decide) (r_move (v := (.int .i64 ((text.length : Nat) : Int))) rfl) ?_
                    refine WpL_val rfl rfl (by decide) (r_add (k := .i64) (a := ((text.length : Nat) : Int)) (b := 1) (c := ((text.length : Nat) : Int) + 1) rfl rfl (wI64 (by omega))) ?_
                    refine WpL_val rfl rfl (by decide) (r_move (v := (.int .i64 0)) rfl) ?_
                    refine WpL_nil ?_
                    refine Wp_block ?_
                    refine Wp_loop (fun nn_ σ W34 => ∃ (i : Nat) (ob : Nat), (∃ jj_, σ = upds jj_ [(5, (.int .i64 ((text.length : Nat) : Int))), (6, (.slice (some ⟨g, 0, none⟩) t.args.length lc)), (161, (.int .i64 (((text.length : Nat) : Int) + 1))), (162, (.int .i64 ((i : Nat) : Int))), (9, (.pointer (some ⟨ob, 0, none⟩)))]) ∧ Chg none1 w0 W34 ∧ Chg none1 W2 W34 ∧ Blk W34 b1 #[(.int .i64 t.kind), (.slice sa t.set.length sc), (.slice aa t.args.length ac), (.int .i64 t.mn), (.int .i64 t.mx), (.bool t.neg)] 27 ∧ Blk W34 b6 (rowArr noR) TR ∧ (i ≤ text.length + 1) ∧ (w0.heap.size ≤ ob) ∧ (Blk W34 ob (rowArr (starN text.length R0 i)) TR) ∧ nn_ = text.length + 1 - i) (n := text.length + 1 - 0) ?_ ?_
                    · exact ⟨0, bo, Fits.out ⟨rfl, rfl, rfl, rfl, rfl, trivial⟩, E, E2, B1, B6, Nat.zero_le _, hbo0, Bo, rfl⟩
                    · clear E E2 B1 B6
                      rintro _ _ W34 ⟨i, ob, ⟨j34, rfl⟩, E, E2, B1, B6, hi, hob, Bo, rfl⟩
                      refine Wp_seq_region ?_
                      refine WpL_val rfl rfl (by decide) (r_lss (k := .i64) (a := ((i : Nat) : Int)) (b := ((text.length : Nat) : Int) + 1) rfl rfl) ?_
                      refine WpL_nil ?_
                      refine Wp_seq ?_
                      refine Wp_cond (b := decide ((((i : Nat) : Int) : Int) < ((text.length : Nat) : Int) + 1)) rfl (fun hlt5 => ?_) (fun hlt5 => ?_)
                      · have khlt5 := hlt5
                        replace hlt5 := of_decide_eq_true hlt5
                        have hol := Bo.lt
                        refine Wp_skip ?_
                        refine thn_normal ?_
                        refine Wp_seq ?_
                        refine Wp_block ?_
                        refine Wp_region ?_
                        refine WpL_val rfl rfl (by decide) (r_move (v := (.pointer (some ⟨ob, 0, none⟩))) rfl) ?_
                        refine WpL_val rfl rfl (by decide) (r_move (v := (.pointer (some ⟨ob, 0, none⟩))) rfl) ?_
                        refine WpL_val rfl rfl (by decide) (r_move (v := (.slice (some ⟨g, 0, none⟩) t.args.length lc)) rfl) ?_
                        refine WpL_val rfl rfl (by decide) (r_indexSlice (b := g) (o := 0) (len := t.args.length) (cap := lc) (i := 0) (o' := 0) rfl rfl rfl Tryd.underlying99 siz62 (by omega) (by omega)) ?_
                        refine WpL_val rfl rfl (by decide) (r_load (v := (.pointer (some ⟨bz, 0, none⟩))) rfl flat62 (E2.cell (fun f => f) (hg 0 _ hpz))) ?_
                        refine WpL_val rfl rfl (by decide) (r_move (v := (.int .i64 ((text.length : Nat) : Int))) rfl) ?_
                        refine WpL_enter rfl rfl (by decide) (r_callF (vs := [(.pointer (some ⟨ob, 0, none⟩)), (.pointer (some ⟨bz, 0, none⟩)), (.int .i64 ((text.length : Nat) : Int))]) Tryd.func49 nm49 bd49 rfl) (then_c _ ob bz text.length _ R0 hn Bo (E2.keep (fun f => f) Bz) (hT.ext E)) ?_
                        rintro _ w39 ⟨ob1, rfl, hob1, Bo1, X39⟩
                        replace B1 := X39.keep B1
                        replace B6 := X39.keep B6
                        replace Bo := X39.keep Bo
                        replace E := E.ext X39
                        replace E2 := E2.ext X39
                        refine WpL_enter rfl rfl (by decide) (r_callF (vs := [(.pointer (some ⟨ob, 0, none⟩)), (.pointer (some ⟨ob1, 0, none⟩))]) Tryd.func50 nm50 bd50 rfl) (or_c _ ob ob1 _ _ Bo Bo1) ?_
                        rintro _ w49 ⟨ob2, rfl, hob2, Bo2, X49⟩
                        replace B1 := X49.keep B1
                        replace B6 := X49.keep B6
                        replace Bo := X49.keep Bo
                        replace E := E.ext X49
                        replace E2 := E2.ext X49
                        refine WpL_val rfl rfl (by decide) (r_assign (v := (.pointer (some ⟨ob2, 0, none⟩))) rfl) ?_
                        refine WpL_nil ?_
                        refine inB_normal ?_
                        refine thn_normal ?_
                        refine Wp_region ?_
                        refine WpL_val rfl rfl (by decide) (r_add (k := .i64) (a := ((i : Nat) : Int)) (b := 1) (c := ((i : Nat) : Int) + 1) rfl rfl (wI64 (by omega))) ?_
                        refine WpL_val rfl rfl (by decide) (r_move (v := (.int .i64 (((i : Nat) : Int) + 1))) rfl) ?_
                        refine WpL_nil ?_
                        refine thn_normal ?_
                        exact ⟨text.length + 1 - (i + 1), by omega, i + 1, ob2, Fits.out ⟨rfl, rfl, rfl, rfl, rfl, trivial⟩, E, E2, B1, B6, (by omega), (by have := X39.size; omega), Bo2, rfl⟩
                      · have khlt5 := hlt5
                        replace hlt5 := of_decide_eq_false hlt5
                        obtain rfl : i = text.length + 1 := by omega
                        refine Wp_exit ?_
                        refine thn_exit ?_
                        refine thn_exit ?_
                        refine inB_here ?_
                        refine inB_normal ?_
                        refine thn_normal ?_
                        refine Wp_seq_region ?_
                        refine WpL_val rfl rfl (by decide) (r_move (v := (.pointer (some ⟨ob, 0, none⟩))) rfl) ?_
                        refine WpL_val rfl rfl (by decide) (r_assign (v := (.pointer (some ⟨ob, 0, none⟩))) rfl) ?_
                        refine WpL_nil ?_
                        refine Wp_ret ?_
                        refine fin_tmp Tryd.results26 (v := (.pointer (some ⟨ob, 0, none⟩))) rfl ?_
                        exact ⟨ob, rfl, hob, by rw [hK]; exact Bo, E⟩
                  · have kh5 := h5
                    replace h5 := of_decide_eq_false h5
                    refine Wp_seq_region ?_
                    refine WpL_val rfl rfl (by decide) (r_eql (k := .i64) (a := t.kind) (b := 6) rfl rfl) ?_
                    refine WpL_val rfl rfl (by decide) (r_assign (v := (.bool (decide ((t.kind : Int) = 6)))) rfl) ?_
                    refine WpL_nil ?_
                    refine Wp_cond (b := decide ((t.kind : Int) = 6)) rfl (fun h6 => ?_) (fun h6 => ?_)
                    · have kh6 := h6
                      replace h6 := of_decide_eq_true h6
                      have h1a := okRe_one hok (by omega)
                      have hrp := okRe_rep hok h6
                      obtain ⟨g, rfl, hg⟩ := hcl (by omega)
                      obtain ⟨R0, hR0⟩ := get_of_lt (l := t.args.map (relOf text)) (i := 0) (by simp; omega)
                      obtain ⟨bz, hpz, Bz, hbz⟩ := hps.2 0 R0 hR0
                      have hK : relOf text t = repR text.length R0 t.mn (t.mx + 1).toNat := by rw [hR, ← head_get (d := noR) hR0]; simp only [relK, h6]; rfl
                      refine Wp_seq_region ?_
                      refine WpL_val rfl rfl (by decide) (r_move (v := (.int .i64 ((text.length : Nat) : Int))) rfl) ?_
                      refine WpL_enter rfl rfl (by decide) (r_callF (vs := [(.int .i64 ((text.length : Nat) : Int))]) Tryd.func47 nm47 bd47 rfl) (rsame_c _ text.length hn) ?_
                      rintro _ w29 ⟨bo, rfl, hbo, Bo, X29⟩
                      replace B1 := X29.keep B1
                      replace B6 := X29.keep B6
                      replace E := E.ext X29
                      replace E2 := E2.ext X29
                      have hbo0 : w0.heap.size ≤ bo := by have := N6.size; omega
                      refine WpL_val rfl rfl (by decide) (r_assign (v := (.pointer (some ⟨bo, 0, none⟩))) rfl) ?_
                      refine WpL_nil ?_
                      refine Wp_seq_region ?_
                      refine WpL_val rfl rfl (by decide) (r_fieldAddr (b := b1) (o := 0) (o' := 4) rfl Tryd.underlying27 rfl siz3 rfl) ?_
                      refine WpL_val rfl rfl (by decide) (r_load (v := (.int .i64 t.mx)) rfl flat3 (B1.cell rfl)) ?_
                      refine WpL_val rfl rfl (by decide) (r_add (k := .i64) (a := t.mx) (b := 1) (c := t.mx + 1) rfl rfl (wI64 (by omega))) ?_
                      refine WpL_val rfl rfl (by decide) (r_move (v := (.int .i64 0)) rfl) ?_
                      refine WpL_nil ?_
                      refine Wp_block ?_
                      refine Wp_loop (fun nn_ σ W37 => ∃ (i : Nat) (ob : Nat) (pb : Nat), (∃ jj_, σ = upds jj_ [(2, (.pointer (some ⟨b1, 0, none⟩))), (5, (.int .i64 ((text.length : Nat) : Int))), (6, (.slice (some ⟨g, 0, none⟩) t.args.length lc)), (179, (.int .i64 (t.mx + 1))), (180, (.int .i64 ((i : Nat) : Int))), (9, (.pointer (some ⟨ob, 0, none⟩))), (20, (.pointer (some ⟨pb, 0, none⟩)))]) ∧ Chg none1 w0 W37 ∧ Chg none1 W2 W37 ∧ Blk W37 b1 #[(.int .i64 t.kind), (.slice sa t.set.length sc), (.slice aa t.args.length ac), (.int .i64 t.mn), (.int .i64 t.mx), (.bool t.neg)] 27 ∧ Blk W37 b6 (rowArr noR) TR ∧ (i ≤ (t.mx + 1).toNat) ∧ (w0.heap.size ≤ ob) ∧ (Blk W37 ob (rowArr (repR text.length R0 t.mn i)) TR) ∧ (Blk W37 pb (rowArr (powR text.length R0 i)) TR) ∧ nn_ = (t.mx + 1).toNat - i) (n := (t.mx + 1).toNat - 0) ?_ ?_
                      · exact ⟨0, b6, bo, Fits.out ⟨rfl, rfl, rfl, rfl, rfl, rfl, rfl, trivial⟩, E, E2, B1, B6, Nat.zero_le _, (by omega), B6, Bo, rfl⟩
                      · clear E E2 B1 B6
                        rintro _ _ W37 ⟨i, ob, pb, ⟨j37, rfl⟩, E, E2, B1, B6, hi, hob, Bo, Bp, rfl⟩
                        refine Wp_seq_region ?_
                        refine WpL_val rfl rfl (by decide) (r_lss (k := .i64) (a := ((i : Nat) : Int)) (b := t.mx + 1) rfl rfl) ?_
                        refine WpL_nil ?_
                        refine Wp_seq ?_
                        refine Wp_cond (b := decide ((((i : Nat) : Int) : Int) < t.mx + 1)) rfl (fun hlt6 => ?_) (fun hlt6 => ?_)
                        · have khlt6 := hlt6
                          replace hlt6 := of_decide_eq_true hlt6
                          have hol := Bo.lt
                          refine Wp_skip ?_
                          refine thn_normal ?_
                          refine Wp_seq ?_
                          refine Wp_block ?_
                          refine Wp_seq_region ?_
                          refine WpL_val rfl rfl (by decide) (r_move (v := (.int .i64 ((i : Nat) : Int))) rfl) ?_
                          refine WpL_val rfl rfl (by decide) (r_assign (v := (.int .i64 ((i : Nat) : Int))) rfl) ?_
                          refine WpL_nil ?_
                          refine Wp_seq ?_
                          refine Wp_seq_region ?_
                          refine WpL_val rfl rfl (by decide) (r_move (v := (.int .i64 ((i : Nat) : Int))) rfl) ?_
                          refine WpL_val rfl rfl (by decide) (r_fieldAddr (b := b1) (o := 0) (o' := 3) rfl Tryd.underlying27 rfl siz3 rfl) ?_
                          refine WpL_val rfl rfl (by decide) (r_load (v := (.int .i64 t.mn)) rfl flat3 (B1.cell rfl)) ?_
                          refine WpL_val rfl rfl (by decide) (r_geq (k := .i64) (a := ((i : Nat) : Int)) (b := t.mn) rfl rfl) ?_
                          refine WpL_nil ?_
                          refine Wp_cond (b := decide ((t.mn : Int) ≤ ((i : Nat) : Int))) rfl (fun hge => ?_) (fun hge => ?_)
                          · have khge := hge
                            replace hge := of_decide_eq_true hge
                            refine Wp_region ?_
                            refine WpL_val rfl rfl (by decide) (r_move (v := (.pointer (some ⟨ob, 0, none⟩))) rfl) ?_
                            refine WpL_val rfl rfl (by decide) (r_move (v := (.pointer (some ⟨pb, 0, none⟩))) rfl) ?_
                            refine WpL_enter rfl rfl (by decide) (r_callF (vs := [(.pointer (some ⟨ob, 0, none⟩)), (.pointer (some ⟨pb, 0, none⟩))]) Tryd.func50 nm50 bd50 rfl) (or_c _ ob pb _ _ Bo Bp) ?_
                            rintro _ w39 ⟨ob2, rfl, hob2, Bo2, X39⟩
                            replace B1 := X39.keep B1
                            replace B6 := X39.keep B6
                            replace Bo := X39.keep Bo
                            replace Bp := X39.keep Bp
                            replace E := E.ext X39
                            replace E2 := E2.ext X39
                            refine WpL_val rfl rfl (by decide) (r_assign (v := (.pointer (some ⟨ob2, 0, none⟩))) rfl) ?_
                            refine WpL_nil ?_
                            refine thn_normal ?_
                            refine Wp_region ?_
                            refine WpL_val rfl rfl (by decide) (r_move (v := (.pointer (some ⟨pb, 0, none⟩))) rfl) ?_
                            refine WpL_val rfl rfl (by decide) (r_move (v := (.slice (some ⟨g, 0, none⟩) t.args.length lc)) rfl) ?_
                            refine WpL_val rfl rfl (by decide) (r_indexSlice (b := g) (o := 0) (len := t.args.length) (cap := lc) (i := 0) (o' := 0) rfl rfl rfl Tryd.underlying99 siz62 (by omega) (by omega)) ?_
                            refine WpL_val rfl rfl (by decide) (r_load (v := (.pointer (some ⟨bz, 0, none⟩))) rfl flat62 (E2.cell (fun f => f) (hg 0 _ hpz))) ?_
                            refine WpL_val rfl rfl (by decide) (r_move (v := (.int .i64 ((text.length : Nat) : Int))) rfl) ?_
                            refine WpL_enter rfl rfl (by decide) (r_callF (vs := [(.pointer (some ⟨pb, 0, none⟩)), (.pointer (some ⟨bz, 0, none⟩)), (.int .i64 ((text.length : Nat) : Int))]) Tryd.func49 nm49 bd49 rfl) (then_c _ pb bz text.length _ R0 hn Bp (E2.keep (fun f => f) Bz) (hT.ext E)) ?_
                            rintro _ w49 ⟨pb2, rfl, hpb2, Bp2, X49⟩
                            replace B1 := X49.keep B1
                            replace B6 := X49.keep B6
                            replace Bo := X49.keep Bo
                            replace Bp := X49.keep Bp
                            replace Bo2 := X49.keep Bo2
                            replace E := E.ext X49
                            replace E2 := E2.ext X49
                            refine WpL_val rfl rfl (by decide) (r_assign (v := (.pointer (some ⟨pb2, 0, none⟩))) rfl) ?_
                            refine WpL_nil ?_
                            refine inB_normal ?_
                            refine thn_normal ?_
                            refine Wp_region ?_
                            refine WpL_val rfl rfl (by decide) (r_add (k := .i64) (a := ((i : Nat) : Int)) (b := 1) (c := ((i : Nat) : Int) + 1) rfl rfl (wI64 (by omega))) ?_
                            refine WpL_val rfl rfl (by decide) (r_move (v := (.int .i64 (((i : Nat) : Int) + 1))) rfl) ?_
                            refine WpL_nil ?_
                            refine thn_normal ?_
                            exact ⟨(t.mx + 1).toNat - (i + 1), by omega, i + 1, ob2, pb2, Fits.out ⟨rfl, rfl, rfl, rfl, rfl, rfl, rfl, trivial⟩, E, E2, B1, B6, (by omega), (by omega), (by rw [repR, if_pos hge]; exact Bo2), Bp2, rfl⟩
                          · have khge := hge
                            replace hge := of_decide_eq_false hge
                            refine Wp_skip ?_
                            refine thn_normal ?_
                            refine Wp_region ?_
                            refine WpL_val rfl rfl (by decide) (r_move (v := (.pointer (some ⟨pb, 0, none⟩))) rfl) ?_
                            refine WpL_val rfl rfl (by decide) (r_move (v := (.slice (some ⟨g, 0, none⟩) t.args.length lc)) rfl) ?_
                            refine WpL_val rfl rfl (by decide) (r_indexSlice (b := g) (o := 0) (len := t.args.length) (cap := lc) (i := 0) (o' := 0) rfl rfl rfl Tryd.underlying99 siz62 (by omega) (by omega)) ?_
                            refine WpL_val rfl rfl (by decide) (r_load (v := (.pointer (some ⟨bz, 0, none⟩))) rfl flat62 (E2.cell (fun f => f) (hg 0 _ hpz))) ?_
                            refine WpL_val rfl rfl (by decide) (r_move (v := (.int .i64 ((text.length : Nat) : Int))) rfl) ?_
                            refine WpL_enter rfl rfl (by decide) (r_callF (vs := [(.pointer (some ⟨pb, 0, none⟩)), (.pointer (some ⟨bz, 0, none⟩)), (.int .i64 ((text.length : Nat) : Int))]) Tryd.func49 nm49 bd49 rfl) (then_c _ pb bz text.length _ R0 hn Bp (E2.keep (fun f => f) Bz) (hT.ext E)) ?_
                            rintro _ w49 ⟨pb2, rfl, hpb2, Bp2, X49⟩
                            replace B1 := X49.keep B1
                            replace B6 := X49.keep B6
                            replace Bo := X49.keep Bo
                            replace Bp := X49.keep Bp
                            replace E := E.ext X49
                            replace E2 := E2.ext X49
                            refine WpL_val rfl rfl (by decide) (r_assign (v := (.pointer (some ⟨pb2, 0, none⟩))) rfl) ?_
                            refine WpL_nil ?_
                            refine inB_normal ?_
                            refine thn_normal ?_
                            refine Wp_region ?_
                            refine WpL_val rfl rfl (by decide) (r_add (k := .i64) (a := ((i : Nat) : Int)) (b := 1) (c := ((i : Nat) : Int) + 1) rfl rfl (wI64 (by omega))) ?_
                            refine WpL_val rfl rfl (by decide) (r_move (v := (.int .i64 (((i : Nat) : Int) + 1))) rfl) ?_
                            refine WpL_nil ?_
                            refine thn_normal ?_
                            exact ⟨(t.mx + 1).toNat - (i + 1), by omega, i + 1, ob, pb2, Fits.out ⟨rfl, rfl, rfl, rfl, rfl, rfl, rfl, trivial⟩, E, E2, B1, B6, (by omega), hob, (by rw [repR, if_neg hge]; exact Bo), Bp2, rfl⟩
                        · have khlt6 := hlt6
                          replace hlt6 := of_decide_eq_false hlt6
                          obtain rfl : i = (t.mx + 1).toNat := by omega
                          refine Wp_exit ?_
                          refine thn_exit ?_
                          refine thn_exit ?_
                          refine inB_here ?_
                          refine inB_normal ?_
                          refine thn_normal ?_
                          refine Wp_seq_region ?_
                          refine WpL_val rfl rfl (by decide) (r_move (v := (.pointer (some ⟨ob, 0, none⟩))) rfl) ?_
                          refine WpL_val rfl rfl (by decide) (r_assign (v := (.pointer (some ⟨ob, 0, none⟩))) rfl) ?_
                          refine WpL_nil ?_
                          refine Wp_ret ?_
                          refine fin_tmp Tryd.results26 (v := (.pointer (some ⟨ob, 0, none⟩))) rfl ?_
                          exact ⟨ob, rfl, hob, by rw [hK]; exact Bo, E⟩
                    · have kh6 := h6
                      replace h6 := of_decide_eq_false h6
                      refine Wp_seq_region ?_
                      refine WpL_val rfl rfl (by decide) (r_eql (k := .i64) (a := t.kind) (b := 9) rfl rfl) ?_
                      refine WpL_val rfl rfl (by decide) (r_assign (v := (.bool (decide ((t.kind : Int) = 9)))) rfl) ?_
                      refine WpL_nil ?_
                      refine Wp_cond (b := decide ((t.kind : Int) = 9)) rfl (fun h9 => ?_) (fun h9 => ?_)
                      · have kh9 := h9
                        replace h9 := of_decide_eq_true h9
                        have h1a := okRe_one hok (by omega)
                        obtain ⟨g, rfl, hg⟩ := hcl (by omega)
                        obtain ⟨R0, hR0⟩ := get_of_lt (l := t.args.map (relOf text)) (i := 0) (by simp; omega)
                        obtain ⟨bz, hpz, Bz, hbz⟩ := hps.2 0 R0 hR0
                        have hK : relOf text t = R0 := by rw [hR, ← head_get (d := noR) hR0]; simp only [relK, h9]; rfl
                        refine Wp_seq_region ?_
                        refine WpL_val rfl rfl (by decide) (r_move (v := (.slice (some ⟨g, 0, none⟩) t.args.length lc)) rfl) ?_
                        refine WpL_val rfl rfl (by decide) (r_indexSlice (b := g) (o := 0) (len := t.args.length) (cap := lc) (i := 0) (o' := 0) rfl rfl rfl Tryd.underlying99 siz62 (by omega) (by omega)) ?_
                        refine WpL_val rfl rfl (by decide) (r_load (v := (.pointer (some ⟨bz, 0, none⟩))) rfl flat62 (E2.cell (fun f => f) (hg 0 _ hpz))) ?_
                        refine WpL_val rfl rfl (by decide) (r_assign (v := (.pointer (some ⟨bz, 0, none⟩))) rfl) ?_
                        refine WpL_nil ?_
                        refine Wp_ret ?_
                        refine inB_ret ?_
                        refine thn_ret ?_
                        refine fin_tmp Tryd.results26 (v := (.pointer (some ⟨bz, 0, none⟩))) rfl ?_
                        exact ⟨bz, rfl, hbz, by rw [hK]; exact E2.keep (fun f => f) Bz, E⟩
                      · have kh9 := h9
                        replace h9 := of_decide_eq_false h9
                        refine Wp_seq_region ?_
                        refine WpL_val rfl rfl (by decide) (r_eql (k := .i64) (a := t.kind) (b := 10) rfl rfl) ?_
                        refine WpL_val rfl rfl (by decide) (r_assign (v := (.bool (decide ((t.kind : Int) = 10)))) rfl) ?_
                        refine WpL_nil ?_
                        refine Wp_cond (b := decide ((t.kind : Int) = 10)) rfl (fun h10 => ?_) (fun h10 => ?_)
                        · have kh10 := h10
                          replace h10 := of_decide_eq_true h10
                          have h1a := okRe_one hok (by omega)
                          obtain ⟨g, rfl, hg⟩ := hcl (by omega)
                          obtain ⟨R0, hR0⟩ := get_of_lt (l := t.args.map (relOf text)) (i := 0) (by simp; omega)
                          obtain ⟨bz, hpz, Bz, hbz⟩ := hps.2 0 R0 hR0
                          have hK : relOf text t = lookR text.length R0 t.neg := by rw [hR, ← head_get (d := noR) hR0]; simp only [relK, h10]; rfl
                          rw [show rowArr noR = rowArr (fun i' j => decide (i' < 0) && lookR text.length R0 t.neg i' j) from rowArr_congr fun i _ j _ => by simp [noR]] at B6
                          refine Wp_seq_region ?_
                          refine WpL_val rfl rfl (by decide) (r_move (v := (.int .i64 ((text.length : Nat) : Int))) rfl) ?_
                          refine WpL_val rfl rfl (by decide) (r_add (k := .i64) (a := ((text.length : Nat) : Int)) (b := 1) (c := ((text.length : Nat) : Int) + 1) rfl rfl (wI64 (by omega))) ?_
                          refine WpL_val rfl rfl (by decide) (r_move (v := (.int .i64 0)) rfl) ?_
                          refine WpL_nil ?_
                          refine Wp_block ?_
                          refine Wp_loop (fun nn_ σ W42 => ∃ (i : Nat), (∃ jj_, σ = upds jj_ [(2, (.pointer (some ⟨b1, 0, none⟩))), (6, (.slice (some ⟨g, 0, none⟩) t.args.length lc)), (9, (.pointer (some ⟨b6, 0, none⟩))), (205, (.int .i64 (((text.length : Nat) : Int) + 1))), (206, (.int .i64 ((i : Nat) : Int)))]) ∧ Chg none1 w0 W42 ∧ Chg none1 W2 W42 ∧ Blk W42 b1 #[(.int .i64 t.kind), (.slice sa t.set.length sc), (.slice aa t.args.length ac), (.int .i64 t.mn), (.int .i64 t.mx), (.bool t.neg)] 27 ∧ Blk W42 b6 (rowArr fun i' j => decide (i' < i) && lookR text.length R0 t.neg i' j) TR ∧ (i ≤ text.length + 1) ∧ nn_ = text.length + 1 - i) (n := text.length + 1 - 0) ?_ ?_
                          · exact ⟨0, Fits.out ⟨rfl, rfl, rfl, rfl, rfl, trivial⟩, E, E2, B1, B6, Nat.zero_le _, rfl⟩
                          · clear E E2 B1 B6
                            rintro _ _ W42 ⟨i, ⟨j42, rfl⟩, E, E2, B1, B6, hi, rfl⟩
                            refine Wp_seq_region ?_
                            refine WpL_val rfl rfl (by decide) (r_lss (k := .i64) (a := ((i : Nat) : Int)) (b := ((text.length : Nat) : Int) + 1) rfl rfl) ?_
                            refine WpL_nil ?_
                            refine Wp_seq ?_
                            refine Wp_cond (b := decide ((((i : Nat) : Int) : Int) < ((text.length : Nat) : Int) + 1)) rfl (fun hlt10 => ?_) (fun hlt10 => ?_)
                            · have khlt10 := hlt10
                              replace hlt10 := of_decide_eq_true hlt10
                              refine Wp_skip ?_
                              refine thn_normal ?_
                              refine Wp_seq ?_
                              refine Wp_block ?_
                              refine Wp_seq_region ?_
                              refine WpL_val rfl rfl (by decide) (r_move (v := (.int .i64 ((i : Nat) : Int))) rfl) ?_
                              refine WpL_val rfl rfl (by decide) (r_assign (v := (.int .i64 ((i : Nat) : Int))) rfl) ?_
                              refine WpL_nil ?_
                              refine Wp_seq_draw 10 mixed (by kernel_rfl) ?_
                              intro w44 X44 _
                              replace B1 := X44.keep B1
                              replace B6 := X44.keep B6
                              replace E := E.ext X44
                              replace E2 := E2.ext X44
                              refine WpT_val rfl rfl (by decide) (r_move (v := (.slice (some ⟨g, 0, none⟩) t.args.length lc)) rfl) ?_
                              refine WpT_val rfl rfl (by decide) (r_indexSlice (b := g) (o := 0) (len := t.args.length) (cap := lc) (i := 0) (o' := 0) rfl rfl rfl Tryd.underlying99 siz62 (by omega) (by omega)) ?_
                              refine WpT_val rfl rfl (by decide) (r_load (v := (.pointer (some ⟨bz, 0, none⟩))) rfl flat62 (E2.cell (fun f => f) (hg 0 _ hpz))) ?_
                              refine WpT_val rfl rfl (by decide) (r_move (v := (.int .i64 ((i : Nat) : Int))) rfl) ?_
                              refine WpT_val rfl rfl (by decide) (r_nilCheck (a := ⟨bz, 0, none⟩) rfl) ?_
                              refine WpT_val rfl rfl (by decide) (r_indexArr (b := bz) (o := 0) (i := i) (o' := i) rfl rfl rfl Tryd.underlying101 siz64 (by omega) (by omega)) ?_
                              refine WpT_val rfl rfl (by decide) (r_load (v := (.int .u32 ((maskN 25 (R0 i) : Nat) : Int))) rfl flat64 ((E2.keep (fun f => f) Bz).cell (rowArr_get _ (by omega)))) ?_
                              refine WpT_val rfl rfl (by decide) (r_neq (k := .u32) (a := ((maskN 25 (R0 i) : Nat) : Int)) (b := 0) rfl rfl) ?_
                              refine WpT_val rfl rfl (by decide) (r_fieldAddr (b := b1) (o := 0) (o' := 5) rfl Tryd.underlying27 rfl siz4 rfl) ?_
                              refine WpT_val rfl rfl (by decide) (r_load (v := (.bool t.neg)) rfl flat4 (B1.cell rfl)) ?_
                              refine WpT_zero ?_
                              refine WpL_val rfl rfl (by decide) (r_neqB (p := decide ((((maskN 25 (R0 i) : Nat) : Int) : Int) ≠ 0)) (q := t.neg) Tryd.underlying4 rfl rfl) ?_
                              refine WpL_nil ?_
                              refine Wp_cond (b := (decide ((((maskN 25 (R0 i) : Nat) : Int) : Int) ≠ 0)) != t.neg) rfl (fun hlk => ?_) (fun hlk => ?_)
                              · have khlk := hlk
                                have hlk' : (decide (maskN 25 (R0 i) ≠ 0) != t.neg) = true := by rw [← hlk, look_cast]
                                refine Wp_draw 6 mixed (by kernel_rfl) ?_
                                intro w46 X46 _
                                replace B1 := X46.keep B1
                                replace B6 := X46.keep B6
                                replace E := E.ext X46
                                replace E2 := E2.ext X46
                                refine WpT_val rfl rfl (by decide) (r_move (v := (.pointer (some ⟨b6, 0, none⟩))) rfl) ?_
                                refine WpT_val rfl rfl (by decide) (r_move (v := (.int .i64 ((i : Nat) : Int))) rfl) ?_
                                refine WpT_val rfl rfl (by decide) (r_move (v := (.int .i64 ((i : Nat) : Int))) rfl) ?_
                                refine WpT_val rfl rfl (by decide) (r_shl (k := .u32) (a := 1) (b := ((i : Nat) : Int)) (c := ((2 ^ i : Nat) : Int)) (k' := .i64) rfl rfl (by omega) (shl1 (k := i) (by omega))) ?_
                                refine WpT_val rfl rfl (by decide) (r_nilCheck (a := ⟨b6, 0, none⟩) rfl) ?_
                                refine WpT_val rfl rfl (by decide) (r_indexArr (b := b6) (o := 0) (i := i) (o' := i) rfl rfl rfl Tryd.underlying101 siz64 (by omega) (by omega)) ?_
                                refine WpT_zero ?_
                                refine s_store (b := b6) (o := i) (c' := rowArr fun i' j => decide (i' < i + 1) && lookR text.length R0 t.neg i' j) (v := (.int .u32 ((2 ^ i : Nat) : Int))) rfl rfl rfl siz64 B6 (by rw [rowArr_size]; omega) (rowArr_set (by omega) (by rw [mask_one (n := 25) (i := i) (by omega), mask_congr (g := fun j => decide (i < i + 1) && lookR text.length R0 t.neg i j) (fun j _ => by simp only [lookR, hlk', Bool.and_true]; simp [show i ≤ text.length by omega])]) (fun i' _ hne j _ => by rw [Bool.eq_iff_iff]; simp; omega)) ?_
                                intro w47 S47
                                replace B1 := S47.keep (by omega) B1
                                replace E := S47.step E (by first | exact Or.inl (by omega) | exact Or.inr rfl | exact Or.inr (by assumption) | exact Or.inr (by simp) | exact Or.inr (by omega) | exact Or.inr (by dsimp only; omega))
                                replace E2 := S47.step E2 (Or.inl (by omega))
                                replace B6 := S47.blk
                                refine WpL_nil ?_
                                refine inB_normal ?_
                                refine thn_normal ?_
                                refine Wp_region ?_
                                refine WpL_val rfl rfl (by decide) (r_add (k := .i64) (a := ((i : Nat) : Int)) (b := 1) (c := ((i : Nat) : Int) + 1) rfl rfl (wI64 (by omega))) ?_
                                refine WpL_val rfl rfl (by decide) (r_move (v := (.int .i64 (((i : Nat) : Int) + 1))) rfl) ?_
                                refine WpL_nil ?_
                                refine thn_normal ?_
                                exact ⟨text.length + 1 - (i + 1), by omega, i + 1, Fits.out ⟨rfl, rfl, rfl, rfl, rfl, trivial⟩, E, E2, B1, B6, (by omega), rfl⟩
                              · have khlk := hlk
                                have hlk' : (decide (maskN 25 (R0 i) ≠ 0) != t.neg) = false := by rw [← hlk, look_cast]
                                rw [show rowArr (fun i' j => decide (i' < i) && lookR text.length R0 t.neg i' j) = rowArr (fun i' j => decide (i' < i + 1) && lookR text.length R0 t.neg i' j) from rowArr_congr fun i' _ j _ => by rcases Nat.lt_trichotomy i' i with h | h | h; simp [h, show i' < i + 1 by omega]; subst h; simp only [lookR, hlk', Bool.and_false]; simp [show ¬ i' < i by omega, show ¬ i' < i + 1 by omega]] at B6
                                refine Wp_skip ?_
                                refine inB_normal ?_
                                refine thn_normal ?_
                                refine Wp_region ?_
                                refine WpL_val rfl rfl (by decide) (r_add (k := .i64) (a := ((i : Nat) : Int)) (b := 1) (c := ((i : Nat) : Int) + 1) rfl rfl (wI64 (by omega))) ?_
                                refine WpL_val rfl rfl (by decide) (r_move (v := (.int .i64 (((i : Nat) : Int) + 1))) rfl) ?_
                                refine WpL_nil ?_
                                refine thn_normal ?_
                                exact ⟨text.length + 1 - (i + 1), by omega, i + 1, Fits.out ⟨rfl, rfl, rfl, rfl, rfl, trivial⟩, E, E2, B1, B6, (by omega), rfl⟩
                            · have khlt10 := hlt10
                              replace hlt10 := of_decide_eq_false hlt10
                              obtain rfl : i = text.length + 1 := by omega
                              rw [show rowArr (fun i' j => decide (i' < text.length + 1) && lookR text.length R0 t.neg i' j) = rowArr (lookR text.length R0 t.neg) from rowArr_congr fun i' _ j _ => by by_cases h : i' < text.length + 1; simp [h]; simp [h, lookR, show ¬ i' ≤ text.length by omega]] at B6
                              refine Wp_exit ?_
                              refine thn_exit ?_
                              refine thn_exit ?_
                              refine inB_here ?_
                              refine inB_normal ?_
                              refine thn_normal ?_
                              refine Wp_seq_region ?_
                              refine WpL_val rfl rfl (by decide) (r_move (v := (.pointer (some ⟨b6, 0, none⟩))) rfl) ?_
                              refine WpL_val rfl rfl (by decide) (r_assign (v := (.pointer (some ⟨b6, 0, none⟩))) rfl) ?_
                              refine WpL_nil ?_
                              refine Wp_ret ?_
                              refine fin_tmp Tryd.results26 (v := (.pointer (some ⟨b6, 0, none⟩))) rfl ?_
                              exact ⟨b6, rfl, by omega, by rw [hK]; exact B6, E⟩
                        · have kh10 := h10
                          replace h10 := of_decide_eq_false h10
                          have hK : relOf text t = noR := by rw [hR]; simp [relK, h1, h2, h3, h4, h5, h6, h7, h8, h9, h10]
                          refine Wp_skip ?_
                          refine inB_normal ?_
                          refine thn_normal ?_
                          refine Wp_seq_region ?_
                          refine WpL_val rfl rfl (by decide) (r_move (v := (.pointer (some ⟨b6, 0, none⟩))) rfl) ?_
                          refine WpL_val rfl rfl (by decide) (r_assign (v := (.pointer (some ⟨b6, 0, none⟩))) rfl) ?_
                          refine WpL_nil ?_
                          refine Wp_ret ?_
                          refine fin_tmp Tryd.results26 (v := (.pointer (some ⟨b6, 0, none⟩))) rfl ?_
                          exact ⟨b6, rfl, by omega, by rw [hK]; exact B6, E⟩
end Go.Proofs
namespace Go.Proofs
open Go Go.Eng
set_option maxRecDepth 100000
theorem fitF_eq {most : Int} {n e : Int} (t : Re) (h0 : 0 ≤ n) (h1 : n ≤ 1000000) : fitF most (n, e) t = (decide ((if most < n + 1 then 2 else nodeE t) = 0), (n + 1, if most < n + 1 then 2 else nodeE t)) := by
  simp only [fitF]; rw [wI64 (by omega)]
mutual
theorem fits_yes {most : Int} (hm : most ≤ 1000000) : ∀ (t : Re) (n e : Int), 0 ≤ n → n + t.size ≤ most → okRe t → walkF (fitF most) t (n, e) = (true, (n + t.size, 0))
  | .mk k set args mn mx ng, n, e, h0, h1, hok => by
    simp only [Re.size] at h1 ⊢
    rw [walkF_eq, fitF_eq _ h0 (by omega)]
    have hn := okRe_node hok
    have hlt : ¬ most < n + 1 := by omega
    simp only [if_neg hlt, hn, decide_true, if_true, Re.args]
    have ha := okRe_args hok
    simp only [Re.args] at ha
    rw [fits_yess hm args (n + 1) 0 (by omega) (by omega) ha rfl]
    simp; omega
theorem fits_yess {most : Int} (hm : most ≤ 1000000) : ∀ (ts : List Re) (n e : Int), 0 ≤ n → n + Re.sizes ts ≤ most → okRes ts → e = 0 → walkFs (fitF most) ts (n, e) = (true, (n + Re.sizes ts, 0))
  | [], n, e, _, _, _, he => by simp [walkFs, Re.sizes, he]
  | t :: ts, n, e, h0, h1, hok, he => by
    simp only [Re.sizes] at h1 ⊢
    simp only [okRes] at hok
    rw [walkFs_cons, fits_yes hm t n e h0 (by omega) hok.1]
    simp only [if_true]
    rw [fits_yess hm ts _ _ (by omega) (by omega) hok.2 rfl]
    simp; omega
end
mutual
theorem fits_no {most : Int} (hm : most ≤ 1000000) : ∀ (t : Re) (n e : Int), 0 ≤ n → n ≤ most → (walkF (fitF most) t (n, e)).1 = true → okRe t ∧ n + t.size ≤ most ∧ (walkF (fitF most) t (n, e)).2 = (n + t.size, 0)
  | .mk k set args mn mx ng, n, e, h0, h1, h => by
    rw [walkF_eq, fitF_eq _ h0 (by omega)] at h ⊢
    by_cases hc : (if most < n + 1 then 2 else nodeE (.mk k set args mn mx ng)) = 0
    · have hlt : ¬ most < n + 1 := by intro h'; rw [if_pos h'] at hc; omega
      rw [if_neg hlt] at hc
      simp only [if_neg hlt, hc, decide_true, if_true, Re.args] at h ⊢
      obtain ⟨a, b, c⟩ := fits_nos hm args (n + 1) 0 (by omega) (by omega) h rfl
      refine ⟨by simp only [okRe]; exact ⟨hc, a⟩, by simp only [Re.size]; omega, by rw [c]; simp only [Re.size]; simp; omega⟩
    · simp [hc] at h
theorem fits_nos {most : Int} (hm : most ≤ 1000000) : ∀ (ts : List Re) (n e : Int), 0 ≤ n → n ≤ most → (walkFs (fitF most) ts (n, e)).1 = true → e = 0 → okRes ts ∧ n + Re.sizes ts ≤ most ∧ (walkFs (fitF most) ts (n, e)).2 = (n + Re.sizes ts, 0)
  | [], n, e, _, h1, _, he => by simp [walkFs, Re.sizes, okRes, he]; omega
  | t :: ts, n, e, h0, h1, h, he => by
    rw [walkFs_cons] at h ⊢
    by_cases hc : (walkF (fitF most) t (n, e)).1 = true
    · rw [if_pos hc] at h ⊢
      obtain ⟨a, b, c⟩ := fits_no hm t n e h0 h1 hc
      rw [c] at h ⊢
      obtain ⟨a', b', c'⟩ := fits_nos hm ts _ _ (by omega) b h rfl
      exact ⟨by simp only [okRes]; exact ⟨a, a'⟩, by simp only [Re.sizes]; omega, by rw [c']; simp only [Re.sizes]; simp; omega⟩
    · rw [if_neg hc] at h; simp at h
end
mutual
theorem fits_last {most : Int} : ∀ (t : Re) (s : Int × Int), (walkF (fitF most) t s).1 = decide ((walkF (fitF most) t s).2.2 = 0)
  | .mk k set args mn mx ng, s => by
    rw [walkF_eq]
    by_cases hc : (fitF most s (.mk k set args mn mx ng)).1 = true
    · rw [if_pos hc]
      exact fits_lasts args _ (by simpa [fitF] using hc)
    · rw [if_neg hc]
      have h2 : (fitF most s (.mk k set args mn mx ng)).1 = false := by simpa using hc
      simp only [fitF] at h2 ⊢
      exact h2.symm
theorem fits_lasts {most : Int} : ∀ (ts : List Re) (s : Int × Int), s.2 = 0 → (walkFs (fitF most) ts s).1 = decide ((walkFs (fitF most) ts s).2.2 = 0)
  | [], s, h => by simp [walkFs, h]
  | t :: ts, s, h => by
    rw [walkFs_cons]
    have := fits_last (most := most) t s
    by_cases hc : (walkF (fitF most) t s).1 = true
    · rw [if_pos hc]
      rw [hc] at this
      exact fits_lasts ts _ (by simpa using this.symm)
    · rw [if_neg hc]
      have h2 : (walkF (fitF most) t s).1 = false := by simpa using hc
      rw [h2] at this
      exact this
end
theorem fitsE_zero {t : Re} {most : Int} (h0 : 0 ≤ most) (hm : most ≤ 1000000) : fitsE t most = 0 ↔ okRe t ∧ (t.size : Int) ≤ most := by
  unfold fitsE
  constructor
  · intro h
    have h1 := fits_last (most := most) t (0, 0)
    rw [h] at h1
    obtain ⟨a, b, _⟩ := fits_no hm t 0 0 (Int.le_refl 0) h0 (by simpa using h1)
    exact ⟨a, by omega⟩
  · rintro ⟨a, b⟩
    rw [fits_yes hm t 0 0 (Int.le_refl 0) (by omega) a]
def checkP (t : Re) (text : List Int) : Int := if fitsE t 40 ≠ 0 then fitsE t 40 else if 24 < text.length then 2 else if (text.any fun r => !runeB r) = true then 1 else 0
theorem pcheck_c (w0 : World) (t : Re) (vs : List Value) (vt : Value) (text : List Int) (ht : ReAt w0 t vs) (htx : IntsAt w0 vt text) :
    Ret Tryd.prog 25 #[.agg vs.toArray, vt] w0 fun v w => v = .int .i64 (checkP t text) ∧ Ext w0 w := by
  have ht0 := ht
  obtain ⟨sa, sc, aa, ac, rfl, hset, hlen, hargs⟩ := ht.form
  obtain ⟨ta, tc, rfl⟩ := SlAt.form htx
  simp only [List.length_map] at htx ⊢
  refine Ret_of Tryd.func25 rfl Tryd.ntmps25 (Nat.le_of_ble_eq_true rfl) ?_
  have E : Chg none1 w0 w0 := Chg.refl _ _
  refine Wp_seq_region ?_
  refine s_box (v := (.agg #[(.int .i64 t.kind), (.slice sa t.set.length sc), (.slice aa t.args.length ac), (.int .i64 t.mn), (.int .i64 t.mx), (.bool t.neg)])) (c := #[(.int .i64 t.kind), (.slice sa t.set.length sc), (.slice aa t.args.length ac), (.int .i64 t.mn), (.int .i64 t.mx), (.bool t.neg)]) (by decide) rfl rfl ?_
  intro b1 w1 N1
  have F1 := N1.ge E
  replace E := E.ext N1.ext
  have B1 := N1.blk
  refine WpL_val rfl rfl (by decide) (r_assign (v := (.int .i64 0)) rfl) ?_
  refine WpL_nil ?_
  refine Wp_seq ?_
  refine Wp_seq_region ?_
  refine WpL_val rfl rfl (by decide) (r_loadAgg (vs := [(.int .i64 t.kind), (.slice sa t.set.length sc), (.slice aa t.args.length ac), (.int .i64 t.mn), (.int .i64 t.mx), (.bool t.neg)]) rfl agg27 siz27 rfl (B1.cells rfl)) ?_
  refine WpL_enter rfl rfl (by decide) (r_callF (vs := [(.agg #[(.int .i64 t.kind), (.slice sa t.set.length sc), (.slice aa t.args.length ac), (.int .i64 t.mn), (.int .i64 t.mx), (.bool t.neg)])]) Tryd.func29 nm29 bd29 rfl) (check_c _ t _ (ReAt.ext E t ht0)) ?_
  rintro _ w9 ⟨rfl, X9⟩
  replace B1 := X9.keep B1
  replace E := E.ext X9
  refine WpL_val rfl rfl (by decide) (r_assign (v := (.int .i64 (fitsE t 40))) rfl) ?_
  refine WpL_nil ?_
  refine Wp_seq_region ?_
  refine WpL_val rfl rfl (by decide) (r_move (v := (.int .i64 (fitsE t 40))) rfl) ?_
  refine WpL_val rfl rfl (by decide) (r_neq (k := .i64) (a := fitsE t 40) (b := 0) rfl rfl) ?_
  refine WpL_nil ?_
  refine Wp_cond (b := decide ((fitsE t 40 : Int) ≠ 0)) rfl (fun h1 => ?_) (fun h1 => ?_)
  · have kh1 := h1
    replace h1 := of_decide_eq_true h1
    refine Wp_seq_region ?_
    refine WpL_val rfl rfl (by decide) (r_move (v := (.int .i64 (fitsE t 40))) rfl) ?_
    refine WpL_val rfl rfl (by decide) (r_assign (v := (.int .i64 (fitsE t 40))) rfl) ?_
    refine WpL_nil ?_
    refine Wp_ret ?_
    refine thn_ret ?_
    refine fin_tmp Tryd.results25 (v := (.int .i64 (fitsE t 40))) rfl ?_
    exact ⟨int_eq (by unfold checkP; rw [if_pos h1]), E⟩
  · have kh1 := h1
    replace h1 := of_decide_eq_false h1
    refine Wp_skip ?_
    refine thn_normal ?_
    refine Wp_seq ?_
    refine Wp_seq_region ?_
    refine WpL_val rfl rfl (by decide) (r_move (v := (.slice ta text.length tc)) rfl) ?_
    refine WpL_val rfl rfl (by decide) (r_lenSlice (ad := ta) (n := text.length) (cap := tc) Tryd.underlying22 rfl) ?_
    refine WpL_val rfl rfl (by decide) (r_gtr (k := .i64) (a := ((text.length : Nat) : Int)) (b := 24) rfl rfl) ?_
    refine WpL_nil ?_
    refine Wp_cond (b := decide ((24 : Int) < ((text.length : Nat) : Int))) rfl (fun h2 => ?_) (fun h2 => ?_)
    · have kh2 := h2
      replace h2 := of_decide_eq_true h2
      refine Wp_seq_region ?_
      refine WpL_val rfl rfl (by decide) (r_assign (v := (.int .i64 2)) rfl) ?_
      refine WpL_nil ?_
      refine Wp_ret ?_
      refine thn_ret ?_
      refine fin_tmp Tryd.results25 (v := (.int .i64 2)) rfl ?_
      exact ⟨int_eq (by unfold checkP; rw [if_neg h1, if_pos (by omega)]), E⟩
    · have kh2 := h2
      replace h2 := of_decide_eq_false h2
      refine Wp_skip ?_
      refine thn_normal ?_
      refine Wp_seq ?_
      refine Wp_seq_region ?_
      refine WpL_val rfl rfl (by decide) (r_move (v := (.slice ta text.length tc)) rfl) ?_
      refine WpL_enter rfl rfl (by decide) (r_callF (vs := [(.slice ta text.length tc)]) Tryd.func42 nm42 bd42 rfl) (runes_c _ _ text (htx.ext E)) ?_
      rintro _ w19 ⟨rfl, X19⟩
      replace B1 := X19.keep B1
      replace E := E.ext X19
      refine WpL_val rfl rfl (by decide) (r_not (b := !(text.any fun r => !runeB r)) rfl) ?_
      refine WpL_nil ?_
      refine Wp_cond (b := !(!(text.any fun r => !runeB r))) rfl (fun h3 => ?_) (fun h3 => ?_)
      · have kh3 := h3
        replace h3 := by simpa using h3
        replace h3 := by simpa using h3
        refine Wp_seq_region ?_
        refine WpL_val rfl rfl (by decide) (r_assign (v := (.int .i64 1)) rfl) ?_
        refine WpL_nil ?_
        refine Wp_ret ?_
        refine thn_ret ?_
        refine fin_tmp Tryd.results25 (v := (.int .i64 1)) rfl ?_
        exact ⟨int_eq (by unfold checkP; rw [if_neg h1, if_neg (by omega), if_pos (by simpa using h3)]), E⟩
      · have kh3 := h3
        replace h3 := by simpa using h3
        replace h3 := by simpa using h3
        refine Wp_skip ?_
        refine thn_normal ?_
        refine Wp_seq_region ?_
        refine WpL_val rfl rfl (by decide) (r_assign (v := (.int .i64 0)) rfl) ?_
        refine WpL_nil ?_
        refine Wp_ret ?_
        refine fin_tmp Tryd.results25 (v := (.int .i64 0)) rfl ?_
        exact ⟨int_eq (by unfold checkP; rw [if_neg h1, if_neg (by omega), if_neg (by simpa using h3)]), E⟩
def pairV (p : Nat × Nat) : List Value := [.int .i64 (p.1 : Int), .int .i64 (p.2 : Int)]
def PairsAt (w : World) (v : Value) (l : List (Nat × Nat)) : Prop := SlAt w 2 v (l.map pairV)
def rowL (R : Rl) (i p : Nat) : List (Nat × Nat) := ((List.range p).filter (R i)).map fun j => (i, j)
def pairsL (R : Rl) (n : Nat) : List (Nat × Nat) := (List.range n).flatMap fun i => rowL R i 25
theorem pairsL_succ (R : Rl) (n : Nat) : pairsL R (n + 1) = pairsL R n ++ rowL R n 25 := by simp [pairsL, List.range_succ]
theorem rowL_skip {R : Rl} {i p q : Nat} (h : ∀ j, p ≤ j → j < q → R i j = false) (hpq : p ≤ q) : rowL R i q = rowL R i p := by
  unfold rowL
  congr 1
  obtain ⟨d, rfl⟩ := Nat.exists_eq_add_of_le hpq
  clear hpq
  induction d with
  | zero => rfl
  | succ d ih =>
    rw [← Nat.add_assoc, List.range_succ, List.filter_append, ih fun j h1 h2 => h j h1 (by omega)]
    simp [h (p + d) (by omega) (by omega)]
theorem rowL_succ {R : Rl} {i p : Nat} (h : R i p = true) : rowL R i (p + 1) = rowL R i p ++ [(i, p)] := by
  unfold rowL
  rw [List.range_succ, List.filter_append]
  simp [h]
theorem pairs_len (R : Rl) (n : Nat) : (pairsL R n).length ≤ n * 25 := by
  induction n with
  | zero => simp [pairsL]
  | succ n ih =>
    rw [pairsL_succ, List.length_append]
    have : (rowL R n 25).length ≤ 25 := by
      unfold rowL; simp only [List.length_map]
      exact Nat.le_trans (List.length_filter_le _ _) (by simp)
    omega
theorem row_len (R : Rl) (i p : Nat) : (rowL R i p).length ≤ p := by
  unfold rowL; simp only [List.length_map]
  exact Nat.le_trans (List.length_filter_le _ _) (by simp)
def accL (R : Rl) (i p : Nat) : List (Nat × Nat) := pairsL R i ++ rowL R i p
theorem acc_len (R : Rl) (i p : Nat) : (accL R i p).length ≤ i * 25 + p := by
  have h1 := pairs_len R i
  have h2 := row_len R i p
  unfold accL; rw [List.length_append]; omega
theorem acc_step {R : Rl} {i p k : Nat} (hlow : ∀ j, p ≤ j → j < k → R i j = false) (hpk : p ≤ k) (hk : R i k = true) : accL R i (k + 1) = accL R i p ++ [(i, k)] := by
  unfold accL
  rw [rowL_succ hk, rowL_skip hlow hpk, List.append_assoc]
theorem acc_end {R : Rl} {i p : Nat} (hp : p ≤ 25) (hz : maskN 25 (fun j => R i j && decide (p ≤ j)) = 0) : accL R i p = accL R (i + 1) 0 := by
  rw [mask_eq_zero] at hz
  unfold accL
  rw [pairsL_succ, ← rowL_skip (R := R) (i := i) (p := p) (q := 25) (fun j h1 h2 => by have := hz j h2; simpa [h1] using this) hp]
  simp [rowL]
set_option maxHeartbeats 1000000 in
theorem pairs_c (w0 : World) (t : Re) (vs : List Value) (vt : Value) (text : List Int) (ht : ReAt w0 t vs) (htx : IntsAt w0 vt text) (hT : TabOk w0) :
    Ret Tryd.prog 10 #[.agg vs.toArray, vt] w0 fun v w => ∃ a c, v = .tuple #[.slice a (if checkP t text = 0 then pairsL (relOf text t) (text.length + 1) else []).length c, .int .i64 (checkP t text)] ∧
      PairsAt w (.slice a (if checkP t text = 0 then pairsL (relOf text t) (text.length + 1) else []).length c) (if checkP t text = 0 then pairsL (relOf text t) (text.length + 1) else []) ∧ Ext w0 w := by
  have ht0 := ht
  obtain ⟨sa, sc, aa, ac, rfl, hset, hlen, hargs⟩ := ht.form
  obtain ⟨ta, tc, rfl⟩ := SlAt.form htx
  simp only [List.length_map] at htx ⊢
  refine Ret_of Tryd.func10 rfl Tryd.ntmps10 (Nat.le_of_ble_eq_true rfl) ?_
  have E : Chg none1 w0 w0 := Chg.refl _ _
  refine Wp_seq_region ?_
  refine s_box (v := (.agg #[(.int .i64 t.kind), (.slice sa t.set.length sc), (.slice aa t.args.length ac), (.int .i64 t.mn), (.int .i64 t.mx), (.bool t.neg)])) (c := #[(.int .i64 t.kind), (.slice sa t.set.length sc), (.slice aa t.args.length ac), (.int .i64 t.mn), (.int .i64 t.mx), (.bool t.neg)]) (by decide) rfl rfl ?_
  intro b1 w1 N1
  have F1 := N1.ge E
  replace E := E.ext N1.ext
  have B1 := N1.blk
  refine WpL_val rfl rfl (by decide) (r_assign (v := (.slice none 0 0)) rfl) ?_
  refine WpL_val rfl rfl (by decide) (r_assign (v := (.int .i64 0)) rfl) ?_
  refine WpL_nil ?_
  refine Wp_seq ?_
  refine Wp_seq_region ?_
  refine WpL_val rfl rfl (by decide) (r_loadAgg (vs := [(.int .i64 t.kind), (.slice sa t.set.length sc), (.slice aa t.args.length ac), (.int .i64 t.mn), (.int .i64 t.mx), (.bool t.neg)]) rfl agg27 siz27 rfl (B1.cells rfl)) ?_
  refine WpL_val rfl rfl (by decide) (r_move (v := (.slice ta text.length tc)) rfl) ?_
  refine WpL_enter rfl rfl (by decide) (r_callF (vs := [(.agg #[(.int .i64 t.kind), (.slice sa t.set.length sc), (.slice aa t.args.length ac), (.int .i64 t.mn), (.int .i64 t.mx), (.bool t.neg)]), (.slice ta text.length tc)]) Tryd.func25 nm25 bd25 rfl) (pcheck_c _ t _ _ text (ReAt.ext E t ht0) (htx.ext E)) ?_
  rintro _ w9 ⟨rfl, X9⟩
  replace B1 := X9.keep B1
  replace E := E.ext X9
  refine WpL_val rfl rfl (by decide) (r_assign (v := (.int .i64 (checkP t text))) rfl) ?_
  refine WpL_nil ?_
  refine Wp_seq_region ?_
  refine WpL_val rfl rfl (by decide) (r_move (v := (.int .i64 (checkP t text))) rfl) ?_
  refine WpL_val rfl rfl (by decide) (r_neq (k := .i64) (a := checkP t text) (b := 0) rfl rfl) ?_
  refine WpL_nil ?_
  refine Wp_cond (b := decide ((checkP t text : Int) ≠ 0)) rfl (fun h0 => ?_) (fun h0 => ?_)
  · have kh0 := h0
    replace h0 := of_decide_eq_true h0
    refine Wp_seq_region ?_
    refine WpL_val rfl rfl (by decide) (r_move (v := (.int .i64 (checkP t text))) rfl) ?_
    refine WpL_val rfl rfl (by decide) (r_assign (v := (.slice none 0 0)) rfl) ?_
    refine WpL_val rfl rfl (by decide) (r_assign (v := (.int .i64 (checkP t text))) rfl) ?_
    refine WpL_nil ?_
    refine Wp_ret ?_
    refine thn_ret ?_
    refine fin_tmp2 Tryd.results10 (v := (.slice none 0 0)) (v' := (.int .i64 (checkP t text))) rfl rfl ?_
    exact ⟨none, 0, by rw [if_neg h0]; rfl, by rw [if_neg h0]; exact SlAt.nil _ _ _ _, E⟩
  · have kh0 := h0
    replace h0 := of_decide_eq_false h0
    have h0' : checkP t text = 0 := by omega
    have hok : okRe t ∧ (t.size : Int) ≤ 40 ∧ text.length ≤ 24 := by
      have h00 := h0'
      unfold checkP at h00
      by_cases h1 : fitsE t 40 = 0
      · rw [if_neg (by omega)] at h00
        obtain ⟨a, b⟩ := (fitsE_zero (by decide) (by decide)).1 h1
        refine ⟨a, b, ?_⟩
        split at h00 <;> omega
      · rw [if_pos h1] at h00; omega
    obtain ⟨hok, hsz, hn⟩ := hok
    refine Wp_skip ?_
    refine thn_normal ?_
    refine Wp_seq_region ?_
    refine WpL_val rfl rfl (by decide) (r_loadAgg (vs := [(.int .i64 t.kind), (.slice sa t.set.length sc), (.slice aa t.args.length ac), (.int .i64 t.mn), (.int .i64 t.mx), (.bool t.neg)]) rfl agg27 siz27 rfl (B1.cells rfl)) ?_
    refine WpL_val rfl rfl (by decide) (r_move (v := (.slice ta text.length tc)) rfl) ?_
    refine WpL_enter rfl rfl (by decide) (r_callF (vs := [(.agg #[(.int .i64 t.kind), (.slice sa t.set.length sc), (.slice aa t.args.length ac), (.int .i64 t.mn), (.int .i64 t.mx), (.bool t.neg)]), (.slice ta text.length tc)]) Tryd.func26 nm26 bd26 rfl) (of_c text hn 40 (by decide) t (by omega) hok _ _ _ (ReAt.ext E t ht0) (htx.ext E) (hT.ext E)) ?_
    rintro _ w19 ⟨bm, rfl, hbm, Bm, X19⟩
    replace B1 := X19.keep B1
    replace E := E.ext X19
    rw [h0', if_pos rfl]
    obtain ⟨base, hbase⟩ : ∃ base, base = w19.heap.size := ⟨_, rfl⟩
    have hb1 : b1 < base := by have := B1.lt; omega
    have hbm1 : bm < base := by have := Bm.lt; omega
    have hb0 : w0.heap.size ≤ base := by have := E.size; omega
    refine WpL_val rfl rfl (by decide) (r_assign (v := (.pointer (some ⟨bm, 0, none⟩))) rfl) ?_
    refine WpL_nil ?_
    refine Wp_seq_region ?_
    refine WpL_val rfl rfl (by decide) (r_assign (v := (.slice none 0 0)) rfl) ?_
    refine WpL_nil ?_
    refine Wp_seq ?_
    refine Wp_seq_region ?_
    refine WpL_val rfl rfl (by decide) (r_move (v := (.slice ta text.length tc)) rfl) ?_
    refine WpL_val rfl rfl (by decide) (r_lenSlice (ad := ta) (n := text.length) (cap := tc) Tryd.underlying22 rfl) ?_
    refine WpL_val rfl rfl (by decide) (r_add (k := .i64) (a := ((text.length : Nat) : Int)) (b := 1) (c := ((text.length : Nat) : Int) + 1) rfl rfl (wI64 (by omega))) ?_
    refine WpL_val rfl rfl (by decide) (r_move (v := (.int .i64 0)) rfl) ?_
    refine WpL_nil ?_
    refine Wp_block ?_
    refine Wp_loop (fun nn_ σ W3 => ∃ (i : Nat) (la : Option Addr) (lc : Nat), (∃ jj_, σ = upds jj_ [(7, (.pointer (some ⟨bm, 0, none⟩))), (22, (.int .i64 (((text.length : Nat) : Int) + 1))), (23, (.int .i64 ((i : Nat) : Int))), (8, (.slice la ((accL (relOf text t) i 0).length) lc))]) ∧ Chg none1 w0 W3 ∧ Blk W3 b1 #[(.int .i64 t.kind), (.slice sa t.set.length sc), (.slice aa t.args.length ac), (.int .i64 t.mn), (.int .i64 t.mx), (.bool t.neg)] 27 ∧ Blk W3 bm (rowArr (relOf text t)) TR ∧ (i ≤ text.length + 1) ∧ (W3.ownsRow base 30 2 (.slice la (accL (relOf text t) i 0).length lc) (accL (relOf text t) i 0).length ((accL (relOf text t) i 0).map pairV).flatten) ∧ (base ≤ W3.heap.size) ∧ nn_ = text.length + 1 - i) (n := text.length + 1 - 0) ?_ ?_
    · exact ⟨0, none, 0, Fits.out ⟨rfl, rfl, rfl, rfl, trivial⟩, E, B1, Bm, Nat.zero_le _, World.ownsRow_nil _ _ _ _, (by omega), rfl⟩
    · clear E B1 Bm
      rintro _ _ W3 ⟨i, la, lc, ⟨j3, rfl⟩, E, B1, Bm, hi, hown, hbs, rfl⟩
      refine Wp_seq_region ?_
      refine WpL_val rfl rfl (by decide) (r_lss (k := .i64) (a := ((i : Nat) : Int)) (b := ((text.length : Nat) : Int) + 1) rfl rfl) ?_
      refine WpL_nil ?_
      refine Wp_seq ?_
      refine Wp_cond (b := decide ((((i : Nat) : Int) : Int) < ((text.length : Nat) : Int) + 1)) rfl (fun hlt => ?_) (fun hlt => ?_)
      · have khlt := hlt
        replace hlt := of_decide_eq_true hlt
        refine Wp_skip ?_
        refine thn_normal ?_
        refine Wp_seq ?_
        refine Wp_block ?_
        refine Wp_seq_region ?_
        refine WpL_val rfl rfl (by decide) (r_move (v := (.int .i64 ((i : Nat) : Int))) rfl) ?_
        refine WpL_val rfl rfl (by decide) (r_assign (v := (.int .i64 ((i : Nat) : Int))) rfl) ?_
        refine WpL_nil ?_
        refine Wp_seq_region ?_
        refine WpL_val rfl rfl (by decide) (r_move (v := (.pointer (some ⟨bm, 0, none⟩))) rfl) ?_
        refine WpL_val rfl rfl (by decide) (r_move (v := (.int .i64 ((i : Nat) : Int))) rfl) ?_
        refine WpL_val rfl rfl (by decide) (r_nilCheck (a := ⟨bm, 0, none⟩) rfl) ?_
        refine WpL_val rfl rfl (by decide) (r_indexArr (b := bm) (o := 0) (i := i) (o' := i) rfl rfl rfl Tryd.underlying101 siz64 (by omega) (by omega)) ?_
        refine WpL_val rfl rfl (by decide) (r_load (v := (.int .u32 ((maskN 25 (fun j => relOf text t i j && decide (0 ≤ j)) : Nat) : Int))) rfl flat64 ((Bm.cell (rowArr_get _ (by omega))).trans (by rw [mask_congr (g := fun j => relOf text t i j && decide (0 ≤ j)) (fun j _ => by simp)]))) ?_
        refine WpL_val rfl rfl (by decide) (r_assign (v := (.int .u32 ((maskN 25 (fun j => relOf text t i j && decide (0 ≤ j)) : Nat) : Int))) rfl) ?_
        refine WpL_nil ?_
        refine Wp_block ?_
        refine Wp_loop (fun nn_ σ W5 => ∃ (p : Nat) (la : Option Addr) (lc : Nat), (∃ jj_, σ = upds jj_ [(7, (.pointer (some ⟨bm, 0, none⟩))), (9, (.int .i64 ((i : Nat) : Int))), (22, (.int .i64 (((text.length : Nat) : Int) + 1))), (23, (.int .i64 ((i : Nat) : Int))), (10, (.int .u32 ((maskN 25 (fun j => relOf text t i j && decide (p ≤ j)) : Nat) : Int))), (8, (.slice la ((accL (relOf text t) i p).length) lc))]) ∧ Chg none1 w0 W5 ∧ Blk W5 b1 #[(.int .i64 t.kind), (.slice sa t.set.length sc), (.slice aa t.args.length ac), (.int .i64 t.mn), (.int .i64 t.mx), (.bool t.neg)] 27 ∧ Blk W5 bm (rowArr (relOf text t)) TR ∧ (p ≤ 25) ∧ (W5.ownsRow base 30 2 (.slice la (accL (relOf text t) i p).length lc) (accL (relOf text t) i p).length ((accL (relOf text t) i p).map pairV).flatten) ∧ (base ≤ W5.heap.size) ∧ nn_ = 25 - p) (n := 25 - 0) ?_ ?_
        · exact ⟨0, la, lc, Fits.out ⟨rfl, rfl, rfl, rfl, rfl, rfl, trivial⟩, E, B1, Bm, Nat.zero_le _, hown, hbs, rfl⟩
        · clear E B1 Bm
          rintro _ _ W5 ⟨p, la, lc, ⟨j5, rfl⟩, E, B1, Bm, hp, hown, hbs, rfl⟩
          obtain ⟨x, hx⟩ : ∃ x, x = maskN 25 (fun j => relOf text t i j && decide (p ≤ j)) := ⟨_, rfl⟩
          have hxl : x < 4294967296 := hx ▸ mask_lt32 _
          have hal := acc_len (relOf text t) i p
          rw [← hx]
          refine Wp_seq ?_
          refine Wp_seq_region ?_
          refine WpL_val rfl rfl (by decide) (r_move (v := (.int .u32 ((x : Nat) : Int))) rfl) ?_
          refine WpL_val rfl rfl (by decide) (r_neq (k := .u32) (a := ((x : Nat) : Int)) (b := 0) rfl rfl) ?_
          refine WpL_nil ?_
          refine Wp_cond (b := decide ((((x : Nat) : Int) : Int) ≠ 0)) rfl (fun hne => ?_) (fun hne => ?_)
          · have khne := hne
            replace hne := of_decide_eq_true hne
            obtain ⟨k, m, hl⟩ := low_form x (by omega)
            obtain ⟨hk25, hAk, hpk, hlow, hclear⟩ := left_low hx hl
            refine Wp_skip ?_
            refine thn_normal ?_
            refine Wp_seq ?_
            refine Wp_block ?_
            refine Wp_region ?_
            refine WpL_val rfl rfl (by decide) (r_move (v := (.slice la ((accL (relOf text t) i p).length) lc)) rfl) ?_
            refine WpL_val rfl rfl (by decide) (r_move (v := (.int .i64 ((i : Nat) : Int))) rfl) ?_
            refine WpL_val rfl rfl (by decide) (r_move (v := (.int .u32 ((x : Nat) : Int))) rfl) ?_
            refine WpL_enter rfl rfl (by decide) (r_callF (vs := [(.int .u32 ((x : Nat) : Int))]) Tryd.func27 nm27 bd27 rfl) (tz_c _ x k m hl hxl (hT.ext E)) ?_
            rintro _ _ ⟨rfl, rfl⟩
            refine WpL_val rfl rfl (by decide) (r_build (ps := [(0, (.int .i64 ((i : Nat) : Int))), (1, (.int .i64 ((k : Nat) : Int)))]) (v := (.agg #[(.int .i64 ((i : Nat) : Int)), (.int .i64 ((k : Nat) : Int))])) rfl (by kernel_rfl)) ?_
            refine s_buildSlice (ps := [(0, (.agg #[(.int .i64 ((i : Nat) : Int)), (.int .i64 ((k : Nat) : Int))]))]) (c := #[(.int .i64 ((i : Nat) : Int)), (.int .i64 ((k : Nat) : Int))]) (by decide) rfl Tryd.underlying37 siz30 zer30 (by decide) (by decide) (by kernel_rfl) ?_
            intro b7 w7 N7
            have F7 := N7.ge E
            have O7_b1 := N7.lt B1
            have O7_bm := N7.lt Bm
            replace B1 := N7.keep B1
            replace Bm := N7.keep Bm
            replace hown := own_ext hown N7.ext
            replace hbs := Nat.le_trans hbs N7.ext.size
            replace E := E.ext N7.ext
            have B7 := N7.blk
            refine s_append (base := base) (n := (accL (relOf text t) i p).length) (m := 1) (xs := ((accL (relOf text t) i p).map pairV).flatten) (news := [(.int .i64 ((i : Nat) : Int)), (.int .i64 ((k : Nat) : Int))]) (size := 2) (bytes := 16) (v := (.slice la ((accL (relOf text t) i p).length) lc)) (by decide) Tryd.underlying37 siz30 byt30 zer30 rfl (by decide) rfl hown rfl (rfl) (B7.cells rfl) (by simp [Value.oneCell']) (by unfold maxLen; omega) (by omega) (hbs) ?_
            intro v9 w29 Ov9 Cv9 Dv9
            replace B1 := Cv9.keep (fun h => by have := (hown.lt _ h).1; omega) B1
            replace Bm := Cv9.keep (fun h => by have := (hown.lt _ h).1; omega) Bm
            replace E := E.step Cv9 (fun x hx h => absurd (hown.lt x h).1 (by omega))
            obtain ⟨la2, lc2, rfl⟩ := own_form Ov9
            have hst := acc_step hlow hpk hAk
            have hlen2 : (accL (relOf text t) i p).length + 1 = (accL (relOf text t) i (k + 1)).length := by rw [hst]; simp
            rw [hlen2] at Ov9 ⊢
            refine WpL_val rfl rfl (by decide) (r_assign (v := (.slice la2 ((accL (relOf text t) i (k + 1)).length) lc2)) rfl) ?_
            refine WpL_nil ?_
            refine inB_normal ?_
            refine thn_normal ?_
            refine Wp_region ?_
            refine WpL_val rfl rfl (by decide) (r_move (v := (.int .u32 ((x : Nat) : Int))) rfl) ?_
            refine WpL_val rfl rfl (by decide) (r_move (v := (.int .u32 ((x : Nat) : Int))) rfl) ?_
            refine WpL_val rfl rfl (by decide) (r_sub (k := .u32) (a := ((x : Nat) : Int)) (b := 1) (c := ((x - 1 : Nat) : Int)) rfl rfl (by rw [wU32 (by omega)]; omega)) ?_
            refine WpL_val rfl rfl (by decide) (r_bits (k := .u32) (a := ((x : Nat) : Int)) (b := ((x - 1 : Nat) : Int)) (v := .int .u32 ((maskN 25 (fun j => relOf text t i j && decide (k + 1 ≤ j)) : Nat) : Int)) rfl rfl (by simp) ((bits_and _ _ hxl (by omega)).trans (by rw [hclear]))) ?_
            refine WpL_val rfl rfl (by decide) (r_assign (v := (.int .u32 ((maskN 25 (fun j => relOf text t i j && decide (k + 1 ≤ j)) : Nat) : Int))) rfl) ?_
            refine WpL_nil ?_
            refine thn_normal ?_
            exact ⟨25 - (k + 1), by omega, k + 1, la2, lc2, Fits.out ⟨rfl, rfl, rfl, rfl, rfl, rfl, trivial⟩, E, B1, Bm, (by omega), (by rw [hst] at Ov9 ⊢; simpa [pairV] using Ov9), Nat.le_trans hbs Cv9.size, rfl⟩
          · have khne := hne
            replace hne := of_decide_eq_false hne
            have hz : x = 0 := by omega
            have he := acc_end hp (hx ▸ hz)
            rw [he] at hown ⊢
            refine Wp_exit ?_
            refine thn_exit ?_
            refine thn_exit ?_
            refine inB_here ?_
            refine inB_normal ?_
            refine thn_normal ?_
            refine Wp_region ?_
            refine WpL_val rfl rfl (by decide) (r_add (k := .i64) (a := ((i : Nat) : Int)) (b := 1) (c := ((i : Nat) : Int) + 1) rfl rfl (wI64 (by omega))) ?_
            refine WpL_val rfl rfl (by decide) (r_move (v := (.int .i64 (((i : Nat) : Int) + 1))) rfl) ?_
            refine WpL_nil ?_
            refine thn_normal ?_
            exact ⟨text.length + 1 - (i + 1), by omega, i + 1, la, lc, Fits.out ⟨rfl, rfl, rfl, rfl, trivial⟩, E, B1, Bm, (by omega), hown, hbs, rfl⟩
      · have khlt := hlt
        replace hlt := of_decide_eq_false hlt
        obtain rfl : i = text.length + 1 := by omega
        have hfin : accL (relOf text t) (text.length + 1) 0 = pairsL (relOf text t) (text.length + 1) := by simp [accL, rowL]
        rw [hfin] at hown ⊢
        refine Wp_exit ?_
        refine thn_exit ?_
        refine thn_exit ?_
        refine inB_here ?_
        refine thn_normal ?_
        refine Wp_seq_region ?_
        refine WpL_val rfl rfl (by decide) (r_move (v := (.slice la ((pairsL (relOf text t) (text.length + 1)).length) lc)) rfl) ?_
        refine WpL_val rfl rfl (by decide) (r_assign (v := (.slice la ((pairsL (relOf text t) (text.length + 1)).length) lc)) rfl) ?_
        refine WpL_val rfl rfl (by decide) (r_assign (v := (.int .i64 0)) rfl) ?_
        refine WpL_nil ?_
        refine Wp_ret ?_
        refine fin_tmp2 Tryd.results10 (v := (.slice la ((pairsL (relOf text t) (text.length + 1)).length) lc)) (v' := (.int .i64 0)) rfl rfl ?_
        exact ⟨la, lc, rfl, own_slat hown (by intro r hr; simp only [List.mem_map] at hr; obtain ⟨p, _, rfl⟩ := hr; rfl) (by simp) (by decide), E⟩
end Go.Proofs
namespace Go.Proofs
open Go Go.Eng
set_option maxRecDepth 100000
theorem equalIn_pair {P : Program} {w : World} {t e : TypeId} (d : Nat) (a b c f : Int) (ht : P.underlying t = some (.array 2 e)) (he : P.underlying e = some (.int .i64)) (hs : Siz P e 1) (hf : flatB P e = true) :
    (Op.equalIn (d + 2) t (.agg #[.int .i64 a, .int .i64 b]) (.agg #[.int .i64 c, .int .i64 f])).run P w = .ok (decide (a = c) && decide (b = f)) w := by
  have h1 : ∀ x y : Int, (Op.equalIn (d + 1) e (.int .i64 x) (.int .i64 y)).run P w = .ok (x == y) w := fun x y => run_equalIn_int w d e .i64 .i64 x y he
  have p0 : ∀ x y : Int, (part e #[.int .i64 x, .int .i64 y] 0).run P w = .ok (.int .i64 x) w := fun x y => part_int hf rfl
  have p1 : ∀ x y : Int, (part e #[.int .i64 x, .int .i64 y] 1).run P w = .ok (.int .i64 y) w := fun x y => part_int hf rfl
  rw [Op.equalIn]
  simp only [Sem.run_bind, run_underlying ht, Result.andThen_ok, hs.run]
  by_cases hac : a = c
  · by_cases hbf : b = f
    · simp [Std.Legacy.Range.forIn_eq_forIn_range', List.range', p0, p1, h1, hac, hbf]
    · simp [Std.Legacy.Range.forIn_eq_forIn_range', List.range', p0, p1, h1, hac, hbf]
  · simp [Std.Legacy.Range.forIn_eq_forIn_range', List.range', p0, h1, hac]
theorem r_eqlPair {P : Program} {σ : Env} {w : World} {dst : Option Tmp} {ty : TypeId} {pos : String} {af : Array Edge} {g : Option (Nat × Bool)} {t t' e : TypeId} {x y : Operand} {a b c f : Int}
    (ht : P.underlying t = some (.array 2 e)) (he : P.underlying e = some (.int .i64)) (hs : Siz P e 1) (hf : flatB P e = true) (hm : P.eqGuardType P.depth t = false)
    (hx : ev σ x = .agg #[.int .i64 a, .int .i64 b]) (hy : ev σ y = .agg #[.int .i64 c, .int .i64 f]) :
    (execOp (ev σ) ⟨dst, .binOp .eql t x y t', ty, pos, af, g⟩).run P w = .ok (.value (.bool (decide (a = c) && decide (b = f)))) w := by
  have h := equalIn_pair (P := P) (w := w) 9998 a b c f ht he hs hf
  simp only [execOp, hx, hy, Sem.run_bind, run_eqGuard_agg w .eql t x y _ _ hm, Result.andThen_ok, run_eql_struct, h]
  rfl
theorem pairs_cells {w : World} {a : Option Addr} {n c : Nat} {l : List (Nat × Nat)} (h : PairsAt w (.slice a n c) l) (hn : 0 < n) :
    ∃ b o, a = some ⟨b, o, none⟩ ∧ ∀ (i : Nat) (p : Nat × Nat), l[i]? = some p → CellsAt w b (o + i * 2) [.int .i64 ((p.1 : Nat) : Int), .int .i64 ((p.2 : Nat) : Int)] := by
  obtain ⟨b, o, ha, h⟩ := SlAt.at h hn
  exact ⟨b, o, ha, fun i s hs => h i (pairV s) (by simp [hs])⟩
theorem PairsAt.ext {w w' : World} {v : Value} {l : List (Nat × Nat)} (h : PairsAt w v l) (e : Ext w w') : PairsAt w' v l := SlAt.ext h e
theorem eqgPair : Tryd.prog.eqGuardType Tryd.prog.depth 30 = false := by kernel_rfl
end Go.Proofs
namespace Go.Eng
open Go
def SlIn (S : Nat → Prop) (w : World) (k : Nat) (v : Value) (rows : List (List Value)) : Prop :=
  ∃ a cap, v = .slice a rows.length cap ∧ rows.length ≤ 9223372036854775807 ∧ rows.length ≤ cap ∧ (rows = [] ∨ ∃ b o, S b ∧ a = some ⟨b, o, none⟩ ∧ ∀ i r, rows[i]? = some r → CellsAt w b (o + i * k) r)
theorem SlIn.at {S : Nat → Prop} {w : World} {k : Nat} {v : Value} {rows : List (List Value)} (h : SlIn S w k v rows) : SlAt w k v rows := by
  obtain ⟨a, cap, h1, h2, h3, h4⟩ := h
  refine ⟨a, cap, h1, h2, h3, ?_⟩
  rcases h4 with h | ⟨b, o, _, h5, h6⟩
  · exact .inl h
  · exact .inr ⟨b, o, h5, h6⟩
theorem SlIn.of {w : World} {k : Nat} {v : Value} {rows : List (List Value)} (h : SlAt w k v rows) : SlIn (fun _ => True) w k v rows := by
  obtain ⟨a, cap, h1, h2, h3, h4⟩ := h
  refine ⟨a, cap, h1, h2, h3, ?_⟩
  rcases h4 with h | ⟨b, o, h5, h6⟩
  · exact .inl h
  · exact .inr ⟨b, o, trivial, h5, h6⟩
theorem SlIn.chg {S M : Nat → Prop} {w w' : World} {k : Nat} {v : Value} {rows : List (List Value)} (h : SlIn S w k v rows) (c : Chg M w w') (hm : ∀ b, S b → ¬ M b) : SlIn S w' k v rows := by
  obtain ⟨a, cap, h1, h2, h3, h4⟩ := h
  refine ⟨a, cap, h1, h2, h3, ?_⟩
  rcases h4 with h | ⟨b, o, hb, h5, h6⟩
  · exact .inl h
  · exact .inr ⟨b, o, hb, h5, fun i r hr => (h6 i r hr).chg c (hm b hb)⟩
theorem SlIn.mono {S S' : Nat → Prop} {w : World} {k : Nat} {v : Value} {rows : List (List Value)} (h : SlIn S w k v rows) (hs : ∀ b, S b → S' b) : SlIn S' w k v rows := by
  obtain ⟨a, cap, h1, h2, h3, h4⟩ := h
  refine ⟨a, cap, h1, h2, h3, ?_⟩
  rcases h4 with h | ⟨b, o, hb, h5⟩
  · exact .inl h
  · exact .inr ⟨b, o, hs b hb, h5⟩
theorem SlIn.nil (S : Nat → Prop) (w : World) (k : Nat) (a : Option Addr) (cap : Nat) : SlIn S w k (.slice a 0 cap) [] := ⟨a, cap, rfl, by simp, by simp, .inl rfl⟩
theorem SlIn.mk {S : Nat → Prop} {w : World} {k : Nat} {b o n c : Nat} {rows : List (List Value)} (h : SlAt w k (.slice (some ⟨b, o, none⟩) n c) rows) (hs : S b) : SlIn S w k (.slice (some ⟨b, o, none⟩) n c) rows := by
  obtain ⟨a, cap, h1, h2, h3, h4⟩ := h
  refine ⟨a, cap, h1, h2, h3, ?_⟩
  rcases h4 with h | ⟨b', o', h5, h6⟩
  · exact .inl h
  · simp only [Value.slice.injEq] at h1
    have : b' = b := by rw [← h1.1] at h5; simp at h5; exact h5.1.symm
    exact .inr ⟨b', o', this ▸ hs, h5, h6⟩
mutual
def ReIn (S : Nat → Prop) (w : World) : Re → List Value → Prop
  | .mk k set args mn mx ng, vs => ∃ sa sc aa ac, vs = [.int .i64 k, .slice sa set.length sc, .slice aa args.length ac, .int .i64 mn, .int .i64 mx, .bool ng] ∧ SlIn S w 2 (.slice sa set.length sc) (set.map spanV) ∧ (args.length ≤ ac ∧ ac ≤ 9223372036854775807) ∧
      (args = [] ∨ ∃ b o, S b ∧ aa = some ⟨b, o, none⟩ ∧ ResIn S w b o args)
def ResIn (S : Nat → Prop) (w : World) (b : Nat) : Nat → List Re → Prop
  | _, [] => True
  | o, t :: ts => (∃ vs, CellsAt w b o vs ∧ ReIn S w t vs) ∧ ResIn S w b (o + 6) ts
end
mutual
theorem ReIn.at {S : Nat → Prop} {w : World} : ∀ (t : Re) {vs : List Value}, ReIn S w t vs → ReAt w t vs
  | .mk k set args mn mx ng, vs, h => by
    simp only [ReIn] at h
    simp only [ReAt]
    obtain ⟨sa, sc, aa, ac, hv, hs, hl, ha⟩ := h
    refine ⟨sa, sc, aa, ac, hv, hs.at, hl, ?_⟩
    rcases ha with h | ⟨b, o, _, h1, h2⟩
    · exact .inl h
    · exact .inr ⟨b, o, h1, ResIn.at args h2⟩
theorem ResIn.at {S : Nat → Prop} {w : World} {b : Nat} : ∀ (ts : List Re) {o : Nat}, ResIn S w b o ts → ResAt w b o ts
  | [], _, _ => by simp only [ResAt]
  | t :: ts, o, h => by
    simp only [ResIn] at h
    simp only [ResAt]
    obtain ⟨⟨vs, h1, h2⟩, h3⟩ := h
    exact ⟨⟨vs, h1, ReIn.at t h2⟩, ResIn.at ts h3⟩
end
mutual
theorem ReIn.chg {S M : Nat → Prop} {w w' : World} (c : Chg M w w') (hm : ∀ b, S b → ¬ M b) : ∀ (t : Re) {vs : List Value}, ReIn S w t vs → ReIn S w' t vs
  | .mk k set args mn mx ng, vs, h => by
    simp only [ReIn] at h ⊢
    obtain ⟨sa, sc, aa, ac, hv, hs, hl, ha⟩ := h
    refine ⟨sa, sc, aa, ac, hv, hs.chg c hm, hl, ?_⟩
    rcases ha with h | ⟨b, o, hb, h1, h2⟩
    · exact .inl h
    · exact .inr ⟨b, o, hb, h1, ResIn.chg c hm args hb h2⟩
theorem ResIn.chg {S M : Nat → Prop} {w w' : World} (c : Chg M w w') (hm : ∀ b, S b → ¬ M b) {b : Nat} : ∀ (ts : List Re) {o : Nat}, S b → ResIn S w b o ts → ResIn S w' b o ts
  | [], _, _, _ => by simp only [ResIn]
  | t :: ts, o, hb, h => by
    simp only [ResIn] at h ⊢
    obtain ⟨⟨vs, h1, h2⟩, h3⟩ := h
    exact ⟨⟨vs, h1.chg c (hm b hb), ReIn.chg c hm t h2⟩, ResIn.chg c hm ts hb h3⟩
end
mutual
theorem ReIn.mono {S S' : Nat → Prop} {w : World} (hs : ∀ b, S b → S' b) : ∀ (t : Re) {vs : List Value}, ReIn S w t vs → ReIn S' w t vs
  | .mk k set args mn mx ng, vs, h => by
    simp only [ReIn] at h ⊢
    obtain ⟨sa, sc, aa, ac, hv, h0, hl, ha⟩ := h
    refine ⟨sa, sc, aa, ac, hv, h0.mono hs, hl, ?_⟩
    rcases ha with h | ⟨b, o, hb, h1, h2⟩
    · exact .inl h
    · exact .inr ⟨b, o, hs b hb, h1, ResIn.mono hs args h2⟩
theorem ResIn.mono {S S' : Nat → Prop} {w : World} (hs : ∀ b, S b → S' b) {b : Nat} : ∀ (ts : List Re) {o : Nat}, ResIn S w b o ts → ResIn S' w b o ts
  | [], _, _ => by simp only [ResIn]
  | t :: ts, o, h => by
    simp only [ResIn] at h ⊢
    obtain ⟨⟨vs, h1, h2⟩, h3⟩ := h
    exact ⟨⟨vs, h1, ReIn.mono hs t h2⟩, ResIn.mono hs ts h3⟩
end
theorem ReIn.ext {S : Nat → Prop} {w w' : World} (e : Ext w w') (t : Re) {vs : List Value} (h : ReIn S w t vs) : ReIn S w' t vs := ReIn.chg e (fun _ _ f => f) t h
theorem ReIn.form {S : Nat → Prop} {w : World} {t : Re} {vs : List Value} (h : ReIn S w t vs) : ∃ sa sc aa ac, vs = [.int .i64 t.kind, .slice sa t.set.length sc, .slice aa t.args.length ac, .int .i64 t.mn, .int .i64 t.mx, .bool t.neg] ∧ SlIn S w 2 (.slice sa t.set.length sc) (t.set.map spanV) ∧ (t.args.length ≤ ac ∧ ac ≤ 9223372036854775807) ∧
    (t.args = [] ∨ ∃ b o, S b ∧ aa = some ⟨b, o, none⟩ ∧ ResIn S w b o t.args) := by
  cases t; simp only [ReIn] at h; exact h
theorem ReIn.of {S : Nat → Prop} {w : World} {k : Int} {set : List (Int × Int)} {args : List Re} {mn mx : Int} {ng : Bool} {sa aa : Option Addr} {sc ac : Nat} (hs : SlIn S w 2 (.slice sa set.length sc) (set.map spanV)) (hl : (args.length ≤ ac ∧ ac ≤ 9223372036854775807)) (ha : args = [] ∨ ∃ b o, S b ∧ aa = some ⟨b, o, none⟩ ∧ ResIn S w b o args) :
    ReIn S w (.mk k set args mn mx ng) [.int .i64 k, .slice sa set.length sc, .slice aa args.length ac, .int .i64 mn, .int .i64 mx, .bool ng] := by
  simp only [ReIn]; exact ⟨sa, sc, aa, ac, rfl, hs, hl, ha⟩
theorem ResIn.one {S : Nat → Prop} {w : World} {b o : Nat} {t : Re} {vs : List Value} (hc : CellsAt w b o vs) (h : ReIn S w t vs) : ResIn S w b o [t] := by
  simp only [ResIn]; exact ⟨⟨vs, hc, h⟩, trivial⟩
theorem ResIn.two {S : Nat → Prop} {w : World} {b o : Nat} {t u : Re} {vs us : List Value} (hc : CellsAt w b o vs) (h : ReIn S w t vs) (hc' : CellsAt w b (o + 6) us) (h' : ReIn S w u us) : ResIn S w b o [t, u] := by
  simp only [ResIn]; exact ⟨⟨vs, hc, h⟩, ⟨us, hc', h'⟩, trivial⟩
theorem ResIn.get {S : Nat → Prop} {w : World} {b : Nat} : ∀ {ts : List Re} {o i : Nat} {t : Re}, ResIn S w b o ts → ts[i]? = some t → ∃ vs, CellsAt w b (o + i * 6) vs ∧ ReIn S w t vs
  | [], _, _, _, _, h => by simp at h
  | x :: ts, o, 0, t, h, hi => by
    simp only [ResIn] at h
    simp at hi
    subst hi
    simpa using h.1
  | x :: ts, o, i + 1, t, h, hi => by
    simp only [ResIn] at h
    have := ResIn.get h.2 (i := i) (by simpa using hi)
    rwa [show o + (i + 1) * 6 = o + 6 + i * 6 from by omega]
theorem ReIn.len {S : Nat → Prop} {w : World} {t : Re} {vs : List Value} (h : ReIn S w t vs) : vs.length = 6 := (ReIn.at t h).len
end Go.Eng
namespace Go.Proofs
open Go Go.Eng
set_option maxRecDepth 100000
abbrev TS : Nat := 56
def StrAt (wb w : World) (bs : Nat) (l : List Int) : Prop := ∃ a c, Blk w bs #[.slice a l.length c] TS ∧ IntsAt wb (.slice a l.length c) l
theorem StrAt.ext {wb w w' : World} {bs : Nat} {l : List Int} (h : StrAt wb w bs l) (e : Ext w w') : StrAt wb w' bs l := let ⟨a, c, h1, h2⟩ := h; ⟨a, c, e.keep h1, h2⟩
theorem StrAt.lt {wb w : World} {bs : Nat} {l : List Int} (h : StrAt wb w bs l) : bs < w.heap.size := let ⟨_, _, h1, _⟩ := h; h1.lt
theorem next_c (wb w0 : World) (bs : Nat) (l : List Int) (n : Int) (hn : 0 < n) (hm : n ≤ 2000) (hE : Ext wb w0) (hb : wb.heap.size ≤ bs) (hS : StrAt wb w0 bs l) :
    Ret Tryd.prog 40 #[.pointer (some ⟨bs, 0, none⟩), .int .i64 n] w0 fun v w => ∃ x l', v = .int .i64 x ∧ 0 ≤ x ∧ x < n ∧ StrAt wb w bs l' ∧ Chg (fun x => x = bs) w0 w := by
  obtain ⟨a, c, hB, hl⟩ := hS
  have hcap := SlAt.cap hl
  have hlen : l.length ≤ 9223372036854775807 := by simpa using SlAt.le hl
  refine Ret_of Tryd.func40 rfl Tryd.ntmps40 (Nat.le_of_ble_eq_true rfl) ?_
  have E : Chg (fun x => x = bs) w0 w0 := Chg.refl _ _
  refine Wp_seq_region ?_
  refine WpL_val rfl rfl (by decide) (r_assign (v := (.int .i64 0)) rfl) ?_
  refine WpL_nil ?_
  refine Wp_seq ?_
  refine Wp_seq_region ?_
  refine WpL_val rfl rfl (by decide) (r_move (v := (.pointer (some ⟨bs, 0, none⟩))) rfl) ?_
  refine WpL_val rfl rfl (by decide) (r_nilCheck (a := ⟨bs, 0, none⟩) rfl) ?_
  refine WpL_val rfl rfl (by decide) (r_fieldAddr (b := bs) (o := 0) (o' := 0) rfl Tryd.underlying56 rfl siz22 rfl) ?_
  refine WpL_val rfl rfl (by decide) (r_load (v := (.slice a l.length c)) rfl flat22 (hB.cell rfl)) ?_
  refine WpL_val rfl rfl (by decide) (r_lenSlice (ad := a) (n := l.length) (cap := c) Tryd.underlying22 rfl) ?_
  refine WpL_val rfl rfl (by decide) (r_eql (k := .i64) (a := ((l.length : Nat) : Int)) (b := 0) rfl rfl) ?_
  refine WpL_nil ?_
  refine Wp_cond (b := decide ((((l.length : Nat) : Int) : Int) = 0)) rfl (fun h0 => ?_) (fun h0 => ?_)
  · have kh0 := h0
    replace h0 := of_decide_eq_true h0
    refine Wp_seq_region ?_
    refine WpL_val rfl rfl (by decide) (r_assign (v := (.int .i64 0)) rfl) ?_
    refine WpL_nil ?_
    refine Wp_ret ?_
    refine thn_ret ?_
    refine fin_tmp Tryd.results40 (v := (.int .i64 0)) rfl ?_
    exact ⟨0, l, rfl, Int.le_refl _, hn, ⟨a, c, hB, hl⟩, E⟩
  · have kh0 := h0
    replace h0 := of_decide_eq_false h0
    obtain ⟨x, hx⟩ := get_of_lt (l := l) (i := 0) (by omega)
    obtain ⟨b, o, rfl, hcl⟩ := ints_cells hl (by omega)
    refine Wp_skip ?_
    refine thn_normal ?_
    refine Wp_seq_region ?_
    refine WpL_val rfl rfl (by decide) (r_move (v := (.pointer (some ⟨bs, 0, none⟩))) rfl) ?_
    refine WpL_val rfl rfl (by decide) (r_nilCheck (a := ⟨bs, 0, none⟩) rfl) ?_
    refine WpL_val rfl rfl (by decide) (r_fieldAddr (b := bs) (o := 0) (o' := 0) rfl Tryd.underlying56 rfl siz22 rfl) ?_
    refine WpL_val rfl rfl (by decide) (r_load (v := (.slice (some ⟨b, o, none⟩) l.length c)) rfl flat22 (hB.cell rfl)) ?_
    refine WpL_val rfl rfl (by decide) (r_indexSlice (b := b) (o := o) (len := l.length) (cap := c) (i := 0) (o' := o + 0) rfl rfl rfl Tryd.underlying22 siz3 (by omega) (by omega)) ?_
    refine WpL_val rfl rfl (by decide) (r_load (v := (.int .i64 x)) rfl flat3 ((hE.cell (hcl 0 x hx)))) ?_
    refine WpL_val rfl rfl (by decide) (r_assign (v := (.int .i64 x)) rfl) ?_
    refine WpL_nil ?_
    refine Wp_seq_region ?_
    refine WpL_val rfl rfl (by decide) (r_move (v := (.pointer (some ⟨bs, 0, none⟩))) rfl) ?_
    refine WpL_val rfl rfl (by decide) (r_move (v := (.pointer (some ⟨bs, 0, none⟩))) rfl) ?_
    refine WpL_val rfl rfl (by decide) (r_nilCheck (a := ⟨bs, 0, none⟩) rfl) ?_
    refine WpL_val rfl rfl (by decide) (r_fieldAddr (b := bs) (o := 0) (o' := 0) rfl Tryd.underlying56 rfl siz22 rfl) ?_
    refine WpL_val rfl rfl (by decide) (r_load (v := (.slice (some ⟨b, o, none⟩) l.length c)) rfl flat22 (hB.cell rfl)) ?_
    obtain ⟨sl, hsl⟩ : ∃ a' : Option Addr, (if c = 1 then (some ⟨b, o, none⟩) else Option.map (fun q : Addr => q.add (1 * 1)) (some ⟨b, o, none⟩)) = a' := ⟨_, rfl⟩
    refine WpL_val rfl rfl (by decide) (r_sliceLo (a := (some ⟨b, o, none⟩)) (len := l.length) (cap := c) (lo := 1) (l := 1) (n' := (l.length - 1)) (c' := (c - 1)) Tryd.underlying22 siz3 rfl rfl (by omega) (by omega) hsl (by omega) (by omega)) ?_
    refine WpL_val rfl rfl (by decide) (r_nilCheck (a := ⟨bs, 0, none⟩) rfl) ?_
    refine WpL_val rfl rfl (by decide) (r_fieldAddr (b := bs) (o := 0) (o' := 0) rfl Tryd.underlying56 rfl siz22 rfl) ?_
    refine s_store (b := bs) (o := 0) (c' := #[(.slice sl (l.length - 1) (c - 1))]) (v := (.slice sl (l.length - 1) (c - 1))) rfl rfl rfl siz22 hB (by simp) rfl ?_
    intro w2 S2
    replace E := S2.step E (by first | exact Or.inl (by omega) | exact Or.inr rfl | exact Or.inr (by assumption) | exact Or.inr (by simp) | exact Or.inr (by omega) | exact Or.inr (by dsimp only; omega))
    replace hB := S2.blk
    refine WpL_nil ?_
    refine Wp_seq_region ?_
    refine WpL_val rfl rfl (by decide) (r_move (v := (.int .i64 x)) rfl) ?_
    refine WpL_val rfl rfl (by decide) (r_move (v := (.int .i64 n)) rfl) ?_
    refine WpL_enter rfl rfl (by decide) (r_callF (vs := [(.int .i64 x), (.int .i64 n)]) Tryd.func18 nm18 bd18 rfl) (below_c x n hn hm _) ?_
    rintro _ _ ⟨rfl, rfl⟩
    have hcut := SlAt.cut (lo := 1) (hi := l.length) hl (by omega) (Nat.le_refl _) hsl rfl rfl
    have hdl : ((l.map intV).drop 1).take (l.length - 1) = (l.drop 1).map intV := by rw [List.take_of_length_le (by simp), List.map_drop]
    rw [hdl] at hcut
    have hll : (l.drop 1).length = l.length - 1 := by simp
    refine WpL_val rfl rfl (by decide) (r_assign (v := (.int .i64 (x % n))) rfl) ?_
    refine WpL_nil ?_
    refine Wp_ret ?_
    refine fin_tmp Tryd.results40 (v := (.int .i64 (x % n))) rfl ?_
    exact ⟨x % n, l.drop 1, rfl, Int.emod_nonneg x (by omega), Int.emod_lt_of_pos x hn, ⟨sl, c - 1, by rw [hll]; exact hB, by rw [hll]; exact hcut⟩, E⟩
end Go.Proofs
namespace Go.Proofs
open Go Go.Eng
set_option maxRecDepth 100000
theorem span_c (w0 : World) (lo hi : Int) : Ret Tryd.prog 32 #[.int .i64 lo, .int .i64 hi] w0 fun v w => ∃ b, v = .slice (some ⟨b, 0, none⟩) 1 1 ∧ SpansAt w v [(lo, hi)] ∧ w0.heap.size ≤ b ∧ Ext w0 w := by
  refine Ret_of Tryd.func32 rfl Tryd.ntmps32 (Nat.le_of_ble_eq_true rfl) ?_
  have E : Chg none1 w0 w0 := Chg.refl _ _
  refine Wp_seq_region ?_
  refine WpL_val rfl rfl (by decide) (r_assign (v := (.slice none 0 0)) rfl) ?_
  refine WpL_nil ?_
  refine Wp_seq_region ?_
  refine WpL_val rfl rfl (by decide) (r_move (v := (.int .i64 lo)) rfl) ?_
  refine WpL_val rfl rfl (by decide) (r_move (v := (.int .i64 hi)) rfl) ?_
  refine WpL_val rfl rfl (by decide) (r_build (ps := [(0, (.int .i64 lo)), (1, (.int .i64 hi))]) (v := (.agg #[(.int .i64 lo), (.int .i64 hi)])) rfl (by kernel_rfl)) ?_
  refine s_buildSlice (ps := [(0, (.agg #[(.int .i64 lo), (.int .i64 hi)]))]) (c := #[(.int .i64 lo), (.int .i64 hi)]) (by decide) rfl Tryd.underlying24 siz82 zer82 (by decide) (by decide) (by kernel_rfl) ?_
  intro b1 w1 N1
  have F1 := N1.ge E
  replace E := E.ext N1.ext
  have B1 := N1.blk
  refine WpL_val rfl rfl (by decide) (r_assign (v := (.slice (some ⟨b1, 0, none⟩) 1 1)) rfl) ?_
  refine WpL_nil ?_
  refine Wp_ret ?_
  refine fin_tmp Tryd.results32 (v := (.slice (some ⟨b1, 0, none⟩) 1 1)) rfl ?_
  exact ⟨b1, rfl, spans_of_blk [(lo, hi)] B1 (by simp) (by simp), by omega, E⟩
def oneT (r : Int) : Re := .mk 2 [(r, r)] [] 0 0 false
theorem one_c (w0 : World) (r : Int) : Ret Tryd.prog 13 #[.int .i64 r] w0 fun v w => ∃ b, v = .agg #[.int .i64 2, .slice (some ⟨b, 0, none⟩) 1 1, .slice none 0 0, .int .i64 0, .int .i64 0, .bool false] ∧ SpansAt w (.slice (some ⟨b, 0, none⟩) 1 1) [(r, r)] ∧ Ext w0 w := by
  refine Ret_of Tryd.func13 rfl Tryd.ntmps13 (Nat.le_of_ble_eq_true rfl) ?_
  have E : Chg none1 w0 w0 := Chg.refl _ _
  refine Wp_seq_region ?_
  refine s_alloc (c := #[(.int .i64 0), (.slice none 0 0), (.slice none 0 0), (.int .i64 0), (.int .i64 0), (.bool false)]) (by decide) zer27 rfl ?_
  intro b1 w1 N1
  have F1 := N1.ge E
  replace E := E.ext N1.ext
  have B1 := N1.blk
  refine WpL_nil ?_
  refine Wp_seq_region ?_
  refine WpL_val rfl rfl (by decide) (r_move (v := (.int .i64 r)) rfl) ?_
  refine WpL_val rfl rfl (by decide) (r_move (v := (.int .i64 r)) rfl) ?_
  refine WpL_enter rfl rfl (by decide) (r_callF (vs := [(.int .i64 r), (.int .i64 r)]) Tryd.func32 nm32 bd32 rfl) (span_c _ r r) ?_
  rintro _ w9 ⟨b, rfl, hsp, hb, X9⟩
  replace B1 := X9.keep B1
  replace E := E.ext X9
  have hbne : b ≠ b1 := by have := N1.size; have := N1.eq; omega
  refine WpL_val rfl rfl (by decide) (r_build (ps := [(0, (.int .i64 2)), (1, (.slice (some ⟨b, 0, none⟩) 1 1))]) (v := (.agg #[(.int .i64 2), (.slice (some ⟨b, 0, none⟩) 1 1), (.slice none 0 0), (.int .i64 0), (.int .i64 0), (.bool false)])) rfl (by kernel_rfl)) ?_
  refine s_storeAgg (b := b1) (o := 0) (c' := #[(.int .i64 2), (.slice (some ⟨b, 0, none⟩) 1 1), (.slice none 0 0), (.int .i64 0), (.int .i64 0), (.bool false)]) rfl rfl (by simp [Value.oneCell']) siz27 rfl B1 (by first | (simp; done) | exact Nat.le_of_ble_eq_true rfl) rfl ?_
  intro w2 S2
  replace E := S2.step E (by first | exact Or.inl (by omega) | exact Or.inr rfl | exact Or.inr (by assumption) | exact Or.inr (by simp) | exact Or.inr (by omega) | exact Or.inr (by dsimp only; omega))
  replace B1 := S2.blk
  refine WpL_nil ?_
  refine Wp_ret ?_
  refine fin_agg Tryd.results13 (vs := [(.int .i64 2), (.slice (some ⟨b, 0, none⟩) 1 1), (.slice none 0 0), (.int .i64 0), (.int .i64 0), (.bool false)]) (b := b1) rfl agg27 siz27 rfl (B1.cells rfl) ?_
  exact ⟨b, rfl, (SlIn.mk hsp (S := fun x => x = b) rfl).chg S2.chg (fun x h => by omega) |>.at, E⟩
theorem begun_check : checkP (oneT 97) [98, 97] = 0 := by decide
theorem begun_pairs : pairsL (relOf [98, 97] (oneT 97)) (([98, 97] : List Int).length + 1) = [(1, 2)] := by decide +kernel
theorem one_at {w : World} {b : Nat} {r : Int} (h : SpansAt w (.slice (some ⟨b, 0, none⟩) 1 1) [(r, r)]) : ReAt w (oneT r) [.int .i64 2, .slice (some ⟨b, 0, none⟩) 1 1, .slice none 0 0, .int .i64 0, .int .i64 0, .bool false] :=
  ReAt.of (set := [(r, r)]) (args := []) h (by simp) (.inl rfl)
theorem begun_c (w0 : World) (hT : TabOk w0) : Ret Tryd.prog 6 #[] w0 fun v w => v = .bool true ∧ Ext w0 w := by
  refine Ret_of Tryd.func6 rfl Tryd.ntmps6 (Nat.le_of_ble_eq_true rfl) ?_
  have E : Chg none1 w0 w0 := Chg.refl _ _
  refine Wp_seq_region ?_
  refine WpL_val rfl rfl (by decide) (r_assign (v := (.bool false)) rfl) ?_
  refine WpL_nil ?_
  refine Wp_seq_region ?_
  refine WpL_enter rfl rfl (by decide) (r_callF (vs := [(.int .i64 97)]) Tryd.func13 nm13 bd13 rfl) (one_c _ 97) ?_
  rintro _ w9 ⟨b, rfl, hsp, X9⟩
  replace E := E.ext X9
  refine s_buildSlice (ps := [(0, (.int .i64 98)), (1, (.int .i64 97))]) (c := #[(.int .i64 98), (.int .i64 97)]) (by decide) rfl Tryd.underlying22 siz3 zer3 (by decide) (by decide) (by kernel_rfl) ?_
  intro b1 w1 N1
  have F1 := N1.ge E
  replace E := E.ext N1.ext
  have B1 := N1.blk
  refine WpL_enter rfl rfl (by decide) (r_callF (vs := [(.agg #[(.int .i64 2), (.slice (some ⟨b, 0, none⟩) 1 1), (.slice none 0 0), (.int .i64 0), (.int .i64 0), (.bool false)]), (.slice (some ⟨b1, 0, none⟩) 2 2)]) Tryd.func10 nm10 bd10 rfl) ((pairs_c _ (oneT 97) _ _ [98, 97] (one_at (hsp.ext N1.ext)) (ints_of_blk [98, 97] B1 (by simp) (by simp)) (hT.ext E)).mono (R' := fun v w => ∃ a c, v = .tuple #[.slice a 1 c, .int .i64 0] ∧ PairsAt w (.slice a 1 c) [(1, 2)] ∧ Ext w1 w) (by rintro v w ⟨a, c, h1, h2, h3⟩; rw [begun_check, if_pos rfl, begun_pairs] at h1 h2; exact ⟨a, c, h1, h2, h3⟩)) ?_
  rintro _ w19 ⟨la, lc, rfl, hps, X19⟩
  replace B1 := X19.keep B1
  replace E := E.ext X19
  obtain ⟨bp, po, rfl, hcl⟩ := pairs_cells hps (by decide)
  refine WpL_val rfl rfl (by decide) (r_move (v := (.tuple #[(.slice (some ⟨bp, po, none⟩) 1 lc), (.int .i64 0)])) rfl) ?_
  refine WpL_val rfl rfl (by decide) (r_extract (vs := #[(.slice (some ⟨bp, po, none⟩) 1 lc), (.int .i64 0)]) (v := (.slice (some ⟨bp, po, none⟩) 1 lc)) rfl rfl) ?_
  refine WpL_val rfl rfl (by decide) (r_extract (vs := #[(.slice (some ⟨bp, po, none⟩) 1 lc), (.int .i64 0)]) (v := (.int .i64 0)) rfl rfl) ?_
  refine WpL_val rfl rfl (by decide) (r_assign (v := (.slice (some ⟨bp, po, none⟩) 1 lc)) rfl) ?_
  refine WpL_val rfl rfl (by decide) (r_assign (v := (.int .i64 0)) rfl) ?_
  refine WpL_nil ?_
  refine Wp_seq_region ?_
  refine WpL_val rfl rfl (by decide) (r_move (v := (.int .i64 0)) rfl) ?_
  refine WpL_val rfl rfl (by decide) (r_eql (k := .i64) (a := 0) (b := 0) rfl rfl) ?_
  refine WpL_val rfl rfl (by decide) (r_move (v := (.bool true)) rfl) ?_
  refine WpL_guard_yes (oj := _) rfl rfl (by decide) rfl ?_
  refine WpL_val rfl rfl (by decide) (r_move (v := (.slice (some ⟨bp, po, none⟩) 1 lc)) rfl) ?_
  refine WpL_guard_yes (oj := _) rfl rfl (by decide) rfl ?_
  refine WpL_val rfl rfl (by decide) (r_lenSlice (ad := some ⟨bp, po, none⟩) (n := 1) (cap := lc) Tryd.underlying37 rfl) ?_
  refine WpL_guard_yes (oj := _) rfl rfl (by decide) rfl ?_
  refine WpL_val rfl rfl (by decide) (r_eql (k := .i64) (a := 1) (b := 1) rfl rfl) ?_
  refine WpL_val rfl rfl (by decide) (r_pick (b := true) (v := (.bool true)) rfl rfl) ?_
  refine WpL_val rfl rfl (by decide) (r_move (v := (.bool true)) rfl) ?_
  refine WpL_guard_yes (oj := _) rfl rfl (by decide) rfl ?_
  refine WpL_val rfl rfl (by decide) (r_move (v := (.slice (some ⟨bp, po, none⟩) 1 lc)) rfl) ?_
  refine WpL_guard_yes (oj := _) rfl rfl (by decide) rfl ?_
  refine WpL_val rfl rfl (by decide) (r_indexSlice (b := bp) (o := po) (len := 1) (cap := lc) (i := 0) (o' := po + 0 * 2) rfl rfl rfl Tryd.underlying37 siz30 (by omega) (by omega)) ?_
  refine WpL_guard_yes (oj := _) rfl rfl (by decide) rfl ?_
  refine WpL_val rfl rfl (by decide) (r_loadAgg (vs := [(.int .i64 1), (.int .i64 2)]) rfl agg30 siz30 rfl (hcl 0 (1, 2) rfl)) ?_
  refine WpL_guard_yes (oj := _) rfl rfl (by decide) rfl ?_
  refine WpL_val rfl rfl (by decide) (r_build (ps := [(0, (.int .i64 1)), (1, (.int .i64 2))]) (v := (.agg #[(.int .i64 1), (.int .i64 2)])) rfl (by kernel_rfl)) ?_
  refine WpL_guard_yes (oj := _) rfl rfl (by decide) rfl ?_
  refine WpL_val (v := (.bool true)) rfl rfl (by decide) ((r_eqlPair (a := 1) (b := 2) (c := 1) (f := 2) Tryd.underlying30 Tryd.underlying3 siz3 flat3 eqgPair rfl rfl).trans rfl) ?_
  refine WpL_val rfl rfl (by decide) (r_pick (b := true) (v := (.bool true)) rfl rfl) ?_
  refine WpL_val rfl rfl (by decide) (r_assign (v := (.bool true)) rfl) ?_
  refine WpL_nil ?_
  refine Wp_ret ?_
  refine fin_tmp Tryd.results6 (v := (.bool true)) rfl ?_
  exact ⟨rfl, E⟩
end Go.Proofs
namespace Go.Proofs
open Go Go.Eng
set_option maxRecDepth 100000
mutual
def allRe (p : Re → Prop) : Re → Prop
  | .mk k set args mn mx ng => p (.mk k set args mn mx ng) ∧ allRes p args
def allRes (p : Re → Prop) : List Re → Prop
  | [] => True
  | t :: ts => allRe p t ∧ allRes p ts
end
def genP (kinds : Int) (t : Re) : Prop := nodeE t = 0 ∧ t.kind ≤ kinds ∧ (t.kind = 2 → ∃ lo hi, t.set = [(lo, hi)] ∧ 97 ≤ lo ∧ lo ≤ hi ∧ hi ≤ 100)
mutual
theorem gen_ok {kinds : Int} : ∀ (t : Re), allRe (genP kinds) t → okRe t
  | .mk k set args mn mx ng, h => by simp only [allRe] at h; simp only [okRe]; exact ⟨h.1.1, gen_oks args h.2⟩
theorem gen_oks {kinds : Int} : ∀ (ts : List Re), allRes (genP kinds) ts → okRes ts
  | [], _ => by simp only [okRes]
  | t :: ts, h => by simp only [allRes] at h; simp only [okRes]; exact ⟨gen_ok t h.1, gen_oks ts h.2⟩
end
theorem StrAt.put {wb w w' : World} {bs b : Nat} {l : List Int} {c : Array Value} {t : TypeId} (h : StrAt wb w bs l) (s : Put w w' b c t) (hne : bs ≠ b) : StrAt wb w' bs l :=
  let ⟨a, c, h1, h2⟩ := h; ⟨a, c, s.keep hne h1, h2⟩
theorem node_leaf {k : Int} (h : k = 0 ∨ k = 1) : nodeE (.mk k [] [] 0 0 false) = 0 := by
  rcases h with rfl | rfl <;> decide
theorem node_set {lo hi : Int} (h1 : 0 ≤ lo) (h2 : lo ≤ hi) (h3 : hi ≤ 1114111) : nodeE (.mk 2 [(lo, hi)] [] 0 0 false) = 0 := by
  simp [nodeE, formB, okB, checkE, checkL, validB, Re.kind, Re.set, Re.args, Re.mn, Re.mx, Re.neg, h1, h2, h3]
theorem node_two {k : Int} (h : k = 3 ∨ k = 4 ∨ k = 7) (t u : Re) : nodeE (.mk k [] [t, u] 0 0 false) = 0 := by
  rcases h with rfl | rfl | rfl <;> simp [nodeE, formB, okB, Re.kind, Re.set, Re.args, Re.mn, Re.mx, Re.neg]
theorem node_rep {mn mx : Int} (h0 : 0 ≤ mn) (h1 : mn ≤ mx) (h2 : mx ≤ 8) (t : Re) : nodeE (.mk 6 [] [t] mn mx false) = 0 := by
  simp [nodeE, formB, okB, Re.kind, Re.set, Re.args, Re.mn, Re.mx, Re.neg]; omega
theorem node_group {mn : Int} (h0 : 0 ≤ mn) (h1 : mn ≤ 9) (t : Re) : nodeE (.mk 9 [] [t] mn 0 false) = 0 := by
  simp [nodeE, formB, okB, Re.kind, Re.set, Re.args, Re.mn, Re.mx, Re.neg]; omega
theorem node_look (ng : Bool) (t : Re) : nodeE (.mk 10 [] [t] 0 0 ng) = 0 := by
  simp [nodeE, formB, okB, Re.kind, Re.set, Re.args, Re.mn, Re.mx, Re.neg]
theorem node_one {k : Int} (h : k = 5 ∨ k = 8) (t : Re) : nodeE (.mk k [] [t] 0 0 false) = 0 := by
  rcases h with rfl | rfl <;> simp [nodeE, formB, okB, Re.kind, Re.set, Re.args, Re.mn, Re.mx, Re.neg]
theorem gen_mk {kinds k mn mx : Int} {ng : Bool} {ts : List Re} (hk : k ≤ kinds) (h2 : k ≠ 2) (hn : nodeE (.mk k [] ts mn mx ng) = 0) (ht : allRes (genP kinds) ts) : allRe (genP kinds) (.mk k [] ts mn mx ng) := by
  simp only [allRe]; exact ⟨⟨hn, hk, fun h => absurd h h2⟩, ht⟩
theorem gen_pow {d : Nat} (h : 1 ≤ d) : 2 ^ (d - 1 + 1) = 2 ^ d := by rw [Nat.sub_add_cancel h]
theorem gen_size1 {d : Nat} (h : 1 ≤ d) {t : Re} (hs : t.size + 1 ≤ 2 ^ (d - 1 + 1)) {k mn mx : Int} {set : List (Int × Int)} {ng : Bool} : (Re.mk k set [t] mn mx ng).size + 1 ≤ 2 ^ (d + 1) := by
  rw [gen_pow h] at hs
  simp only [Re.size, Re.sizes, Nat.pow_succ]; have := t.size_pos; omega
theorem gen_size2 {d : Nat} (h : 1 ≤ d) {t u : Re} (hs : t.size + 1 ≤ 2 ^ (d - 1 + 1)) (hu : u.size + 1 ≤ 2 ^ (d - 1 + 1)) {k mn mx : Int} {set : List (Int × Int)} {ng : Bool} : (Re.mk k set [t, u] mn mx ng).size + 1 ≤ 2 ^ (d + 1) := by
  rw [gen_pow h] at hs hu
  simp only [Re.size, Re.sizes, Nat.pow_succ]; omega
set_option maxHeartbeats 4000000 in
theorem gen_c (wb : World) (bs : Nat) (kinds : Int) (hk : kinds = 8 ∨ kinds = 10) (hb : wb.heap.size ≤ bs) : ∀ (d : Nat), d ≤ 4 → ∀ (w0 : World) (l : List Int), Ext wb w0 → StrAt wb w0 bs l →
    Ret Tryd.prog 21 #[.pointer (some ⟨bs, 0, none⟩), .int .i64 ((d : Nat) : Int), .int .i64 kinds] w0 fun v w => ∃ t vs l', v = .agg vs.toArray ∧ allRe (genP kinds) t ∧ t.size + 1 ≤ 2 ^ (d + 1) ∧ ReIn (fun b => w0.heap.size ≤ b) w t vs ∧ StrAt wb w bs l' ∧ Chg (fun x => x = bs) w0 w := by
  intro d
  induction d using Nat.strongRecOn with
  | _ d ih =>
  intro hd4 w0 l hE hS
  have hbs0 := hS.lt
  have toE : ∀ {w : World}, Chg (fun x => x = bs) w0 w → Ext wb w := fun c => Chg.step hE c fun x hx hm => by have hm' : x = bs := hm; omega
  refine Ret_of Tryd.func21 rfl Tryd.ntmps21 (Nat.le_of_ble_eq_true rfl) ?_
  have E : Chg (fun x => x = bs) w0 w0 := Chg.refl _ _
  refine Wp_seq_region ?_
  refine s_alloc (c := #[(.int .i64 0), (.slice none 0 0), (.slice none 0 0), (.int .i64 0), (.int .i64 0), (.bool false)]) (by decide) zer27 rfl ?_
  intro b1 w1 N1
  have F1 := N1.ge E
  replace hS := hS.ext N1.ext
  replace E := E.ext N1.ext
  have B1 := N1.blk
  refine WpL_nil ?_
  refine Wp_seq_region ?_
  refine WpL_val rfl rfl (by decide) (r_move (v := (.pointer (some ⟨bs, 0, none⟩))) rfl) ?_
  refine WpL_val rfl rfl (by decide) (r_move (v := (.int .i64 kinds)) rfl) ?_
  refine WpL_val rfl rfl (by decide) (r_add (k := .i64) (a := kinds) (b := 1) (c := kinds + 1) rfl rfl (wI64 (by omega))) ?_
  have hne1 : b1 ≠ bs := by omega
  refine WpL_enter rfl rfl (by decide) (r_callF (vs := [(.pointer (some ⟨bs, 0, none⟩)), (.int .i64 (kinds + 1))]) Tryd.func40 nm40 bd40 rfl) (next_c wb _ bs _ _ (by omega) (by omega) (toE E) hb hS) ?_
  rintro _ w2 ⟨k0, l1, rfl, hk0, hk1, hS, C2⟩
  replace B1 := C2.keep (hne1) B1
  replace E := E.trans C2
  refine WpL_val rfl rfl (by decide) (r_assign (v := (.int .i64 k0)) rfl) ?_
  refine WpL_nil ?_
  refine Wp_cut (fun σ W2 => ∃ (k : Int) (l1 : List Int), (∃ jj_, σ = upds jj_ [(0, (.pointer (some ⟨bs, 0, none⟩))), (1, (.int .i64 ((d : Nat) : Int))), (2, (.int .i64 kinds)), (6, (.pointer (some ⟨b1, 0, none⟩))), (7, (.int .i64 k))]) ∧ Chg (fun x => x = bs) w0 W2 ∧ Blk W2 b1 #[(.int .i64 0), (.slice none 0 0), (.slice none 0 0), (.int .i64 0), (.int .i64 0), (.bool false)] 27 ∧ (StrAt wb W2 bs l1) ∧ (0 ≤ k ∧ k ≤ kinds ∧ (d = 0 → k < 3))) ?_ ?_
  · skip
    refine Wp_seq_region ?_
    refine WpL_val rfl rfl (by decide) (r_move (v := (.int .i64 ((d : Nat) : Int))) rfl) ?_
    refine WpL_val rfl rfl (by decide) (r_eql (k := .i64) (a := ((d : Nat) : Int)) (b := 0) rfl rfl) ?_
    refine WpL_nil ?_
    refine Wp_cond (b := decide ((((d : Nat) : Int) : Int) = 0)) rfl (fun hd => ?_) (fun hd => ?_)
    · have khd := hd
      replace hd := of_decide_eq_true hd
      refine Wp_region ?_
      refine WpL_val rfl rfl (by decide) (r_move (v := (.pointer (some ⟨bs, 0, none⟩))) rfl) ?_
      refine WpL_enter rfl rfl (by decide) (r_callF (vs := [(.pointer (some ⟨bs, 0, none⟩)), (.int .i64 3)]) Tryd.func40 nm40 bd40 rfl) (next_c wb _ bs _ _ (by omega) (by omega) (toE E) hb hS) ?_
      rintro _ w3 ⟨k2, l2, rfl, hk2, hk3, hS, C3⟩
      replace B1 := C3.keep (hne1) B1
      replace E := E.trans C3
      refine WpL_val rfl rfl (by decide) (r_assign (v := (.int .i64 k2)) rfl) ?_
      refine WpL_nil ?_
      refine thn_normal ?_
      exact ⟨k2, l2, Fits.out ⟨rfl, rfl, rfl, rfl, rfl, trivial⟩, E, B1, hS, (by omega)⟩
    · have khd := hd
      replace hd := of_decide_eq_false hd
      refine Wp_skip ?_
      refine thn_normal ?_
      exact ⟨k0, l1, Fits.out ⟨rfl, rfl, rfl, rfl, rfl, trivial⟩, E, B1, hS, (by omega)⟩
  · clear E B1
    rintro _ W2 ⟨k, l1, ⟨j2, rfl⟩, E, B1, hS, hkk⟩
    refine Wp_seq ?_
    refine Wp_seq_region ?_
    refine WpL_val rfl rfl (by decide) (r_move (v := (.int .i64 k)) rfl) ?_
    refine WpL_nil ?_
    refine Wp_block ?_
    refine Wp_seq ?_
    refine Wp_seq_region ?_
    refine WpL_val rfl rfl (by decide) (r_eql (k := .i64) (a := k) (b := 0) rfl rfl) ?_
    refine WpL_val rfl rfl (by decide) (r_assign (v := (.bool (decide ((k : Int) = 0)))) rfl) ?_
    refine WpL_nil ?_
    refine Wp_cond (b := decide ((k : Int) = 0)) rfl (fun h0 => ?_) (fun h0 => ?_)
    · have kh0 := h0
      replace h0 := of_decide_eq_true h0
      refine Wp_skip ?_
      refine thn_normal ?_
      refine Wp_cond_true (congrArg Value.bool kh0) ?_
      refine Wp_seq_region ?_
      refine WpL_val rfl rfl (by decide) (r_move (v := (.int .i64 k)) rfl) ?_
      refine WpL_val rfl rfl (by decide) (r_build (ps := [(0, (.int .i64 k))]) (v := (.agg #[(.int .i64 k), (.slice none 0 0), (.slice none 0 0), (.int .i64 0), (.int .i64 0), (.bool false)])) rfl (by kernel_rfl)) ?_
      refine s_storeAgg (b := b1) (o := 0) (c' := #[(.int .i64 k), (.slice none 0 0), (.slice none 0 0), (.int .i64 0), (.int .i64 0), (.bool false)]) rfl rfl (by simp [Value.oneCell']) siz27 rfl B1 (by first | (simp; done) | exact Nat.le_of_ble_eq_true rfl) rfl ?_
      intro w5 S5
      replace hS := hS.put S5 (Ne.symm hne1)
      replace E := S5.step E (by first | exact Or.inl (by omega) | exact Or.inr rfl | exact Or.inr (by assumption) | exact Or.inr (by simp) | exact Or.inr (by omega) | exact Or.inr (by dsimp only; omega))
      replace B1 := S5.blk
      refine WpL_nil ?_
      refine Wp_ret ?_
      refine inB_ret ?_
      refine thn_ret ?_
      refine fin_agg Tryd.results21 (vs := [(.int .i64 k), (.slice none 0 0), (.slice none 0 0), (.int .i64 0), (.int .i64 0), (.bool false)]) (b := b1) rfl agg27 siz27 rfl (B1.cells rfl) ?_
      exact ⟨.mk k [] [] 0 0 false, _, l1, rfl, gen_mk hkk.2.1 (by omega) (node_leaf (by omega)) (by simp only [allRes]), by simp only [Re.size, Re.sizes]; have := Nat.two_pow_pos d; rw [Nat.pow_succ]; omega, ReIn.of (set := []) (SlIn.nil _ _ _ _ _) (by simp) (.inl rfl), hS, E⟩
    · have kh0 := h0
      replace h0 := of_decide_eq_false h0
      refine Wp_region ?_
      refine WpL_val rfl rfl (by decide) (r_eql (k := .i64) (a := k) (b := 1) rfl rfl) ?_
      refine WpL_val rfl rfl (by decide) (r_assign (v := (.bool (decide ((k : Int) = 1)))) rfl) ?_
      refine WpL_nil ?_
      refine thn_normal ?_
      refine Wp_cond (b := decide ((k : Int) = 1)) rfl (fun h1 => ?_) (fun h1 => ?_)
      · have kh1 := h1
        replace h1 := of_decide_eq_true h1
        refine Wp_seq_region ?_
        refine WpL_val rfl rfl (by decide) (r_move (v := (.int .i64 k)) rfl) ?_
        refine WpL_val rfl rfl (by decide) (r_build (ps := [(0, (.int .i64 k))]) (v := (.agg #[(.int .i64 k), (.slice none 0 0), (.slice none 0 0), (.int .i64 0), (.int .i64 0), (.bool false)])) rfl (by kernel_rfl)) ?_
        refine s_storeAgg (b := b1) (o := 0) (c' := #[(.int .i64 k), (.slice none 0 0), (.slice none 0 0), (.int .i64 0), (.int .i64 0), (.bool false)]) rfl rfl (by simp [Value.oneCell']) siz27 rfl B1 (by first | (simp; done) | exact Nat.le_of_ble_eq_true rfl) rfl ?_
        intro w7 S7
        replace hS := hS.put S7 (Ne.symm hne1)
        replace E := S7.step E (by first | exact Or.inl (by omega) | exact Or.inr rfl | exact Or.inr (by assumption) | exact Or.inr (by simp) | exact Or.inr (by omega) | exact Or.inr (by dsimp only; omega))
        replace B1 := S7.blk
        refine WpL_nil ?_
        refine Wp_ret ?_
        refine inB_ret ?_
        refine thn_ret ?_
        refine fin_agg Tryd.results21 (vs := [(.int .i64 k), (.slice none 0 0), (.slice none 0 0), (.int .i64 0), (.int .i64 0), (.bool false)]) (b := b1) rfl agg27 siz27 rfl (B1.cells rfl) ?_
        exact ⟨.mk k [] [] 0 0 false, _, l1, rfl, gen_mk hkk.2.1 (by omega) (node_leaf (by omega)) (by simp only [allRes]), by simp only [Re.size, Re.sizes]; have := Nat.two_pow_pos d; rw [Nat.pow_succ]; omega, ReIn.of (set := []) (SlIn.nil _ _ _ _ _) (by simp) (.inl rfl), hS, E⟩
      · have kh1 := h1
        replace h1 := of_decide_eq_false h1
        refine Wp_seq_region ?_
        refine WpL_val rfl rfl (by decide) (r_eql (k := .i64) (a := k) (b := 2) rfl rfl) ?_
        refine WpL_val rfl rfl (by decide) (r_assign (v := (.bool (decide ((k : Int) = 2)))) rfl) ?_
        refine WpL_nil ?_
        refine Wp_cond (b := decide ((k : Int) = 2)) rfl (fun h2 => ?_) (fun h2 => ?_)
        · have kh2 := h2
          replace h2 := of_decide_eq_true h2
          refine Wp_seq_region ?_
          refine WpL_val rfl rfl (by decide) (r_move (v := (.pointer (some ⟨bs, 0, none⟩))) rfl) ?_
          refine WpL_enter rfl rfl (by decide) (r_callF (vs := [(.pointer (some ⟨bs, 0, none⟩)), (.int .i64 3)]) Tryd.func40 nm40 bd40 rfl) (next_c wb _ bs _ _ (by omega) (by omega) (toE E) hb hS) ?_
          rintro _ w5 ⟨x, l2, rfl, hx0, hx1, hS, C5⟩
          replace B1 := C5.keep (hne1) B1
          replace E := E.trans C5
          refine WpL_val rfl rfl (by decide) (r_add (k := .i64) (a := 97) (b := x) (c := 97 + x) rfl rfl (wI64 (by omega))) ?_
          refine WpL_val rfl rfl (by decide) (r_assign (v := (.int .i64 (97 + x))) rfl) ?_
          refine WpL_nil ?_
          refine Wp_seq_region ?_
          refine WpL_val rfl rfl (by decide) (r_move (v := (.int .i64 k)) rfl) ?_
          refine WpL_val rfl rfl (by decide) (r_move (v := (.int .i64 (97 + x))) rfl) ?_
          refine WpL_val rfl rfl (by decide) (r_move (v := (.int .i64 (97 + x))) rfl) ?_
          refine WpL_val rfl rfl (by decide) (r_move (v := (.pointer (some ⟨bs, 0, none⟩))) rfl) ?_
          refine WpL_enter rfl rfl (by decide) (r_callF (vs := [(.pointer (some ⟨bs, 0, none⟩)), (.int .i64 2)]) Tryd.func40 nm40 bd40 rfl) (next_c wb _ bs _ _ (by omega) (by omega) (toE E) hb hS) ?_
          rintro _ w6 ⟨y, l3, rfl, hy0, hy1, hS, C6⟩
          replace B1 := C6.keep (hne1) B1
          replace E := E.trans C6
          refine WpL_val rfl rfl (by decide) (r_add (k := .i64) (a := 97 + x) (b := y) (c := (97 + x) + y) rfl rfl (wI64 (by omega))) ?_
          refine WpL_val rfl rfl (by decide) (r_build (ps := [(0, (.int .i64 (97 + x))), (1, (.int .i64 ((97 + x) + y)))]) (v := (.agg #[(.int .i64 (97 + x)), (.int .i64 ((97 + x) + y))])) rfl (by kernel_rfl)) ?_
          refine s_buildSlice (ps := [(0, (.agg #[(.int .i64 (97 + x)), (.int .i64 ((97 + x) + y))]))]) (c := #[(.int .i64 (97 + x)), (.int .i64 ((97 + x) + y))]) (by decide) rfl Tryd.underlying24 siz82 zer82 (by decide) (by decide) (by kernel_rfl) ?_
          intro bq wq Nq
          have Fq := Nq.ge E
          have Oq_b1 := Nq.lt B1
          replace B1 := Nq.keep B1
          replace hS := hS.ext Nq.ext
          replace E := E.ext Nq.ext
          have Bq := Nq.blk
          refine WpL_val rfl rfl (by decide) (r_build (ps := [(0, (.int .i64 k)), (1, (.slice (some ⟨bq, 0, none⟩) 1 1))]) (v := (.agg #[(.int .i64 k), (.slice (some ⟨bq, 0, none⟩) 1 1), (.slice none 0 0), (.int .i64 0), (.int .i64 0), (.bool false)])) rfl (by kernel_rfl)) ?_
          refine s_storeAgg (b := b1) (o := 0) (c' := #[(.int .i64 k), (.slice (some ⟨bq, 0, none⟩) 1 1), (.slice none 0 0), (.int .i64 0), (.int .i64 0), (.bool false)]) rfl rfl (by simp [Value.oneCell']) siz27 rfl B1 (by first | (simp; done) | exact Nat.le_of_ble_eq_true rfl) rfl ?_
          intro w9 S9
          replace hS := hS.put S9 (Ne.symm hne1)
          replace Bq := S9.keep (by omega) Bq
          replace E := S9.step E (by first | exact Or.inl (by omega) | exact Or.inr rfl | exact Or.inr (by assumption) | exact Or.inr (by simp) | exact Or.inr (by omega) | exact Or.inr (by dsimp only; omega))
          replace B1 := S9.blk
          refine WpL_nil ?_
          refine Wp_ret ?_
          refine inB_ret ?_
          refine thn_ret ?_
          refine fin_agg Tryd.results21 (vs := [(.int .i64 k), (.slice (some ⟨bq, 0, none⟩) 1 1), (.slice none 0 0), (.int .i64 0), (.int .i64 0), (.bool false)]) (b := b1) rfl agg27 siz27 rfl (B1.cells rfl) ?_
          exact ⟨.mk k [(97 + x, 97 + x + y)] [] 0 0 false, _, l3, rfl, by subst h2; simp only [allRe, allRes]; exact ⟨⟨node_set (by omega) (by omega) (by omega), hkk.2.1, fun _ => ⟨_, _, rfl, by omega, by omega, by omega⟩⟩, trivial⟩, by simp only [Re.size, Re.sizes]; have := Nat.two_pow_pos d; rw [Nat.pow_succ]; omega, ReIn.of (set := [(97 + x, 97 + x + y)]) (SlIn.mk (spans_of_blk [(97 + x, 97 + x + y)] Bq (by simp) (by simp)) (by omega)) (by simp) (.inl rfl), hS, E⟩
        · have kh2 := h2
          replace h2 := of_decide_eq_false h2
          refine Wp_seq ?_
          refine Wp_seq_region ?_
          refine WpL_val rfl rfl (by decide) (r_eql (k := .i64) (a := k) (b := 3) rfl rfl) ?_
          refine WpL_val rfl rfl (by decide) (r_assign (v := (.bool (decide ((k : Int) = 3)))) rfl) ?_
          refine WpL_nil ?_
          refine Wp_cond (b := decide ((k : Int) = 3)) rfl (fun h3 => ?_) (fun h3 => ?_)
          · have kh3 := h3
            replace h3 := of_decide_eq_true h3
            have hd1 : 1 ≤ d := by omega
            have hlt1 := B1.lt
            have hz1 := E.size
            refine Wp_skip ?_
            refine thn_normal ?_
            refine Wp_cond_true (congrArg Value.bool kh3) ?_
            refine Wp_seq_region ?_
            refine WpL_val rfl rfl (by decide) (r_move (v := (.int .i64 k)) rfl) ?_
            refine WpL_val rfl rfl (by decide) (r_move (v := (.pointer (some ⟨bs, 0, none⟩))) rfl) ?_
            refine WpL_val rfl rfl (by decide) (r_move (v := (.int .i64 ((d : Nat) : Int))) rfl) ?_
            refine WpL_val rfl rfl (by decide) (r_sub (k := .i64) (a := ((d : Nat) : Int)) (b := 1) (c := ((d - 1 : Nat) : Int)) rfl rfl (by rw [wI64 (by omega)]; omega)) ?_
            refine WpL_val rfl rfl (by decide) (r_move (v := (.int .i64 kinds)) rfl) ?_
            refine WpL_enter rfl rfl (by decide) (r_callF (vs := [(.pointer (some ⟨bs, 0, none⟩)), (.int .i64 ((d - 1 : Nat) : Int)), (.int .i64 kinds)]) Tryd.func21 nm21 bd21 rfl) (ih (d - 1) (by omega) (by omega) _ _ (toE E) hS) ?_
            rintro _ w5 ⟨t1, us1, l5, rfl, hg1, hs1, ht1, hS, C5⟩
            replace B1 := C5.keep (hne1) B1
            replace E := E.trans C5
            obtain ⟨sa1, sc1, aa1, ac1, rfl, _, _, _⟩ := ht1.form
            have hlt2 := B1.lt
            have hz2 := E.size
            refine WpL_val rfl rfl (by decide) (r_move (v := (.pointer (some ⟨bs, 0, none⟩))) rfl) ?_
            refine WpL_val rfl rfl (by decide) (r_move (v := (.int .i64 ((d : Nat) : Int))) rfl) ?_
            refine WpL_val rfl rfl (by decide) (r_sub (k := .i64) (a := ((d : Nat) : Int)) (b := 1) (c := ((d - 1 : Nat) : Int)) rfl rfl (by rw [wI64 (by omega)]; omega)) ?_
            refine WpL_val rfl rfl (by decide) (r_move (v := (.int .i64 kinds)) rfl) ?_
            refine WpL_enter rfl rfl (by decide) (r_callF (vs := [(.pointer (some ⟨bs, 0, none⟩)), (.int .i64 ((d - 1 : Nat) : Int)), (.int .i64 kinds)]) Tryd.func21 nm21 bd21 rfl) (ih (d - 1) (by omega) (by omega) _ _ (toE E) hS) ?_
            rintro _ w6 ⟨t2, us2, l6, rfl, hg2, hs2, ht2, hS, C6⟩
            replace B1 := C6.keep (hne1) B1
            replace E := E.trans C6
            obtain ⟨sa2, sc2, aa2, ac2, rfl, _, _, _⟩ := ht2.form
            replace ht1 := ReIn.chg C6 (fun x hx hm => by have hx' := hx; have hm' : x = bs := hm; have := E.size; omega) t1 ht1
            refine s_buildSlice (ps := [(0, (.agg #[(.int .i64 t1.kind), (.slice sa1 t1.set.length sc1), (.slice aa1 t1.args.length ac1), (.int .i64 t1.mn), (.int .i64 t1.mx), (.bool t1.neg)])), (1, (.agg #[(.int .i64 t2.kind), (.slice sa2 t2.set.length sc2), (.slice aa2 t2.args.length ac2), (.int .i64 t2.mn), (.int .i64 t2.mx), (.bool t2.neg)]))]) (c := #[(.int .i64 t1.kind), (.slice sa1 t1.set.length sc1), (.slice aa1 t1.args.length ac1), (.int .i64 t1.mn), (.int .i64 t1.mx), (.bool t1.neg), (.int .i64 t2.kind), (.slice sa2 t2.set.length sc2), (.slice aa2 t2.args.length ac2), (.int .i64 t2.mn), (.int .i64 t2.mx), (.bool t2.neg)]) (by decide) rfl Tryd.underlying25 siz27 zer27 (by decide) (by decide) (by kernel_rfl) ?_
            intro bq wq Nq
            have Fq := Nq.ge E
            have Oq_b1 := Nq.lt B1
            replace B1 := Nq.keep B1
            replace hS := hS.ext Nq.ext
            replace ht1 := ReIn.ext Nq.ext t1 ht1
            replace ht2 := ReIn.ext Nq.ext t2 ht2
            replace E := E.ext Nq.ext
            have Bq := Nq.blk
            refine WpL_val rfl rfl (by decide) (r_build (ps := [(0, (.int .i64 k)), (2, (.slice (some ⟨bq, 0, none⟩) 2 2))]) (v := (.agg #[(.int .i64 k), (.slice none 0 0), (.slice (some ⟨bq, 0, none⟩) 2 2), (.int .i64 0), (.int .i64 0), (.bool false)])) rfl (by kernel_rfl)) ?_
            refine s_storeAgg (b := b1) (o := 0) (c' := #[(.int .i64 k), (.slice none 0 0), (.slice (some ⟨bq, 0, none⟩) 2 2), (.int .i64 0), (.int .i64 0), (.bool false)]) rfl rfl (by simp [Value.oneCell']) siz27 rfl B1 (by first | (simp; done) | exact Nat.le_of_ble_eq_true rfl) rfl ?_
            intro w11 S11
            replace hS := hS.put S11 (Ne.symm hne1)
            replace ht1 := ReIn.chg S11.chg (fun x hx hm => by have hx' := hx; have hm' : x = b1 := hm; omega) t1 ht1
            replace ht2 := ReIn.chg S11.chg (fun x hx hm => by have hx' := hx; have hm' : x = b1 := hm; omega) t2 ht2
            replace Bq := S11.keep (by omega) Bq
            replace E := S11.step E (by first | exact Or.inl (by omega) | exact Or.inr rfl | exact Or.inr (by assumption) | exact Or.inr (by simp) | exact Or.inr (by omega) | exact Or.inr (by dsimp only; omega))
            replace B1 := S11.blk
            refine WpL_nil ?_
            refine Wp_ret ?_
            refine inB_ret ?_
            refine thn_ret ?_
            refine fin_agg Tryd.results21 (vs := [(.int .i64 k), (.slice none 0 0), (.slice (some ⟨bq, 0, none⟩) 2 2), (.int .i64 0), (.int .i64 0), (.bool false)]) (b := b1) rfl agg27 siz27 rfl (B1.cells rfl) ?_
            exact ⟨.mk k [] [t1, t2] 0 0 false, _, l6, rfl, gen_mk hkk.2.1 (by omega) (node_two (by omega) t1 t2) (by simp only [allRes]; exact ⟨hg1, hg2, trivial⟩), gen_size2 hd1 hs1 hs2, ReIn.of (set := []) (SlIn.nil _ _ _ _ _) (by simp) (.inr ⟨bq, 0, by omega, rfl, ResIn.two (Bq.cells rfl) (ReIn.mono (fun b (h : _ ≤ b) => by omega) t1 ht1) (Bq.cells rfl) (ReIn.mono (fun b (h : _ ≤ b) => by omega) t2 ht2)⟩), hS, E⟩
          · have kh3 := h3
            replace h3 := of_decide_eq_false h3
            refine Wp_seq_region ?_
            refine WpL_val rfl rfl (by decide) (r_eql (k := .i64) (a := k) (b := 4) rfl rfl) ?_
            refine WpL_val rfl rfl (by decide) (r_assign (v := (.bool (decide ((k : Int) = 4)))) rfl) ?_
            refine WpL_nil ?_
            refine Wp_cond (b := decide ((k : Int) = 4)) rfl (fun h4 => ?_) (fun h4 => ?_)
            · have kh4 := h4
              replace h4 := of_decide_eq_true h4
              have hd1 : 1 ≤ d := by omega
              have hlt1 := B1.lt
              have hz1 := E.size
              refine Wp_skip ?_
              refine thn_normal ?_
              refine Wp_cond_true (congrArg Value.bool kh4) ?_
              refine Wp_seq_region ?_
              refine WpL_val rfl rfl (by decide) (r_move (v := (.int .i64 k)) rfl) ?_
              refine WpL_val rfl rfl (by decide) (r_move (v := (.pointer (some ⟨bs, 0, none⟩))) rfl) ?_
              refine WpL_val rfl rfl (by decide) (r_move (v := (.int .i64 ((d : Nat) : Int))) rfl) ?_
              refine WpL_val rfl rfl (by decide) (r_sub (k := .i64) (a := ((d : Nat) : Int)) (b := 1) (c := ((d - 1 : Nat) : Int)) rfl rfl (by rw [wI64 (by omega)]; omega)) ?_
              refine WpL_val rfl rfl (by decide) (r_move (v := (.int .i64 kinds)) rfl) ?_
              refine WpL_enter rfl rfl (by decide) (r_callF (vs := [(.pointer (some ⟨bs, 0, none⟩)), (.int .i64 ((d - 1 : Nat) : Int)), (.int .i64 kinds)]) Tryd.func21 nm21 bd21 rfl) (ih (d - 1) (by omega) (by omega) _ _ (toE E) hS) ?_
              rintro _ w5 ⟨t1, us1, l5, rfl, hg1, hs1, ht1, hS, C5⟩
              replace B1 := C5.keep (hne1) B1
              replace E := E.trans C5
              obtain ⟨sa1, sc1, aa1, ac1, rfl, _, _, _⟩ := ht1.form
              have hlt2 := B1.lt
              have hz2 := E.size
              refine WpL_val rfl rfl (by decide) (r_move (v := (.pointer (some ⟨bs, 0, none⟩))) rfl) ?_
              refine WpL_val rfl rfl (by decide) (r_move (v := (.int .i64 ((d : Nat) : Int))) rfl) ?_
              refine WpL_val rfl rfl (by decide) (r_sub (k := .i64) (a := ((d : Nat) : Int)) (b := 1) (c := ((d - 1 : Nat) : Int)) rfl rfl (by rw [wI64 (by omega)]; omega)) ?_
              refine WpL_val rfl rfl (by decide) (r_move (v := (.int .i64 kinds)) rfl) ?_
              refine WpL_enter rfl rfl (by decide) (r_callF (vs := [(.pointer (some ⟨bs, 0, none⟩)), (.int .i64 ((d - 1 : Nat) : Int)), (.int .i64 kinds)]) Tryd.func21 nm21 bd21 rfl) (ih (d - 1) (by omega) (by omega) _ _ (toE E) hS) ?_
              rintro _ w6 ⟨t2, us2, l6, rfl, hg2, hs2, ht2, hS, C6⟩
              replace B1 := C6.keep (hne1) B1
              replace E := E.trans C6
              obtain ⟨sa2, sc2, aa2, ac2, rfl, _, _, _⟩ := ht2.form
              replace ht1 := ReIn.chg C6 (fun x hx hm => by have hx' := hx; have hm' : x = bs := hm; have := E.size; omega) t1 ht1
              refine s_buildSlice (ps := [(0, (.agg #[(.int .i64 t1.kind), (.slice sa1 t1.set.length sc1), (.slice aa1 t1.args.length ac1), (.int .i64 t1.mn), (.int .i64 t1.mx), (.bool t1.neg)])), (1, (.agg #[(.int .i64 t2.kind), (.slice sa2 t2.set.length sc2), (.slice aa2 t2.args.length ac2), (.int .i64 t2.mn), (.int .i64 t2.mx), (.bool t2.neg)]))]) (c := #[(.int .i64 t1.kind), (.slice sa1 t1.set.length sc1), (.slice aa1 t1.args.length ac1), (.int .i64 t1.mn), (.int .i64 t1.mx), (.bool t1.neg), (.int .i64 t2.kind), (.slice sa2 t2.set.length sc2), (.slice aa2 t2.args.length ac2), (.int .i64 t2.mn), (.int .i64 t2.mx), (.bool t2.neg)]) (by decide) rfl Tryd.underlying25 siz27 zer27 (by decide) (by decide) (by kernel_rfl) ?_
              intro bq wq Nq
              have Fq := Nq.ge E
              have Oq_b1 := Nq.lt B1
              replace B1 := Nq.keep B1
              replace hS := hS.ext Nq.ext
              replace ht1 := ReIn.ext Nq.ext t1 ht1
              replace ht2 := ReIn.ext Nq.ext t2 ht2
              replace E := E.ext Nq.ext
              have Bq := Nq.blk
              refine WpL_val rfl rfl (by decide) (r_build (ps := [(0, (.int .i64 k)), (2, (.slice (some ⟨bq, 0, none⟩) 2 2))]) (v := (.agg #[(.int .i64 k), (.slice none 0 0), (.slice (some ⟨bq, 0, none⟩) 2 2), (.int .i64 0), (.int .i64 0), (.bool false)])) rfl (by kernel_rfl)) ?_
              refine s_storeAgg (b := b1) (o := 0) (c' := #[(.int .i64 k), (.slice none 0 0), (.slice (some ⟨bq, 0, none⟩) 2 2), (.int .i64 0), (.int .i64 0), (.bool false)]) rfl rfl (by simp [Value.oneCell']) siz27 rfl B1 (by first | (simp; done) | exact Nat.le_of_ble_eq_true rfl) rfl ?_
              intro w13 S13
              replace hS := hS.put S13 (Ne.symm hne1)
              replace ht1 := ReIn.chg S13.chg (fun x hx hm => by have hx' := hx; have hm' : x = b1 := hm; omega) t1 ht1
              replace ht2 := ReIn.chg S13.chg (fun x hx hm => by have hx' := hx; have hm' : x = b1 := hm; omega) t2 ht2
              replace Bq := S13.keep (by omega) Bq
              replace E := S13.step E (by first | exact Or.inl (by omega) | exact Or.inr rfl | exact Or.inr (by assumption) | exact Or.inr (by simp) | exact Or.inr (by omega) | exact Or.inr (by dsimp only; omega))
              replace B1 := S13.blk
              refine WpL_nil ?_
              refine Wp_ret ?_
              refine inB_ret ?_
              refine thn_ret ?_
              refine fin_agg Tryd.results21 (vs := [(.int .i64 k), (.slice none 0 0), (.slice (some ⟨bq, 0, none⟩) 2 2), (.int .i64 0), (.int .i64 0), (.bool false)]) (b := b1) rfl agg27 siz27 rfl (B1.cells rfl) ?_
              exact ⟨.mk k [] [t1, t2] 0 0 false, _, l6, rfl, gen_mk hkk.2.1 (by omega) (node_two (by omega) t1 t2) (by simp only [allRes]; exact ⟨hg1, hg2, trivial⟩), gen_size2 hd1 hs1 hs2, ReIn.of (set := []) (SlIn.nil _ _ _ _ _) (by simp) (.inr ⟨bq, 0, by omega, rfl, ResIn.two (Bq.cells rfl) (ReIn.mono (fun b (h : _ ≤ b) => by omega) t1 ht1) (Bq.cells rfl) (ReIn.mono (fun b (h : _ ≤ b) => by omega) t2 ht2)⟩), hS, E⟩
            · have kh4 := h4
              replace h4 := of_decide_eq_false h4
              refine Wp_region ?_
              refine WpL_val rfl rfl (by decide) (r_eql (k := .i64) (a := k) (b := 7) rfl rfl) ?_
              refine WpL_val rfl rfl (by decide) (r_assign (v := (.bool (decide ((k : Int) = 7)))) rfl) ?_
              refine WpL_nil ?_
              refine thn_normal ?_
              refine Wp_cond (b := decide ((k : Int) = 7)) rfl (fun h7 => ?_) (fun h7 => ?_)
              · have kh7 := h7
                replace h7 := of_decide_eq_true h7
                have hd1 : 1 ≤ d := by omega
                have hlt1 := B1.lt
                have hz1 := E.size
                refine Wp_seq_region ?_
                refine WpL_val rfl rfl (by decide) (r_move (v := (.int .i64 k)) rfl) ?_
                refine WpL_val rfl rfl (by decide) (r_move (v := (.pointer (some ⟨bs, 0, none⟩))) rfl) ?_
                refine WpL_val rfl rfl (by decide) (r_move (v := (.int .i64 ((d : Nat) : Int))) rfl) ?_
                refine WpL_val rfl rfl (by decide) (r_sub (k := .i64) (a := ((d : Nat) : Int)) (b := 1) (c := ((d - 1 : Nat) : Int)) rfl rfl (by rw [wI64 (by omega)]; omega)) ?_
                refine WpL_val rfl rfl (by decide) (r_move (v := (.int .i64 kinds)) rfl) ?_
                refine WpL_enter rfl rfl (by decide) (r_callF (vs := [(.pointer (some ⟨bs, 0, none⟩)), (.int .i64 ((d - 1 : Nat) : Int)), (.int .i64 kinds)]) Tryd.func21 nm21 bd21 rfl) (ih (d - 1) (by omega) (by omega) _ _ (toE E) hS) ?_
                rintro _ w5 ⟨t1, us1, l5, rfl, hg1, hs1, ht1, hS, C5⟩
                replace B1 := C5.keep (hne1) B1
                replace E := E.trans C5
                obtain ⟨sa1, sc1, aa1, ac1, rfl, _, _, _⟩ := ht1.form
                have hlt2 := B1.lt
                have hz2 := E.size
                refine WpL_val rfl rfl (by decide) (r_move (v := (.pointer (some ⟨bs, 0, none⟩))) rfl) ?_
                refine WpL_val rfl rfl (by decide) (r_move (v := (.int .i64 ((d : Nat) : Int))) rfl) ?_
                refine WpL_val rfl rfl (by decide) (r_sub (k := .i64) (a := ((d : Nat) : Int)) (b := 1) (c := ((d - 1 : Nat) : Int)) rfl rfl (by rw [wI64 (by omega)]; omega)) ?_
                refine WpL_val rfl rfl (by decide) (r_move (v := (.int .i64 kinds)) rfl) ?_
                refine WpL_enter rfl rfl (by decide) (r_callF (vs := [(.pointer (some ⟨bs, 0, none⟩)), (.int .i64 ((d - 1 : Nat) : Int)), (.int .i64 kinds)]) Tryd.func21 nm21 bd21 rfl) (ih (d - 1) (by omega) (by omega) _ _ (toE E) hS) ?_
                rintro _ w6 ⟨t2, us2, l6, rfl, hg2, hs2, ht2, hS, C6⟩
                replace B1 := C6.keep (hne1) B1
                replace E := E.trans C6
                obtain ⟨sa2, sc2, aa2, ac2, rfl, _, _, _⟩ := ht2.form
                replace ht1 := ReIn.chg C6 (fun x hx hm => by have hx' := hx; have hm' : x = bs := hm; have := E.size; omega) t1 ht1
                refine s_buildSlice (ps := [(0, (.agg #[(.int .i64 t1.kind), (.slice sa1 t1.set.length sc1), (.slice aa1 t1.args.length ac1), (.int .i64 t1.mn), (.int .i64 t1.mx), (.bool t1.neg)])), (1, (.agg #[(.int .i64 t2.kind), (.slice sa2 t2.set.length sc2), (.slice aa2 t2.args.length ac2), (.int .i64 t2.mn), (.int .i64 t2.mx), (.bool t2.neg)]))]) (c := #[(.int .i64 t1.kind), (.slice sa1 t1.set.length sc1), (.slice aa1 t1.args.length ac1), (.int .i64 t1.mn), (.int .i64 t1.mx), (.bool t1.neg), (.int .i64 t2.kind), (.slice sa2 t2.set.length sc2), (.slice aa2 t2.args.length ac2), (.int .i64 t2.mn), (.int .i64 t2.mx), (.bool t2.neg)]) (by decide) rfl Tryd.underlying25 siz27 zer27 (by decide) (by decide) (by kernel_rfl) ?_
                intro bq wq Nq
                have Fq := Nq.ge E
                have Oq_b1 := Nq.lt B1
                replace B1 := Nq.keep B1
                replace hS := hS.ext Nq.ext
                replace ht1 := ReIn.ext Nq.ext t1 ht1
                replace ht2 := ReIn.ext Nq.ext t2 ht2
                replace E := E.ext Nq.ext
                have Bq := Nq.blk
                refine WpL_val rfl rfl (by decide) (r_build (ps := [(0, (.int .i64 k)), (2, (.slice (some ⟨bq, 0, none⟩) 2 2))]) (v := (.agg #[(.int .i64 k), (.slice none 0 0), (.slice (some ⟨bq, 0, none⟩) 2 2), (.int .i64 0), (.int .i64 0), (.bool false)])) rfl (by kernel_rfl)) ?_
                refine s_storeAgg (b := b1) (o := 0) (c' := #[(.int .i64 k), (.slice none 0 0), (.slice (some ⟨bq, 0, none⟩) 2 2), (.int .i64 0), (.int .i64 0), (.bool false)]) rfl rfl (by simp [Value.oneCell']) siz27 rfl B1 (by first | (simp; done) | exact Nat.le_of_ble_eq_true rfl) rfl ?_
                intro w15 S15
                replace hS := hS.put S15 (Ne.symm hne1)
                replace ht1 := ReIn.chg S15.chg (fun x hx hm => by have hx' := hx; have hm' : x = b1 := hm; omega) t1 ht1
                replace ht2 := ReIn.chg S15.chg (fun x hx hm => by have hx' := hx; have hm' : x = b1 := hm; omega) t2 ht2
                replace Bq := S15.keep (by omega) Bq
                replace E := S15.step E (by first | exact Or.inl (by omega) | exact Or.inr rfl | exact Or.inr (by assumption) | exact Or.inr (by simp) | exact Or.inr (by omega) | exact Or.inr (by dsimp only; omega))
                replace B1 := S15.blk
                refine WpL_nil ?_
                refine Wp_ret ?_
                refine inB_ret ?_
                refine thn_ret ?_
                refine fin_agg Tryd.results21 (vs := [(.int .i64 k), (.slice none 0 0), (.slice (some ⟨bq, 0, none⟩) 2 2), (.int .i64 0), (.int .i64 0), (.bool false)]) (b := b1) rfl agg27 siz27 rfl (B1.cells rfl) ?_
                exact ⟨.mk k [] [t1, t2] 0 0 false, _, l6, rfl, gen_mk hkk.2.1 (by omega) (node_two (by omega) t1 t2) (by simp only [allRes]; exact ⟨hg1, hg2, trivial⟩), gen_size2 hd1 hs1 hs2, ReIn.of (set := []) (SlIn.nil _ _ _ _ _) (by simp) (.inr ⟨bq, 0, by omega, rfl, ResIn.two (Bq.cells rfl) (ReIn.mono (fun b (h : _ ≤ b) => by omega) t1 ht1) (Bq.cells rfl) (ReIn.mono (fun b (h : _ ≤ b) => by omega) t2 ht2)⟩), hS, E⟩
              · have kh7 := h7
                replace h7 := of_decide_eq_false h7
                refine Wp_seq_region ?_
                refine WpL_val rfl rfl (by decide) (r_eql (k := .i64) (a := k) (b := 6) rfl rfl) ?_
                refine WpL_val rfl rfl (by decide) (r_assign (v := (.bool (decide ((k : Int) = 6)))) rfl) ?_
                refine WpL_nil ?_
                refine Wp_cond (b := decide ((k : Int) = 6)) rfl (fun h6 => ?_) (fun h6 => ?_)
                · have kh6 := h6
                  replace h6 := of_decide_eq_true h6
                  refine Wp_seq_region ?_
                  refine WpL_val rfl rfl (by decide) (r_move (v := (.pointer (some ⟨bs, 0, none⟩))) rfl) ?_
                  refine WpL_enter rfl rfl (by decide) (r_callF (vs := [(.pointer (some ⟨bs, 0, none⟩)), (.int .i64 3)]) Tryd.func40 nm40 bd40 rfl) (next_c wb _ bs _ _ (by omega) (by omega) (toE E) hb hS) ?_
                  rintro _ w3 ⟨x, l2, rfl, hx0, hx1, hS, C3⟩
                  replace B1 := C3.keep (hne1) B1
                  replace E := E.trans C3
                  refine WpL_val rfl rfl (by decide) (r_assign (v := (.int .i64 x)) rfl) ?_
                  refine WpL_nil ?_
                  refine Wp_seq_region ?_
                  refine WpL_val rfl rfl (by decide) (r_move (v := (.int .i64 k)) rfl) ?_
                  refine WpL_val rfl rfl (by decide) (r_move (v := (.int .i64 x)) rfl) ?_
                  refine WpL_val rfl rfl (by decide) (r_move (v := (.int .i64 x)) rfl) ?_
                  refine WpL_val rfl rfl (by decide) (r_move (v := (.pointer (some ⟨bs, 0, none⟩))) rfl) ?_
                  refine WpL_enter rfl rfl (by decide) (r_callF (vs := [(.pointer (some ⟨bs, 0, none⟩)), (.int .i64 3)]) Tryd.func40 nm40 bd40 rfl) (next_c wb _ bs _ _ (by omega) (by omega) (toE E) hb hS) ?_
                  rintro _ w4 ⟨y, l3, rfl, hy0, hy1, hS, C4⟩
                  replace B1 := C4.keep (hne1) B1
                  replace E := E.trans C4
                  refine WpL_val rfl rfl (by decide) (r_add (k := .i64) (a := x) (b := y) (c := x + y) rfl rfl (wI64 (by omega))) ?_
                  refine WpL_val rfl rfl (by decide) (r_move (v := (.pointer (some ⟨bs, 0, none⟩))) rfl) ?_
                  refine WpL_val rfl rfl (by decide) (r_move (v := (.int .i64 ((d : Nat) : Int))) rfl) ?_
                  have hd1 : 1 ≤ d := by omega
                  have hlt1 := B1.lt
                  have hz1 := E.size
                  refine WpL_val rfl rfl (by decide) (r_sub (k := .i64) (a := ((d : Nat) : Int)) (b := 1) (c := ((d - 1 : Nat) : Int)) rfl rfl (by rw [wI64 (by omega)]; omega)) ?_
                  refine WpL_val rfl rfl (by decide) (r_move (v := (.int .i64 kinds)) rfl) ?_
                  refine WpL_enter rfl rfl (by decide) (r_callF (vs := [(.pointer (some ⟨bs, 0, none⟩)), (.int .i64 ((d - 1 : Nat) : Int)), (.int .i64 kinds)]) Tryd.func21 nm21 bd21 rfl) (ih (d - 1) (by omega) (by omega) _ _ (toE E) hS) ?_
                  rintro _ w5 ⟨t1, us1, l5, rfl, hg1, hs1, ht1, hS, C5⟩
                  replace B1 := C5.keep (hne1) B1
                  replace E := E.trans C5
                  obtain ⟨sa1, sc1, aa1, ac1, rfl, _, _, _⟩ := ht1.form
                  refine s_buildSlice (ps := [(0, (.agg #[(.int .i64 t1.kind), (.slice sa1 t1.set.length sc1), (.slice aa1 t1.args.length ac1), (.int .i64 t1.mn), (.int .i64 t1.mx), (.bool t1.neg)]))]) (c := #[(.int .i64 t1.kind), (.slice sa1 t1.set.length sc1), (.slice aa1 t1.args.length ac1), (.int .i64 t1.mn), (.int .i64 t1.mx), (.bool t1.neg)]) (by decide) rfl Tryd.underlying25 siz27 zer27 (by decide) (by decide) (by kernel_rfl) ?_
                  intro bq wq Nq
                  have Fq := Nq.ge E
                  have Oq_b1 := Nq.lt B1
                  replace B1 := Nq.keep B1
                  replace hS := hS.ext Nq.ext
                  replace ht1 := ReIn.ext Nq.ext t1 ht1
                  replace E := E.ext Nq.ext
                  have Bq := Nq.blk
                  refine WpL_val rfl rfl (by decide) (r_build (ps := [(0, (.int .i64 k)), (3, (.int .i64 x)), (4, (.int .i64 (x + y))), (2, (.slice (some ⟨bq, 0, none⟩) 1 1))]) (v := (.agg #[(.int .i64 k), (.slice none 0 0), (.slice (some ⟨bq, 0, none⟩) 1 1), (.int .i64 x), (.int .i64 (x + y)), (.bool false)])) rfl (by kernel_rfl)) ?_
                  refine s_storeAgg (b := b1) (o := 0) (c' := #[(.int .i64 k), (.slice none 0 0), (.slice (some ⟨bq, 0, none⟩) 1 1), (.int .i64 x), (.int .i64 (x + y)), (.bool false)]) rfl rfl (by simp [Value.oneCell']) siz27 rfl B1 (by first | (simp; done) | exact Nat.le_of_ble_eq_true rfl) rfl ?_
                  intro w17 S17
                  replace hS := hS.put S17 (Ne.symm hne1)
                  replace ht1 := ReIn.chg S17.chg (fun x hx hm => by have hx' := hx; have hm' : x = b1 := hm; omega) t1 ht1
                  replace Bq := S17.keep (by omega) Bq
                  replace E := S17.step E (by first | exact Or.inl (by omega) | exact Or.inr rfl | exact Or.inr (by assumption) | exact Or.inr (by simp) | exact Or.inr (by omega) | exact Or.inr (by dsimp only; omega))
                  replace B1 := S17.blk
                  refine WpL_nil ?_
                  refine Wp_ret ?_
                  refine inB_ret ?_
                  refine thn_ret ?_
                  refine fin_agg Tryd.results21 (vs := [(.int .i64 k), (.slice none 0 0), (.slice (some ⟨bq, 0, none⟩) 1 1), (.int .i64 x), (.int .i64 (x + y)), (.bool false)]) (b := b1) rfl agg27 siz27 rfl (B1.cells rfl) ?_
                  exact ⟨.mk k [] [t1] x (x + y) false, _, l5, rfl, gen_mk (by omega) (by omega) (by subst h6; exact node_rep (by omega) (by omega) (by omega) t1) (by simp only [allRes]; exact ⟨hg1, trivial⟩), gen_size1 hd1 hs1, ReIn.of (set := []) (SlIn.nil _ _ _ _ _) (by simp) (.inr ⟨bq, 0, by omega, rfl, ResIn.one (Bq.cells rfl) (ReIn.mono (fun b (h : _ ≤ b) => by omega) t1 ht1)⟩), hS, E⟩
                · have kh6 := h6
                  replace h6 := of_decide_eq_false h6
                  refine Wp_seq_region ?_
                  refine WpL_val rfl rfl (by decide) (r_eql (k := .i64) (a := k) (b := 9) rfl rfl) ?_
                  refine WpL_val rfl rfl (by decide) (r_assign (v := (.bool (decide ((k : Int) = 9)))) rfl) ?_
                  refine WpL_nil ?_
                  refine Wp_cond (b := decide ((k : Int) = 9)) rfl (fun h9 => ?_) (fun h9 => ?_)
                  · have kh9 := h9
                    replace h9 := of_decide_eq_true h9
                    refine Wp_seq_region ?_
                    refine WpL_val rfl rfl (by decide) (r_move (v := (.int .i64 k)) rfl) ?_
                    refine WpL_val rfl rfl (by decide) (r_move (v := (.pointer (some ⟨bs, 0, none⟩))) rfl) ?_
                    refine WpL_enter rfl rfl (by decide) (r_callF (vs := [(.pointer (some ⟨bs, 0, none⟩)), (.int .i64 4)]) Tryd.func40 nm40 bd40 rfl) (next_c wb _ bs _ _ (by omega) (by omega) (toE E) hb hS) ?_
                    rintro _ w3 ⟨x, l2, rfl, hx0, hx1, hS, C3⟩
                    replace B1 := C3.keep (hne1) B1
                    replace E := E.trans C3
                    have hd1 : 1 ≤ d := by omega
                    have hlt1 := B1.lt
                    have hz1 := E.size
                    refine WpL_val rfl rfl (by decide) (r_move (v := (.pointer (some ⟨bs, 0, none⟩))) rfl) ?_
                    refine WpL_val rfl rfl (by decide) (r_move (v := (.int .i64 ((d : Nat) : Int))) rfl) ?_
                    refine WpL_val rfl rfl (by decide) (r_sub (k := .i64) (a := ((d : Nat) : Int)) (b := 1) (c := ((d - 1 : Nat) : Int)) rfl rfl (by rw [wI64 (by omega)]; omega)) ?_
                    refine WpL_val rfl rfl (by decide) (r_move (v := (.int .i64 kinds)) rfl) ?_
                    refine WpL_enter rfl rfl (by decide) (r_callF (vs := [(.pointer (some ⟨bs, 0, none⟩)), (.int .i64 ((d - 1 : Nat) : Int)), (.int .i64 kinds)]) Tryd.func21 nm21 bd21 rfl) (ih (d - 1) (by omega) (by omega) _ _ (toE E) hS) ?_
                    rintro _ w5 ⟨t1, us1, l5, rfl, hg1, hs1, ht1, hS, C5⟩
                    replace B1 := C5.keep (hne1) B1
                    replace E := E.trans C5
                    obtain ⟨sa1, sc1, aa1, ac1, rfl, _, _, _⟩ := ht1.form
                    refine s_buildSlice (ps := [(0, (.agg #[(.int .i64 t1.kind), (.slice sa1 t1.set.length sc1), (.slice aa1 t1.args.length ac1), (.int .i64 t1.mn), (.int .i64 t1.mx), (.bool t1.neg)]))]) (c := #[(.int .i64 t1.kind), (.slice sa1 t1.set.length sc1), (.slice aa1 t1.args.length ac1), (.int .i64 t1.mn), (.int .i64 t1.mx), (.bool t1.neg)]) (by decide) rfl Tryd.underlying25 siz27 zer27 (by decide) (by decide) (by kernel_rfl) ?_
                    intro bq wq Nq
                    have Fq := Nq.ge E
                    have Oq_b1 := Nq.lt B1
                    replace B1 := Nq.keep B1
                    replace hS := hS.ext Nq.ext
                    replace ht1 := ReIn.ext Nq.ext t1 ht1
                    replace E := E.ext Nq.ext
                    have Bq := Nq.blk
                    refine WpL_val rfl rfl (by decide) (r_build (ps := [(0, (.int .i64 k)), (3, (.int .i64 x)), (2, (.slice (some ⟨bq, 0, none⟩) 1 1))]) (v := (.agg #[(.int .i64 k), (.slice none 0 0), (.slice (some ⟨bq, 0, none⟩) 1 1), (.int .i64 x), (.int .i64 0), (.bool false)])) rfl (by kernel_rfl)) ?_
                    refine s_storeAgg (b := b1) (o := 0) (c' := #[(.int .i64 k), (.slice none 0 0), (.slice (some ⟨bq, 0, none⟩) 1 1), (.int .i64 x), (.int .i64 0), (.bool false)]) rfl rfl (by simp [Value.oneCell']) siz27 rfl B1 (by first | (simp; done) | exact Nat.le_of_ble_eq_true rfl) rfl ?_
                    intro w19 S19
                    replace hS := hS.put S19 (Ne.symm hne1)
                    replace ht1 := ReIn.chg S19.chg (fun x hx hm => by have hx' := hx; have hm' : x = b1 := hm; omega) t1 ht1
                    replace Bq := S19.keep (by omega) Bq
                    replace E := S19.step E (by first | exact Or.inl (by omega) | exact Or.inr rfl | exact Or.inr (by assumption) | exact Or.inr (by simp) | exact Or.inr (by omega) | exact Or.inr (by dsimp only; omega))
                    replace B1 := S19.blk
                    refine WpL_nil ?_
                    refine Wp_ret ?_
                    refine inB_ret ?_
                    refine thn_ret ?_
                    refine fin_agg Tryd.results21 (vs := [(.int .i64 k), (.slice none 0 0), (.slice (some ⟨bq, 0, none⟩) 1 1), (.int .i64 x), (.int .i64 0), (.bool false)]) (b := b1) rfl agg27 siz27 rfl (B1.cells rfl) ?_
                    exact ⟨.mk k [] [t1] x 0 false, _, l5, rfl, gen_mk (by omega) (by omega) (by subst h9; exact node_group (by omega) (by omega) t1) (by simp only [allRes]; exact ⟨hg1, trivial⟩), gen_size1 hd1 hs1, ReIn.of (set := []) (SlIn.nil _ _ _ _ _) (by simp) (.inr ⟨bq, 0, by omega, rfl, ResIn.one (Bq.cells rfl) (ReIn.mono (fun b (h : _ ≤ b) => by omega) t1 ht1)⟩), hS, E⟩
                  · have kh9 := h9
                    replace h9 := of_decide_eq_false h9
                    refine Wp_seq_region ?_
                    refine WpL_val rfl rfl (by decide) (r_eql (k := .i64) (a := k) (b := 10) rfl rfl) ?_
                    refine WpL_val rfl rfl (by decide) (r_assign (v := (.bool (decide ((k : Int) = 10)))) rfl) ?_
                    refine WpL_nil ?_
                    refine Wp_cond (b := decide ((k : Int) = 10)) rfl (fun h10 => ?_) (fun h10 => ?_)
                    · have kh10 := h10
                      replace h10 := of_decide_eq_true h10
                      refine Wp_seq_region ?_
                      refine WpL_val rfl rfl (by decide) (r_move (v := (.int .i64 k)) rfl) ?_
                      refine WpL_val rfl rfl (by decide) (r_move (v := (.pointer (some ⟨bs, 0, none⟩))) rfl) ?_
                      refine WpL_enter rfl rfl (by decide) (r_callF (vs := [(.pointer (some ⟨bs, 0, none⟩)), (.int .i64 2)]) Tryd.func40 nm40 bd40 rfl) (next_c wb _ bs _ _ (by omega) (by omega) (toE E) hb hS) ?_
                      rintro _ w3 ⟨x, l2, rfl, hx0, hx1, hS, C3⟩
                      replace B1 := C3.keep (hne1) B1
                      replace E := E.trans C3
                      have hd1 : 1 ≤ d := by omega
                      have hlt1 := B1.lt
                      have hz1 := E.size
                      refine WpL_val rfl rfl (by decide) (r_eql (k := .i64) (a := x) (b := 1) rfl rfl) ?_
                      refine WpL_val rfl rfl (by decide) (r_move (v := (.pointer (some ⟨bs, 0, none⟩))) rfl) ?_
                      refine WpL_val rfl rfl (by decide) (r_move (v := (.int .i64 ((d : Nat) : Int))) rfl) ?_
                      refine WpL_val rfl rfl (by decide) (r_sub (k := .i64) (a := ((d : Nat) : Int)) (b := 1) (c := ((d - 1 : Nat) : Int)) rfl rfl (by rw [wI64 (by omega)]; omega)) ?_
                      refine WpL_val rfl rfl (by decide) (r_move (v := (.int .i64 kinds)) rfl) ?_
                      refine WpL_enter rfl rfl (by decide) (r_callF (vs := [(.pointer (some ⟨bs, 0, none⟩)), (.int .i64 ((d - 1 : Nat) : Int)), (.int .i64 kinds)]) Tryd.func21 nm21 bd21 rfl) (ih (d - 1) (by omega) (by omega) _ _ (toE E) hS) ?_
                      rintro _ w5 ⟨t1, us1, l5, rfl, hg1, hs1, ht1, hS, C5⟩
                      replace B1 := C5.keep (hne1) B1
                      replace E := E.trans C5
                      obtain ⟨sa1, sc1, aa1, ac1, rfl, _, _, _⟩ := ht1.form
                      refine s_buildSlice (ps := [(0, (.agg #[(.int .i64 t1.kind), (.slice sa1 t1.set.length sc1), (.slice aa1 t1.args.length ac1), (.int .i64 t1.mn), (.int .i64 t1.mx), (.bool t1.neg)]))]) (c := #[(.int .i64 t1.kind), (.slice sa1 t1.set.length sc1), (.slice aa1 t1.args.length ac1), (.int .i64 t1.mn), (.int .i64 t1.mx), (.bool t1.neg)]) (by decide) rfl Tryd.underlying25 siz27 zer27 (by decide) (by decide) (by kernel_rfl) ?_
                      intro bq wq Nq
                      have Fq := Nq.ge E
                      have Oq_b1 := Nq.lt B1
                      replace B1 := Nq.keep B1
                      replace hS := hS.ext Nq.ext
                      replace ht1 := ReIn.ext Nq.ext t1 ht1
                      replace E := E.ext Nq.ext
                      have Bq := Nq.blk
                      refine WpL_val rfl rfl (by decide) (r_build (ps := [(0, (.int .i64 k)), (5, (.bool (decide ((x : Int) = 1)))), (2, (.slice (some ⟨bq, 0, none⟩) 1 1))]) (v := (.agg #[(.int .i64 k), (.slice none 0 0), (.slice (some ⟨bq, 0, none⟩) 1 1), (.int .i64 0), (.int .i64 0), (.bool (decide ((x : Int) = 1)))])) rfl (by kernel_rfl)) ?_
                      refine s_storeAgg (b := b1) (o := 0) (c' := #[(.int .i64 k), (.slice none 0 0), (.slice (some ⟨bq, 0, none⟩) 1 1), (.int .i64 0), (.int .i64 0), (.bool (decide ((x : Int) = 1)))]) rfl rfl (by simp [Value.oneCell']) siz27 rfl B1 (by first | (simp; done) | exact Nat.le_of_ble_eq_true rfl) rfl ?_
                      intro w21 S21
                      replace hS := hS.put S21 (Ne.symm hne1)
                      replace ht1 := ReIn.chg S21.chg (fun x hx hm => by have hx' := hx; have hm' : x = b1 := hm; omega) t1 ht1
                      replace Bq := S21.keep (by omega) Bq
                      replace E := S21.step E (by first | exact Or.inl (by omega) | exact Or.inr rfl | exact Or.inr (by assumption) | exact Or.inr (by simp) | exact Or.inr (by omega) | exact Or.inr (by dsimp only; omega))
                      replace B1 := S21.blk
                      refine WpL_nil ?_
                      refine Wp_ret ?_
                      refine inB_ret ?_
                      refine thn_ret ?_
                      refine fin_agg Tryd.results21 (vs := [(.int .i64 k), (.slice none 0 0), (.slice (some ⟨bq, 0, none⟩) 1 1), (.int .i64 0), (.int .i64 0), (.bool (decide ((x : Int) = 1)))]) (b := b1) rfl agg27 siz27 rfl (B1.cells rfl) ?_
                      exact ⟨.mk k [] [t1] 0 0 (decide (x = 1)), _, l5, rfl, gen_mk (by omega) (by omega) (by subst h10; exact node_look _ t1) (by simp only [allRes]; exact ⟨hg1, trivial⟩), gen_size1 hd1 hs1, ReIn.of (set := []) (SlIn.nil _ _ _ _ _) (by simp) (.inr ⟨bq, 0, by omega, rfl, ResIn.one (Bq.cells rfl) (ReIn.mono (fun b (h : _ ≤ b) => by omega) t1 ht1)⟩), hS, E⟩
                    · have kh10 := h10
                      replace h10 := of_decide_eq_false h10
                      have hd1 : 1 ≤ d := by omega
                      have hlt1 := B1.lt
                      have hz1 := E.size
                      refine Wp_skip ?_
                      refine inB_normal ?_
                      refine thn_normal ?_
                      refine Wp_seq_region ?_
                      refine WpL_val rfl rfl (by decide) (r_move (v := (.int .i64 k)) rfl) ?_
                      refine WpL_val rfl rfl (by decide) (r_move (v := (.pointer (some ⟨bs, 0, none⟩))) rfl) ?_
                      refine WpL_val rfl rfl (by decide) (r_move (v := (.int .i64 ((d : Nat) : Int))) rfl) ?_
                      refine WpL_val rfl rfl (by decide) (r_sub (k := .i64) (a := ((d : Nat) : Int)) (b := 1) (c := ((d - 1 : Nat) : Int)) rfl rfl (by rw [wI64 (by omega)]; omega)) ?_
                      refine WpL_val rfl rfl (by decide) (r_move (v := (.int .i64 kinds)) rfl) ?_
                      refine WpL_enter rfl rfl (by decide) (r_callF (vs := [(.pointer (some ⟨bs, 0, none⟩)), (.int .i64 ((d - 1 : Nat) : Int)), (.int .i64 kinds)]) Tryd.func21 nm21 bd21 rfl) (ih (d - 1) (by omega) (by omega) _ _ (toE E) hS) ?_
                      rintro _ w5 ⟨t1, us1, l5, rfl, hg1, hs1, ht1, hS, C5⟩
                      replace B1 := C5.keep (hne1) B1
                      replace E := E.trans C5
                      obtain ⟨sa1, sc1, aa1, ac1, rfl, _, _, _⟩ := ht1.form
                      refine s_buildSlice (ps := [(0, (.agg #[(.int .i64 t1.kind), (.slice sa1 t1.set.length sc1), (.slice aa1 t1.args.length ac1), (.int .i64 t1.mn), (.int .i64 t1.mx), (.bool t1.neg)]))]) (c := #[(.int .i64 t1.kind), (.slice sa1 t1.set.length sc1), (.slice aa1 t1.args.length ac1), (.int .i64 t1.mn), (.int .i64 t1.mx), (.bool t1.neg)]) (by decide) rfl Tryd.underlying25 siz27 zer27 (by decide) (by decide) (by kernel_rfl) ?_
                      intro bq wq Nq
                      have Fq := Nq.ge E
                      have Oq_b1 := Nq.lt B1
                      replace B1 := Nq.keep B1
                      replace hS := hS.ext Nq.ext
                      replace ht1 := ReIn.ext Nq.ext t1 ht1
                      replace E := E.ext Nq.ext
                      have Bq := Nq.blk
                      refine WpL_val rfl rfl (by decide) (r_build (ps := [(0, (.int .i64 k)), (2, (.slice (some ⟨bq, 0, none⟩) 1 1))]) (v := (.agg #[(.int .i64 k), (.slice none 0 0), (.slice (some ⟨bq, 0, none⟩) 1 1), (.int .i64 0), (.int .i64 0), (.bool false)])) rfl (by kernel_rfl)) ?_
                      refine s_storeAgg (b := b1) (o := 0) (c' := #[(.int .i64 k), (.slice none 0 0), (.slice (some ⟨bq, 0, none⟩) 1 1), (.int .i64 0), (.int .i64 0), (.bool false)]) rfl rfl (by simp [Value.oneCell']) siz27 rfl B1 (by first | (simp; done) | exact Nat.le_of_ble_eq_true rfl) rfl ?_
                      intro w22 S22
                      replace hS := hS.put S22 (Ne.symm hne1)
                      replace ht1 := ReIn.chg S22.chg (fun x hx hm => by have hx' := hx; have hm' : x = b1 := hm; omega) t1 ht1
                      replace Bq := S22.keep (by omega) Bq
                      replace E := S22.step E (by first | exact Or.inl (by omega) | exact Or.inr rfl | exact Or.inr (by assumption) | exact Or.inr (by simp) | exact Or.inr (by omega) | exact Or.inr (by dsimp only; omega))
                      replace B1 := S22.blk
                      refine WpL_nil ?_
                      refine Wp_ret ?_
                      refine fin_agg Tryd.results21 (vs := [(.int .i64 k), (.slice none 0 0), (.slice (some ⟨bq, 0, none⟩) 1 1), (.int .i64 0), (.int .i64 0), (.bool false)]) (b := b1) rfl agg27 siz27 rfl (B1.cells rfl) ?_
                      exact ⟨.mk k [] [t1] 0 0 false, _, l5, rfl, gen_mk (by omega) (by omega) (node_one (by omega) t1) (by simp only [allRes]; exact ⟨hg1, trivial⟩), gen_size1 hd1 hs1, ReIn.of (set := []) (SlIn.nil _ _ _ _ _) (by simp) (.inr ⟨bq, 0, by omega, rfl, ResIn.one (Bq.cells rfl) (ReIn.mono (fun b (h : _ ≤ b) => by omega) t1 ht1)⟩), hS, E⟩
end Go.Proofs
namespace Go.Proofs
open Go Go.Eng
set_option maxRecDepth 100000
theorem mkRe_c (w0 : World) (v : Value) (l : List Int) (hl : IntsAt w0 v l) : Ret Tryd.prog 14 #[v] w0 fun r w => ∃ t vs, r = .agg vs.toArray ∧ allRe (genP 8) t ∧ t.size ≤ 31 ∧ ReIn (fun b => w0.heap.size ≤ b) w t vs ∧ Ext w0 w := by
  obtain ⟨a, c, rfl⟩ := SlAt.form hl
  simp only [List.length_map] at hl ⊢
  refine Ret_of Tryd.func14 rfl Tryd.ntmps14 (Nat.le_of_ble_eq_true rfl) ?_
  have E : Chg none1 w0 w0 := Chg.refl _ _
  refine Wp_seq_region ?_
  refine s_alloc (c := #[(.int .i64 0), (.slice none 0 0), (.slice none 0 0), (.int .i64 0), (.int .i64 0), (.bool false)]) (by decide) zer27 rfl ?_
  intro br wr Nr
  have Fr := Nr.ge E
  replace E := E.ext Nr.ext
  have Br := Nr.blk
  refine WpL_nil ?_
  refine Wp_seq_region ?_
  refine WpL_val rfl rfl (by decide) (r_move (v := (.slice a l.length c)) rfl) ?_
  refine WpL_val rfl rfl (by decide) (r_build (ps := [(0, (.slice a l.length c))]) (v := (.agg #[(.slice a l.length c)])) rfl (by kernel_rfl)) ?_
  refine s_box (v := (.agg #[(.slice a l.length c)])) (c := #[(.slice a l.length c)]) (by decide) rfl rfl ?_
  intro bs ws Ns
  have Fs := Ns.ge E
  have Os_br := Ns.lt Br
  replace Br := Ns.keep Br
  replace E := E.ext Ns.ext
  have Bs := Ns.blk
  have hne : br < bs := by omega
  have hz1 := Br.lt
  have hz2 := E.size
  refine WpL_enter rfl rfl (by decide) (r_callF (vs := [(.pointer (some ⟨bs, 0, none⟩)), (.int .i64 4), (.int .i64 8)]) Tryd.func21 nm21 bd21 rfl) (gen_c wr bs 8 (by omega) (by have := Ns.eq; omega) 4 (by decide) ws l Ns.ext ⟨a, c, Bs, hl.ext Nr.ext⟩) ?_
  rintro _ w9 ⟨t, us, l', rfl, hg, hs, ht, hS, C9⟩
  replace Br := C9.keep (by omega) Br
  replace E := E.step C9 (by intro x hx hm; omega)
  obtain ⟨sa, sc, aa, ac, rfl, _, _, _⟩ := ht.form
  refine s_storeAgg (b := br) (o := 0) (c' := #[(.int .i64 t.kind), (.slice sa t.set.length sc), (.slice aa t.args.length ac), (.int .i64 t.mn), (.int .i64 t.mx), (.bool t.neg)]) rfl rfl (by simp [Value.oneCell']) siz27 rfl Br (by first | (simp; done) | exact Nat.le_of_ble_eq_true rfl) rfl ?_
  intro w1 S1
  replace ht := ReIn.chg S1.chg (fun x hx hm => by have hx' := hx; have hm' : x = br := hm; omega) t ht
  replace E := S1.step E (by first | exact Or.inl (by omega) | exact Or.inr rfl | exact Or.inr (by assumption) | exact Or.inr (by simp) | exact Or.inr (by omega) | exact Or.inr (by dsimp only; omega))
  replace Br := S1.blk
  refine WpL_nil ?_
  refine Wp_ret ?_
  refine fin_agg Tryd.results14 (vs := [(.int .i64 t.kind), (.slice sa t.set.length sc), (.slice aa t.args.length ac), (.int .i64 t.mn), (.int .i64 t.mx), (.bool t.neg)]) (b := br) rfl agg27 siz27 rfl (Br.cells rfl) ?_
  exact ⟨t, _, rfl, hg, by omega, ReIn.mono (fun b (h : _ ≤ b) => by omega) t ht, E⟩
def textArr : Array Value := #[.int .i64 97, .int .i64 98, .int .i64 99, .int .i64 97, .int .i64 98, .int .i64 122, .int .i64 0, .int .i64 233, .int .i64 8364, .int .i64 1114111]
theorem text_tab : ∀ i, i < 10 → ∃ r, textArr[i]? = some (.int .i64 r) ∧ runeB r = true := by
  intro i h
  match i, h with
  | 0, _ => exact ⟨97, rfl, by decide⟩
  | 1, _ => exact ⟨98, rfl, by decide⟩
  | 2, _ => exact ⟨99, rfl, by decide⟩
  | 3, _ => exact ⟨97, rfl, by decide⟩
  | 4, _ => exact ⟨98, rfl, by decide⟩
  | 5, _ => exact ⟨122, rfl, by decide⟩
  | 6, _ => exact ⟨0, rfl, by decide⟩
  | 7, _ => exact ⟨233, rfl, by decide⟩
  | 8, _ => exact ⟨8364, rfl, by decide⟩
  | 9, _ => exact ⟨1114111, rfl, by decide⟩
theorem r_min2 {P : Program} {σ : Env} {w : World} {dst : Option Tmp} {ty : TypeId} {pos : String} {af : Array Edge} {g : Option (Nat × Bool)} {tys : Array TypeId} {x y : Operand} {k : IntKind} {a b c : Int} (hx : ev σ x = .int k a) (hy : ev σ y = .int k b) (hc : min a b = c) :
    (execOp (ev σ) ⟨dst, .call ⟨.builtin .min, #[x, y], tys⟩, ty, pos, af, g⟩).run P w = .ok (.value (.int k c)) w := by
  subst hc
  have : (if b < a then b else a) = min a b := by split <;> omega
  simp [execOp, resolve, invoke, builtin, Builtin.min_, Builtin.min2, hx, hy, this]
set_option maxHeartbeats 1000000 in
theorem text_c (w0 : World) (v : Value) (l : List Int) (hl : IntsAt w0 v l) : Ret Tryd.prog 8 #[v] w0 fun r w => ∃ a c text, r = .slice a text.length c ∧ IntsAt w (.slice a text.length c) text ∧ text.length ≤ 10 ∧ (∀ x ∈ text, runeB x = true) ∧ Ext w0 w := by
  obtain ⟨a, c, rfl⟩ := SlAt.form hl
  have hlen : l.length ≤ 9223372036854775807 := by simpa using SlAt.le hl
  have hcap := SlAt.cap hl
  simp only [List.length_map] at hl hcap ⊢
  obtain ⟨m, hm⟩ : ∃ m, m = min l.length 10 := ⟨_, rfl⟩
  obtain ⟨base, hbase⟩ : ∃ base, base = w0.heap.size := ⟨_, rfl⟩
  refine Ret_of Tryd.func8 rfl Tryd.ntmps8 (Nat.le_of_ble_eq_true rfl) ?_
  have E : Chg none1 w0 w0 := Chg.refl _ _
  refine Wp_seq_region ?_
  refine WpL_val rfl rfl (by decide) (r_assign (v := (.slice none 0 0)) rfl) ?_
  refine WpL_nil ?_
  refine Wp_seq_region ?_
  refine WpL_val rfl rfl (by decide) (r_assign (v := (.slice none 0 0)) rfl) ?_
  refine WpL_nil ?_
  refine Wp_seq ?_
  refine Wp_seq_region ?_
  refine WpL_val rfl rfl (by decide) (r_move (v := (.slice a l.length c)) rfl) ?_
  refine WpL_val rfl rfl (by decide) (r_move (v := (.slice a l.length c)) rfl) ?_
  refine WpL_val rfl rfl (by decide) (r_lenSlice (ad := a) (n := l.length) (cap := c) Tryd.underlying22 rfl) ?_
  refine WpL_val rfl rfl (by decide) (r_min2 (a := ((l.length : Nat) : Int)) (b := 10) (c := ((m : Nat) : Int)) rfl rfl (by omega)) ?_
  obtain ⟨sl, hsl⟩ : ∃ a' : Option Addr, (if c = 0 then a else Option.map (fun q : Addr => q.add (0 * 1)) a) = a' := ⟨_, rfl⟩
  refine WpL_val rfl rfl (by decide) (r_sliceHi (a := a) (len := l.length) (cap := c) (hi := m) (l := ((m : Nat) : Int)) Tryd.underlying22 siz3 rfl rfl (by omega) (by omega) hsl) ?_
  refine WpL_val rfl rfl (by decide) (r_lenSlice (ad := sl) (n := m) (cap := c) Tryd.underlying22 rfl) ?_
  refine WpL_val rfl rfl (by decide) (r_move (v := (.int .i64 0)) rfl) ?_
  refine WpL_nil ?_
  refine Wp_block ?_
  have hcut := SlAt.cut (lo := 0) (hi := m) hl (by omega) (by omega) hsl rfl rfl
  simp only [Nat.sub_zero, List.drop_zero] at hcut
  have hcut2 : IntsAt w0 (.slice sl m c) (l.take m) := by unfold IntsAt; rw [List.map_take]; exact hcut
  refine Wp_loop (fun nn_ σ W1 => ∃ (k : Nat) (la : Option Addr) (lc : Nat) (ts : List Int), (∃ jj_, σ = upds jj_ [(10, (.slice sl m c)), (11, (.int .i64 ((m : Nat) : Int))), (12, (.int .i64 ((k : Nat) : Int))), (3, (.slice la k lc))]) ∧ Chg none1 w0 W1 ∧ (k ≤ m) ∧ (W1.ownsRow base 3 1 (.slice la k lc) k (ts.map intV).flatten) ∧ (ts.length = k ∧ ∀ x ∈ ts, runeB x = true) ∧ (base ≤ W1.heap.size) ∧ nn_ = m - k) (n := m - 0) ?_ ?_
  · exact ⟨0, none, 0, [], Fits.out ⟨rfl, rfl, rfl, rfl, trivial⟩, E, Nat.zero_le _, World.ownsRow_nil _ _ _ _, ⟨rfl, by simp⟩, (by omega), rfl⟩
  · clear E
    rintro _ _ W1 ⟨k, la, lc, ts, ⟨j1, rfl⟩, E, hk, hown, hts, hbs, rfl⟩
    refine Wp_seq_region ?_
    refine WpL_val rfl rfl (by decide) (r_lss (k := .i64) (a := ((k : Nat) : Int)) (b := ((m : Nat) : Int)) rfl rfl) ?_
    refine WpL_nil ?_
    refine Wp_seq ?_
    refine Wp_cond (b := decide ((((k : Nat) : Int) : Int) < ((m : Nat) : Int))) rfl (fun hlt => ?_) (fun hlt => ?_)
    · have khlt := hlt
      replace hlt := of_decide_eq_true hlt
      obtain ⟨x, hx⟩ := get_of_lt (l := l.take m) (i := k) (by simp; omega)
      obtain ⟨b, o, rfl, hcl⟩ := ints_cells hcut2 (by omega)
      refine Wp_skip ?_
      refine thn_normal ?_
      refine Wp_seq ?_
      refine Wp_block ?_
      refine Wp_seq_region ?_
      refine WpL_val rfl rfl (by decide) (r_indexSlice (b := b) (o := o) (len := m) (cap := c) (i := k) (o' := o + k) rfl rfl rfl Tryd.underlying22 siz3 (by omega) (by omega)) ?_
      refine WpL_val rfl rfl (by decide) (r_load (v := (.int .i64 x)) rfl flat3 (E.cell (fun f => f) (hcl k x hx))) ?_
      have hx10 : 0 ≤ x % 10 ∧ x % 10 < 10 := by omega
      refine WpL_val rfl rfl (by decide) (r_assign (v := (.int .i64 x)) rfl) ?_
      refine WpL_nil ?_
      refine Wp_region ?_
      refine WpL_val rfl rfl (by decide) (r_move (v := (.slice la k lc)) rfl) ?_
      refine s_buildSlice (ps := [(0, (.int .i64 97)), (1, (.int .i64 98)), (2, (.int .i64 99)), (3, (.int .i64 97)), (4, (.int .i64 98)), (5, (.int .i64 122)), (6, (.int .i64 0)), (7, (.int .i64 233)), (8, (.int .i64 8364)), (9, (.int .i64 1114111))]) (c := #[(.int .i64 97), (.int .i64 98), (.int .i64 99), (.int .i64 97), (.int .i64 98), (.int .i64 122), (.int .i64 0), (.int .i64 233), (.int .i64 8364), (.int .i64 1114111)]) (by decide) rfl Tryd.underlying22 siz3 zer3 (by decide) (by decide) (by kernel_rfl) ?_
      intro bq wq Nq
      have Fq := Nq.ge E
      replace hown := own_ext hown Nq.ext
      replace hbs := Nat.le_trans hbs Nq.ext.size
      replace E := E.ext Nq.ext
      have Bq := Nq.blk
      refine WpL_val rfl rfl (by decide) (r_move (v := (.int .i64 x)) rfl) ?_
      refine WpL_enter rfl rfl (by decide) (r_callF (vs := [(.int .i64 x), (.int .i64 10)]) Tryd.func18 nm18 bd18 rfl) (below_c x 10 (by decide) (by decide) _) ?_
      rintro _ _ ⟨rfl, rfl⟩
      obtain ⟨r, hr, hrb⟩ := text_tab (x % 10).toNat (by omega)
      refine WpL_val rfl rfl (by decide) (r_indexSlice (b := bq) (o := 0) (len := 10) (cap := 10) (i := (x % 10).toNat) (o' := 0 + ((x % 10).toNat)) rfl rfl (by omega) Tryd.underlying22 siz3 (by omega) (by omega)) ?_
      refine WpL_val rfl rfl (by decide) (r_load (v := (.int .i64 r)) rfl flat3 (Bq.cell (by rw [Nat.zero_add]; exact hr))) ?_
      refine s_buildSlice (ps := [(0, (.int .i64 r))]) (c := #[(.int .i64 r)]) (by decide) rfl Tryd.underlying22 siz3 zer3 (by decide) (by decide) (by kernel_rfl) ?_
      intro b3 w3 N3
      have F3 := N3.ge E
      have O3_bq := N3.lt Bq
      replace Bq := N3.keep Bq
      replace hown := own_ext hown N3.ext
      replace hbs := Nat.le_trans hbs N3.ext.size
      replace E := E.ext N3.ext
      have B3 := N3.blk
      refine s_append (base := base) (n := k) (m := 1) (xs := (ts.map intV).flatten) (news := [(.int .i64 r)]) (size := 1) (bytes := 8) (v := (.slice la k lc)) (by decide) Tryd.underlying22 siz3 byt3 zer3 rfl (by decide) rfl hown rfl (rfl) (B3.cells rfl) (by simp [Value.oneCell']) (by unfold maxLen; omega) (by omega) (hbs) ?_
      intro v9 w29 Ov9 Cv9 Dv9
      replace E := E.step Cv9 (fun x hx h => absurd (hown.lt x h).1 (by omega))
      obtain ⟨la2, lc2, rfl⟩ := own_form Ov9
      refine WpL_val rfl rfl (by decide) (r_assign (v := (.slice la2 (k + 1) lc2)) rfl) ?_
      refine WpL_nil ?_
      refine inB_normal ?_
      refine thn_normal ?_
      refine Wp_region ?_
      refine WpL_val rfl rfl (by decide) (r_add (k := .i64) (a := ((k : Nat) : Int)) (b := 1) (c := ((k : Nat) : Int) + 1) rfl rfl (wI64 (by omega))) ?_
      refine WpL_val rfl rfl (by decide) (r_move (v := (.int .i64 (((k : Nat) : Int) + 1))) rfl) ?_
      refine WpL_nil ?_
      refine thn_normal ?_
      exact ⟨m - (k + 1), by omega, k + 1, la2, lc2, ts ++ [r], Fits.out ⟨rfl, rfl, rfl, rfl, trivial⟩, E, (by omega), (by simpa [intV] using Ov9), ⟨by simp [hts.1], by intro y hy; simp at hy; rcases hy with h | h; exact hts.2 y h; subst h; exact hrb⟩, Nat.le_trans hbs Cv9.size, rfl⟩
    · have khlt := hlt
      replace hlt := of_decide_eq_false hlt
      obtain ⟨rfl, htr⟩ := hts
      refine Wp_exit ?_
      refine thn_exit ?_
      refine thn_exit ?_
      refine inB_here ?_
      refine thn_normal ?_
      refine Wp_seq_region ?_
      refine WpL_val rfl rfl (by decide) (r_move (v := (.slice la ts.length lc)) rfl) ?_
      refine WpL_val rfl rfl (by decide) (r_assign (v := (.slice la ts.length lc)) rfl) ?_
      refine WpL_nil ?_
      refine Wp_ret ?_
      refine fin_tmp Tryd.results8 (v := (.slice la ts.length lc)) rfl ?_
      exact ⟨la, lc, ts, rfl, own_slat hown (by intro r hr; simp only [List.mem_map] at hr; obtain ⟨p, _, rfl⟩ := hr; rfl) (by simp) (by decide), by omega, htr, E⟩
end Go.Proofs
