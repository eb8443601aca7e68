/- Contracts: making expressions and texts out of raw numbers. -/
import Derived.Test.YtiepeobnpmoghaaDoorW1
import Derived.Test.YtiepeobnpmoghaaDoorW11
import Derived.Test.YtiepeobnpmoghaaDoorOwn
namespace Go.Proofs
open Go Go.Eng
set_option maxRecDepth 100000

theorem span_c (w0 : World) (lo hi : Int) : Ret Tryd.prog 62 #[.int .i64 lo, .int .i64 hi] w0 fun v w => ∃ b, v = .slice (some ⟨b, 0, none⟩) 1 1 ∧ SpansAt w v [(lo, hi)] ∧ w0.heap.size ≤ b ∧ Ext w0 w := by
  refine Ret_of Tryd.func62 rfl Tryd.ntmps62 (Nat.le_of_ble_eq_true rfl) ?_
  have E : Chg none1 w0 w0 := Chg.refl _ _
  refine Wp_seq_region ?_
  refine WpL_val rfl rfl (by decide) (r_assign (v := (.slice none 0 0)) rfl) ?_
  refine WpL_nil ?_
  refine Wp_seq_region ?_
  refine WpL_val rfl rfl (by decide) (r_move (v := (.int .i64 lo)) rfl) ?_
  refine WpL_val rfl rfl (by decide) (r_move (v := (.int .i64 hi)) rfl) ?_
  refine WpL_val rfl rfl (by decide) (r_build (ps := [(0, (.int .i64 lo)), (1, (.int .i64 hi))]) (v := (.agg #[(.int .i64 lo), (.int .i64 hi)])) rfl (by kernel_rfl)) ?_
  refine s_buildSlice (ps := [(0, (.agg #[(.int .i64 lo), (.int .i64 hi)]))]) (c := #[(.int .i64 lo), (.int .i64 hi)]) (by decide) rfl Tryd.underlying24 siz82 zer82 (by decide) (by decide) (by kernel_rfl) ?_
  intro b1 w1 N1
  have F1 := N1.ge E
  replace E := E.ext N1.ext
  have B1 := N1.blk
  refine WpL_val rfl rfl (by decide) (r_assign (v := (.slice (some ⟨b1, 0, none⟩) 1 1)) rfl) ?_
  refine WpL_nil ?_
  refine Wp_ret ?_
  refine fin_tmp Tryd.results62 (v := (.slice (some ⟨b1, 0, none⟩) 1 1)) rfl ?_
  exact ⟨b1, rfl, spans_of_blk [(lo, hi)] B1 (by simp) (by simp), by omega, E⟩
def oneT (r : Int) : Re := .mk 2 [(r, r)] [] 0 0 false
theorem one_c (w0 : World) (r : Int) : Ret Tryd.prog 34 #[.int .i64 r] w0 fun v w => ∃ b, v = .agg #[.int .i64 2, .slice (some ⟨b, 0, none⟩) 1 1, .slice none 0 0, .int .i64 0, .int .i64 0, .bool false] ∧ SpansAt w (.slice (some ⟨b, 0, none⟩) 1 1) [(r, r)] ∧ Ext w0 w := by
  refine Ret_of Tryd.func34 rfl Tryd.ntmps34 (Nat.le_of_ble_eq_true rfl) ?_
  have E : Chg none1 w0 w0 := Chg.refl _ _
  refine Wp_seq_region ?_
  refine s_alloc (c := #[(.int .i64 0), (.slice none 0 0), (.slice none 0 0), (.int .i64 0), (.int .i64 0), (.bool false)]) (by decide) zer27 rfl ?_
  intro b1 w1 N1
  have F1 := N1.ge E
  replace E := E.ext N1.ext
  have B1 := N1.blk
  refine WpL_nil ?_
  refine Wp_seq_region ?_
  refine WpL_val rfl rfl (by decide) (r_move (v := (.int .i64 r)) rfl) ?_
  refine WpL_val rfl rfl (by decide) (r_move (v := (.int .i64 r)) rfl) ?_
  refine WpL_enter rfl rfl (by decide) (r_callF (vs := [(.int .i64 r), (.int .i64 r)]) Tryd.func62 nm62 bd62 rfl) (span_c _ r r) ?_
  rintro _ w9 ⟨b, rfl, hsp, hb, X9⟩
  replace B1 := X9.keep B1
  replace E := E.ext X9
  have hbne : b ≠ b1 := by have := N1.size; have := N1.eq; omega
  refine WpL_val rfl rfl (by decide) (r_build (ps := [(0, (.int .i64 2)), (1, (.slice (some ⟨b, 0, none⟩) 1 1))]) (v := (.agg #[(.int .i64 2), (.slice (some ⟨b, 0, none⟩) 1 1), (.slice none 0 0), (.int .i64 0), (.int .i64 0), (.bool false)])) rfl (by kernel_rfl)) ?_
  refine s_storeAgg (b := b1) (o := 0) (c' := #[(.int .i64 2), (.slice (some ⟨b, 0, none⟩) 1 1), (.slice none 0 0), (.int .i64 0), (.int .i64 0), (.bool false)]) rfl rfl (by simp [Value.oneCell']) siz27 rfl B1 (by simp) rfl ?_
  intro w2 S2
  replace E := S2.step E (by first | exact Or.inl (by omega) | exact Or.inr rfl | exact Or.inr (by assumption) | exact Or.inr (by simp) | exact Or.inr (by omega) | exact Or.inr (by dsimp only; omega))
  replace B1 := S2.blk
  refine WpL_nil ?_
  refine Wp_ret ?_
  refine fin_agg Tryd.results34 (vs := [(.int .i64 2), (.slice (some ⟨b, 0, none⟩) 1 1), (.slice none 0 0), (.int .i64 0), (.int .i64 0), (.bool false)]) (b := b1) rfl agg27 siz27 rfl (B1.cells rfl) ?_
  exact ⟨b, rfl, (SlIn.mk hsp (S := fun x => x = b) rfl).chg S2.chg (fun x h => by omega) |>.at, E⟩
theorem re_c (w0 : World) (k : Int) (aa : Option Addr) (n c : Nat) : Ret Tryd.prog 12 #[.int .i64 k, .slice aa n c] w0 fun v w => v = .agg #[.int .i64 k, .slice none 0 0, .slice aa n c, .int .i64 0, .int .i64 0, .bool false] ∧ Ext w0 w := by
  refine Ret_of Tryd.func12 rfl Tryd.ntmps12 (Nat.le_of_ble_eq_true rfl) ?_
  have E : Chg none1 w0 w0 := Chg.refl _ _
  refine Wp_seq_region ?_
  refine s_alloc (c := #[(.int .i64 0), (.slice none 0 0), (.slice none 0 0), (.int .i64 0), (.int .i64 0), (.bool false)]) (by decide) zer27 rfl ?_
  intro b1 w1 N1
  have F1 := N1.ge E
  replace E := E.ext N1.ext
  have B1 := N1.blk
  refine WpL_nil ?_
  refine Wp_seq_region ?_
  refine WpL_val rfl rfl (by decide) (r_move (v := (.int .i64 k)) rfl) ?_
  refine WpL_val rfl rfl (by decide) (r_move (v := (.slice aa n c)) rfl) ?_
  refine WpL_val rfl rfl (by decide) (r_build (ps := [(0, (.int .i64 k)), (2, (.slice aa n c))]) (v := (.agg #[(.int .i64 k), (.slice none 0 0), (.slice aa n c), (.int .i64 0), (.int .i64 0), (.bool false)])) rfl (by kernel_rfl)) ?_
  refine s_storeAgg (b := b1) (o := 0) (c' := #[(.int .i64 k), (.slice none 0 0), (.slice aa n c), (.int .i64 0), (.int .i64 0), (.bool false)]) rfl rfl (by simp [Value.oneCell']) siz27 rfl B1 (by simp) rfl ?_
  intro w2 S2
  replace E := S2.step E (by first | exact Or.inl (by omega) | exact Or.inr rfl | exact Or.inr (by assumption) | exact Or.inr (by simp) | exact Or.inr (by omega) | exact Or.inr (by dsimp only; omega))
  replace B1 := S2.blk
  refine WpL_nil ?_
  refine Wp_ret ?_
  refine fin_agg Tryd.results12 (vs := [(.int .i64 k), (.slice none 0 0), (.slice aa n c), (.int .i64 0), (.int .i64 0), (.bool false)]) (b := b1) rfl agg27 siz27 rfl (B1.cells rfl) ?_
  exact ⟨rfl, E⟩

theorem begun_check : checkP (oneT 97) [98, 97] = 0 := by decide
theorem begun_pairs : pairsL (relOf [98, 97] (oneT 97)) (([98, 97] : List Int).length + 1) = [(1, 2)] := by decide +kernel
theorem one_at {w : World} {b : Nat} {r : Int} (h : SpansAt w (.slice (some ⟨b, 0, none⟩) 1 1) [(r, r)]) : ReAt w (oneT r) [.int .i64 2, .slice (some ⟨b, 0, none⟩) 1 1, .slice none 0 0, .int .i64 0, .int .i64 0, .bool false] :=
  ReAt.of (set := [(r, r)]) (args := []) h (by simp) (.inl rfl)
theorem begun_c (w0 : World) (hT : TabOk w0) : Ret Tryd.prog 8 #[] w0 fun v w => v = .bool true ∧ Ext w0 w := by
  refine Ret_of Tryd.func8 rfl Tryd.ntmps8 (Nat.le_of_ble_eq_true rfl) ?_
  have E : Chg none1 w0 w0 := Chg.refl _ _
  refine Wp_seq_region ?_
  refine WpL_val rfl rfl (by decide) (r_assign (v := (.bool false)) rfl) ?_
  refine WpL_nil ?_
  refine Wp_seq_region ?_
  refine WpL_enter rfl rfl (by decide) (r_callF (vs := [(.int .i64 97)]) Tryd.func34 nm34 bd34 rfl) (one_c _ 97) ?_
  rintro _ w9 ⟨b, rfl, hsp, X9⟩
  replace E := E.ext X9
  refine s_buildSlice (ps := [(0, (.int .i64 98)), (1, (.int .i64 97))]) (c := #[(.int .i64 98), (.int .i64 97)]) (by decide) rfl Tryd.underlying22 siz3 zer3 (by decide) (by decide) (by kernel_rfl) ?_
  intro b1 w1 N1
  have F1 := N1.ge E
  replace E := E.ext N1.ext
  have B1 := N1.blk
  refine WpL_enter rfl rfl (by decide) (r_callF (vs := [(.agg #[(.int .i64 2), (.slice (some ⟨b, 0, none⟩) 1 1), (.slice none 0 0), (.int .i64 0), (.int .i64 0), (.bool false)]), (.slice (some ⟨b1, 0, none⟩) 2 2)]) Tryd.func16 nm16 bd16 rfl) ((pairs_c _ (oneT 97) _ _ [98, 97] (one_at (hsp.ext N1.ext)) (ints_of_blk [98, 97] B1 (by simp) (by simp)) (hT.ext E)).mono (R' := fun v w => ∃ a c, v = .tuple #[.slice a 1 c, .int .i64 0] ∧ PairsAt w (.slice a 1 c) [(1, 2)] ∧ Ext w1 w) (by rintro v w ⟨a, c, h1, h2, h3⟩; rw [begun_check, if_pos rfl, begun_pairs] at h1 h2; exact ⟨a, c, h1, h2, h3⟩)) ?_
  rintro _ w19 ⟨la, lc, rfl, hps, X19⟩
  replace B1 := X19.keep B1
  replace E := E.ext X19
  obtain ⟨bp, po, rfl, hcl⟩ := pairs_cells hps (by decide)
  refine WpL_val rfl rfl (by decide) (r_move (v := (.tuple #[(.slice (some ⟨bp, po, none⟩) 1 lc), (.int .i64 0)])) rfl) ?_
  refine WpL_val rfl rfl (by decide) (r_extract (vs := #[(.slice (some ⟨bp, po, none⟩) 1 lc), (.int .i64 0)]) (v := (.slice (some ⟨bp, po, none⟩) 1 lc)) rfl rfl) ?_
  refine WpL_val rfl rfl (by decide) (r_extract (vs := #[(.slice (some ⟨bp, po, none⟩) 1 lc), (.int .i64 0)]) (v := (.int .i64 0)) rfl rfl) ?_
  refine WpL_val rfl rfl (by decide) (r_assign (v := (.slice (some ⟨bp, po, none⟩) 1 lc)) rfl) ?_
  refine WpL_val rfl rfl (by decide) (r_assign (v := (.int .i64 0)) rfl) ?_
  refine WpL_nil ?_
  refine Wp_seq_region ?_
  refine WpL_val rfl rfl (by decide) (r_move (v := (.int .i64 0)) rfl) ?_
  refine WpL_val rfl rfl (by decide) (r_eql (k := .i64) (a := 0) (b := 0) rfl rfl) ?_
  refine WpL_val rfl rfl (by decide) (r_move (v := (.bool true)) rfl) ?_
  refine WpL_guard_yes (oj := _) rfl rfl (by decide) rfl ?_
  refine WpL_val rfl rfl (by decide) (r_move (v := (.slice (some ⟨bp, po, none⟩) 1 lc)) rfl) ?_
  refine WpL_guard_yes (oj := _) rfl rfl (by decide) rfl ?_
  refine WpL_val rfl rfl (by decide) (r_lenSlice (ad := some ⟨bp, po, none⟩) (n := 1) (cap := lc) Tryd.underlying37 rfl) ?_
  refine WpL_guard_yes (oj := _) rfl rfl (by decide) rfl ?_
  refine WpL_val rfl rfl (by decide) (r_eql (k := .i64) (a := 1) (b := 1) rfl rfl) ?_
  refine WpL_val rfl rfl (by decide) (r_pick (b := true) (v := (.bool true)) rfl rfl) ?_
  refine WpL_val rfl rfl (by decide) (r_move (v := (.bool true)) rfl) ?_
  refine WpL_guard_yes (oj := _) rfl rfl (by decide) rfl ?_
  refine WpL_val rfl rfl (by decide) (r_move (v := (.slice (some ⟨bp, po, none⟩) 1 lc)) rfl) ?_
  refine WpL_guard_yes (oj := _) rfl rfl (by decide) rfl ?_
  refine WpL_val rfl rfl (by decide) (r_indexSlice (b := bp) (o := po) (len := 1) (cap := lc) (i := 0) (o' := po + 0 * 2) rfl rfl rfl Tryd.underlying37 siz43 (by omega) (by omega)) ?_
  refine WpL_guard_yes (oj := _) rfl rfl (by decide) rfl ?_
  refine WpL_val rfl rfl (by decide) (r_loadAgg (vs := [(.int .i64 1), (.int .i64 2)]) rfl agg43 siz43 rfl (hcl 0 (1, 2) rfl)) ?_
  refine WpL_guard_yes (oj := _) rfl rfl (by decide) rfl ?_
  refine WpL_val rfl rfl (by decide) (r_build (ps := [(0, (.int .i64 1)), (1, (.int .i64 2))]) (v := (.agg #[(.int .i64 1), (.int .i64 2)])) rfl (by kernel_rfl)) ?_
  refine WpL_guard_yes (oj := _) rfl rfl (by decide) rfl ?_
  refine WpL_val (v := (.bool true)) rfl rfl (by decide) ((r_eqlPair (a := 1) (b := 2) (c := 1) (f := 2) Tryd.underlying43 Tryd.underlying3 siz3 flat3 eqgPair rfl rfl).trans rfl) ?_
  refine WpL_val rfl rfl (by decide) (r_pick (b := true) (v := (.bool true)) rfl rfl) ?_
  refine WpL_val rfl rfl (by decide) (r_assign (v := (.bool true)) rfl) ?_
  refine WpL_nil ?_
  refine Wp_ret ?_
  refine fin_tmp Tryd.results8 (v := (.bool true)) rfl ?_
  exact ⟨rfl, E⟩

/-! The numbers of a list, one by one. -/
abbrev TS : Nat := 63
def StrAt (wb w : World) (bs : Nat) (l : List Int) : Prop := ∃ a c, Blk w bs #[.slice a l.length c] TS ∧ IntsAt wb (.slice a l.length c) l
theorem StrAt.ext {wb w w' : World} {bs : Nat} {l : List Int} (h : StrAt wb w bs l) (e : Ext w w') : StrAt wb w' bs l := let ⟨a, c, h1, h2⟩ := h; ⟨a, c, e.keep h1, h2⟩
theorem StrAt.lt {wb w : World} {bs : Nat} {l : List Int} (h : StrAt wb w bs l) : bs < w.heap.size := let ⟨_, _, h1, _⟩ := h; h1.lt
theorem next_c (wb w0 : World) (bs : Nat) (l : List Int) (n : Int) (hn : 0 < n) (hm : n ≤ 2000) (hE : Ext wb w0) (hb : wb.heap.size ≤ bs) (hS : StrAt wb w0 bs l) :
    Ret Tryd.prog 63 #[.pointer (some ⟨bs, 0, none⟩), .int .i64 n] w0 fun v w => ∃ x l', v = .int .i64 x ∧ 0 ≤ x ∧ x < n ∧ StrAt wb w bs l' ∧ Chg (fun x => x = bs) w0 w := by
  obtain ⟨a, c, hB, hl⟩ := hS
  have hcap := SlAt.cap hl
  have hlen : l.length ≤ 9223372036854775807 := by simpa using SlAt.le hl
  refine Ret_of Tryd.func63 rfl Tryd.ntmps63 (Nat.le_of_ble_eq_true rfl) ?_
  have E : Chg (fun x => x = bs) w0 w0 := Chg.refl _ _
  refine Wp_seq_region ?_
  refine WpL_val rfl rfl (by decide) (r_assign (v := (.int .i64 0)) rfl) ?_
  refine WpL_nil ?_
  refine Wp_seq ?_
  refine Wp_seq_region ?_
  refine WpL_val rfl rfl (by decide) (r_move (v := (.pointer (some ⟨bs, 0, none⟩))) rfl) ?_
  refine WpL_val rfl rfl (by decide) (r_nilCheck (a := ⟨bs, 0, none⟩) rfl) ?_
  refine WpL_val rfl rfl (by decide) (r_fieldAddr (b := bs) (o := 0) (o' := 0) rfl Tryd.underlying63 rfl siz22 rfl) ?_
  refine WpL_val rfl rfl (by decide) (r_load (v := (.slice a l.length c)) rfl flat22 (hB.cell rfl)) ?_
  refine WpL_val rfl rfl (by decide) (r_lenSlice (ad := a) (n := l.length) (cap := c) Tryd.underlying22 rfl) ?_
  refine WpL_val rfl rfl (by decide) (r_eql (k := .i64) (a := ((l.length : Nat) : Int)) (b := 0) rfl rfl) ?_
  refine WpL_nil ?_
  refine Wp_cond (b := decide ((((l.length : Nat) : Int) : Int) = 0)) rfl (fun h0 => ?_) (fun h0 => ?_)
  · have kh0 := h0
    replace h0 := of_decide_eq_true h0
    refine Wp_seq_region ?_
    refine WpL_val rfl rfl (by decide) (r_assign (v := (.int .i64 0)) rfl) ?_
    refine WpL_nil ?_
    refine Wp_ret ?_
    refine thn_ret ?_
    refine fin_tmp Tryd.results63 (v := (.int .i64 0)) rfl ?_
    exact ⟨0, l, rfl, Int.le_refl _, hn, ⟨a, c, hB, hl⟩, E⟩
  · have kh0 := h0
    replace h0 := of_decide_eq_false h0
    obtain ⟨x, hx⟩ := get_of_lt (l := l) (i := 0) (by omega)
    obtain ⟨b, o, rfl, hcl⟩ := ints_cells hl (by omega)
    refine Wp_skip ?_
    refine thn_normal ?_
    refine Wp_seq_region ?_
    refine WpL_val rfl rfl (by decide) (r_move (v := (.pointer (some ⟨bs, 0, none⟩))) rfl) ?_
    refine WpL_val rfl rfl (by decide) (r_nilCheck (a := ⟨bs, 0, none⟩) rfl) ?_
    refine WpL_val rfl rfl (by decide) (r_fieldAddr (b := bs) (o := 0) (o' := 0) rfl Tryd.underlying63 rfl siz22 rfl) ?_
    refine WpL_val rfl rfl (by decide) (r_load (v := (.slice (some ⟨b, o, none⟩) l.length c)) rfl flat22 (hB.cell rfl)) ?_
    refine WpL_val rfl rfl (by decide) (r_indexSlice (b := b) (o := o) (len := l.length) (cap := c) (i := 0) (o' := o + 0) rfl rfl rfl Tryd.underlying22 siz3 (by omega) (by omega)) ?_
    refine WpL_val rfl rfl (by decide) (r_load (v := (.int .i64 x)) rfl flat3 ((hE.cell (hcl 0 x hx)))) ?_
    refine WpL_val rfl rfl (by decide) (r_assign (v := (.int .i64 x)) rfl) ?_
    refine WpL_nil ?_
    refine Wp_seq_region ?_
    refine WpL_val rfl rfl (by decide) (r_move (v := (.pointer (some ⟨bs, 0, none⟩))) rfl) ?_
    refine WpL_val rfl rfl (by decide) (r_move (v := (.pointer (some ⟨bs, 0, none⟩))) rfl) ?_
    refine WpL_val rfl rfl (by decide) (r_nilCheck (a := ⟨bs, 0, none⟩) rfl) ?_
    refine WpL_val rfl rfl (by decide) (r_fieldAddr (b := bs) (o := 0) (o' := 0) rfl Tryd.underlying63 rfl siz22 rfl) ?_
    refine WpL_val rfl rfl (by decide) (r_load (v := (.slice (some ⟨b, o, none⟩) l.length c)) rfl flat22 (hB.cell rfl)) ?_
    obtain ⟨sl, hsl⟩ : ∃ a' : Option Addr, (if c = 1 then (some ⟨b, o, none⟩) else Option.map (fun q : Addr => q.add (1 * 1)) (some ⟨b, o, none⟩)) = a' := ⟨_, rfl⟩
    refine WpL_val rfl rfl (by decide) (r_sliceLo (a := (some ⟨b, o, none⟩)) (len := l.length) (cap := c) (lo := 1) (l := 1) (n' := (l.length - 1)) (c' := (c - 1)) Tryd.underlying22 siz3 rfl rfl (by omega) (by omega) hsl (by omega) (by omega)) ?_
    refine WpL_val rfl rfl (by decide) (r_nilCheck (a := ⟨bs, 0, none⟩) rfl) ?_
    refine WpL_val rfl rfl (by decide) (r_fieldAddr (b := bs) (o := 0) (o' := 0) rfl Tryd.underlying63 rfl siz22 rfl) ?_
    refine s_store (b := bs) (o := 0) (c' := #[(.slice sl (l.length - 1) (c - 1))]) (v := (.slice sl (l.length - 1) (c - 1))) rfl rfl rfl siz22 hB (by simp) rfl ?_
    intro w2 S2
    replace E := S2.step E (by first | exact Or.inl (by omega) | exact Or.inr rfl | exact Or.inr (by assumption) | exact Or.inr (by simp) | exact Or.inr (by omega) | exact Or.inr (by dsimp only; omega))
    replace hB := S2.blk
    refine WpL_nil ?_
    refine Wp_seq_region ?_
    refine WpL_val rfl rfl (by decide) (r_move (v := (.int .i64 x)) rfl) ?_
    refine WpL_val rfl rfl (by decide) (r_move (v := (.int .i64 n)) rfl) ?_
    refine WpL_enter rfl rfl (by decide) (r_callF (vs := [(.int .i64 x), (.int .i64 n)]) Tryd.func36 nm36 bd36 rfl) (below_c x n hn hm _) ?_
    rintro _ _ ⟨rfl, rfl⟩
    have hcut := SlAt.cut (lo := 1) (hi := l.length) hl (by omega) (Nat.le_refl _) hsl rfl rfl
    have hdl : ((l.map intV).drop 1).take (l.length - 1) = (l.drop 1).map intV := by rw [List.take_of_length_le (by simp), List.map_drop]
    rw [hdl] at hcut
    have hll : (l.drop 1).length = l.length - 1 := by simp
    refine WpL_val rfl rfl (by decide) (r_assign (v := (.int .i64 (x % n))) rfl) ?_
    refine WpL_nil ?_
    refine Wp_ret ?_
    refine fin_tmp Tryd.results63 (v := (.int .i64 (x % n))) rfl ?_
    exact ⟨x % n, l.drop 1, rfl, Int.emod_nonneg x (by omega), Int.emod_lt_of_pos x hn, ⟨sl, c - 1, by rw [hll]; exact hB, by rw [hll]; exact hcut⟩, E⟩
end Go.Proofs
