/- Contracts: the reference's orbits; the law FoldTells, walked. -/
import Derived.Test.YtpjamnekclkhhaaSj
import Derived.Test.YtpjamnekclkhhaaSn
import Derived.Test.YtpjamnekclkhhaaMq
namespace Go.Proofs
open Go Go.Eng Go.Sort
set_option maxRecDepth 100000

/-! The pairs of letters. -/
abbrev TPr : Nat := 82
def five : List Sp := [(65, 90), (192, 214), (216, 222), (913, 929), (931, 939)]
def prs (s : Sp) : List Sp := (List.range (s.2 - s.1 + 1).toNat).map fun (n : Nat) => (s.1 + (n : Int), s.1 + (n : Int) + 32)
def fpL : List Sp := five.flatMap prs ++ [(181, 956), (962, 963)]
theorem prs_take {s : Sp} {i : Nat} (h : s.1 + (i : Int) ≤ s.2) : (prs s).take (i + 1) = (prs s).take i ++ [(s.1 + (i : Int), s.1 + (i : Int) + 32)] := by
  have : (prs s)[i]? = some (s.1 + (i : Int), s.1 + (i : Int) + 32) := by
    unfold prs
    rw [List.getElem?_map, List.getElem?_range (by omega)]; rfl
  rw [List.take_add_one, this]; rfl
theorem five_len {k : Nat} : ((five.take k).flatMap prs).length ≤ 200 := by
  have h : ∀ k, k ≤ 5 → ((five.take k).flatMap prs).length ≤ 200 := by decide +kernel
  rcases Nat.lt_or_ge k 6 with h1 | h1
  · exact h k (by omega)
  · rw [List.take_of_length_le (by simp [five]; omega)]
    exact h 5 (by omega)
theorem five_get {k : Nat} {s : Sp} (h : five[k]? = some s) : 0 ≤ s.1 ∧ s.1 ≤ s.2 ∧ s.2 ≤ 939 := by
  have h1 : ∀ s ∈ five, 0 ≤ s.1 ∧ s.1 ≤ s.2 ∧ s.2 ≤ 939 := by decide
  exact h1 s (List.mem_of_getElem? h)
set_option maxHeartbeats 2000000 in
theorem fpairs_c (w0 : World) : Ret Try.prog 67 #[] w0 fun r w => ((∃ a c, r = .slice a fpL.length c) ∧ SlIn (fun b => w0.heap.size ≤ b ∧ b < w.heap.size) w 2 r (fpL.map spanV)) ∧ Ext w0 w := by
  obtain ⟨base, hbase⟩ : ∃ base, base = w0.heap.size := ⟨_, rfl⟩
  refine Ret_of Try.func67 rfl Try.ntmps67 (Nat.le_of_ble_eq_true rfl) ?_
  have E : Chg none1 w0 w0 := Chg.refl _ _
  refine Wp_seq_region ?_
  refine WpL_val rfl rfl (by decide) (r_assign (v := (.slice none 0 0)) rfl) ?_
  refine WpL_nil ?_
  refine Wp_seq_region ?_
  refine WpL_val rfl rfl (by decide) (r_assign (v := (.slice none 0 0)) rfl) ?_
  refine WpL_nil ?_
  refine Wp_seq ?_
  refine Wp_seq_region ?_
  refine WpL_val rfl rfl (by decide) (r_build (ps := [(0, (.int .i64 65)), (1, (.int .i64 90))]) (v := (.agg #[(.int .i64 65), (.int .i64 90)])) rfl (by kernel_rfl)) ?_
  refine WpL_val rfl rfl (by decide) (r_build (ps := [(0, (.int .i64 192)), (1, (.int .i64 214))]) (v := (.agg #[(.int .i64 192), (.int .i64 214)])) rfl (by kernel_rfl)) ?_
  refine WpL_val rfl rfl (by decide) (r_build (ps := [(0, (.int .i64 216)), (1, (.int .i64 222))]) (v := (.agg #[(.int .i64 216), (.int .i64 222)])) rfl (by kernel_rfl)) ?_
  refine WpL_val rfl rfl (by decide) (r_build (ps := [(0, (.int .i64 913)), (1, (.int .i64 929))]) (v := (.agg #[(.int .i64 913), (.int .i64 929)])) rfl (by kernel_rfl)) ?_
  refine WpL_val rfl rfl (by decide) (r_build (ps := [(0, (.int .i64 931)), (1, (.int .i64 939))]) (v := (.agg #[(.int .i64 931), (.int .i64 939)])) rfl (by kernel_rfl)) ?_
  refine s_buildSlice (ps := [(0, (.agg #[(.int .i64 65), (.int .i64 90)])), (1, (.agg #[(.int .i64 192), (.int .i64 214)])), (2, (.agg #[(.int .i64 216), (.int .i64 222)])), (3, (.agg #[(.int .i64 913), (.int .i64 929)])), (4, (.agg #[(.int .i64 931), (.int .i64 939)]))]) (c := #[(.int .i64 65), (.int .i64 90), (.int .i64 192), (.int .i64 214), (.int .i64 216), (.int .i64 222), (.int .i64 913), (.int .i64 929), (.int .i64 931), (.int .i64 939)]) (by decide) rfl Try.underlying23 siz37 zer37 (by decide) (by decide) (by kernel_rfl) ?_
  intro bl wl Nl
  have Fl := Nl.ge E
  replace E := E.ext Nl.ext
  have Bl := Nl.blk
  refine WpL_val rfl rfl (by decide) (r_lenSlice (ad := some ⟨bl, 0, none⟩) (n := 5) (cap := 5) Try.underlying23 rfl) ?_
  refine WpL_val rfl rfl (by decide) (r_move (v := (.int .i64 0)) rfl) ?_
  refine WpL_nil ?_
  refine Wp_block ?_
  have hF : SpansAt wl (.slice (some ⟨bl, 0, none⟩) 5 5) five := spans_of_blk five Bl (by simp [five]) (by simp [five])
  have hbl := Bl.lt
  have E2 : Chg none1 wl wl := Chg.refl _ _
  refine Wp_loop (fun nn_ σ W1 => ∃ (k : Nat) (la : Option Addr) (lc : Nat) (m : Nat), (∃ jj_, σ = upds jj_ [(10, (.slice (some ⟨bl, 0, none⟩) 5 5)), (11, (.int .i64 5)), (12, (.int .i64 ((k : Nat) : Int))), (1, (.slice la m lc))]) ∧ Chg none1 w0 W1 ∧ Chg none1 wl W1 ∧ (k ≤ 5) ∧ (m = ((five.take k).flatMap prs).length) ∧ (W1.ownsRow wl.heap.size TPr 2 (.slice la m lc) m (((five.take k).flatMap prs).map spanV).flatten) ∧ (wl.heap.size ≤ W1.heap.size) ∧ nn_ = 5 - k) (n := 5 - 0) ?_ ?_
  · exact ⟨0, none, 0, 0, Fits.out ⟨rfl, rfl, rfl, rfl, trivial⟩, E, E2, (by omega), rfl, World.ownsRow_nil _ _ _ _, Nat.le_refl _, rfl⟩
  · clear E E2
    rintro _ _ W1 ⟨k, la, lc, m, ⟨j1, rfl⟩, E, E2, hk, hm, hown, hbs, rfl⟩
    refine Wp_seq_region ?_
    refine WpL_val rfl rfl (by decide) (r_lss (k := .i64) (a := ((k : Nat) : Int)) (b := 5) rfl rfl) ?_
    refine WpL_nil ?_
    refine Wp_seq ?_
    refine Wp_cond (b := decide ((((k : Nat) : Int) : Int) < 5)) rfl (fun hlt => ?_) (fun hlt => ?_)
    · have khlt := hlt
      replace hlt := of_decide_eq_true hlt
      obtain ⟨s, hs⟩ := get_of_lt (l := five) (i := k) (by simp [five]; omega)
      have hv := five_get hs
      have hfl := five_len (k := k)
      obtain ⟨b, o, hab, hcl⟩ := spans_cells hF (by omega)
      simp only [Option.some.injEq, Addr.mk.injEq, and_true] at hab
      obtain ⟨rfl, rfl⟩ := hab
      have hts : (five.take (k + 1)).flatMap prs = (five.take k).flatMap prs ++ prs s := by rw [take_snoc hs, List.flatMap_append]; simp
      have hown0 := hown
      refine Wp_skip ?_
      refine thn_normal ?_
      refine Wp_seq ?_
      refine Wp_block ?_
      refine Wp_seq_region ?_
      refine WpL_val rfl rfl (by decide) (r_indexSlice (b := bl) (o := 0) (len := 5) (cap := 5) (i := k) (o' := 0 + k * 2) rfl rfl rfl Try.underlying23 siz37 (by omega) (by omega)) ?_
      refine WpL_val rfl rfl (by decide) (r_loadAgg (vs := [(.int .i64 s.1), (.int .i64 s.2)]) rfl agg37 siz37 rfl ((hcl k s hs).ext E2)) ?_
      refine s_allocStore (v := (.agg #[(.int .i64 s.1), (.int .i64 s.2)])) (c := #[(.int .i64 s.1), (.int .i64 s.2)]) (n := 2) (by decide) zer37 rfl siz37 rfl rfl rfl (by simp [Value.oneCell']) ?_
      intro bq wq Nq
      have Fq := Nq.ge E
      have Fq_E2 := Nq.ge E2
      replace hown := own_ext hown Nq.ext
      replace hbs := Nat.le_trans hbs Nq.ext.size
      replace E := E.ext Nq.ext
      have Bq := Nq.blk
      replace E2 := E2.ext Nq.ext
      refine WpL_nil ?_
      refine Wp_seq_region ?_
      refine WpL_val rfl rfl (by decide) (r_fieldAddr (b := bq) (o := 0) (o' := 0) rfl Try.underlying37 rfl siz3 rfl) ?_
      refine WpL_val rfl rfl (by decide) (r_load (v := (.int .i64 s.1)) rfl flat3 (Bq.cell rfl)) ?_
      refine WpL_val rfl rfl (by decide) (r_assign (v := (.int .i64 s.1)) rfl) ?_
      refine WpL_nil ?_
      refine Wp_block ?_
      have hq0 : ∀ x, (Value.slice la m lc).ownBlock = some x → x < bq := fun x hx => by have := (hown0.lt x hx).2; have := Nq.eq; omega
      refine Wp_loop (fun nn_ σ W3 => ∃ (i : Nat) (x : Int) (la2 : Option Addr) (lc2 : Nat) (m2 : Nat), (∃ jj_, σ = upds jj_ [(3, (.pointer (some ⟨bq, 0, none⟩))), (10, (.slice (some ⟨bl, 0, none⟩) 5 5)), (11, (.int .i64 5)), (12, (.int .i64 ((k : Nat) : Int))), (4, (.int .i64 x)), (1, (.slice la2 m2 lc2))]) ∧ Chg none1 w0 W3 ∧ Chg none1 wl W3 ∧ Blk W3 bq #[(.int .i64 s.1), (.int .i64 s.2)] 37 ∧ (x = s.1 + ((i : Nat) : Int)) ∧ (s.1 + ((i : Nat) : Int) ≤ s.2 + 1) ∧ (m2 = m + i) ∧ (W3.ownsRow wl.heap.size TPr 2 (.slice la2 m2 lc2) m2 (((five.take k).flatMap prs ++ (prs s).take i).map spanV).flatten) ∧ (wl.heap.size ≤ W3.heap.size) ∧ (∀ x, (Value.slice la2 m2 lc2).ownBlock = some x → x ≠ bq) ∧ (bq < W3.heap.size) ∧ nn_ = 1000 - i) (n := 1000 - 0) ?_ ?_
      · exact ⟨0, s.1, la, lc, m, Fits.out ⟨rfl, rfl, rfl, rfl, rfl, rfl, trivial⟩, E, E2, Bq, (by simp), (by simp; omega), (by omega), (by simpa using hown), hbs, (fun x hx => by have := hq0 x hx; omega), Bq.lt, rfl⟩
      · clear E E2 Bq
        rintro _ _ W3 ⟨i, x, la2, lc2, m2, ⟨j3, rfl⟩, E, E2, Bq, hxe, hi, hm2, hown2, hbs2, hap, hq2, rfl⟩
        refine Wp_seq ?_
        refine Wp_seq_region ?_
        refine WpL_val rfl rfl (by decide) (r_move (v := (.int .i64 x)) rfl) ?_
        refine WpL_val rfl rfl (by decide) (r_fieldAddr (b := bq) (o := 0) (o' := 1) rfl Try.underlying37 rfl siz3 rfl) ?_
        refine WpL_val rfl rfl (by decide) (r_load (v := (.int .i64 s.2)) rfl flat3 (Bq.cell rfl)) ?_
        refine WpL_val rfl rfl (by decide) (r_leq (k := .i64) (a := x) (b := s.2) rfl rfl) ?_
        refine WpL_nil ?_
        refine Wp_cond (b := decide ((x : Int) ≤ s.2)) rfl (fun hle => ?_) (fun hle => ?_)
        · have khle := hle
          replace hle := of_decide_eq_true hle
          subst hxe
          have hpt := prs_take (s := s) (i := i) hle
          refine Wp_skip ?_
          refine thn_normal ?_
          refine Wp_seq ?_
          refine Wp_block ?_
          refine Wp_region ?_
          refine WpL_val rfl rfl (by decide) (r_move (v := (.slice la2 m2 lc2)) rfl) ?_
          refine WpL_val rfl rfl (by decide) (r_move (v := (.int .i64 (s.1 + ((i : Nat) : Int)))) rfl) ?_
          refine WpL_val rfl rfl (by decide) (r_move (v := (.int .i64 (s.1 + ((i : Nat) : Int)))) rfl) ?_
          refine WpL_val rfl rfl (by decide) (r_add (k := .i64) (a := s.1 + ((i : Nat) : Int)) (b := 32) (c := (s.1 + ((i : Nat) : Int)) + 32) rfl rfl (wI64 (by omega))) ?_
          refine WpL_val rfl rfl (by decide) (r_build (ps := [(0, (.int .i64 (s.1 + ((i : Nat) : Int)))), (1, (.int .i64 ((s.1 + ((i : Nat) : Int)) + 32)))]) (v := (.agg #[(.int .i64 (s.1 + ((i : Nat) : Int))), (.int .i64 ((s.1 + ((i : Nat) : Int)) + 32))])) rfl (by kernel_rfl)) ?_
          refine s_buildSlice (ps := [(0, (.agg #[(.int .i64 (s.1 + ((i : Nat) : Int))), (.int .i64 ((s.1 + ((i : Nat) : Int)) + 32))]))]) (c := #[(.int .i64 (s.1 + ((i : Nat) : Int))), (.int .i64 ((s.1 + ((i : Nat) : Int)) + 32))]) (by decide) rfl Try.underlying80 siz82 zer82 (by decide) (by decide) (by kernel_rfl) ?_
          intro br wr Nr
          have Fr := Nr.ge E
          have Fr_E2 := Nr.ge E2
          have Or_bq := Nr.lt Bq
          replace Bq := Nr.keep Bq
          replace hown2 := own_ext hown2 Nr.ext
          replace hbs2 := Nat.le_trans hbs2 Nr.ext.size
          replace hq2 := Nat.lt_of_lt_of_le hq2 Nr.ext.size
          replace E := E.ext Nr.ext
          have Br := Nr.blk
          replace E2 := E2.ext Nr.ext
          refine s_append (base := wl.heap.size) (n := m2) (m := 1) (xs := (((five.take k).flatMap prs ++ (prs s).take i).map spanV).flatten) (news := [(.int .i64 (s.1 + ((i : Nat) : Int))), (.int .i64 ((s.1 + ((i : Nat) : Int)) + 32))]) (size := 2) (bytes := 16) (v := (.slice la2 m2 lc2)) (by decide) Try.underlying80 siz82 byt82 zer82 rfl (by decide) rfl hown2 rfl (rfl) (Br.cells rfl) (by simp [Value.oneCell']) (by unfold maxLen; omega) (by omega) (hbs2) ?_
          intro v9 w29 Ov9 Cv9 Dv9
          replace Bq := Cv9.keep (fun h => hap _ h rfl) Bq
          replace E := E.step Cv9 (fun x hx h => absurd (hown2.lt x h).1 (by omega))
          replace E2 := E2.step Cv9 (fun x hx h => absurd (hown2.lt x h).1 (by omega))
          obtain ⟨la3, lc3, rfl⟩ := own_form Ov9
          refine WpL_val rfl rfl (by decide) (r_assign (v := (.slice la3 (m2 + 1) lc3)) rfl) ?_
          refine WpL_nil ?_
          refine inB_normal ?_
          refine thn_normal ?_
          refine Wp_region ?_
          refine WpL_val rfl rfl (by decide) (r_move (v := (.int .i64 (s.1 + ((i : Nat) : Int)))) rfl) ?_
          refine WpL_val rfl rfl (by decide) (r_add (k := .i64) (a := s.1 + ((i : Nat) : Int)) (b := 1) (c := s.1 + (((i + 1 : Nat) : Nat) : Int)) rfl rfl ((wI64 (by omega)).trans (by omega))) ?_
          refine WpL_val rfl rfl (by decide) (r_assign (v := (.int .i64 (s.1 + (((i + 1 : Nat) : Nat) : Int)))) rfl) ?_
          refine WpL_nil ?_
          refine thn_normal ?_
          exact ⟨1000 - (i + 1), by omega, i + 1, s.1 + (((i + 1 : Nat) : Nat) : Int), la3, lc3, m2 + 1, Fits.out ⟨rfl, rfl, rfl, rfl, rfl, rfl, trivial⟩, E, E2, Bq, rfl, (by omega), (by omega), (by rw [hpt, ← List.append_assoc, spanV_snoc]; exact Ov9), Nat.le_trans hbs2 Cv9.size, (fun x hx => by rcases Dv9 x hx with h9 | h9; exact hap x h9; omega), Nat.lt_of_lt_of_le hq2 Cv9.size, rfl⟩
        · have khle := hle
          replace hle := of_decide_eq_false hle
          subst hxe
          have hpl : (prs s).length = i := by unfold prs; simp; omega
          rw [← hpl, List.take_length, ← hts] at hown2
          refine Wp_exit ?_
          refine thn_exit ?_
          refine thn_exit ?_
          refine inB_here ?_
          refine inB_normal ?_
          refine thn_normal ?_
          refine Wp_region ?_
          refine WpL_val rfl rfl (by decide) (r_add (k := .i64) (a := ((k : Nat) : Int)) (b := 1) (c := ((k : Nat) : Int) + 1) rfl rfl (wI64 (by omega))) ?_
          refine WpL_val rfl rfl (by decide) (r_move (v := (.int .i64 (((k : Nat) : Int) + 1))) rfl) ?_
          refine WpL_nil ?_
          refine thn_normal ?_
          exact ⟨5 - (k + 1), by omega, k + 1, la2, lc2, m2, Fits.out ⟨rfl, rfl, rfl, rfl, trivial⟩, E, E2, (by omega), (by rw [hts, List.length_append, hm2, hm, hpl]), hown2, hbs2, rfl⟩
    · have khlt := hlt
      replace hlt := of_decide_eq_false hlt
      have hkk : k = 5 := by omega
      have hfl := five_len (k := 5)
      rw [hkk] at hm hown
      refine Wp_exit ?_
      refine thn_exit ?_
      refine thn_exit ?_
      refine inB_here ?_
      refine thn_normal ?_
      refine Wp_seq_region ?_
      refine WpL_val rfl rfl (by decide) (r_move (v := (.slice la m lc)) rfl) ?_
      refine WpL_val rfl rfl (by decide) (r_build (ps := [(0, (.int .i64 181)), (1, (.int .i64 956))]) (v := (.agg #[(.int .i64 181), (.int .i64 956)])) rfl (by kernel_rfl)) ?_
      refine WpL_val rfl rfl (by decide) (r_build (ps := [(0, (.int .i64 962)), (1, (.int .i64 963))]) (v := (.agg #[(.int .i64 962), (.int .i64 963)])) rfl (by kernel_rfl)) ?_
      refine s_buildSlice (ps := [(0, (.agg #[(.int .i64 181), (.int .i64 956)])), (1, (.agg #[(.int .i64 962), (.int .i64 963)]))]) (c := #[(.int .i64 181), (.int .i64 956), (.int .i64 962), (.int .i64 963)]) (by decide) rfl Try.underlying80 siz82 zer82 (by decide) (by decide) (by kernel_rfl) ?_
      intro bt wt Nt
      have Ft := Nt.ge E
      have Ft_E2 := Nt.ge E2
      replace hown := own_ext hown Nt.ext
      replace hbs := Nat.le_trans hbs Nt.ext.size
      replace E := E.ext Nt.ext
      have Bt := Nt.blk
      replace E2 := E2.ext Nt.ext
      refine s_append (base := wl.heap.size) (n := m) (m := 2) (xs := (((five.take 5).flatMap prs).map spanV).flatten) (news := [(.int .i64 181), (.int .i64 956), (.int .i64 962), (.int .i64 963)]) (size := 2) (bytes := 16) (v := (.slice la m lc)) (by decide) Try.underlying80 siz82 byt82 zer82 rfl (by decide) rfl hown rfl (rfl) (Bt.cells rfl) (by simp [Value.oneCell']) (by unfold maxLen; omega) (by omega) (hbs) ?_
      intro v9 w29 Ov9 Cv9 Dv9
      replace E := E.step Cv9 (fun x hx h => absurd (hown.lt x h).1 (by omega))
      obtain ⟨la3, lc3, rfl⟩ := own_form Ov9
      refine WpL_val rfl rfl (by decide) (r_assign (v := (.slice la3 (m + 2) lc3)) rfl) ?_
      refine WpL_nil ?_
      refine Wp_ret ?_
      refine fin_tmp Try.results67 (v := (.slice la3 (m + 2) lc3)) rfl ?_
      have e1 : fpL = (five.take 5).flatMap prs ++ [(181, 956)] ++ [(962, 963)] := by unfold fpL; simp [five]
      have e2 : fpL.length = m + 2 := by rw [e1, hm]; simp
      have h9 : _ := Ov9
      have e3 : (((five.take 5).flatMap prs).map spanV).flatten ++ [Value.int .i64 181, .int .i64 956, .int .i64 962, .int .i64 963] = (fpL.map spanV).flatten := by rw [e1, spanV_snoc, spanV_snoc]; simp
      rw [e3] at h9
      have hsl := own_slat h9 (by intro x hx; simp only [List.mem_map] at hx; obtain ⟨p, _, rfl⟩ := hx; rfl) (by simpa using e2) (by decide)
      obtain ⟨g, rfl, hg, _⟩ := own_cells h9 (by omega)
      have hlt := h9.lt g rfl
      rw [e2]
      exact ⟨⟨⟨_, _, rfl⟩, SlIn.mk hsl ⟨by have := Fl; omega, hlt.2⟩⟩, E⟩
/-! Orbits by pairs, plain. -/
def addK (ks : List Int) (k : Int) : List Int := if ks.contains k then ks else ks ++ [k]
def stepK (ks : List Int) (p : Sp) : List Int := if ks.contains p.1 || ks.contains p.2 then addK (addK ks p.1) p.2 else ks
def orbK (r : Int) : List Int := fpL.foldl stepK (fpL.foldl stepK (fpL.foldl stepK [r]))
theorem lt_unique : ∀ {p q : List Int}, p.Pairwise (· < ·) → q.Pairwise (· < ·) → (∀ x, x ∈ p ↔ x ∈ q) → p = q
  | [], [], _, _, _ => rfl
  | [], y :: q, _, _, h => absurd ((h y).2 List.mem_cons_self) List.not_mem_nil
  | x :: p, [], _, _, h => absurd ((h x).1 List.mem_cons_self) List.not_mem_nil
  | x :: p, y :: q, hp, hq, h => by
    have h1 := List.pairwise_cons.1 hp
    have h2 := List.pairwise_cons.1 hq
    have e : x = y := by
      rcases List.mem_cons.1 ((h x).1 List.mem_cons_self) with h3 | h3
      · exact h3
      · rcases List.mem_cons.1 ((h y).2 List.mem_cons_self) with h4 | h4
        · exact h4.symm
        · have := h1.1 y h4; have := h2.1 x h3; omega
    subst e
    rw [lt_unique h1.2 h2.2 fun z => ?_]
    constructor
    · intro hz
      rcases List.mem_cons.1 ((h z).1 (List.mem_cons_of_mem _ hz)) with h3 | h3
      · subst h3; have := h1.1 z hz; omega
      · exact h3
    · intro hz
      rcases List.mem_cons.1 ((h z).2 (List.mem_cons_of_mem _ hz)) with h3 | h3
      · subst h3; have := h2.1 z hz; omega
      · exact h3
def refOk (r : Int) : Bool := (((orbK r).all fun x => (orbitL r).contains x) && ((orbitL r).all fun x => (orbK r).contains x))
theorem ref_fin : (fpL.all fun p => refOk p.1 && refOk p.2) = true := by decide +kernel
theorem fp_small : (fpL.all fun p => decide (0 ≤ p.1) && decide (p.1 < 1000) && decide (0 ≤ p.2) && decide (p.2 < 1000)) = true := by decide +kernel
theorem fp_lt {p : Sp} (h : p ∈ fpL) : (0 ≤ p.1 ∧ p.1 < 1000) ∧ 0 ≤ p.2 ∧ p.2 < 1000 := by
  have := List.all_eq_true.1 fp_small p h
  simp only [Bool.and_eq_true, decide_eq_true_eq] at this
  omega
theorem orbL_lt (r : Int) : (orbitL r).Pairwise (· < ·) := by
  unfold orbitL
  (repeat' split) <;> first | (simp; done) | (simp; omega)
theorem step_far {r : Int} : ∀ (l : List Sp), (∀ p ∈ l, r ≠ p.1 ∧ r ≠ p.2) → l.foldl stepK [r] = [r]
  | [], _ => rfl
  | p :: l, hl => by
    have h1 := hl p List.mem_cons_self
    have h2 : stepK [r] p = [r] := by
      unfold stepK
      rw [if_neg]
      simp; omega
    rw [List.foldl_cons, h2]
    exact step_far l fun q hq => hl q (List.mem_cons_of_mem _ hq)
theorem pair_in {q : Int} {s : Sp} (hs : s ∈ five) (h1 : s.1 ≤ q) (h2 : q ≤ s.2) : (q, q + 32) ∈ fpL := by
  refine List.mem_append.2 (.inl (List.mem_flatMap.2 ⟨s, hs, List.mem_map.2 ⟨(q - s.1).toNat, List.mem_range.2 (by omega), ?_⟩⟩))
  have : s.1 + (((q - s.1).toNat : Nat) : Int) = q := by omega
  rw [this]
theorem pair_up {q : Int} (h : upperB q = true) : (q, q + 32) ∈ fpL := by
  unfold upperB at h
  rw [decide_eq_true_eq] at h
  rcases h with h | h | h
  · exact pair_in (s := (65, 90)) (by simp [five]) h.1 h.2
  · rcases ltLe q 215 with h1 | h1
    · exact pair_in (s := (192, 214)) (by simp [five]) h.1 (by show q ≤ 214; omega)
    · exact pair_in (s := (216, 222)) (by simp [five]) (by show 216 ≤ q; omega) (by show q ≤ 222; omega)
  · rcases ltLe q 930 with h1 | h1
    · exact pair_in (s := (913, 929)) (by simp [five]) h.1 (by show q ≤ 929; omega)
    · exact pair_in (s := (931, 939)) (by simp [five]) (by show 931 ≤ q; omega) (by show q ≤ 939; omega)
theorem orb_pair {q : Int} (h : ∀ p ∈ fpL, q ≠ p.1 ∧ q ≠ p.2) : orbitL q = [q] := by
  have h1 : upperB q = false := by
    cases e : upperB q with
    | false => rfl
    | true => exact absurd rfl (h _ (pair_up e)).1
  have h2 : upperB (q - 32) = false := by
    cases e : upperB (q - 32) with
    | false => rfl
    | true => exact absurd (show q = q - 32 + 32 by omega) (h _ (pair_up e)).2
  have a1 := h (181, 956) (by unfold fpL; simp)
  have a2 := h (962, 963) (by unfold fpL; simp)
  have a3 := h (924, 924 + 32) (pair_in (s := (913, 929)) (by simp [five]) (by decide) (by decide))
  have a4 := h (931, 931 + 32) (pair_in (s := (931, 939)) (by simp [five]) (by decide) (by decide))
  simp only at a1 a2 a3 a4
  unfold orbitL
  rw [if_neg (by omega), if_neg (by omega), h1, h2]; rfl
theorem orbK_mem {r x : Int} : x ∈ orbK r ↔ x ∈ orbitL r := by
  by_cases h : ∀ p ∈ fpL, r ≠ p.1 ∧ r ≠ p.2
  · unfold orbK
    rw [step_far fpL h, step_far fpL h, step_far fpL h, orb_pair h]
  · have h2 : refOk r = true := by
      have : ∃ p ∈ fpL, r = p.1 ∨ r = p.2 := by
        apply Classical.byContradiction
        intro hn
        exact h fun p hp => ⟨fun e => hn ⟨p, hp, .inl e⟩, fun e => hn ⟨p, hp, .inr e⟩⟩
      obtain ⟨p, hp, hr⟩ := this
      have h3 := List.all_eq_true.1 ref_fin p hp
      rw [Bool.and_eq_true] at h3
      rcases hr with rfl | rfl
      · exact h3.1
      · exact h3.2
    unfold refOk at h2
    rw [Bool.and_eq_true] at h2
    exact ⟨fun h => by simpa using List.all_eq_true.1 h2.1 x h, fun h => by simpa using List.all_eq_true.1 h2.2 x h⟩
/-! The reference's orbit. -/
theorem keys_put {es : List (Int × Bool)} {k : Int} (v : Bool) : (putM es k v).map (·.1) = addK (es.map (·.1)) k := by
  unfold addK
  cases hg : getM es k with
  | none =>
    have : ¬ k ∈ es.map (·.1) := fun h => by have := getM_isSome.2 h; rw [hg] at this; cases this
    rw [if_neg (by simpa using this), putM_none v hg]; simp
  | some u =>
    have hin : k ∈ es.map (·.1) := getM_isSome.1 (by rw [hg]; rfl)
    rw [if_pos (by simpa using hin)]
    obtain ⟨j, _, h2, h3⟩ := findM_some (eV := fun _ => undef) (i := 0) hg
    rw [h3 v]
    apply List.ext_getElem?
    intro i
    rw [List.getElem?_map, List.getElem?_map, List.getElem?_set]
    by_cases hi : j = i
    · subst hi
      have hlt := lt_of_get h2
      rw [if_pos rfl, if_pos hlt, h2]; rfl
    · simp [hi]
def AllT (es : List (Int × Bool)) : Prop := ∀ q ∈ es, q.2 = true
theorem AllT.put {es : List (Int × Bool)} (h : AllT es) (k : Int) : AllT (putM es k true) := by
  intro q hq
  induction es with
  | nil => simp [putM] at hq; subst hq; rfl
  | cons p r ih =>
    unfold putM at hq
    split at hq
    · rcases List.mem_cons.1 hq with rfl | hq
      · rfl
      · exact h q (List.mem_cons_of_mem _ hq)
    · rcases List.mem_cons.1 hq with rfl | hq
      · exact h _ List.mem_cons_self
      · exact ih (fun z hz => h z (List.mem_cons_of_mem _ hz)) hq
theorem AllT.get {es : List (Int × Bool)} (h : AllT es) (k : Int) : (getM es k).getD false = (es.map (·.1)).contains k := by
  cases hg : getM es k with
  | none =>
    have : ¬ k ∈ es.map (·.1) := fun h => by have := getM_isSome.2 h; rw [hg] at this; cases this
    symm; simpa using this
  | some u =>
    have h1 := h _ (getM_some_mem hg)
    have hin : k ∈ es.map (·.1) := getM_isSome.1 (by rw [hg]; rfl)
    simp only [Option.getD_some]
    rw [show u = true from h1]; symm; simpa using hin
theorem fold_step {α β : Type} {f : β → α → β} {l : List α} {i : Nat} {x : α} {z : β} (h : l[i]? = some x) : (l.take (i + 1)).foldl f z = f ((l.take i).foldl f z) x := by rw [take_snoc h, List.foldl_append]; rfl
theorem orb_self' (r : Int) : r ∈ orbitL r := by
  by_cases h : 0 ≤ r
  · exact orb_self h
  · have h1 : upperB r = false := by unfold upperB; rw [decide_eq_false_iff_not]; omega
    have h2 : upperB (r - 32) = false := by unfold upperB; rw [decide_eq_false_iff_not]; omega
    unfold orbitL
    rw [if_neg (by omega), if_neg (by omega), h1, h2]; simp
theorem fp_len : fpL.length ≤ 1000 := by decide +kernel
set_option maxHeartbeats 4000000 in
theorem rorbit_c (w0 : World) (r : Int) : Ret Try.prog 27 #[.int .i64 r] w0 fun v w => IntsN w0.heap.size w v (orbitL r) ∧ Ext w0 w := by
  have hfp := fp_len
  obtain ⟨fp, hfpe⟩ : ∃ fp, fp = fpL := ⟨_, rfl⟩
  rw [← hfpe] at hfp
  refine Ret_of Try.func27 rfl Try.ntmps27 (Nat.le_of_ble_eq_true rfl) ?_
  have E : Chg none1 w0 w0 := Chg.refl _ _
  refine Wp_seq_region ?_
  refine WpL_val rfl rfl (by decide) (r_assign (v := (.slice none 0 0)) rfl) ?_
  refine WpL_nil ?_
  refine Wp_seq_region ?_
  refine s_makeMap kInt kBool (by decide) ?_
  intro bm wm Nm
  have Fm := Nm.ge E
  replace E := E.ext Nm.ext
  intro Mm
  refine WpL_val rfl rfl (by decide) (r_move (v := (.int .i64 r)) rfl) ?_
  refine s_insert (k := r) (v := true) Try.underlying79 (keyInt Try.underlying3) Mm rfl rfl rfl ?_
  intro w1 S1 H1
  replace E := S1.step E (by first | exact Or.inl (by omega) | exact Or.inr rfl | exact Or.inr (by assumption) | exact Or.inr (by simp) | exact Or.inr (by omega) | exact Or.inr (by dsimp only; omega))
  replace Mm := H1
  refine WpL_val rfl rfl (by decide) (r_move (v := (.map (some bm))) rfl) ?_
  refine WpL_val rfl rfl (by decide) (r_assign (v := (.map (some bm))) rfl) ?_
  refine WpL_nil ?_
  refine Wp_seq ?_
  refine Wp_seq_region ?_
  refine WpL_val rfl rfl (by decide) (r_move (v := (.int .i64 0)) rfl) ?_
  refine WpL_nil ?_
  refine Wp_block ?_
  refine Wp_loop (fun nn_ σ W2 => ∃ (k : Nat) (es : List (Int × Bool)), (∃ jj_, σ = upds jj_ [(3, (.map (some bm))), (11, (.int .i64 ((k : Nat) : Int)))]) ∧ Chg none1 w0 W2 ∧ MapAt W2 bm kInt kBool es ∧ (k ≤ 3) ∧ (AllT es) ∧ (KeysOk es) ∧ (es.length ≤ 1 + 2000 * k) ∧ (es.map (·.1) = (List.replicate k fpL).flatten.foldl stepK [r]) ∧ nn_ = 3 - k) (n := 3 - 0) ?_ ?_
  · exact ⟨0, putM [] r true, Fits.out ⟨rfl, rfl, trivial⟩, E, Mm, (by omega), (AllT.put (fun q hq => absurd hq List.not_mem_nil) r), KeysOk.nil.put _ _, (by simp [putM]), (by simp [putM]), rfl⟩
  · clear E Mm
    rintro _ _ W2 ⟨k, es, ⟨j2, rfl⟩, E, Mm, hk, hT, hK, hel, hes, rfl⟩
    refine Wp_seq_region ?_
    refine WpL_val rfl rfl (by decide) (r_lss (k := .i64) (a := ((k : Nat) : Int)) (b := 3) rfl rfl) ?_
    refine WpL_nil ?_
    refine Wp_seq ?_
    refine Wp_cond (b := decide ((((k : Nat) : Int) : Int) < 3)) rfl (fun hlt => ?_) (fun hlt => ?_)
    · have khlt := hlt
      replace hlt := of_decide_eq_true hlt
      have hn8 : bm < W2.heap.size := Mm.lt
      obtain ⟨n8, hn8e⟩ : ∃ n, n = W2.heap.size := ⟨_, rfl⟩
      refine Wp_skip ?_
      refine thn_normal ?_
      refine Wp_seq ?_
      refine Wp_block ?_
      refine Wp_seq_region ?_
      refine WpL_enter rfl rfl (by decide) (r_callF (vs := []) Try.func67 nm67 bd67 rfl) ((fpairs_c _).mono (fun v w h => (by rw [← hfpe, ← hn8e] at h; exact h : ((∃ a c, v = .slice a fp.length c) ∧ SlIn (fun b => n8 ≤ b ∧ b < w.heap.size) w 2 v (fp.map spanV)) ∧ Ext _ w))) ?_
      rintro _ w9 ⟨⟨⟨fa, fc, rfl⟩, hF⟩, X9⟩
      replace Mm := X9.keepM Mm
      replace E := E.ext X9
      obtain ⟨n9, hn9⟩ : ∃ n, n = w9.heap.size := ⟨_, rfl⟩
      rw [← hn9] at hF
      refine WpL_val rfl rfl (by decide) (r_lenSlice (ad := fa) (n := fp.length) (cap := fc) Try.underlying80 rfl) ?_
      refine WpL_val rfl rfl (by decide) (r_move (v := (.int .i64 0)) rfl) ?_
      refine WpL_nil ?_
      refine Wp_block ?_
      refine Wp_loop (fun nn_ σ W4 => ∃ (i : Nat) (es2 : List (Int × Bool)), (∃ jj_, σ = upds jj_ [(3, (.map (some bm))), (11, (.int .i64 ((k : Nat) : Int))), (13, (.slice fa fp.length fc)), (14, (.int .i64 ((fp.length : Nat) : Int))), (15, (.int .i64 ((i : Nat) : Int)))]) ∧ Chg none1 w0 W4 ∧ MapAt W4 bm kInt kBool es2 ∧ (i ≤ fp.length) ∧ (AllT es2) ∧ (KeysOk es2) ∧ (es2.length ≤ 1 + 2000 * k + 2 * i) ∧ (es2.map (·.1) = (fp.take i).foldl stepK (es.map (·.1))) ∧ (SlIn (fun b => n8 ≤ b ∧ b < n9) W4 2 (.slice fa fp.length fc) (fp.map spanV)) ∧ (n9 ≤ W4.heap.size) ∧ nn_ = fp.length - i) (n := fp.length - 0) ?_ ?_
      · exact ⟨0, es, Fits.out ⟨rfl, rfl, rfl, rfl, rfl, trivial⟩, E, Mm, Nat.zero_le _, hT, hK, (by omega), rfl, hF, (by omega), rfl⟩
      · clear E Mm
        rintro _ _ W4 ⟨i, es2, ⟨j4, rfl⟩, E, Mm, hi, hT2, hK2, hel2, hes2, hF2, hn92, rfl⟩
        refine Wp_seq_region ?_
        refine WpL_val rfl rfl (by decide) (r_lss (k := .i64) (a := ((i : Nat) : Int)) (b := ((fp.length : Nat) : Int)) rfl rfl) ?_
        refine WpL_nil ?_
        refine Wp_seq ?_
        refine Wp_cond (b := decide ((((i : Nat) : Int) : Int) < ((fp.length : Nat) : Int))) rfl (fun hlt2 => ?_) (fun hlt2 => ?_)
        · have khlt2 := hlt2
          replace hlt2 := of_decide_eq_true hlt2
          obtain ⟨p, hp⟩ := get_of_lt (l := fp) (i := i) (by omega)
          obtain ⟨b, o, hab, hcl⟩ := spans_cells (SlIn.at hF2 : SpansAt _ _ fp) (by omega)
          subst hab
          have hts := fold_step (f := stepK) (z := es.map (·.1)) hp
          rw [← hes2] at hts
          refine Wp_skip ?_
          refine thn_normal ?_
          refine Wp_seq ?_
          refine Wp_block ?_
          refine Wp_seq_region ?_
          refine WpL_val rfl rfl (by decide) (r_indexSlice (b := b) (o := o) (len := fp.length) (cap := fc) (i := i) (o' := o + i * 2) rfl rfl rfl Try.underlying80 siz82 (by omega) (by omega)) ?_
          refine WpL_val rfl rfl (by decide) (r_loadAgg (vs := [(.int .i64 p.1), (.int .i64 p.2)]) rfl agg82 siz82 rfl (hcl i p hp)) ?_
          refine s_allocStore (v := (.agg #[(.int .i64 p.1), (.int .i64 p.2)])) (c := #[(.int .i64 p.1), (.int .i64 p.2)]) (n := 2) (by decide) zer82 rfl siz82 rfl rfl rfl (by simp [Value.oneCell']) ?_
          intro bq wq Nq
          have Fq := Nq.ge E
          have Oq_bm := Nq.ltM Mm
          replace Mm := Nq.keepM Mm
          replace hF2 := hF2.chg Nq.ext (fun _ _ f => f)
          replace hn92 := Nat.le_trans hn92 Nq.ext.size
          replace E := E.ext Nq.ext
          have Bq := Nq.blk
          refine WpL_nil ?_
          refine Wp_seq_region ?_
          refine WpL_val rfl rfl (by decide) (r_move (v := (.map (some bm))) rfl) ?_
          refine WpL_val rfl rfl (by decide) (r_indexArr (b := bq) (o := 0) (i := 0) (o' := 0) rfl rfl rfl Try.underlying82 siz3 (by omega) (by omega)) ?_
          refine WpL_val rfl rfl (by decide) (r_load (v := (.int .i64 p.1)) rfl flat3 (Bq.cell rfl)) ?_
          refine WpL_val (v := (.bool ((getM es2 p.1).getD false))) rfl rfl (by decide) (r_lookup (k := p.1) (z := false) Try.underlying79 (keyInt Try.underlying3) zer4 Mm rfl rfl) ?_
          obtain ⟨e6, he6⟩ : ∃ e, ((getM es2 p.1).getD false) = e := ⟨_, rfl⟩
          refine WpL_val rfl rfl (by decide) (r_move (v := .bool e6) (congrArg Value.bool he6)) ?_
          refine WpL_guard_any (oj := _) (gv := (.bool e6)) (u := (bif e6 then undef else (.map (some bm)))) rfl rfl (by decide) (by decide) rfl (by cases e6 <;> first | exact Or.inr ⟨Or.inl rfl, rfl⟩ | exact Or.inr ⟨Or.inr rfl, rfl⟩ | exact Or.inl ⟨rfl, r_move (v := (.map (some bm))) rfl⟩) ?_
          refine WpL_guard_any (oj := _) (gv := (.bool e6)) (u := (bif e6 then undef else (.pointer (some ⟨bq, 1, none⟩)))) rfl rfl (by decide) (by decide) rfl (by cases e6 <;> first | exact Or.inr ⟨Or.inl rfl, rfl⟩ | exact Or.inr ⟨Or.inr rfl, rfl⟩ | exact Or.inl ⟨rfl, r_indexArr (b := bq) (o := 0) (i := 1) (o' := 1) rfl rfl rfl Try.underlying82 siz3 (by omega) (by omega)⟩) ?_
          refine WpL_guard_any (oj := _) (gv := (.bool e6)) (u := (bif e6 then undef else (.int .i64 p.2))) rfl rfl (by decide) (by decide) rfl (by cases e6 <;> first | exact Or.inr ⟨Or.inl rfl, rfl⟩ | exact Or.inr ⟨Or.inr rfl, rfl⟩ | exact Or.inl ⟨rfl, r_load (v := (.int .i64 p.2)) rfl flat3 (Bq.cell rfl)⟩) ?_
          refine WpL_guard_any (oj := _) (gv := (.bool e6)) (u := (bif e6 then undef else (.bool ((getM es2 p.2).getD false)))) rfl rfl (by decide) (by decide) rfl (by cases e6 <;> first | exact Or.inr ⟨Or.inl rfl, rfl⟩ | exact Or.inr ⟨Or.inr rfl, rfl⟩ | exact Or.inl ⟨rfl, r_lookup (k := p.2) (z := false) Try.underlying79 (keyInt Try.underlying3) zer4 Mm rfl rfl⟩) ?_
          obtain ⟨e7, he7⟩ : ∃ e, (e6 || ((getM es2 p.2).getD false)) = e := ⟨_, rfl⟩
          refine WpL_val rfl rfl (by decide) (r_pick (b := e6) (v := .bool e7) rfl (by rw [← he7]; cases e6 <;> rfl)) ?_
          refine WpL_nil ?_
          subst he7
          subst he6
          refine Wp_cond (b := (((getM es2 p.1).getD false) || ((getM es2 p.2).getD false))) rfl (fun hc => ?_) (fun hc => ?_)
          · have khc := hc
            have hc2 : ((es2.map (·.1)).contains p.1 || (es2.map (·.1)).contains p.2) = true := by rw [← hT2.get, ← hT2.get]; exact hc
            have hs9 : stepK (es2.map (·.1)) p = (putM (putM es2 p.1 true) p.2 true).map (·.1) := by unfold stepK; rw [if_pos hc2, keys_put, keys_put]
            have hq1 := putM_len es2 p.1 true
            have hq2 := putM_len (putM es2 p.1 true) p.2 true
            obtain ⟨Fs9, hFs9⟩ : ∃ Fs : List (FactT ((fun q => q = bm))), Fs = [.eq (.map (some bm)), .eq (.pointer (some ⟨bq, 0, none⟩)), .eq (.int .i64 p.1), .eq (.map (some bm)), .eq (.pointer (some ⟨bq, 1, none⟩)), .eq (.int .i64 p.2), .own (fun _ w => MapAt w bm kInt kBool (putM es2 p.1 true)) (fun _ _ _ e h => Ext.keepM e h)] := ⟨_, rfl⟩
            refine Wp_dagT ((fun q => q = bm)) 7 6 [29, 30, 31, 32, 33, 34, 56] [[], [], [1], [], [], [4], [0, 1, 2]] Fs9 hFs9 rfl mixed (by kernel_rfl) (by kernel_rfl) (by kernel_rfl) ?_ ?_
            · intro wd X0
              refine DagStepsT.cons (fun s' w' X U H => ?_) ?_
              · exact DoesT_val (r_move (v := (.map (some bm))) (U 3 rfl)) (Chg.refl _ _) rfl
              refine DagStepsT.cons (fun s' w' X U H => ?_) ?_
              · exact DoesT_val (r_indexArr (b := bq) (o := 0) (i := 0) (o' := 0) (U 5 rfl) rfl rfl Try.underlying82 siz3 (by omega) (by omega)) (Chg.refl _ _) rfl
              refine DagStepsT.cons (fun s' w' X U H => ?_) ?_
              · have e30 : s' 30 = (.pointer (some ⟨bq, 0, none⟩)) := H 1 rfl 30 (.eq (.pointer (some ⟨bq, 0, none⟩))) rfl (by rw [hFs9]; rfl)
                exact DoesT_val (r_load (v := (.int .i64 p.1)) e30 flat3 ((Chg.keep X (fun f => f) (X0.keep Bq)).cell rfl)) (Chg.refl _ _) rfl
              refine DagStepsT.cons (fun s' w' X U H => ?_) ?_
              · exact DoesT_val (r_move (v := (.map (some bm))) (U 3 rfl)) (Chg.refl _ _) rfl
              refine DagStepsT.cons (fun s' w' X U H => ?_) ?_
              · exact DoesT_val (r_indexArr (b := bq) (o := 0) (i := 1) (o' := 1) (U 5 rfl) rfl rfl Try.underlying82 siz3 (by omega) (by omega)) (Chg.refl _ _) rfl
              refine DagStepsT.cons (fun s' w' X U H => ?_) ?_
              · have e33 : s' 33 = (.pointer (some ⟨bq, 1, none⟩)) := H 4 rfl 33 (.eq (.pointer (some ⟨bq, 1, none⟩))) rfl (by rw [hFs9]; rfl)
                exact DoesT_val (r_load (v := (.int .i64 p.2)) e33 flat3 ((Chg.keep X (fun h => absurd h (Nat.ne_of_gt Oq_bm)) (X0.keep Bq)).cell rfl)) (Chg.refl _ _) rfl
              refine DagStepsT.cons (fun s' w' X U H => ?_) ?_
              · have e29 : s' 29 = (.map (some bm)) := H 0 rfl 29 (.eq (.map (some bm))) rfl (by rw [hFs9]; rfl)
                have e31 : s' 31 = (.int .i64 p.1) := H 2 rfl 31 (.eq (.int .i64 p.1)) rfl (by rw [hFs9]; rfl)
                exact DoesT_mapUpdate Try.underlying79 (keyInt Try.underlying3) (Chg.keepM X (fun f => f) (X0.keepM Mm)) e29 e31 (v := true) rfl rfl (fun w9 h => h)
              exact DagStepsT.nil
            · intro s' wd9 w9 X0 X9 U H
              have e32 : s' 32 = (.map (some bm)) := H 3 32 (.eq (.map (some bm))) rfl (by rw [hFs9]; rfl)
              have e34 : s' 34 = (.int .i64 p.2) := H 5 34 (.eq (.int .i64 p.2)) rfl (by rw [hFs9]; rfl)
              obtain Mm := (show (.own (fun _ w => MapAt w bm kInt kBool (putM es2 p.1 true)) (fun _ _ _ e h => Ext.keepM e h) : FactT ((fun q => q = bm))).In (s' 56) w9 from H 6 56 (.own (fun _ w => MapAt w bm kInt kBool (putM es2 p.1 true)) (fun _ _ _ e h => Ext.keepM e h)) rfl (by rw [hFs9]; rfl))
              obtain ⟨j9, rfl⟩ := Fits.out (σ := s') (l := [(3, (.map (some bm))), (11, (.int .i64 ((k : Nat) : Int))), (13, (.slice (some ⟨b, o, none⟩) fp.length fc)), (14, (.int .i64 ((fp.length : Nat) : Int))), (15, (.int .i64 ((i : Nat) : Int))), (32, (.map (some bm))), (34, (.int .i64 p.2))]) ⟨U 3 rfl, U 11 rfl, U 13 rfl, U 14 rfl, U 15 rfl, e32, e34, trivial⟩
              clear U H
              replace Bq := Chg.keep X9 (fun h => absurd h (Nat.ne_of_gt Oq_bm)) (X0.keep Bq)
              replace hF2 := hF2.chg X0 (fun _ _ f => f)
              replace hn92 := Nat.le_trans hn92 X0.size
              replace hF2 := hF2.chg X9 (fun b hb h => by omega)
              replace hn92 := Nat.le_trans hn92 X9.size
              replace E := (E.ext X0).step X9 (fun q hq h => absurd hq (by omega))
              refine s_mapUpdate (k := p.2) (v := true) Try.underlying79 (keyInt Try.underlying3) Mm rfl rfl rfl ?_
              intro w10 S10 H10
              replace hF2 := hF2.chg S10.chg (fun b hb h => by omega)
              replace hn92 := Nat.le_trans hn92 (Nat.le_of_eq S10.size.symm)
              replace Bq := S10.keep (by omega) Bq
              replace E := S10.step E (by first | exact Or.inl (by omega) | exact Or.inr rfl | exact Or.inr (by assumption) | exact Or.inr (by simp) | exact Or.inr (by omega) | exact Or.inr (by dsimp only; omega))
              replace Mm := H10
              refine WpL_nil ?_
              refine inB_normal ?_
              refine thn_normal ?_
              refine Wp_region ?_
              refine WpL_val rfl rfl (by decide) (r_add (k := .i64) (a := ((i : Nat) : Int)) (b := 1) (c := ((i : Nat) : Int) + 1) rfl rfl (wI64 (by omega))) ?_
              refine WpL_val rfl rfl (by decide) (r_move (v := (.int .i64 (((i : Nat) : Int) + 1))) rfl) ?_
              refine WpL_nil ?_
              refine thn_normal ?_
              exact ⟨fp.length - (i + 1), by omega, i + 1, putM (putM es2 p.1 true) p.2 true, Fits.out ⟨rfl, rfl, rfl, rfl, rfl, trivial⟩, E, Mm, (by omega), (hT2.put _).put _, (hK2.put _ _).put _ _, (by omega), (by rw [hts, hs9]), hF2, hn92, rfl⟩
          · have khc := hc
            have hc2 : ¬ ((es2.map (·.1)).contains p.1 || (es2.map (·.1)).contains p.2) = true := by rw [← hT2.get, ← hT2.get, hc]; simp
            have hs9 : stepK (es2.map (·.1)) p = es2.map (·.1) := by unfold stepK; rw [if_neg hc2]
            refine Wp_skip ?_
            refine inB_normal ?_
            refine thn_normal ?_
            refine Wp_region ?_
            refine WpL_val rfl rfl (by decide) (r_add (k := .i64) (a := ((i : Nat) : Int)) (b := 1) (c := ((i : Nat) : Int) + 1) rfl rfl (wI64 (by omega))) ?_
            refine WpL_val rfl rfl (by decide) (r_move (v := (.int .i64 (((i : Nat) : Int) + 1))) rfl) ?_
            refine WpL_nil ?_
            refine thn_normal ?_
            exact ⟨fp.length - (i + 1), by omega, i + 1, es2, Fits.out ⟨rfl, rfl, rfl, rfl, rfl, trivial⟩, E, Mm, (by omega), hT2, hK2, (by omega), (by rw [hts, hs9]), hF2, hn92, rfl⟩
        · have khlt2 := hlt2
          replace hlt2 := of_decide_eq_false hlt2
          have hii : i = fp.length := by omega
          rw [hii, List.take_length] at hes2
          refine Wp_exit ?_
          refine thn_exit ?_
          refine thn_exit ?_
          refine inB_here ?_
          refine inB_normal ?_
          refine thn_normal ?_
          refine Wp_region ?_
          refine WpL_val rfl rfl (by decide) (r_add (k := .i64) (a := ((k : Nat) : Int)) (b := 1) (c := ((k : Nat) : Int) + 1) rfl rfl (wI64 (by omega))) ?_
          refine WpL_val rfl rfl (by decide) (r_move (v := (.int .i64 (((k : Nat) : Int) + 1))) rfl) ?_
          refine WpL_nil ?_
          refine thn_normal ?_
          exact ⟨3 - (k + 1), by omega, k + 1, es2, Fits.out ⟨rfl, rfl, trivial⟩, E, Mm, (by omega), hT2, hK2, (by omega), (by rw [hes2, hes, ← List.foldl_append]; congr 1; rw [hfpe, List.replicate_succ', List.flatten_append]; simp), rfl⟩
    · have khlt := hlt
      replace hlt := of_decide_eq_false hlt
      have hkk : k = 3 := by omega
      have hes3 : es.map (·.1) = orbK r := by rw [hes, hkk]; unfold orbK; rw [← List.foldl_append, ← List.foldl_append]; simp [List.replicate]
      have hbs1 := E.size
      refine Wp_exit ?_
      refine thn_exit ?_
      refine thn_exit ?_
      refine inB_here ?_
      refine thn_normal ?_
      refine Wp_seq_region ?_
      refine WpL_val rfl rfl (by decide) (r_assign (v := (.slice none 0 0)) rfl) ?_
      refine WpL_nil ?_
      refine Wp_seq ?_
      refine Wp_seq_region ?_
      refine WpL_val rfl rfl (by decide) (r_move (v := (.map (some bm))) rfl) ?_
      refine s_range (by decide) Try.underlying79 Mm rfl ?_
      intro br wr Nr
      have Fr := Nr.ge E
      have Or_bm := Nr.ltM Mm
      replace Mm := Nr.keepM Mm
      replace E := E.ext Nr.ext
      have Ir : IterAt wr br bm es.length [] := Nr.at'
      refine WpL_nil ?_
      refine Wp_block ?_
      have hwr := Nr.size
      have hbr : br < wr.heap.size := Ir.lt
      refine Wp_loop (fun nn_ σ W11 => ∃ (seen : List Nat) (la : Option Addr) (lc : Nat) (n : Nat), (∃ jj_, σ = upds jj_ [(38, (.pointer (some ⟨br, 0, none⟩))), (6, (.slice la n lc))]) ∧ Chg none1 w0 W11 ∧ MapAt W11 bm kInt kBool es ∧ IterAt W11 br bm es.length seen ∧ (seen.Nodup) ∧ (∀ j ∈ seen, j < es.length) ∧ (n = seen.length) ∧ (W11.ownsRow wr.heap.size TInt 1 (.slice la n lc) n ((seen.map (kAt es)).map (Value.int .i64))) ∧ (wr.heap.size ≤ W11.heap.size) ∧ nn_ = es.length - seen.length) (n := es.length - ([] : List Nat).length) ?_ ?_
      · exact ⟨([] : List Nat), none, 0, 0, Fits.out ⟨rfl, rfl, trivial⟩, E, Mm, Ir, List.nodup_nil, (fun j hj => absurd hj List.not_mem_nil), rfl, World.ownsRow_nil _ _ _ _, Nat.le_refl _, rfl⟩
      · clear E Mm Ir
        rintro _ _ W11 ⟨seen, la, lc, n, ⟨j11, rfl⟩, E, Mm, Ir, hnd, hsl, hn, hown, hbs, rfl⟩
        refine Wp_seq_region ?_
        refine s_next (by decide) Mm Ir rfl (fun hall => ?_) ?_
        · skip
          have hperm := keys_perm (es := es) hnd hsl hall
          have hKd : (seen.map (kAt es)).Nodup := hperm.nodup_iff.2 hK
          have hO : OwnI W11 wr.heap.size (.slice la n lc) (seen.map (kAt es)) := ⟨⟨la, lc, by simp [hn]⟩, by simpa [hn] using hown⟩
          have h0m : ∃ z, z ∈ seen.map (kAt es) := ⟨r, hperm.mem_iff.2 (by rw [hes3]; exact orbK_mem.2 (orb_self' r))⟩
          have hsn := seen_len hnd hsl
          have hsorted : (seen.map (kAt es)).mergeSort leB = orbitL r := lt_unique (mergeSort_lt hKd) (orbL_lt r) (fun x => by rw [List.mem_mergeSort, hperm.mem_iff, hes3]; exact orbK_mem)
          refine WpL_val rfl rfl (by decide) (r_extract (vs := #[(.bool false)]) (v := (.bool false)) rfl rfl) ?_
          refine WpL_nil ?_
          refine Wp_seq ?_
          refine Wp_cond_false rfl ?_
          refine Wp_exit ?_
          refine thn_exit ?_
          refine thn_exit ?_
          refine inB_here ?_
          refine thn_normal ?_
          refine Wp_seq_region ?_
          refine WpL_val rfl rfl (by decide) (r_move (v := (.slice la n lc)) rfl) ?_
          refine WpL_enter rfl rfl (by decide) (r_callF (vs := [(.slice la n lc)]) Try.func68 nm68 bd68 rfl) (sortInts_c _ wr.heap.size (.slice la n lc) _ hO (fun h9 => by obtain ⟨z, hz⟩ := h0m; rw [h9] at hz; cases hz) (by simp; omega)) ?_
          rintro _ w19 ⟨rfl, I19, C19⟩
          replace E := E.step C19 (fun x hx hy => absurd (hown.lt x hy).1 (by omega))
          refine WpL_nil ?_
          refine Wp_seq_region ?_
          refine WpL_val rfl rfl (by decide) (r_move (v := (.slice la n lc)) rfl) ?_
          refine WpL_val rfl rfl (by decide) (r_assign (v := (.slice la n lc)) rfl) ?_
          refine WpL_nil ?_
          refine Wp_ret ?_
          refine fin_tmp Try.results27 (v := (.slice la n lc)) rfl ?_
          rw [hsorted] at I19
          have hnl : (orbitL r).length = n := by rw [← hsorted]; simp [hn]
          have hn0 : 0 < n := by rw [← hnl]; exact List.length_pos_of_mem (orb_self' r)
          obtain ⟨g, hg, hgb, _⟩ := own_cells hown hn0
          subst hg
          have hgl := hown.lt g rfl
          refine ⟨⟨⟨_, lc, by rw [hnl]⟩, SlIn.mk I19 ⟨by omega, by have := C19.size; omega⟩⟩, E⟩
        · intro i p w12 hp hns S12
          replace hown := own_chg hown S12.chg (fun x hx h9 => by have := (hown.lt x hx).1; omega)
          replace hbs := Nat.le_trans hbs (Nat.le_of_eq S12.size.symm)
          replace Mm := S12.keepM (by omega) Mm
          replace E := S12.step E (by first | exact Or.inl (by omega) | exact Or.inr rfl | exact Or.inr (by omega))
          replace Ir : IterAt w12 br bm es.length (seen ++ [i]) := S12.at'
          have hnd2 : (seen ++ [i]).Nodup := List.nodup_append.2 ⟨hnd, by simp, fun x hx z hz => by simp at hz; subst hz; exact fun h9 => hns (h9 ▸ hx)⟩
          have hsl2 : ∀ j ∈ seen ++ [i], j < es.length := fun j hj => by rcases List.mem_append.1 hj with h9 | h9; exact hsl j h9; rw [List.mem_singleton] at h9; subst h9; exact lt_of_get hp
          have hl2 := seen_len hnd2 hsl2
          have hl3 : (seen ++ [i]).length = seen.length + 1 := by simp
          have hka : kAt es i = p.1 := by unfold kAt; rw [hp]; rfl
          refine WpL_val rfl rfl (by decide) (r_extract (vs := #[(.bool true), (.int .i64 p.1), (.bool p.2)]) (v := (.bool true)) rfl rfl) ?_
          refine WpL_nil ?_
          refine Wp_seq ?_
          refine Wp_cond_true rfl ?_
          refine Wp_skip ?_
          refine thn_normal ?_
          refine Wp_block ?_
          refine Wp_seq_region ?_
          refine WpL_val (v := (.tuple #[(.int .i64 p.1), (.bool p.2)])) rfl rfl (by decide) (r_entry Mm Ir hp rfl) ?_
          refine WpL_val rfl rfl (by decide) (r_extract (vs := #[(.int .i64 p.1), (.bool p.2)]) (v := (.int .i64 p.1)) rfl rfl) ?_
          refine WpL_val rfl rfl (by decide) (r_assign (v := (.int .i64 p.1)) rfl) ?_
          refine WpL_nil ?_
          refine Wp_region ?_
          refine WpL_val rfl rfl (by decide) (r_move (v := (.slice la n lc)) rfl) ?_
          refine WpL_val rfl rfl (by decide) (r_move (v := (.int .i64 p.1)) rfl) ?_
          refine s_buildSlice (ps := [(0, (.int .i64 p.1))]) (c := #[(.int .i64 p.1)]) (by decide) rfl Try.underlying22 siz3 zer3 (by decide) (by decide) (by kernel_rfl) ?_
          intro bq wq Nq
          have Fq := Nq.ge E
          have Oq_bm := Nq.ltM Mm
          have Oq_br := New.ltI Ir Nq
          replace Mm := Nq.keepM Mm
          replace Ir := New.keepI Ir Nq
          replace hown := own_ext hown Nq.ext
          replace hbs := Nat.le_trans hbs Nq.ext.size
          replace E := E.ext Nq.ext
          have Bq := Nq.blk
          refine s_append (base := wr.heap.size) (n := n) (m := 1) (xs := (seen.map (kAt es)).map (Value.int .i64)) (news := [(.int .i64 p.1)]) (size := 1) (bytes := 8) (v := (.slice la n lc)) (by decide) Try.underlying22 siz3 byt3 zer3 rfl (by decide) rfl hown rfl (rfl) (Bq.cells rfl) (by simp [Value.oneCell']) (by unfold maxLen; omega) (by omega) (hbs) ?_
          intro v9 w29 Ov9 Cv9 Dv9
          replace Mm := Cv9.keepM (fun h => by have := (hown.lt _ h).1; omega) Mm
          replace Ir := Chg.keepI Ir Cv9 (fun h => by have := (hown.lt _ h).1; omega)
          replace E := E.step Cv9 (fun x hx h => absurd (hown.lt x h).1 (by omega))
          obtain ⟨la2, lc2, rfl⟩ := own_form Ov9
          refine WpL_val rfl rfl (by decide) (r_assign (v := (.slice la2 (n + 1) lc2)) rfl) ?_
          refine WpL_nil ?_
          refine inB_normal ?_
          refine thn_normal ?_
          exact ⟨es.length - (seen ++ [i]).length, by omega, seen ++ [i], la2, lc2, n + 1, Fits.out ⟨rfl, rfl, trivial⟩, E, Mm, Ir, hnd2, hsl2, (by rw [hl3, hn]), (by rw [List.map_append, List.map_append, List.map_singleton, List.map_singleton, hka]; exact Ov9), Nat.le_trans hbs Cv9.size, rfl⟩
end Go.Proofs
