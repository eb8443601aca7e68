/- dfa.at, dfa.to, dfa.Run, dfa.flag, walked. -/
import Derived.Test.YtncmfkibflogkaaAl
namespace Go.Proofs
open Go Go.Eng Go.Sort
set_option maxRecDepth 100000

theorem okD_check {n c : Nat} {d : Dfa} (h : OkD n c d) (hn : 1 ≤ n ∧ n ≤ 200) (hc : 1 ≤ c ∧ c ≤ 16) : checkD d = 0 := by
  obtain ⟨h1, h2, h3, h4, h5⟩ := h
  have hne : d.next ≠ [] := fun he => by rw [he] at h1; simp at h1; omega
  have hcol : colsD d = c := by
    unfold colsD
    cases hq : d.next with
    | nil => exact absurd hq hne
    | cons y l => exact (h5 y (by rw [hq]; simp)).1
  unfold checkD
  rw [if_neg (by omega), if_neg (by omega), if_neg (by omega), if_neg, if_neg]
  · rw [Bool.or_eq_true]
    rintro (hb | hb)
    · unfold bad0 at hb
      have hane : d.accept ≠ [] := fun he => by rw [he] at h2; simp at h2; omega
      have := (minL_lt hane (z := -1)).2 (fun x hx => h4 x hx)
      simp only [Bool.or_eq_true, decide_eq_true_eq] at hb
      omega
    · obtain ⟨row, hr, hb⟩ := List.any_eq_true.1 hb
      obtain ⟨hl, hx⟩ := h5 row hr
      have hrne : row ≠ [] := fun he => by rw [he] at hl; simp at hl; omega
      have h6 := (minL_lt hrne (z := -1)).2 (fun x hx' => (hx x hx').1)
      have h7 := (maxL_lt hrne (z := ((n : Nat) : Int))).2 (fun x hx' => (hx x hx').2)
      simp only [badRow, Bool.or_eq_true, decide_eq_true_eq] at hb
      omega
  · intro hb
    obtain ⟨row, hr, hb⟩ := List.any_eq_true.1 hb
    obtain ⟨hl, _⟩ := h5 row hr
    simp only [formRow, Bool.or_eq_true, decide_eq_true_eq] at hb
    omega
def runS (d : Dfa) (s : Int) (w : List Int) : Int := w.foldl (fun s x => toD d s x.toNat) s
theorem beh_run (d : Dfa) : ∀ (w : List Int) (s : Int), beh d s (w.map Int.toNat) = atD d (runS d s w)
  | [], _ => rfl
  | x :: w, s => by simp only [List.map_cons, beh]; rw [beh_run d w]; rfl
theorem runS_succ {d : Dfa} {s : Int} {w : List Int} {k : Nat} {x : Int} (h : w[k]? = some x) : runS d s (w.take (k + 1)) = toD d (runS d s (w.take k)) x.toNat := by
  rw [List.take_add_one, h]; simp [runS, List.foldl_append]
theorem OkD.run {n c : Nat} {d : Dfa} (h : OkD n c d) (w : List Int) : -1 ≤ runS d d.start w ∧ runS d d.start w < n := by
  have hst := h.st
  rcases List.eq_nil_or_concat w with rfl | ⟨w, x, rfl⟩
  · show -1 ≤ d.start ∧ d.start < n; omega
  · simp only [runS, List.concat_eq_append, List.foldl_append, List.foldl_cons, List.foldl_nil]; exact h.to

theorem dfat_c (w0 : World) (d : Dfa) (dv : List Value) (s : Int) (h : DfaAt w0 d dv) (hs : s < d.accept.length) :
    Ret Try.prog 67 #[.agg dv.toArray, .int .i64 s] w0 fun r w => r = .int .i64 (atD d s) ∧ Ext w0 w := by
  obtain ⟨aa, ac, na, nc, rfl, hacc, hnxt⟩ := h
  refine Ret_of Try.func67 rfl Try.ntmps67 (Nat.le_of_ble_eq_true rfl) ?_
  have E : Chg none1 w0 w0 := Chg.refl _ _
  refine Wp_seq_region ?_
  refine s_box (v := (.agg #[(.int .i64 d.start), (.slice aa d.accept.length ac), (.slice na d.next.length nc)])) (c := #[(.int .i64 d.start), (.slice aa d.accept.length ac), (.slice na d.next.length nc)]) (by decide) rfl rfl ?_
  intro bq wq Nq
  have Fq := Nq.ge E
  replace E := E.ext Nq.ext
  have Bq := Nq.blk
  refine WpL_val rfl rfl (by decide) (r_assign (v := (.int .i64 0)) rfl) ?_
  refine WpL_nil ?_
  refine Wp_seq ?_
  refine Wp_seq_region ?_
  refine WpL_val rfl rfl (by decide) (r_move (v := (.int .i64 s)) rfl) ?_
  refine WpL_val rfl rfl (by decide) (r_lss (k := .i64) (a := s) (b := 0) rfl rfl) ?_
  refine WpL_nil ?_
  refine Wp_cond (b := decide ((s : Int) < 0)) rfl (fun hneg => ?_) (fun hneg => ?_)
  · have khneg := hneg
    replace hneg := of_decide_eq_true hneg
    refine Wp_seq_region ?_
    refine WpL_val rfl rfl (by decide) (r_assign (v := (.int .i64 (-1))) rfl) ?_
    refine WpL_nil ?_
    refine Wp_ret ?_
    refine thn_ret ?_
    refine fin_tmp Try.results67 (v := (.int .i64 (-1))) rfl ?_
    exact ⟨int_eq (by unfold atD; rw [if_pos hneg]), E⟩
  · have khneg := hneg
    replace hneg := of_decide_eq_false hneg
    obtain ⟨sN, hsN⟩ := Int.eq_ofNat_of_zero_le (show 0 ≤ s by omega)
    obtain ⟨ab, ao, rfl, hax⟩ := ints_cells hacc (by omega)
    obtain ⟨y, hy⟩ := get_of_lt (l := d.accept) (i := sN) (by omega)
    refine Wp_skip ?_
    refine thn_normal ?_
    refine Wp_seq_region ?_
    refine WpL_val rfl rfl (by decide) (r_fieldAddr (b := bq) (o := 0) (o' := 1) rfl Try.underlying25 rfl siz22 rfl) ?_
    refine WpL_val rfl rfl (by decide) (r_load (v := (.slice (some ⟨ab, ao, none⟩) d.accept.length ac)) rfl flat22 (Bq.cell rfl)) ?_
    refine WpL_val rfl rfl (by decide) (r_move (v := (.int .i64 s)) rfl) ?_
    refine WpL_val rfl rfl (by decide) (r_indexSlice (b := ab) (o := ao) (len := d.accept.length) (cap := ac) (i := sN) (o' := ao + sN) rfl rfl (by omega) Try.underlying22 siz3 (by omega) (by omega)) ?_
    refine WpL_val rfl rfl (by decide) (r_load (v := (.int .i64 y)) rfl flat3 (E.cell (fun f => f) (hax sN _ hy))) ?_
    refine WpL_val rfl rfl (by decide) (r_assign (v := (.int .i64 y)) rfl) ?_
    refine WpL_nil ?_
    refine Wp_ret ?_
    refine fin_tmp Try.results67 (v := (.int .i64 y)) rfl ?_
    exact ⟨int_eq (by rw [hsN, atD_get hy]), E⟩
theorem dfto_c (w0 : World) (n c : Nat) (d : Dfa) (dv : List Value) (s x : Int) (ok : OkD n c d) (h : DfaAt w0 d dv) (hs : s < n) (hx : 0 ≤ x ∧ x < c) :
    Ret Try.prog 66 #[.agg dv.toArray, .int .i64 s, .int .i64 x] w0 fun r w => r = .int .i64 (toD d s x.toNat) ∧ Ext w0 w := by
  obtain ⟨aa, ac, na, nc, rfl, hacc, hnxt⟩ := h
  have hnl := ok.nl
  obtain ⟨xN, rfl⟩ := Int.eq_ofNat_of_zero_le hx.1
  rw [Int.toNat_natCast]
  refine Ret_of Try.func66 rfl Try.ntmps66 (Nat.le_of_ble_eq_true rfl) ?_
  have E : Chg none1 w0 w0 := Chg.refl _ _
  refine Wp_seq_region ?_
  refine s_box (v := (.agg #[(.int .i64 d.start), (.slice aa d.accept.length ac), (.slice na d.next.length nc)])) (c := #[(.int .i64 d.start), (.slice aa d.accept.length ac), (.slice na d.next.length nc)]) (by decide) rfl rfl ?_
  intro bq wq Nq
  have Fq := Nq.ge E
  replace E := E.ext Nq.ext
  have Bq := Nq.blk
  refine WpL_val rfl rfl (by decide) (r_assign (v := (.int .i64 0)) rfl) ?_
  refine WpL_nil ?_
  refine Wp_seq ?_
  refine Wp_seq_region ?_
  refine WpL_val rfl rfl (by decide) (r_move (v := (.int .i64 s)) rfl) ?_
  refine WpL_val rfl rfl (by decide) (r_lss (k := .i64) (a := s) (b := 0) rfl rfl) ?_
  refine WpL_nil ?_
  refine Wp_cond (b := decide ((s : Int) < 0)) rfl (fun hneg => ?_) (fun hneg => ?_)
  · have khneg := hneg
    replace hneg := of_decide_eq_true hneg
    refine Wp_seq_region ?_
    refine WpL_val rfl rfl (by decide) (r_assign (v := (.int .i64 (-1))) rfl) ?_
    refine WpL_nil ?_
    refine Wp_ret ?_
    refine thn_ret ?_
    refine fin_tmp Try.results66 (v := (.int .i64 (-1))) rfl ?_
    exact ⟨int_eq (by rw [toD_neg hneg]), E⟩
  · have khneg := hneg
    replace hneg := of_decide_eq_false hneg
    obtain ⟨sN, hsN⟩ := Int.eq_ofNat_of_zero_le (show 0 ≤ s by omega)
    obtain ⟨nb, no, rfl, hnx⟩ := intss_cells hnxt (by omega)
    obtain ⟨row, hrow⟩ := get_of_lt (l := d.next) (i := sN) (by omega)
    have hrl := (ok.row row (List.mem_of_getElem? hrow)).1
    obtain ⟨ra, rc, hcell, hri⟩ := hnx sN row hrow
    obtain ⟨rb, ro, rfl, hrx⟩ := ints_cells hri (by omega)
    obtain ⟨y, hy⟩ := get_of_lt (l := row) (i := xN) (by omega)
    refine Wp_skip ?_
    refine thn_normal ?_
    refine Wp_seq_region ?_
    refine WpL_val rfl rfl (by decide) (r_fieldAddr (b := bq) (o := 0) (o' := 2) rfl Try.underlying25 rfl siz23 rfl) ?_
    refine WpL_val rfl rfl (by decide) (r_load (v := (.slice (some ⟨nb, no, none⟩) d.next.length nc)) rfl flat23 (Bq.cell rfl)) ?_
    refine WpL_val rfl rfl (by decide) (r_move (v := (.int .i64 s)) rfl) ?_
    refine WpL_val rfl rfl (by decide) (r_indexSlice (b := nb) (o := no) (len := d.next.length) (cap := nc) (i := sN) (o' := no + sN) rfl rfl (by omega) Try.underlying23 siz22 (by omega) (by omega)) ?_
    refine WpL_val rfl rfl (by decide) (r_load (v := (.slice (some ⟨rb, ro, none⟩) row.length rc)) rfl flat22 (E.cell (fun f => f) hcell)) ?_
    refine WpL_val rfl rfl (by decide) (r_move (v := (.int .i64 ((xN : Nat) : Int))) rfl) ?_
    refine WpL_val rfl rfl (by decide) (r_indexSlice (b := rb) (o := ro) (len := row.length) (cap := rc) (i := xN) (o' := ro + xN) rfl rfl rfl Try.underlying22 siz3 (by omega) (by omega)) ?_
    refine WpL_val rfl rfl (by decide) (r_load (v := (.int .i64 y)) rfl flat3 (E.cell (fun f => f) (hrx xN _ hy))) ?_
    refine WpL_val rfl rfl (by decide) (r_assign (v := (.int .i64 y)) rfl) ?_
    refine WpL_nil ?_
    refine Wp_ret ?_
    refine fin_tmp Try.results66 (v := (.int .i64 y)) rfl ?_
    exact ⟨int_eq (by rw [hsN, toD_get hrow hy]), E⟩
theorem dfrun1_c (w0 : World) (b n c : Nat) (d : Dfa) (dv : List Value) (x : Int) (ok : OkD n c d) (h : DfaAt w0 d dv) (hB : Blk w0 b dv.toArray 25) (hn : 1 ≤ n) (hc : c ≤ 16) :
    Ret Try.prog 65 #[.int .i64 x, .pointer (some ⟨b, 0, none⟩)] w0 fun r w => r = .bool (decide (x < 0) || decide ((c : Int) ≤ x)) ∧ Ext w0 w := by
  obtain ⟨aa, ac, na, nc, rfl, hacc, hnxt⟩ := h
  have hnl := ok.nl
  obtain ⟨nb, no, rfl, hnx⟩ := intss_cells hnxt (by omega)
  obtain ⟨row, hrow⟩ := get_of_lt (l := d.next) (i := 0) (by omega)
  have hrl := (ok.row row (List.mem_of_getElem? hrow)).1
  obtain ⟨ra, rc, hcell, hri⟩ := hnx 0 row hrow
  rw [hrl] at hcell hri
  refine Ret_of Try.func65 rfl Try.ntmps65 (Nat.le_of_ble_eq_true rfl) ?_
  have E : Chg none1 w0 w0 := Chg.refl _ _
  refine Wp_seq_region ?_
  refine WpL_val rfl rfl (by decide) (r_assign (v := (.bool false)) rfl) ?_
  refine WpL_nil ?_
  refine Wp_seq_region ?_
  refine WpL_val rfl rfl (by decide) (r_move (v := (.int .i64 x)) rfl) ?_
  refine WpL_val rfl rfl (by decide) (r_lss (k := .i64) (a := x) (b := 0) rfl rfl) ?_
  refine WpL_val rfl rfl (by decide) (r_move (v := (.bool (decide ((x : Int) < 0)))) rfl) ?_
  rcases Bool.eq_false_or_eq_true (decide ((x : Int) < 0)) with hneg | hneg
  · have khneg := hneg
    replace khneg := of_decide_eq_true khneg
    refine WpL_guard_no (oj := _) rfl rfl (by decide) (v := .bool true) (congrArg Value.bool hneg) (Or.inl rfl) ?_
    refine WpL_guard_no (oj := _) rfl rfl (by decide) (v := .bool true) (congrArg Value.bool hneg) (Or.inl rfl) ?_
    refine WpL_guard_no (oj := _) rfl rfl (by decide) (v := .bool true) (congrArg Value.bool hneg) (Or.inl rfl) ?_
    refine WpL_guard_no (oj := _) rfl rfl (by decide) (v := .bool true) (congrArg Value.bool hneg) (Or.inl rfl) ?_
    refine WpL_guard_no (oj := _) rfl rfl (by decide) (v := .bool true) (congrArg Value.bool hneg) (Or.inl rfl) ?_
    refine WpL_guard_no (oj := _) rfl rfl (by decide) (v := .bool true) (congrArg Value.bool hneg) (Or.inl rfl) ?_
    refine WpL_guard_no (oj := _) rfl rfl (by decide) (v := .bool true) (congrArg Value.bool hneg) (Or.inl rfl) ?_
    refine WpL_val rfl rfl (by decide) (r_pick (b := decide ((x : Int) < 0)) (v := (.bool true)) rfl (by rw [hneg]; rfl)) ?_
    refine WpL_val rfl rfl (by decide) (r_assign (v := (.bool true)) rfl) ?_
    refine WpL_nil ?_
    refine Wp_ret ?_
    refine fin_tmp Try.results65 (v := (.bool true)) rfl ?_
    exact ⟨bool_eq (by simp [hneg]), E⟩
  · have khneg := hneg
    replace khneg := of_decide_eq_false khneg
    refine WpL_guard_yes (oj := _) rfl rfl (by decide) (congrArg Value.bool hneg) ?_
    refine WpL_val rfl rfl (by decide) (r_move (v := (.int .i64 x)) rfl) ?_
    refine WpL_guard_yes (oj := _) rfl rfl (by decide) (congrArg Value.bool hneg) ?_
    refine WpL_val rfl rfl (by decide) (r_fieldAddr (b := b) (o := 0) (o' := 2) rfl Try.underlying25 rfl siz23 rfl) ?_
    refine WpL_guard_yes (oj := _) rfl rfl (by decide) (congrArg Value.bool hneg) ?_
    refine WpL_val rfl rfl (by decide) (r_load (v := (.slice (some ⟨nb, no, none⟩) d.next.length nc)) rfl flat23 (hB.cell rfl)) ?_
    refine WpL_guard_yes (oj := _) rfl rfl (by decide) (congrArg Value.bool hneg) ?_
    refine WpL_val rfl rfl (by decide) (r_indexSlice (b := nb) (o := no) (len := d.next.length) (cap := nc) (i := 0) (o' := no + 0) rfl rfl rfl Try.underlying23 siz22 (by omega) (by omega)) ?_
    refine WpL_guard_yes (oj := _) rfl rfl (by decide) (congrArg Value.bool hneg) ?_
    refine WpL_val rfl rfl (by decide) (r_load (v := (.slice ra c rc)) rfl flat22 (E.cell (fun f => f) hcell)) ?_
    refine WpL_guard_yes (oj := _) rfl rfl (by decide) (congrArg Value.bool hneg) ?_
    refine WpL_val rfl rfl (by decide) (r_lenSlice (ad := ra) (n := c) (cap := rc) Try.underlying22 rfl) ?_
    refine WpL_guard_yes (oj := _) rfl rfl (by decide) (congrArg Value.bool hneg) ?_
    refine WpL_val rfl rfl (by decide) (r_geq (k := .i64) (a := x) (b := ((c : Nat) : Int)) rfl rfl) ?_
    refine WpL_val rfl rfl (by decide) (r_pick (b := decide ((x : Int) < 0)) (v := (.bool (decide ((((c : Nat) : Int) : Int) ≤ x)))) rfl (by rw [hneg]; rfl)) ?_
    refine WpL_val rfl rfl (by decide) (r_assign (v := (.bool (decide ((((c : Nat) : Int) : Int) ≤ x)))) rfl) ?_
    refine WpL_nil ?_
    refine Wp_ret ?_
    refine fin_tmp Try.results65 (v := (.bool (decide ((((c : Nat) : Int) : Int) ≤ x)))) rfl ?_
    exact ⟨bool_eq (by simp [hneg]), E⟩
theorem dfflag_c (b : Bool) (w0 : World) : Ret Try.prog 92 #[.bool b] w0 fun r w => r = .int .i64 (if b = true then 0 else -1) ∧ Ext w0 w := by
  refine Ret_of Try.func92 rfl Try.ntmps92 (Nat.le_of_ble_eq_true rfl) ?_
  have E : Chg none1 w0 w0 := Chg.refl _ _
  refine Wp_seq_region ?_
  refine WpL_val rfl rfl (by decide) (r_assign (v := (.int .i64 0)) rfl) ?_
  refine WpL_nil ?_
  refine Wp_seq ?_
  refine Wp_seq_region ?_
  refine WpL_val rfl rfl (by decide) (r_move (v := (.bool b)) rfl) ?_
  refine WpL_nil ?_
  refine Wp_cond (b := b) rfl (fun hb => ?_) (fun hb => ?_)
  · have khb := hb
    refine Wp_seq_region ?_
    refine WpL_val rfl rfl (by decide) (r_assign (v := (.int .i64 0)) rfl) ?_
    refine WpL_nil ?_
    refine Wp_ret ?_
    refine thn_ret ?_
    refine fin_tmp Try.results92 (v := (.int .i64 0)) rfl ?_
    exact ⟨int_eq (by rw [if_pos hb]), E⟩
  · have khb := hb
    refine Wp_skip ?_
    refine thn_normal ?_
    refine Wp_seq_region ?_
    refine WpL_val rfl rfl (by decide) (r_assign (v := (.int .i64 (-1))) rfl) ?_
    refine WpL_nil ?_
    refine Wp_ret ?_
    refine fin_tmp Try.results92 (v := (.int .i64 (-1))) rfl ?_
    exact ⟨int_eq (by rw [hb]; rfl), E⟩
theorem dfrun_c (w0 : World) (n c : Nat) (d : Dfa) (dv : List Value) (v : Value) (l : List Int) (ok : OkD n c d) (h : DfaAt w0 d dv) (hn : 1 ≤ n ∧ n ≤ 200) (hc : 1 ≤ c ∧ c ≤ 16) (hl : IntsAt w0 v l) (hll : l.length ≤ 4000) (hlx : ∀ x ∈ l, 0 ≤ x ∧ x < c) :
    Ret Try.prog 31 #[.agg dv.toArray, v] w0 fun r w => r = .tuple #[.int .i64 (beh d d.start (l.map Int.toNat)), .int .i64 0] ∧ Ext w0 w := by
  have hdfa := h
  obtain ⟨aa, ac, na, nc, rfl, hacc, hnxt⟩ := h
  have hnl := ok.nl
  have hal := ok.al
  have hst := ok.st
  obtain ⟨va, vc, rfl⟩ := SlAt.form hl
  simp only [List.length_map] at hl ⊢
  have hany : (l.any fun x => decide (x < 0) || decide ((c : Int) ≤ x)) = false := by
    rw [List.any_eq_false]
    intro x hx
    have := hlx x hx
    simp only [Bool.or_eq_true, decide_eq_true_eq]; omega
  refine Ret_of Try.func31 rfl Try.ntmps31 (Nat.le_of_ble_eq_true rfl) ?_
  have E : Chg none1 w0 w0 := Chg.refl _ _
  refine Wp_seq_region ?_
  refine s_box (v := (.agg #[(.int .i64 d.start), (.slice aa d.accept.length ac), (.slice na d.next.length nc)])) (c := #[(.int .i64 d.start), (.slice aa d.accept.length ac), (.slice na d.next.length nc)]) (by decide) rfl rfl ?_
  intro bq wq Nq
  have Fq := Nq.ge E
  replace E := E.ext Nq.ext
  have Bq := Nq.blk
  refine WpL_val rfl rfl (by decide) (r_assign (v := (.int .i64 0)) rfl) ?_
  refine WpL_val rfl rfl (by decide) (r_assign (v := (.int .i64 0)) rfl) ?_
  refine WpL_nil ?_
  refine Wp_seq ?_
  refine Wp_seq_region ?_
  refine WpL_val rfl rfl (by decide) (r_loadAgg (vs := [(.int .i64 d.start), (.slice aa d.accept.length ac), (.slice na d.next.length nc)]) rfl agg25 siz25 rfl (Bq.cells rfl)) ?_
  refine WpL_enter rfl rfl (by decide) (r_callF (vs := [(.agg #[(.int .i64 d.start), (.slice aa d.accept.length ac), (.slice na d.next.length nc)])]) Try.func50 nm50 bd50 rfl) (dcheck_c _ d _ (hdfa.ext E)) ?_
  rintro _ w9 ⟨rfl, X9⟩
  replace Bq := X9.keep Bq
  replace E := E.ext X9
  refine WpL_val rfl rfl (by decide) (r_assign (v := (.int .i64 (checkD d))) rfl) ?_
  refine WpL_nil ?_
  refine Wp_seq_region ?_
  refine WpL_val rfl rfl (by decide) (r_move (v := (.int .i64 (checkD d))) rfl) ?_
  refine WpL_val rfl rfl (by decide) (r_neq (k := .i64) (a := checkD d) (b := 0) rfl rfl) ?_
  refine WpL_nil ?_
  have hc1 : (decide ((checkD d : Int) ≠ 0)) = false := decide_eq_false (by rw [okD_check ok hn hc]; decide)
  refine Wp_cond_false (congrArg Value.bool hc1) ?_
  refine Wp_skip ?_
  refine thn_normal ?_
  refine Wp_seq ?_
  refine Wp_seq_region ?_
  refine WpL_val rfl rfl (by decide) (r_move (v := (.slice va l.length vc)) rfl) ?_
  refine WpL_val rfl rfl (by decide) (r_lenSlice (ad := va) (n := l.length) (cap := vc) Try.underlying22 rfl) ?_
  refine WpL_val rfl rfl (by decide) (r_gtr (k := .i64) (a := ((l.length : Nat) : Int)) (b := 4000) rfl rfl) ?_
  refine WpL_nil ?_
  have hc2 : (decide ((4000 : Int) < ((l.length : Nat) : Int))) = false := decide_eq_false (by omega)
  refine Wp_cond_false (congrArg Value.bool hc2) ?_
  refine Wp_skip ?_
  refine thn_normal ?_
  refine Wp_seq ?_
  refine Wp_seq_region ?_
  refine WpL_val rfl rfl (by decide) (r_move (v := (.slice va l.length vc)) rfl) ?_
  refine WpL_val rfl rfl (by decide) (r_makeFunc (vs := []) (us := [(.pointer (some ⟨bq, 0, none⟩))]) rfl rfl) ?_
  refine WpL_enter rfl rfl (by decide) (r_callF (vs := [(.slice va l.length vc), (.func (.func 65) #[] #[(.pointer (some ⟨bq, 0, none⟩))])]) Try.func64 nm64 bd64 rfl) (ints_has_c _ _ _ l (fun x => decide (x < 0) || decide ((c : Int) ≤ x)) (hl.ext E) (fun w x hE _ => CallV.mk (first := #[]) (cap := #[.pointer (some ⟨bq, 0, none⟩)]) Try.func65 nm65 bd65 rfl (dfrun1_c w bq n c d _ x ok (hdfa.ext (E.trans hE)) (hE.keep Bq) hn.1 hc.2))) ?_
  rintro _ w19 ⟨rfl, X19⟩
  replace Bq := X19.keep Bq
  replace E := E.ext X19
  refine WpL_nil ?_
  have hc3 : ((l.any fun x => decide (x < 0) || decide ((c : Int) ≤ x))) = false := hany
  refine Wp_cond_false (congrArg Value.bool hc3) ?_
  refine Wp_skip ?_
  refine thn_normal ?_
  refine Wp_seq_region ?_
  refine WpL_val rfl rfl (by decide) (r_fieldAddr (b := bq) (o := 0) (o' := 0) rfl Try.underlying25 rfl siz3 rfl) ?_
  refine WpL_val rfl rfl (by decide) (r_load (v := (.int .i64 d.start)) rfl flat3 (Bq.cell rfl)) ?_
  refine WpL_val rfl rfl (by decide) (r_assign (v := (.int .i64 d.start)) rfl) ?_
  refine WpL_nil ?_
  refine Wp_seq ?_
  refine Wp_seq_region ?_
  refine WpL_val rfl rfl (by decide) (r_move (v := (.slice va l.length vc)) rfl) ?_
  refine WpL_val rfl rfl (by decide) (r_lenSlice (ad := va) (n := l.length) (cap := vc) Try.underlying22 rfl) ?_
  refine WpL_val rfl rfl (by decide) (r_move (v := (.int .i64 0)) rfl) ?_
  refine WpL_nil ?_
  refine Wp_block ?_
  refine Wp_loop (fun nn_ σ W4 => ∃ (k : Nat) (s : Int), (∃ jj_, σ = upds jj_ [(2, (.pointer (some ⟨bq, 0, none⟩))), (23, (.slice va l.length vc)), (24, (.int .i64 ((l.length : Nat) : Int))), (25, (.int .i64 ((k : Nat) : Int))), (7, (.int .i64 s))]) ∧ Chg none1 w0 W4 ∧ Blk W4 bq #[(.int .i64 d.start), (.slice aa d.accept.length ac), (.slice na d.next.length nc)] 25 ∧ (k ≤ l.length) ∧ (s = runS d d.start (l.take k)) ∧ nn_ = l.length - k) (n := l.length - 0) ?_ ?_
  · exact ⟨0, d.start, Fits.out ⟨rfl, rfl, rfl, rfl, rfl, trivial⟩, E, Bq, Nat.zero_le _, rfl, rfl⟩
  · clear E Bq
    rintro _ _ W4 ⟨k, s, ⟨j4, rfl⟩, E, Bq, hk, hs, rfl⟩
    refine Wp_seq_region ?_
    refine WpL_val rfl rfl (by decide) (r_lss (k := .i64) (a := ((k : Nat) : Int)) (b := ((l.length : Nat) : Int)) rfl rfl) ?_
    refine WpL_nil ?_
    refine Wp_seq ?_
    refine Wp_cond (b := decide ((((k : Nat) : Int) : Int) < ((l.length : Nat) : Int))) rfl (fun hlt => ?_) (fun hlt => ?_)
    · have khlt := hlt
      replace hlt := of_decide_eq_true hlt
      obtain ⟨x, hx⟩ := get_of_lt (l := l) (i := k) (by omega)
      obtain ⟨vb, vo, rfl, hvx⟩ := ints_cells hl (by omega)
      have hsb := ok.run (l.take k)
      refine Wp_skip ?_
      refine thn_normal ?_
      refine Wp_seq ?_
      refine Wp_block ?_
      refine Wp_seq_region ?_
      refine WpL_val rfl rfl (by decide) (r_indexSlice (b := vb) (o := vo) (len := l.length) (cap := vc) (i := k) (o' := vo + k) rfl rfl rfl Try.underlying22 siz3 (by omega) (by omega)) ?_
      refine WpL_val rfl rfl (by decide) (r_load (v := (.int .i64 x)) rfl flat3 (E.cell (fun f => f) (hvx k x hx))) ?_
      refine WpL_val rfl rfl (by decide) (r_assign (v := (.int .i64 x)) rfl) ?_
      refine WpL_nil ?_
      refine Wp_region ?_
      refine WpL_val rfl rfl (by decide) (r_loadAgg (vs := [(.int .i64 d.start), (.slice aa d.accept.length ac), (.slice na d.next.length nc)]) rfl agg25 siz25 rfl (Bq.cells rfl)) ?_
      refine WpL_val rfl rfl (by decide) (r_move (v := (.int .i64 s)) rfl) ?_
      refine WpL_val rfl rfl (by decide) (r_move (v := (.int .i64 x)) rfl) ?_
      refine WpL_enter rfl rfl (by decide) (r_callF (vs := [(.agg #[(.int .i64 d.start), (.slice aa d.accept.length ac), (.slice na d.next.length nc)]), (.int .i64 s), (.int .i64 x)]) Try.func66 nm66 bd66 rfl) (dfto_c _ n c d _ s x ok (hdfa.ext E) (by omega) (hlx x (List.mem_of_getElem? hx))) ?_
      rintro _ w29 ⟨rfl, X29⟩
      replace Bq := X29.keep Bq
      replace E := E.ext X29
      refine WpL_val rfl rfl (by decide) (r_assign (v := (.int .i64 (toD d s x.toNat))) rfl) ?_
      refine WpL_nil ?_
      refine inB_normal ?_
      refine thn_normal ?_
      refine Wp_region ?_
      refine WpL_val rfl rfl (by decide) (r_add (k := .i64) (a := ((k : Nat) : Int)) (b := 1) (c := ((k : Nat) : Int) + 1) rfl rfl (wI64 (by omega))) ?_
      refine WpL_val rfl rfl (by decide) (r_move (v := (.int .i64 (((k : Nat) : Int) + 1))) rfl) ?_
      refine WpL_nil ?_
      refine thn_normal ?_
      exact ⟨l.length - (k + 1), by omega, k + 1, toD d s x.toNat, Fits.out ⟨rfl, rfl, rfl, rfl, rfl, trivial⟩, E, Bq, (by omega), (by rw [runS_succ hx, hs]), rfl⟩
    · have khlt := hlt
      replace hlt := of_decide_eq_false hlt
      have hkk : k = l.length := by omega
      have hsb := ok.run (l.take k)
      refine Wp_exit ?_
      refine thn_exit ?_
      refine thn_exit ?_
      refine inB_here ?_
      refine thn_normal ?_
      refine Wp_seq_region ?_
      refine WpL_val rfl rfl (by decide) (r_loadAgg (vs := [(.int .i64 d.start), (.slice aa d.accept.length ac), (.slice na d.next.length nc)]) rfl agg25 siz25 rfl (Bq.cells rfl)) ?_
      refine WpL_val rfl rfl (by decide) (r_move (v := (.int .i64 s)) rfl) ?_
      refine WpL_enter rfl rfl (by decide) (r_callF (vs := [(.agg #[(.int .i64 d.start), (.slice aa d.accept.length ac), (.slice na d.next.length nc)]), (.int .i64 s)]) Try.func67 nm67 bd67 rfl) (dfat_c _ d _ s (hdfa.ext E) (by omega)) ?_
      rintro _ w39 ⟨rfl, X39⟩
      replace Bq := X39.keep Bq
      replace E := E.ext X39
      refine WpL_val rfl rfl (by decide) (r_assign (v := (.int .i64 (atD d s))) rfl) ?_
      refine WpL_val rfl rfl (by decide) (r_assign (v := (.int .i64 0)) rfl) ?_
      refine WpL_nil ?_
      refine Wp_ret ?_
      refine fin_tmp2 Try.results31 (v := (.int .i64 (atD d s))) (v' := (.int .i64 0)) rfl rfl ?_
      exact ⟨by rw [beh_run, hs, hkk, List.take_length], E⟩
end Go.Proofs
