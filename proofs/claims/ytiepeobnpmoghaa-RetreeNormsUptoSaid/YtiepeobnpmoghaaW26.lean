/- Contracts: lists of expressions flattened, and those of a kind deleted. -/
import Derived.Test.YtiepeobnpmoghaaW25
namespace Go.Proofs
open Go Go.Eng
set_option maxRecDepth 100000

def RowsIn (S : Nat → Prop) (w : World) : List Re → List (List Value) → Prop
  | [], rows => rows = []
  | t :: ts, rows => ∃ r rs, rows = r :: rs ∧ ReIn S w t r ∧ RowsIn S w ts rs
theorem RowsIn.ext {S : Nat → Prop} {w w' : World} (e : Ext w w') : ∀ {ts : List Re} {rows : List (List Value)}, RowsIn S w ts rows → RowsIn S w' ts rows
  | [], _, h => h
  | t :: ts, rows, h => by
    obtain ⟨r, rs, h1, h2, h3⟩ := h
    exact ⟨r, rs, h1, ReIn.ext e t h2, RowsIn.ext e h3⟩
theorem RowsIn.len {S : Nat → Prop} {w : World} : ∀ {ts : List Re} {rows : List (List Value)}, RowsIn S w ts rows → rows.length = ts.length
  | [], _, h => by simp only [RowsIn] at h; subst h; rfl
  | t :: ts, rows, h => by
    obtain ⟨r, rs, rfl, _, h3⟩ := h
    simp [RowsIn.len h3]
theorem RowsIn.six {S : Nat → Prop} {w : World} : ∀ {ts : List Re} {rows : List (List Value)}, RowsIn S w ts rows → ∀ r ∈ rows, r.length = 6
  | [], _, h => by simp only [RowsIn] at h; subst h; simp
  | t :: ts, rows, h => by
    obtain ⟨r, rs, rfl, h2, h3⟩ := h
    intro q hq
    rcases List.mem_cons.1 hq with rfl | hq
    · exact h2.len
    · exact RowsIn.six h3 q hq
theorem RowsIn.one {S : Nat → Prop} {w : World} : ∀ {ts : List Re} {rows : List (List Value)}, RowsIn S w ts rows → ∀ u ∈ rows.flatten, u.oneCell' = true
  | [], _, h => by simp only [RowsIn] at h; subst h; simp
  | t :: ts, rows, h => by
    obtain ⟨r, rs, rfl, h2, h3⟩ := h
    intro u hu
    rw [List.flatten_cons, List.mem_append] at hu
    rcases hu with hu | hu
    · exact ReAt.one (ReIn.at t h2) u hu
    · exact RowsIn.one h3 u hu
theorem RowsIn.get {S : Nat → Prop} {w : World} : ∀ {ts : List Re} {rows : List (List Value)}, RowsIn S w ts rows → ∀ {i : Nat} {t : Re}, ts[i]? = some t → ∃ r, rows[i]? = some r ∧ ReIn S w t r
  | [], _, _, i, t, hi => by simp at hi
  | t :: ts, rows, h, i, u, hi => by
    obtain ⟨r, rs, rfl, h2, h3⟩ := h
    cases i with
    | zero => simp at hi; subst hi; exact ⟨r, rfl, h2⟩
    | succ i => simp at hi; obtain ⟨q, h4, h5⟩ := RowsIn.get h3 hi; exact ⟨q, by simpa using h4, h5⟩
theorem RowsIn.append {S : Nat → Prop} {w : World} {us : List Re} {qs : List (List Value)} (hu : RowsIn S w us qs) : ∀ {ts : List Re} {rows : List (List Value)}, RowsIn S w ts rows → RowsIn S w (ts ++ us) (rows ++ qs)
  | [], _, h => by simp only [RowsIn] at h; subst h; simpa using hu
  | t :: ts, rows, h => by
    obtain ⟨r, rs, rfl, h2, h3⟩ := h
    exact ⟨r, rs ++ qs, rfl, h2, RowsIn.append hu h3⟩
theorem RowsIn.single {S : Nat → Prop} {w : World} {t : Re} {r : List Value} (h : ReIn S w t r) : RowsIn S w [t] [r] := ⟨r, [], rfl, h, rfl⟩
theorem ResIn.rows {S : Nat → Prop} {w : World} {b : Nat} : ∀ {ts : List Re} {o : Nat}, ResIn S w b o ts → ∃ rows, RowsIn S w ts rows ∧ CellsAt w b o rows.flatten
  | [], _, _ => ⟨[], rfl, fun i v hv => by simp at hv⟩
  | t :: ts, o, h => by
    simp only [ResIn] at h
    obtain ⟨⟨vs, h1, h2⟩, h3⟩ := h
    obtain ⟨rows, h4, h5⟩ := ResIn.rows h3
    refine ⟨vs :: rows, ⟨vs, rows, rfl, h2, h4⟩, fun i v hv => ?_⟩
    have hl := h2.len
    rw [List.flatten_cons] at hv
    rcases Nat.lt_or_ge i 6 with hi | hi
    · rw [List.getElem?_append_left (by omega)] at hv
      exact h1 i v hv
    · rw [List.getElem?_append_right (by omega)] at hv
      have := h5 (i - vs.length) v hv
      rwa [show o + 6 + (i - vs.length) = o + i from by omega] at this
def RsIn (S : Nat → Prop) (w : World) (v : Value) (ts : List Re) : Prop := ∃ aa ac, v = .slice aa ts.length ac ∧ (ts.length ≤ ac ∧ ac ≤ 9223372036854775807) ∧ (ts = [] ∨ ∃ b o, S b ∧ aa = some ⟨b, o, none⟩ ∧ ResIn S w b o ts)
theorem RsIn.cells {S : Nat → Prop} {w : World} {aa : Option Addr} {n ac : Nat} {ts : List Re} (h : RsIn S w (.slice aa n ac) ts) (hn : 0 < n) : ∃ b o, aa = some ⟨b, o, none⟩ ∧ ∀ i t, ts[i]? = some t → ∃ vs, CellsAt w b (o + i * 6) vs ∧ ReIn S w t vs := by
  obtain ⟨aa', ac', h1, h2, h3⟩ := h
  simp only [Value.slice.injEq] at h1
  obtain ⟨rfl, rfl, rfl⟩ := h1
  rcases h3 with rfl | ⟨b, o, _, h4, h5⟩
  · simp at hn
  · exact ⟨b, o, h4, fun i t ht => ResIn.get h5 ht⟩
/-- Rows of one's own, read as expressions. -/
theorem own_res {S : Nat → Prop} {w : World} {base n : Nat} {a : Option Addr} {c : Nat} {ts : List Re} {rows : List (List Value)} (h : w.ownsRow base TRe 6 (.slice a n c) n rows.flatten) (hr : RowsIn S w ts rows) (hn : ts.length = n) : (n ≤ c ∧ c ≤ 9223372036854775807) ∧ (ts = [] ∨ ∃ b, base ≤ b ∧ b < w.heap.size ∧ a = some ⟨b, 0, none⟩ ∧ ∀ i t, ts[i]? = some t → ∃ vs, CellsAt w b (0 + i * 6) vs ∧ ReIn S w t vs) := by
  rcases h.2 with ⟨h1, h2⟩ | ⟨g, cap, cur, h1, h2, h3, h4, h5, h6, h7⟩
  · simp only [Value.slice.injEq] at h1
    obtain ⟨rfl, rfl, rfl⟩ := h1
    exact ⟨by simp, .inl (List.eq_nil_of_length_eq_zero hn)⟩
  · simp only [Value.slice.injEq] at h1
    obtain ⟨rfl, _, rfl⟩ := h1
    simp only [maxLen] at h5
    refine ⟨⟨h4, by omega⟩, .inr ⟨g, h2, (h.lt g rfl).2, rfl, fun i t ht => ?_⟩⟩
    obtain ⟨r, h8, h9⟩ := hr.get ht
    have hb : Blk w g (rows.flatten ++ cur.toList.drop (n * 6)).toArray TRe := by
      have : (rows.flatten ++ cur.toList.drop (n * 6)).toArray = cur := by rw [← h7, List.take_append_drop]
      rw [this]; exact h3
    exact ⟨r, by rw [Nat.zero_add]; exact rows_at hb hr.six h8, h9⟩
theorem own_rs {S : Nat → Prop} {w : World} {base n : Nat} {a : Option Addr} {c : Nat} {ts : List Re} {rows : List (List Value)} (h : w.ownsRow base TRe 6 (.slice a n c) n rows.flatten) (hr : RowsIn S w ts rows) (hn : ts.length = n) : RsAt w (.slice a n c) ts := by
  obtain ⟨h1, h2⟩ := own_res h hr hn
  refine ⟨a, c, by rw [hn], by rw [hn]; exact h1, ?_⟩
  rcases h2 with h | ⟨b, _, _, h4, h5⟩
  · exact .inl h
  · exact .inr ⟨b, 0, h4, ResAt.mk fun i t ht => by obtain ⟨vs, h6, h7⟩ := h5 i t ht; exact ⟨vs, h6, ReIn.at t h7⟩⟩

theorem len_sizes : ∀ ts : List Re, ts.length ≤ Re.sizes ts
  | [] => by simp
  | x :: xs => by have := x.size_pos; have := len_sizes xs; simp only [List.length_cons, Re.sizes]; omega
theorem flat_snoc (k : Int) (ts : List Re) (x : Re) : flatT k (ts ++ [x]) = flatT k ts ++ (if x.kind = k then x.args else [x]) := by simp [flatT]
theorem flat_take {k : Int} {ts : List Re} {j : Nat} {x : Re} (hx : ts[j]? = some x) : flatT k (ts.take (j + 1)) = flatT k (ts.take j) ++ (if x.kind = k then x.args else [x]) := by
  rw [List.take_add_one, hx]; exact flat_snoc k _ x
theorem flat_le (k : Int) (ts : List Re) (j : Nat) : (flatT k (ts.take j)).length ≤ Re.sizes ts := by
  have h1 := len_sizes (flatT k (ts.take j))
  have h2 := sizes_flat k (ts.take j)
  have h3 : Re.sizes ts = Re.sizes (ts.take j) + Re.sizes (ts.drop j) := by rw [← Re.sizes_append, List.take_append_drop]
  omega

set_option maxHeartbeats 1000000 in
theorem flat_c (w0 : World) (S : Nat → Prop) (k : Int) (v : Value) (ts : List Re) (h : RsIn S w0 v ts) (hne : ∀ x ∈ ts, x.kind = k → x.args ≠ []) (hsz : Re.sizes ts ≤ 1000000) :
    Ret Try.prog 37 #[.int .i64 k, v] w0 fun r w => ∃ la lc rows, r = .slice la (flatT k ts).length lc ∧ w.ownsRow w0.heap.size TRe 6 r (flatT k ts).length rows.flatten ∧ RowsIn S w0 (flatT k ts) rows ∧ Ext w0 w := by
  have h0 := h
  obtain ⟨aa, ac, rfl, hac, _⟩ := h
  have hls := len_sizes ts
  obtain ⟨base, hbase⟩ : ∃ base, base = w0.heap.size := ⟨_, rfl⟩
  refine Ret_of Try.func37 rfl Try.ntmps37 (Nat.le_of_ble_eq_true rfl) ?_
  have E : Chg none1 w0 w0 := Chg.refl _ _
  refine Wp_seq_region ?_
  refine WpL_val rfl rfl (by decide) (r_assign (v := (.slice none 0 0)) rfl) ?_
  refine WpL_nil ?_
  refine Wp_seq_region ?_
  refine WpL_val rfl rfl (by decide) (r_assign (v := (.slice none 0 0)) rfl) ?_
  refine WpL_nil ?_
  refine Wp_seq ?_
  refine Wp_seq_region ?_
  refine WpL_val rfl rfl (by decide) (r_move (v := (.slice aa ts.length ac)) rfl) ?_
  refine WpL_val rfl rfl (by decide) (r_lenSlice (ad := aa) (n := ts.length) (cap := ac) Try.underlying23 rfl) ?_
  refine WpL_val rfl rfl (by decide) (r_move (v := (.int .i64 0)) rfl) ?_
  refine WpL_nil ?_
  refine Wp_block ?_
  refine Wp_loop (fun nn_ σ W1 => ∃ (j : Nat) (la : Option Addr) (lc : Nat) (m : Nat) (rows : List (List Value)), (∃ jj_, σ = upds jj_ [(0, (.int .i64 k)), (8, (.slice aa ts.length ac)), (9, (.int .i64 ((ts.length : Nat) : Int))), (10, (.int .i64 ((j : Nat) : Int))), (5, (.slice la m lc))]) ∧ Chg none1 w0 W1 ∧ (j ≤ ts.length) ∧ (W1.ownsRow base TRe 6 (.slice la m lc) m rows.flatten) ∧ (m = (flatT k (ts.take j)).length) ∧ (RowsIn S w0 (flatT k (ts.take j)) rows) ∧ (base ≤ W1.heap.size) ∧ nn_ = ts.length - j) (n := ts.length - 0) ?_ ?_
  · exact ⟨0, none, 0, 0, [], Fits.out ⟨rfl, rfl, rfl, rfl, rfl, trivial⟩, E, Nat.zero_le _, World.ownsRow_nil _ _ _ _, rfl, rfl, (by omega), rfl⟩
  · clear E
    rintro _ _ W1 ⟨j, la, lc, m, rows, ⟨j1, rfl⟩, E, hj, hown, hm, hrs, hbs, rfl⟩
    refine Wp_seq_region ?_
    refine WpL_val rfl rfl (by decide) (r_lss (k := .i64) (a := ((j : Nat) : Int)) (b := ((ts.length : Nat) : Int)) rfl rfl) ?_
    refine WpL_nil ?_
    refine Wp_seq ?_
    refine Wp_cond (b := decide ((((j : Nat) : Int) : Int) < ((ts.length : Nat) : Int))) rfl (fun hlt => ?_) (fun hlt => ?_)
    · have khlt := hlt
      replace hlt := of_decide_eq_true hlt
      obtain ⟨x, hx⟩ := get_of_lt (l := ts) (i := j) (by omega)
      obtain ⟨b, o, rfl, hcl⟩ := h0.cells (by omega)
      obtain ⟨xs, hcx, hrx⟩ := hcl j x hx
      have hrx0 := hrx
      obtain ⟨xsa, xsc, xaa, xac, rfl, _, _, hxa⟩ := hrx.form
      have hft := flat_take (k := k) hx
      have hfl := flat_le k ts (j + 1)
      rcases Bool.eq_false_or_eq_true (decide ((x.kind : Int) = k)) with hxk | hxk
      · have khxk := hxk
        replace khxk := of_decide_eq_true khxk
        rw [if_pos khxk] at hft
        obtain ⟨xb, xo, _, rfl, hxr⟩ := hxa.resolve_left (hne x (List.mem_of_getElem? hx) khxk)
        obtain ⟨qs, hqs, hqc⟩ := ResIn.rows hxr
        rw [hft, List.length_append] at hfl
        refine Wp_skip ?_
        refine thn_normal ?_
        refine Wp_seq ?_
        refine Wp_block ?_
        refine Wp_seq_region ?_
        refine WpL_val rfl rfl (by decide) (r_indexSlice (b := b) (o := o) (len := ts.length) (cap := ac) (i := j) (o' := o + j * 6) rfl rfl rfl Try.underlying23 siz25 (by omega) (by omega)) ?_
        refine WpL_val rfl rfl (by decide) (r_loadAgg (vs := [(.int .i64 x.kind), (.slice xsa x.set.length xsc), (.slice (some ⟨xb, xo, none⟩) x.args.length xac), (.int .i64 x.mn), (.int .i64 x.mx), (.bool x.neg)]) rfl agg25 siz25 rfl (hcx.ext E)) ?_
        refine s_allocStore (v := (.agg #[(.int .i64 x.kind), (.slice xsa x.set.length xsc), (.slice (some ⟨xb, xo, none⟩) x.args.length xac), (.int .i64 x.mn), (.int .i64 x.mx), (.bool x.neg)])) (c := #[(.int .i64 x.kind), (.slice xsa x.set.length xsc), (.slice (some ⟨xb, xo, none⟩) x.args.length xac), (.int .i64 x.mn), (.int .i64 x.mx), (.bool x.neg)]) (n := 6) (by decide) zer25 rfl siz25 rfl rfl rfl (by simp [Value.oneCell']) ?_
        intro b3 w3 N3
        have F3 := N3.ge E
        replace hown := own_ext hown N3.ext
        replace hbs := Nat.le_trans hbs N3.ext.size
        replace E := E.ext N3.ext
        have B3 := N3.blk
        refine WpL_nil ?_
        refine Wp_seq_region ?_
        refine WpL_val rfl rfl (by decide) (r_fieldAddr (b := b3) (o := 0) (o' := 0) rfl Try.underlying25 rfl siz3 rfl) ?_
        refine WpL_val rfl rfl (by decide) (r_load (v := (.int .i64 x.kind)) rfl flat3 (B3.cell rfl)) ?_
        refine WpL_val rfl rfl (by decide) (r_move (v := (.int .i64 k)) rfl) ?_
        refine WpL_val rfl rfl (by decide) (r_eql (k := .i64) (a := x.kind) (b := k) rfl rfl) ?_
        refine WpL_nil ?_
        refine Wp_cond_true (congrArg Value.bool hxk) ?_
        refine Wp_region ?_
        refine WpL_val rfl rfl (by decide) (r_move (v := (.slice la m lc)) rfl) ?_
        refine WpL_val rfl rfl (by decide) (r_fieldAddr (b := b3) (o := 0) (o' := 2) rfl Try.underlying25 rfl siz23 rfl) ?_
        refine WpL_val rfl rfl (by decide) (r_load (v := (.slice (some ⟨xb, xo, none⟩) x.args.length xac)) rfl flat23 (B3.cell rfl)) ?_
        refine s_append (base := base) (n := m) (m := x.args.length) (xs := rows.flatten) (news := qs.flatten) (size := 6) (bytes := 80) (v := (.slice la m lc)) (by decide) Try.underlying23 siz25 byt25 zer25 rfl (by decide) rfl hown rfl (by rw [rows_len hqs.six, hqs.len]) (hqc.ext E) (hqs.one) (by unfold maxLen; omega) (by omega) (hbs) ?_
        intro v9 w29 Ov9 Cv9 Dv9
        replace E := E.step Cv9 (fun x hx h => absurd (hown.lt x h).1 (by omega))
        obtain ⟨la2, lc2, rfl⟩ := own_form Ov9
        refine WpL_val rfl rfl (by decide) (r_assign (v := (.slice la2 (m + x.args.length) lc2)) rfl) ?_
        refine WpL_nil ?_
        refine inB_normal ?_
        refine thn_normal ?_
        refine Wp_region ?_
        refine WpL_val rfl rfl (by decide) (r_add (k := .i64) (a := ((j : Nat) : Int)) (b := 1) (c := ((j : Nat) : Int) + 1) rfl rfl (wI64 (by omega))) ?_
        refine WpL_val rfl rfl (by decide) (r_move (v := (.int .i64 (((j : Nat) : Int) + 1))) rfl) ?_
        refine WpL_nil ?_
        refine thn_normal ?_
        exact ⟨ts.length - (j + 1), by omega, j + 1, la2, lc2, m + x.args.length, rows ++ qs, Fits.out ⟨rfl, rfl, rfl, rfl, rfl, trivial⟩, E, (by omega), (by simpa using Ov9), (by rw [hft, List.length_append, hm]), (by rw [hft]; exact RowsIn.append hqs hrs), Nat.le_trans hbs Cv9.size, rfl⟩
      · have khxk := hxk
        replace khxk := of_decide_eq_false khxk
        rw [if_neg khxk] at hft
        rw [hft, List.length_append] at hfl
        refine Wp_skip ?_
        refine thn_normal ?_
        refine Wp_seq ?_
        refine Wp_block ?_
        refine Wp_seq_region ?_
        refine WpL_val rfl rfl (by decide) (r_indexSlice (b := b) (o := o) (len := ts.length) (cap := ac) (i := j) (o' := o + j * 6) rfl rfl rfl Try.underlying23 siz25 (by omega) (by omega)) ?_
        refine WpL_val rfl rfl (by decide) (r_loadAgg (vs := [(.int .i64 x.kind), (.slice xsa x.set.length xsc), (.slice xaa x.args.length xac), (.int .i64 x.mn), (.int .i64 x.mx), (.bool x.neg)]) rfl agg25 siz25 rfl (hcx.ext E)) ?_
        refine s_allocStore (v := (.agg #[(.int .i64 x.kind), (.slice xsa x.set.length xsc), (.slice xaa x.args.length xac), (.int .i64 x.mn), (.int .i64 x.mx), (.bool x.neg)])) (c := #[(.int .i64 x.kind), (.slice xsa x.set.length xsc), (.slice xaa x.args.length xac), (.int .i64 x.mn), (.int .i64 x.mx), (.bool x.neg)]) (n := 6) (by decide) zer25 rfl siz25 rfl rfl rfl (by simp [Value.oneCell']) ?_
        intro b4 w4 N4
        have F4 := N4.ge E
        replace hown := own_ext hown N4.ext
        replace hbs := Nat.le_trans hbs N4.ext.size
        replace E := E.ext N4.ext
        have B4 := N4.blk
        refine WpL_nil ?_
        refine Wp_seq_region ?_
        refine WpL_val rfl rfl (by decide) (r_fieldAddr (b := b4) (o := 0) (o' := 0) rfl Try.underlying25 rfl siz3 rfl) ?_
        refine WpL_val rfl rfl (by decide) (r_load (v := (.int .i64 x.kind)) rfl flat3 (B4.cell rfl)) ?_
        refine WpL_val rfl rfl (by decide) (r_move (v := (.int .i64 k)) rfl) ?_
        refine WpL_val rfl rfl (by decide) (r_eql (k := .i64) (a := x.kind) (b := k) rfl rfl) ?_
        refine WpL_nil ?_
        refine Wp_cond_false (congrArg Value.bool hxk) ?_
        refine Wp_region ?_
        refine WpL_val rfl rfl (by decide) (r_move (v := (.slice la m lc)) rfl) ?_
        refine WpL_val rfl rfl (by decide) (r_loadAgg (vs := [(.int .i64 x.kind), (.slice xsa x.set.length xsc), (.slice xaa x.args.length xac), (.int .i64 x.mn), (.int .i64 x.mx), (.bool x.neg)]) rfl agg25 siz25 rfl (B4.cells rfl)) ?_
        refine s_buildSlice (ps := [(0, (.agg #[(.int .i64 x.kind), (.slice xsa x.set.length xsc), (.slice xaa x.args.length xac), (.int .i64 x.mn), (.int .i64 x.mx), (.bool x.neg)]))]) (c := #[(.int .i64 x.kind), (.slice xsa x.set.length xsc), (.slice xaa x.args.length xac), (.int .i64 x.mn), (.int .i64 x.mx), (.bool x.neg)]) (by decide) rfl Try.underlying23 siz25 zer25 (by decide) (by decide) (by kernel_rfl) ?_
        intro b5 w5 N5
        have F5 := N5.ge E
        have O5_b4 := N5.lt B4
        replace B4 := N5.keep B4
        replace hown := own_ext hown N5.ext
        replace hbs := Nat.le_trans hbs N5.ext.size
        replace E := E.ext N5.ext
        have B5 := N5.blk
        refine s_append (base := base) (n := m) (m := 1) (xs := rows.flatten) (news := [(.int .i64 x.kind), (.slice xsa x.set.length xsc), (.slice xaa x.args.length xac), (.int .i64 x.mn), (.int .i64 x.mx), (.bool x.neg)]) (size := 6) (bytes := 80) (v := (.slice la m lc)) (by decide) Try.underlying23 siz25 byt25 zer25 rfl (by decide) rfl hown rfl (rfl) (B5.cells rfl) (by simp [Value.oneCell']) (by simp at hfl; unfold maxLen; omega) (by simp at hfl; omega) (hbs) ?_
        intro v9 w29 Ov9 Cv9 Dv9
        replace E := E.step Cv9 (fun x hx h => absurd (hown.lt x h).1 (by omega))
        obtain ⟨la2, lc2, rfl⟩ := own_form Ov9
        refine WpL_val rfl rfl (by decide) (r_assign (v := (.slice la2 (m + 1) lc2)) rfl) ?_
        refine WpL_nil ?_
        refine inB_normal ?_
        refine thn_normal ?_
        refine Wp_region ?_
        refine WpL_val rfl rfl (by decide) (r_add (k := .i64) (a := ((j : Nat) : Int)) (b := 1) (c := ((j : Nat) : Int) + 1) rfl rfl (wI64 (by omega))) ?_
        refine WpL_val rfl rfl (by decide) (r_move (v := (.int .i64 (((j : Nat) : Int) + 1))) rfl) ?_
        refine WpL_nil ?_
        refine thn_normal ?_
        exact ⟨ts.length - (j + 1), by omega, j + 1, la2, lc2, m + 1, rows ++ [[.int .i64 x.kind, .slice xsa x.set.length xsc, .slice xaa x.args.length xac, .int .i64 x.mn, .int .i64 x.mx, .bool x.neg]], Fits.out ⟨rfl, rfl, rfl, rfl, rfl, trivial⟩, E, (by omega), (by simpa using Ov9), (by rw [hft, List.length_append, hm]; rfl), (by rw [hft]; exact RowsIn.append (RowsIn.single hrx0) hrs), Nat.le_trans hbs Cv9.size, rfl⟩
    · have khlt := hlt
      replace hlt := of_decide_eq_false hlt
      have hjj : j = ts.length := by omega
      refine Wp_exit ?_
      refine thn_exit ?_
      refine thn_exit ?_
      refine inB_here ?_
      refine thn_normal ?_
      refine Wp_seq_region ?_
      refine WpL_val rfl rfl (by decide) (r_move (v := (.slice la m lc)) rfl) ?_
      refine WpL_val rfl rfl (by decide) (r_assign (v := (.slice la m lc)) rfl) ?_
      refine WpL_nil ?_
      refine Wp_ret ?_
      refine fin_tmp Try.results37 (v := (.slice la m lc)) rfl ?_
      rw [hjj, List.take_length] at hrs hm
      subst hm
      subst hbase
      exact ⟨la, lc, rows, rfl, hown, hrs, E⟩

theorem list1_c (w0 : World) (t : Re) (vs : List Value) (ht : ReAt w0 t vs) : Ret Try.prog 39 #[.agg vs.toArray] w0 fun v w => v = .bool (decide (t.kind = 1)) ∧ Ext w0 w := by
  obtain ⟨sa, sc, aa, ac, rfl, _, _, _⟩ := ht.form
  refine Ret_of Try.func39 rfl Try.ntmps39 (Nat.le_of_ble_eq_true rfl) ?_
  have E : Chg none1 w0 w0 := Chg.refl _ _
  refine Wp_seq_region ?_
  refine s_box (v := (.agg #[(.int .i64 t.kind), (.slice sa t.set.length sc), (.slice aa t.args.length ac), (.int .i64 t.mn), (.int .i64 t.mx), (.bool t.neg)])) (c := #[(.int .i64 t.kind), (.slice sa t.set.length sc), (.slice aa t.args.length ac), (.int .i64 t.mn), (.int .i64 t.mx), (.bool t.neg)]) (by decide) rfl rfl ?_
  intro b1 w1 N1
  have F1 := N1.ge E
  replace E := E.ext N1.ext
  have B1 := N1.blk
  refine WpL_val rfl rfl (by decide) (r_assign (v := (.bool false)) rfl) ?_
  refine WpL_nil ?_
  refine Wp_seq_region ?_
  refine WpL_val rfl rfl (by decide) (r_fieldAddr (b := b1) (o := 0) (o' := 0) rfl Try.underlying25 rfl siz3 rfl) ?_
  refine WpL_val rfl rfl (by decide) (r_load (v := (.int .i64 t.kind)) rfl flat3 (B1.cell rfl)) ?_
  refine WpL_val rfl rfl (by decide) (r_eql (k := .i64) (a := t.kind) (b := 1) rfl rfl) ?_
  refine WpL_val rfl rfl (by decide) (r_assign (v := (.bool (decide ((t.kind : Int) = 1)))) rfl) ?_
  refine WpL_nil ?_
  refine Wp_ret ?_
  refine fin_tmp Try.results39 (v := (.bool (decide ((t.kind : Int) = 1)))) rfl ?_
  exact ⟨rfl, E⟩
theorem list2_c (w0 : World) (t : Re) (vs : List Value) (ht : ReAt w0 t vs) : Ret Try.prog 40 #[.agg vs.toArray] w0 fun v w => v = .bool (decide (t.kind = 0)) ∧ Ext w0 w := by
  obtain ⟨sa, sc, aa, ac, rfl, _, _, _⟩ := ht.form
  refine Ret_of Try.func40 rfl Try.ntmps40 (Nat.le_of_ble_eq_true rfl) ?_
  have E : Chg none1 w0 w0 := Chg.refl _ _
  refine Wp_seq_region ?_
  refine s_box (v := (.agg #[(.int .i64 t.kind), (.slice sa t.set.length sc), (.slice aa t.args.length ac), (.int .i64 t.mn), (.int .i64 t.mx), (.bool t.neg)])) (c := #[(.int .i64 t.kind), (.slice sa t.set.length sc), (.slice aa t.args.length ac), (.int .i64 t.mn), (.int .i64 t.mx), (.bool t.neg)]) (by decide) rfl rfl ?_
  intro b1 w1 N1
  have F1 := N1.ge E
  replace E := E.ext N1.ext
  have B1 := N1.blk
  refine WpL_val rfl rfl (by decide) (r_assign (v := (.bool false)) rfl) ?_
  refine WpL_nil ?_
  refine Wp_seq_region ?_
  refine WpL_val rfl rfl (by decide) (r_fieldAddr (b := b1) (o := 0) (o' := 0) rfl Try.underlying25 rfl siz3 rfl) ?_
  refine WpL_val rfl rfl (by decide) (r_load (v := (.int .i64 t.kind)) rfl flat3 (B1.cell rfl)) ?_
  refine WpL_val rfl rfl (by decide) (r_eql (k := .i64) (a := t.kind) (b := 0) rfl rfl) ?_
  refine WpL_val rfl rfl (by decide) (r_assign (v := (.bool (decide ((t.kind : Int) = 0)))) rfl) ?_
  refine WpL_nil ?_
  refine Wp_ret ?_
  refine fin_tmp Try.results40 (v := (.bool (decide ((t.kind : Int) = 0)))) rfl ?_
  exact ⟨rfl, E⟩
theorem list3_c (w0 : World) (t : Re) (vs : List Value) (ht : ReAt w0 t vs) : Ret Try.prog 42 #[.agg vs.toArray] w0 fun v w => v = .bool (decide (t.kind = 0)) ∧ Ext w0 w := by
  obtain ⟨sa, sc, aa, ac, rfl, _, _, _⟩ := ht.form
  refine Ret_of Try.func42 rfl Try.ntmps42 (Nat.le_of_ble_eq_true rfl) ?_
  have E : Chg none1 w0 w0 := Chg.refl _ _
  refine Wp_seq_region ?_
  refine s_box (v := (.agg #[(.int .i64 t.kind), (.slice sa t.set.length sc), (.slice aa t.args.length ac), (.int .i64 t.mn), (.int .i64 t.mx), (.bool t.neg)])) (c := #[(.int .i64 t.kind), (.slice sa t.set.length sc), (.slice aa t.args.length ac), (.int .i64 t.mn), (.int .i64 t.mx), (.bool t.neg)]) (by decide) rfl rfl ?_
  intro b1 w1 N1
  have F1 := N1.ge E
  replace E := E.ext N1.ext
  have B1 := N1.blk
  refine WpL_val rfl rfl (by decide) (r_assign (v := (.bool false)) rfl) ?_
  refine WpL_nil ?_
  refine Wp_seq_region ?_
  refine WpL_val rfl rfl (by decide) (r_fieldAddr (b := b1) (o := 0) (o' := 0) rfl Try.underlying25 rfl siz3 rfl) ?_
  refine WpL_val rfl rfl (by decide) (r_load (v := (.int .i64 t.kind)) rfl flat3 (B1.cell rfl)) ?_
  refine WpL_val rfl rfl (by decide) (r_eql (k := .i64) (a := t.kind) (b := 0) rfl rfl) ?_
  refine WpL_val rfl rfl (by decide) (r_assign (v := (.bool (decide ((t.kind : Int) = 0)))) rfl) ?_
  refine WpL_nil ?_
  refine Wp_ret ?_
  refine fin_tmp Try.results42 (v := (.bool (decide ((t.kind : Int) = 0)))) rfl ?_
  exact ⟨rfl, E⟩
theorem list4_c (w0 : World) (t u : Re) (vs us : List Value) (b : Nat) (ht : ReAt w0 t vs) (hu : ReAt w0 u us) (hB : Blk w0 b us.toArray 25) : Ret Try.prog 43 #[.agg vs.toArray, .pointer (some ⟨b, 0, none⟩)] w0 fun v w => v = .bool (sameT u t) ∧ Ext w0 w := by
  have ht0 := ht
  have hu0 := hu
  obtain ⟨sa, sc, aa, ac, rfl, _, _, _⟩ := ht.form
  obtain ⟨sa2, sc2, aa2, ac2, rfl, _, _, _⟩ := hu.form
  refine Ret_of Try.func43 rfl Try.ntmps43 (Nat.le_of_ble_eq_true rfl) ?_
  have E : Chg none1 w0 w0 := Chg.refl _ _
  refine Wp_seq_region ?_
  refine s_box (v := (.agg #[(.int .i64 t.kind), (.slice sa t.set.length sc), (.slice aa t.args.length ac), (.int .i64 t.mn), (.int .i64 t.mx), (.bool t.neg)])) (c := #[(.int .i64 t.kind), (.slice sa t.set.length sc), (.slice aa t.args.length ac), (.int .i64 t.mn), (.int .i64 t.mx), (.bool t.neg)]) (by decide) rfl rfl ?_
  intro b1 w1 N1
  have F1 := N1.ge E
  have O1_b := N1.lt hB
  replace hB := N1.keep hB
  replace E := E.ext N1.ext
  have B1 := N1.blk
  refine WpL_val rfl rfl (by decide) (r_assign (v := (.bool false)) rfl) ?_
  refine WpL_nil ?_
  refine Wp_seq_region ?_
  refine WpL_val rfl rfl (by decide) (r_loadAgg (vs := [(.int .i64 u.kind), (.slice sa2 u.set.length sc2), (.slice aa2 u.args.length ac2), (.int .i64 u.mn), (.int .i64 u.mx), (.bool u.neg)]) rfl agg25 siz25 rfl (hB.cells rfl)) ?_
  refine WpL_val rfl rfl (by decide) (r_loadAgg (vs := [(.int .i64 t.kind), (.slice sa t.set.length sc), (.slice aa t.args.length ac), (.int .i64 t.mn), (.int .i64 t.mx), (.bool t.neg)]) rfl agg25 siz25 rfl (B1.cells rfl)) ?_
  refine WpL_enter rfl rfl (by decide) (r_callF (vs := [(.agg #[(.int .i64 u.kind), (.slice sa2 u.set.length sc2), (.slice aa2 u.args.length ac2), (.int .i64 u.mn), (.int .i64 u.mx), (.bool u.neg)]), (.agg #[(.int .i64 t.kind), (.slice sa t.set.length sc), (.slice aa t.args.length ac), (.int .i64 t.mn), (.int .i64 t.mx), (.bool t.neg)])]) Try.func44 nm44 bd44 rfl) (resame_c u.size u t _ _ _ (Nat.le_refl _) (ReAt.ext E u hu0) (ReAt.ext E t ht0)) ?_
  rintro _ w9 ⟨rfl, X9⟩
  replace hB := X9.keep hB
  replace B1 := X9.keep B1
  replace E := E.ext X9
  refine WpL_val rfl rfl (by decide) (r_assign (v := (.bool (sameT u t))) rfl) ?_
  refine WpL_nil ?_
  refine Wp_ret ?_
  refine fin_tmp Try.results43 (v := (.bool (sameT u t))) rfl ?_
  exact ⟨rfl, E⟩
end Go.Proofs
