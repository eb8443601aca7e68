/- Contracts and plain lemmas, part 3. -/
import Derived.Tactics
import Derived.Deep.Quiet
import Derived.Laws.AppendOwn
import Derived.KernelRfl
import Derived.Laws.Entries
import Derived.Laws.Build
import Derived.Below
import Derived.RowKit3
import Derived.StillTail
import Derived.Sort.Grow
import Derived.Deep.Draws
import Derived.Test.YtfbglkkidenifaaChecked
import Derived.Laws.StructEq
import Derived.Shelf.SlSortCmp.WholeK
import Derived.Test.YtfbglkkidenifaaProg
import Derived.MapKept
import Derived.Laws.BytesArg
import Derived.Test.YtfbglkkidenifaaDe2
namespace Go.Proofs
open Go Go.Eng
set_option maxRecDepth 100000
def RowsIn (S : Nat → Prop) (w : World) : List Re → List (List Value) → Prop
  | [], rows => rows = []
  | t :: ts, rows => ∃ r rs, rows = r :: rs ∧ ReIn S w t r ∧ RowsIn S w ts rs
theorem RowsIn.ext {S : Nat → Prop} {w w' : World} (e : Ext w w') : ∀ {ts : List Re} {rows : List (List Value)}, RowsIn S w ts rows → RowsIn S w' ts rows
  | [], _, h => h
  | t :: ts, rows, h => by
    obtain ⟨r, rs, h1, h2, h3⟩ := h
    exact ⟨r, rs, h1, ReIn.ext e t h2, RowsIn.ext e h3⟩
theorem RowsIn.len {S : Nat → Prop} {w : World} : ∀ {ts : List Re} {rows : List (List Value)}, RowsIn S w ts rows → rows.length = ts.length
  | [], _, h => by simp only [RowsIn] at h; subst h; rfl
  | t :: ts, rows, h => by
    obtain ⟨r, rs, rfl, _, h3⟩ := h
    simp [RowsIn.len h3]
theorem RowsIn.six {S : Nat → Prop} {w : World} : ∀ {ts : List Re} {rows : List (List Value)}, RowsIn S w ts rows → ∀ r ∈ rows, r.length = 6
  | [], _, h => by simp only [RowsIn] at h; subst h; simp
  | t :: ts, rows, h => by
    obtain ⟨r, rs, rfl, h2, h3⟩ := h
    intro q hq
    rcases List.mem_cons.1 hq with rfl | hq
    · exact h2.len
    · exact RowsIn.six h3 q hq
theorem RowsIn.one {S : Nat → Prop} {w : World} : ∀ {ts : List Re} {rows : List (List Value)}, RowsIn S w ts rows → ∀ u ∈ rows.flatten, u.oneCell' = true
  | [], _, h => by simp only [RowsIn] at h; subst h; simp
  | t :: ts, rows, h => by
    obtain ⟨r, rs, rfl, h2, h3⟩ := h
    intro u hu
    rw [List.flatten_cons, List.mem_append] at hu
    rcases hu with hu | hu
    · exact ReAt.one (ReIn.at t h2) u hu
    · exact RowsIn.one h3 u hu
theorem RowsIn.get {S : Nat → Prop} {w : World} : ∀ {ts : List Re} {rows : List (List Value)}, RowsIn S w ts rows → ∀ {i : Nat} {t : Re}, ts[i]? = some t → ∃ r, rows[i]? = some r ∧ ReIn S w t r
  | [], _, _, i, t, hi => by simp at hi
  | t :: ts, rows, h, i, u, hi => by
    obtain ⟨r, rs, rfl, h2, h3⟩ := h
    cases i with
    | zero => simp at hi; subst hi; exact ⟨r, rfl, h2⟩
    | succ i => simp at hi; obtain ⟨q, h4, h5⟩ := RowsIn.get h3 hi; exact ⟨q, by simpa using h4, h5⟩
theorem RowsIn.append {S : Nat → Prop} {w : World} {us : List Re} {qs : List (List Value)} (hu : RowsIn S w us qs) : ∀ {ts : List Re} {rows : List (List Value)}, RowsIn S w ts rows → RowsIn S w (ts ++ us) (rows ++ qs)
  | [], _, h => by simp only [RowsIn] at h; subst h; simpa using hu
  | t :: ts, rows, h => by
    obtain ⟨r, rs, rfl, h2, h3⟩ := h
    exact ⟨r, rs ++ qs, rfl, h2, RowsIn.append hu h3⟩
theorem RowsIn.single {S : Nat → Prop} {w : World} {t : Re} {r : List Value} (h : ReIn S w t r) : RowsIn S w [t] [r] := ⟨r, [], rfl, h, rfl⟩
theorem ResIn.rows {S : Nat → Prop} {w : World} {b : Nat} : ∀ {ts : List Re} {o : Nat}, ResIn S w b o ts → ∃ rows, RowsIn S w ts rows ∧ CellsAt w b o rows.flatten
  | [], _, _ => ⟨[], rfl, fun i v hv => by simp at hv⟩
  | t :: ts, o, h => by
    simp only [ResIn] at h
    obtain ⟨⟨vs, h1, h2⟩, h3⟩ := h
    obtain ⟨rows, h4, h5⟩ := ResIn.rows h3
    refine ⟨vs :: rows, ⟨vs, rows, rfl, h2, h4⟩, fun i v hv => ?_⟩
    have hl := h2.len
    rw [List.flatten_cons] at hv
    rcases Nat.lt_or_ge i 6 with hi | hi
    · rw [List.getElem?_append_left (by omega)] at hv
      exact h1 i v hv
    · rw [List.getElem?_append_right (by omega)] at hv
      have := h5 (i - vs.length) v hv
      rwa [show o + 6 + (i - vs.length) = o + i from by omega] at this
def RsIn (S : Nat → Prop) (w : World) (v : Value) (ts : List Re) : Prop := ∃ aa ac, v = .slice aa ts.length ac ∧ (ts.length ≤ ac ∧ ac ≤ 9223372036854775807) ∧ (ts = [] ∨ ∃ b o, S b ∧ aa = some ⟨b, o, none⟩ ∧ ResIn S w b o ts)
theorem RsIn.cells {S : Nat → Prop} {w : World} {aa : Option Addr} {n ac : Nat} {ts : List Re} (h : RsIn S w (.slice aa n ac) ts) (hn : 0 < n) : ∃ b o, aa = some ⟨b, o, none⟩ ∧ ∀ i t, ts[i]? = some t → ∃ vs, CellsAt w b (o + i * 6) vs ∧ ReIn S w t vs := by
 obtain ⟨aa', ac', h1, h2, h3⟩ := h
 simp only [Value.slice.injEq] at h1
 obtain ⟨rfl, rfl, rfl⟩ := h1
 rcases h3 with rfl | ⟨b, o, _, h4, h5⟩
 ·simp at hn
 ·exact ⟨b, o, h4, fun i t ht => ResIn.get h5 ht⟩
/-- Rows of one's own, read as expressions. -/
theorem own_res {S : Nat → Prop} {w : World} {base n : Nat} {a : Option Addr} {c : Nat} {ts : List Re} {rows : List (List Value)} (h : w.ownsRow base TRe 6 (.slice a n c) n rows.flatten) (hr : RowsIn S w ts rows) (hn : ts.length = n) : (n ≤ c ∧ c ≤ 9223372036854775807) ∧ (ts = [] ∨ ∃ b, base ≤ b ∧ b < w.heap.size ∧ a = some ⟨b, 0, none⟩ ∧ ∀ i t, ts[i]? = some t → ∃ vs, CellsAt w b (0 + i * 6) vs ∧ ReIn S w t vs) := by
 rcases h.2 with ⟨h1, h2⟩ | ⟨g, cap, cur, h1, h2, h3, h4, h5, h6, h7⟩
 ·simp only [Value.slice.injEq] at h1
  obtain ⟨rfl, rfl, rfl⟩ := h1
  exact ⟨by simp, .inl (List.eq_nil_of_length_eq_zero hn)⟩
 ·simp only [Value.slice.injEq] at h1
  obtain ⟨rfl, _, rfl⟩ := h1
  simp only [maxLen] at h5
  refine ⟨⟨h4, by omega⟩, .inr ⟨g, h2, (h.lt g rfl).2, rfl, fun i t ht => ?_⟩⟩
  obtain ⟨r, h8, h9⟩ := hr.get ht
  have hb : Blk w g (rows.flatten ++ cur.toList.drop (n * 6)).toArray TRe := by
   have : (rows.flatten ++ cur.toList.drop (n * 6)).toArray = cur := by rw [← h7, List.take_append_drop]
   rw [this]; exact h3
  exact ⟨r, by rw [Nat.zero_add]; exact rows_at hb hr.six h8, h9⟩
theorem own_rs {S : Nat → Prop} {w : World} {base n : Nat} {a : Option Addr} {c : Nat} {ts : List Re} {rows : List (List Value)} (h : w.ownsRow base TRe 6 (.slice a n c) n rows.flatten) (hr : RowsIn S w ts rows) (hn : ts.length = n) : RsAt w (.slice a n c) ts := by
 obtain ⟨h1, h2⟩ := own_res h hr hn
 refine ⟨a, c, by rw [hn], by rw [hn]; exact h1, ?_⟩
 rcases h2 with h | ⟨b, _, _, h4, h5⟩
 ·exact .inl h
 ·exact .inr ⟨b, 0, h4, ResAt.mk fun i t ht => by obtain ⟨vs, h6, h7⟩ := h5 i t ht; exact ⟨vs, h6, ReIn.at t h7⟩⟩
theorem len_sizes : ∀ ts : List Re, ts.length ≤ Re.sizes ts
  | [] => by simp
  | x :: xs => by have := x.size_pos; have := len_sizes xs; simp only [List.length_cons, Re.sizes]; omega
theorem flat_snoc (k : Int) (ts : List Re) (x : Re) : flatT k (ts ++ [x]) = flatT k ts ++ (if x.kind = k then x.args else [x]) := by simp [flatT]
theorem flat_take {k : Int} {ts : List Re} {j : Nat} {x : Re} (hx : ts[j]? = some x) : flatT k (ts.take (j + 1)) = flatT k (ts.take j) ++ (if x.kind = k then x.args else [x]) := by
 rw [List.take_add_one, hx]; exact flat_snoc k _ x
theorem flat_le (k : Int) (ts : List Re) (j : Nat) : (flatT k (ts.take j)).length ≤ Re.sizes ts := by
 have h1 := len_sizes (flatT k (ts.take j))
 have h2 := sizes_flat k (ts.take j)
 have h3 : Re.sizes ts = Re.sizes (ts.take j) + Re.sizes (ts.drop j) := by rw [← Re.sizes_append, List.take_append_drop]
 omega
set_option maxHeartbeats 1000000 in
theorem flat_c (w0 : World) (S : Nat → Prop) (k : Int) (v : Value) (ts : List Re) (h : RsIn S w0 v ts) (hne : ∀ x ∈ ts, x.kind = k → x.args ≠ []) (hsz : Re.sizes ts ≤ 1000000) :
  Ret Try.prog 51 #[.int .i64 k, v] w0 fun r w => ∃ la lc rows, r = .slice la (flatT k ts).length lc ∧ w.ownsRow w0.heap.size TRe 6 r (flatT k ts).length rows.flatten ∧ RowsIn S w0 (flatT k ts) rows ∧ Ext w0 w := by
 have h0 := h
 obtain ⟨aa, ac, rfl, hac, _⟩ := h
 have hls := len_sizes ts
 obtain ⟨base, hbase⟩ : ∃ base, base = w0.heap.size := ⟨_, rfl⟩
 refine Ret_of Try.func51 rfl Try.ntmps51 (Nat.le_of_ble_eq_true rfl) ?_
 have E : Chg none1 w0 w0 := Chg.refl _ _
 refine Wp_seq_region ?_
 refine qA (.slice none 0 0) rfl ?_
 refine WpL_nil (Wp_seq_region ?_)
 refine qA (.slice none 0 0) rfl ?_
 refine WpL_nil (Wp_seq (Wp_seq_region ?_))
 refine qM (.slice aa ts.length ac) rfl ?_
 refine qV (r_lenSlice (ad := aa) (n := ts.length) (cap := ac) Try.underlying25 rfl) ?_
 refine qM (I6 0) rfl ?_
 refine WpL_nil (Wp_block ?_)
 refine Wp_loop (fun nn_ σ W1 => ∃ (j : Nat) (la : Option Addr) (lc : Nat) (m : Nat) (rows : List (List Value)), (∃ jj_, σ = upds jj_ [(0, (I6 k)), (8, (.slice aa ts.length ac)), (9, (I6 (ts.length : Int))), (10, (I6 (j : Int))), (5, (.slice la m lc))]) ∧ Chg none1 w0 W1 ∧ (j ≤ ts.length) ∧ (W1.ownsRow base TRe 6 (.slice la m lc) m rows.flatten) ∧ (m = (flatT k (ts.take j)).length) ∧ (RowsIn S w0 (flatT k (ts.take j)) rows) ∧ (base ≤ W1.heap.size) ∧ nn_ = ts.length - j) (n := ts.length - 0) ?_ ?_
 ·exact ⟨0, none, 0, 0, [], Fits.out ⟨rfl, rfl, rfl, rfl, rfl, trivial⟩, E, Nat.zero_le _, World.ownsRow_nil _ _ _ _, rfl, rfl, (by omega), rfl⟩
 ·clear E
  rintro _ _ W1 ⟨j, la, lc, m, rows, ⟨j1, rfl⟩, E, hj, hown, hm, hrs, hbs, rfl⟩
  refine Wp_seq_region ?_
  refine qV (r_lss (k := .i64) (a := (j : Int)) (b := (ts.length : Int)) rfl rfl) ?_
  refine WpL_nil (Wp_seq ?_)
  refine Wp_cond (b := decide (((j : Int) : Int) < (ts.length : Int))) rfl (fun hlt => ?_) (fun hlt => ?_)
  ·have khlt := hlt
   replace hlt := of_decide_eq_true hlt
   obtain ⟨x, hx⟩ := get_of_lt (l := ts) (i := j) (by omega)
   obtain ⟨b, o, rfl, hcl⟩ := h0.cells (by omega)
   obtain ⟨xs, hcx, hrx⟩ := hcl j x hx
   have hrx0 := hrx
   obtain ⟨xsa, xsc, xaa, xac, rfl, _, _, hxa⟩ := hrx.form
   have hft := flat_take (k := k) hx
   have hfl := flat_le k ts (j + 1)
   rcases Bool.eq_false_or_eq_true (decide ((x.kind : Int) = k)) with hxk | hxk
   ·have khxk := hxk
    replace khxk := of_decide_eq_true khxk
    rw [if_pos khxk] at hft
    obtain ⟨xb, xo, _, rfl, hxr⟩ := hxa.resolve_left (hne x (List.mem_of_getElem? hx) khxk)
    obtain ⟨qs, hqs, hqc⟩ := ResIn.rows hxr
    rw [hft, List.length_append] at hfl
    refine Wp_skip (thn_normal (Wp_seq (Wp_block (Wp_seq_region ?_))))
    refine qV (r_indexSlice (b := b) (o := o) (len := ts.length) (cap := ac) (i := j) (o' := o + j * 6) rfl rfl rfl Try.underlying25 siz27 (by omega) (by omega)) ?_
    refine qV (r_loadAgg (vs := [(I6 x.kind), (.slice xsa x.set.length xsc), (.slice (some ⟨xb, xo, none⟩) x.args.length xac), (I6 x.mn), (I6 x.mx), (.bool x.neg)]) rfl agg27 siz27 rfl (hcx.ext E)) ?_
    refine s_allocStore (v := (.agg (R6 x xsa xsc (some ⟨xb, xo, none⟩) xac))) (c := (R6 x xsa xsc (some ⟨xb, xo, none⟩) xac)) (n := 6) (by decide) zer27 rfl siz27 rfl rfl rfl (by simp [Value.oneCell']) ?_
    intro b3 w3 N3
    have F3 := N3.ge E
    replace hown := own_ext hown N3.ext
    replace hbs := Nat.le_trans hbs N3.ext.size
    replace E := E.ext N3.ext
    have B3 := N3.blk
    refine WpL_nil (Wp_seq_region ?_)
    refine qF b3 0 0 rfl Try.underlying27 rfl siz3 rfl ?_
    refine qV (r_load (v := (I6 x.kind)) rfl flat3 (B3.cell rfl)) ?_
    refine qM (I6 k) rfl ?_
    refine qV (r_eql (k := .i64) (a := x.kind) (b := k) rfl rfl) ?_
    refine WpL_nil ?_
    refine Wp_cond_true (congrArg Value.bool hxk) ?_
    refine Wp_region ?_
    refine qM (.slice la m lc) rfl ?_
    refine qF b3 0 2 rfl Try.underlying27 rfl siz25 rfl ?_
    refine qV (r_load (v := (.slice (some ⟨xb, xo, none⟩) x.args.length xac)) rfl flat25 (B3.cell rfl)) ?_
    refine s_append (base := base) (n := m) (m := x.args.length) (xs := rows.flatten) (news := qs.flatten) (size := 6) (bytes := 80) (v := (.slice la m lc)) (by decide) Try.underlying25 siz27 byt27 zer27 rfl (by decide) rfl hown rfl (by rw [rows_len hqs.six, hqs.len]) (hqc.ext E) (hqs.one) (by unfold maxLen; omega) (by omega) (hbs) ?_
    intro v9 w29 Ov9 Cv9 Dv9
    replace E := E.step Cv9 (fun x hx h => absurd (hown.lt x h).1 (by omega))
    obtain ⟨la2, lc2, rfl⟩ := own_form Ov9
    refine qA (.slice la2 (m + x.args.length) lc2) rfl ?_
    refine WpL_nil (inB_normal (thn_normal (Wp_region ?_)))
    refine qV (r_add (k := .i64) (a := (j : Int)) (b := 1) (c := (j : Int) + 1) rfl rfl (wI64 (by omega))) ?_
    refine qM (I6 ((j : Int) + 1)) rfl ?_
    refine WpL_nil (thn_normal ?_)
    exact ⟨ts.length - (j + 1), by omega, j + 1, la2, lc2, m + x.args.length, rows ++ qs, Fits.out ⟨rfl, rfl, rfl, rfl, rfl, trivial⟩, E, (by omega), (by simpa using Ov9), (by rw [hft, List.length_append, hm]), (by rw [hft]; exact RowsIn.append hqs hrs), Nat.le_trans hbs Cv9.size, rfl⟩
   ·have khxk := hxk
    replace khxk := of_decide_eq_false khxk
    rw [if_neg khxk] at hft
    rw [hft, List.length_append] at hfl
    refine Wp_skip (thn_normal (Wp_seq (Wp_block (Wp_seq_region ?_))))
    refine qV (r_indexSlice (b := b) (o := o) (len := ts.length) (cap := ac) (i := j) (o' := o + j * 6) rfl rfl rfl Try.underlying25 siz27 (by omega) (by omega)) ?_
    refine qV (r_loadAgg (vs := [(I6 x.kind), (.slice xsa x.set.length xsc), (.slice xaa x.args.length xac), (I6 x.mn), (I6 x.mx), (.bool x.neg)]) rfl agg27 siz27 rfl (hcx.ext E)) ?_
    refine s_allocStore (v := (.agg (R6 x xsa xsc xaa xac))) (c := (R6 x xsa xsc xaa xac)) (n := 6) (by decide) zer27 rfl siz27 rfl rfl rfl (by simp [Value.oneCell']) ?_
    intro b4 w4 N4
    have F4 := N4.ge E
    replace hown := own_ext hown N4.ext
    replace hbs := Nat.le_trans hbs N4.ext.size
    replace E := E.ext N4.ext
    have B4 := N4.blk
    refine WpL_nil (Wp_seq_region ?_)
    refine qF b4 0 0 rfl Try.underlying27 rfl siz3 rfl ?_
    refine qV (r_load (v := (I6 x.kind)) rfl flat3 (B4.cell rfl)) ?_
    refine qM (I6 k) rfl ?_
    refine qV (r_eql (k := .i64) (a := x.kind) (b := k) rfl rfl) ?_
    refine WpL_nil ?_
    refine Wp_cond_false (congrArg Value.bool hxk) ?_
    refine Wp_region ?_
    refine qM (.slice la m lc) rfl ?_
    refine qV (r_loadAgg (vs := [(I6 x.kind), (.slice xsa x.set.length xsc), (.slice xaa x.args.length xac), (I6 x.mn), (I6 x.mx), (.bool x.neg)]) rfl agg27 siz27 rfl (B4.cells rfl)) ?_
    refine s_buildSlice (ps := [(0, (.agg (R6 x xsa xsc xaa xac)))]) (c := (R6 x xsa xsc xaa xac)) (by decide) rfl Try.underlying25 siz27 zer27 (by decide) (by decide) (by kernel_rfl) ?_
    intro b5 w5 N5
    have F5 := N5.ge E
    have O5_b4 := N5.lt B4
    replace B4 := N5.keep B4
    replace hown := own_ext hown N5.ext
    replace hbs := Nat.le_trans hbs N5.ext.size
    replace E := E.ext N5.ext
    have B5 := N5.blk
    refine s_append (base := base) (n := m) (m := 1) (xs := rows.flatten) (news := [(I6 x.kind), (.slice xsa x.set.length xsc), (.slice xaa x.args.length xac), (I6 x.mn), (I6 x.mx), (.bool x.neg)]) (size := 6) (bytes := 80) (v := (.slice la m lc)) (by decide) Try.underlying25 siz27 byt27 zer27 rfl (by decide) rfl hown rfl (rfl) (B5.cells rfl) (by simp [Value.oneCell']) (by simp at hfl; unfold maxLen; omega) (by simp at hfl; omega) (hbs) ?_
    intro v9 w29 Ov9 Cv9 Dv9
    replace E := E.step Cv9 (fun x hx h => absurd (hown.lt x h).1 (by omega))
    obtain ⟨la2, lc2, rfl⟩ := own_form Ov9
    refine qA (.slice la2 (m + 1) lc2) rfl ?_
    refine WpL_nil (inB_normal (thn_normal (Wp_region ?_)))
    refine qV (r_add (k := .i64) (a := (j : Int)) (b := 1) (c := (j : Int) + 1) rfl rfl (wI64 (by omega))) ?_
    refine qM (I6 ((j : Int) + 1)) rfl ?_
    refine WpL_nil (thn_normal ?_)
    exact ⟨ts.length - (j + 1), by omega, j + 1, la2, lc2, m + 1, rows ++ [[.int .i64 x.kind, .slice xsa x.set.length xsc, .slice xaa x.args.length xac, .int .i64 x.mn, .int .i64 x.mx, .bool x.neg]], Fits.out ⟨rfl, rfl, rfl, rfl, rfl, trivial⟩, E, (by omega), (by simpa using Ov9), (by rw [hft, List.length_append, hm]; rfl), (by rw [hft]; exact RowsIn.append (RowsIn.single hrx0) hrs), Nat.le_trans hbs Cv9.size, rfl⟩
  ·have khlt := hlt
   replace hlt := of_decide_eq_false hlt
   have hjj : j = ts.length := by omega
   refine Wp_exit (thn_exit (thn_exit (inB_here (thn_normal (Wp_seq_region ?_)))))
   refine qM (.slice la m lc) rfl ?_
   refine qA (.slice la m lc) rfl ?_
   refine WpL_nil (Wp_ret ?_)
   refine fin_tmp Try.results51 (v := (.slice la m lc)) rfl ?_
   rw [hjj, List.take_length] at hrs hm
   subst hm
   subst hbase
   exact ⟨la, lc, rows, rfl, hown, hrs, E⟩
end Go.Proofs
namespace Go.Proofs
open Go Go.Eng
set_option maxRecDepth 100000
theorem zero_one {m : Nat} : ∀ v ∈ (Builtin.zeroCells (Value.cells (.agg #[(.int .i64 0), (.slice none 0 0), (.slice none 0 0), (.int .i64 0), (.int .i64 0), (.bool false)])) m).toList, v.oneCell' = true := by
  intro v hv
  simp only [Builtin.zeroCells, Value.cells, Array.toList_map, List.mem_map] at hv
  obtain ⟨i, _, rfl⟩ := hv
  have h : i % 6 < 6 := Nat.mod_lt _ (by decide)
  show (#[(Value.int .i64 0), (.slice none 0 0), (.slice none 0 0), (.int .i64 0), (.int .i64 0), (.bool false)][i % 6]!).oneCell' = true
  generalize i % 6 = q at h
  match q, h with
  | 0, _ => rfl
  | 1, _ => rfl
  | 2, _ => rfl
  | 3, _ => rfl
  | 4, _ => rfl
  | 5, _ => rfl
theorem WpL_val0 {P : Program} {N : Nat} {Q : Post} {σ : Env} {w : World} {K : Env → World → Prop} {ops : Array Oper} {rest : List Oper} {o : Oper} (hg : o.guard = none) (hd : o.dst = none) {v : Value} {w' : World}
  (hr : (execOp (ev σ) o).run P w = .ok (.value v) w') (k : WpL P N ops K Q rest σ w') : WpL P N ops K Q (o :: rest) σ w := by
 intro a ha he
 refine wpList_plain hg fun K' hK => ?_
 unfold Oper.wp
 rw [eval_env, he, hr]
 simp only [Oper.upon, hd]
 exact hK _ _ (k a ha he)
theorem s_clear {P : Program} {N : Nat} {Q : Post} {σ : Env} {w : World} {K : Env → World → Prop} {ops : Array Oper} {rest : List Oper} {ty : TypeId} {pos : String} {af : Array Edge} {t e : TypeId} {x : Operand} {b o m cc : Nat} {c c' : Array Value} {z : Value} (hu : P.underlying t = some (.slice e)) (hz : Zer P e z) (hx : ev σ x = .slice (some ⟨b, o, none⟩) m cc) (hm : 0 < m) (hB : Blk w b c e) (h1 : ∀ v ∈ (Builtin.zeroCells z.cells m).toList, v.oneCell' = true)
  (ho : o + m * z.cells.size ≤ c.size) (hc : (c.toList.take o ++ (Builtin.zeroCells z.cells m).toList ++ c.toList.drop (o + m * z.cells.size)).toArray = c')
  (k : ∀ w', Put w w' b c' e → WpL P N ops K Q rest σ w') : WpL P N ops K Q (⟨none, .call ⟨.builtin .clear, #[x], #[t]⟩, ty, pos, af, none⟩ :: rest) σ w := by
 subst hc
 have hl : (Builtin.zeroCells z.cells m).toList.length = m * z.cells.size := by simp [Builtin.zeroCells]
 have hst := run_storeCells_at P b o e (Builtin.zeroCells z.cells m).toList 0 c w hB (by rw [hl]; simpa using ho) h1
 simp only [Nat.add_zero, hl] at hst
 refine WpL_val0 (v := .tuple #[]) (w' := w.setRow b _) rfl rfl ?_ (k _ (Put.of_setRow hB _))
 obtain ⟨m', rfl⟩ : ∃ m', m = m' + 1 := ⟨m - 1, by omega⟩
 simp [execOp, resolve, invoke, builtin, Builtin.clear_, hx, run_underlying hu, hz.run, hst]
theorem idx_none {α : Type} {p : α → Bool} {l : List α} (h : idx p l = -1) : l.filter (fun x => !p x) = l := by
 have h1 := idx_any p l
 rw [h] at h1
 have h2 : l.any p = false := by rw [← h1]; decide
 rw [List.filter_eq_self]
 rw [List.any_eq_false] at h2
 intro x hx; simp [h2 x hx]
theorem idx_some {α : Type} {p : α → Bool} {l : List α} (h : idx p l ≠ -1) : ∃ i : Nat, idx p l = (i : Int) ∧ i < l.length ∧ (l.take (i + 1)).filter (fun x => !p x) = l.take i := by
  unfold idx at h ⊢
  cases hf : l.findIdx? p with
  | none => rw [hf] at h; exact absurd rfl h
  | some i =>
    rw [List.findIdx?_eq_some_iff_getElem] at hf
    obtain ⟨hi, hp, hno⟩ := hf
    refine ⟨i, rfl, hi, ?_⟩
    have e1 : (l.take i).filter (fun x => !p x) = l.take i := by
      rw [List.filter_eq_self]
      intro x hx
      obtain ⟨j, hj, rfl⟩ := List.getElem_of_mem hx
      simp at hj
      have := hno j (by omega)
      simpa using this
    rw [List.take_add_one, List.getElem?_eq_getElem hi, List.filter_append, e1]
    simp [hp]
theorem filter_snoc {α : Type} {p : α → Bool} {l : List α} {j : Nat} {x : α} (hx : l[j]? = some x) : (l.take (j + 1)).filter (fun x => !p x) = (l.take j).filter (fun x => !p x) ++ (if p x then [] else [x]) := by
 rw [List.take_add_one, hx, List.filter_append]
 congr 1
 cases hp : p x <;> simp [hp]
theorem drop_get {α : Type} {l m : List α} {j : Nat} (h : l.drop j = m.drop j) {i : Nat} (hi : j ≤ i) : l[i]? = m[i]? := by
 have := congrArg (fun q => q[i - j]?) h
 simp only [List.getElem?_drop] at this
 rwa [show j + (i - j) = i from by omega] at this
theorem RowsIn.take {S : Nat → Prop} {w : World} : ∀ {ts : List Re} {rows : List (List Value)} (i : Nat), RowsIn S w ts rows → RowsIn S w (ts.take i) (rows.take i)
  | [], _, i, h => by simp only [RowsIn] at h; subst h; cases i <;> rfl
  | t :: ts, rows, 0, h => rfl
  | t :: ts, rows, i + 1, h => by
    obtain ⟨r, rs, rfl, h2, h3⟩ := h
    exact ⟨r, rs.take i, rfl, h2, RowsIn.take i h3⟩
set_option maxHeartbeats 2000000 in
theorem del_c (wb w0 : World) (base : Nat) (S : Nat → Prop) (v fv : Value) (ts : List Re) (rows : List (List Value)) (p : Re → Bool) (hE : Ext wb w0) (hown : w0.ownsRow base TRe 6 v ts.length rows.flatten) (hr : RowsIn S wb ts rows) (hS : ∀ x, S x → x < base) (hlen : ts.length ≤ 1000000)
  (hf : ∀ (w : World) (x : Re) (vs : List Value), x ∈ ts → ReAt w x vs → CallV Try.prog fv #[.agg vs.toArray] w fun r w' => r = .bool (p x) ∧ Ext w w') :
  Ret Try.prog 50 #[v, fv] w0 fun r w => ∃ la lc rows', r = .slice la (ts.filter fun x => !p x).length lc ∧ w.ownsRow base TRe 6 r (ts.filter fun x => !p x).length rows'.flatten ∧ RowsIn S wb (ts.filter fun x => !p x) rows' ∧ Chg (fun x => base ≤ x) w0 w := by
 have hown0 := hown
 obtain ⟨a, c, rfl⟩ := own_form hown
 obtain ⟨q, hq⟩ : ∃ q : Int, q = idx p ts := ⟨_, rfl⟩
 have hrs : RsAt w0 (.slice a ts.length c) ts := own_rs hown0 (hr.ext hE) rfl
 refine Ret_of Try.func50 rfl Try.ntmps50 (Nat.le_of_ble_eq_true rfl) ?_
 have E : Chg (fun x => base ≤ x) w0 w0 := Chg.refl _ _
 refine Wp_seq_region ?_
 refine qA (.slice none 0 0) rfl ?_
 refine WpL_nil (Wp_seq_region ?_)
 refine qM (.slice a ts.length c) rfl ?_
 refine qM fv rfl ?_
 refine WpL_enter rfl rfl (by decide) (r_callF (vs := [(.slice a ts.length c), fv]) Try.func57 nm57 bd57 rfl) ((res_idx_c _ _ fv ts p hrs (fun w x vs _ hm hx => hf w x vs hm hx)).mono (R' := fun r w => r = .int .i64 q ∧ Ext w0 w) (by rintro v w ⟨rfl, h⟩; exact ⟨by rw [hq], h⟩)) ?_
 rintro _ w9 ⟨rfl, X9⟩
 replace E := E.ext X9
 refine qA (I6 q) rfl ?_
 refine WpL_nil (Wp_seq (Wp_seq_region ?_))
 refine qM (I6 q) rfl ?_
 refine qV (r_eql (k := .i64) (a := q) (b := (-1)) rfl rfl) ?_
 refine WpL_nil ?_
 refine Wp_cond (b := decide ((q : Int) = (-1))) rfl (fun h1 => ?_) (fun h1 => ?_)
 ·have kh1 := h1
  replace h1 := of_decide_eq_true h1
  have hfi : (ts.filter fun x => !p x) = ts := idx_none (by rw [← hq]; exact h1)
  refine Wp_seq_region ?_
  refine qM (.slice a ts.length c) rfl ?_
  refine qA (.slice a ts.length c) rfl ?_
  refine WpL_nil (Wp_ret (thn_ret ?_))
  refine fin_tmp Try.results50 (v := (.slice a ts.length c)) rfl ?_
  rw [hfi]; exact ⟨a, c, rows, rfl, own_ext hown0 X9, hr, E⟩
 ·have kh1 := h1
  replace h1 := of_decide_eq_false h1
  obtain ⟨i0, hi0, hi0l, hi0f⟩ := idx_some (p := p) (l := ts) (by rw [← hq]; exact h1)
  obtain rfl : q = ((i0 : Nat) : Int) := by rw [hq, hi0]
  rcases hown0.2 with ⟨_, hbad⟩ | ⟨g, cap, cur0, hv0, hgb, hgB, hcap1, hcap2, hcap3, hcap4⟩
  ·omega
  simp only [Value.slice.injEq] at hv0
  obtain ⟨rfl, _, rfl⟩ := hv0
  obtain ⟨rest, hrest⟩ : ∃ rest, rest = cur0.toList.drop (ts.length * 6) := ⟨_, rfl⟩
  have hgB2 : Blk w9 g (rows.flatten ++ rest).toArray TRe := X9.keep (by rw [hrest, ← hcap4, List.take_append_drop]; exact hgB)
  have hszz : (rows.flatten ++ rest).length = c * 6 := by rw [hrest, ← hcap4, List.take_append_drop]; simpa using hcap3
  have hrl := hr.len
  have hr6 := hr.six
  have hrestl : rest.length = c * 6 - ts.length * 6 := by rw [List.length_append, rows_len hr6, hrl] at hszz; omega
  refine Wp_skip (thn_normal (Wp_seq (Wp_seq_region ?_)))
  refine qM (I6 (i0 : Int)) rfl ?_
  refine qV (r_add (k := .i64) (a := (i0 : Int)) (b := 1) (c := (i0 : Int) + 1) rfl rfl (wI64 (by omega))) ?_
  refine qA (I6 ((i0 : Int) + 1)) rfl ?_
  refine WpL_nil (Wp_block ?_)
  refine Wp_loop (fun nn_ σ W2 => ∃ (j : Nat) (i : Nat) (cur : List (List Value)), (∃ jj_, σ = upds jj_ [(0, (.slice (some ⟨g, 0, none⟩) ts.length c)), (1, fv), (6, (I6 (j : Int))), (5, (I6 (i : Int)))]) ∧ Chg (fun x => base ≤ x) w0 W2 ∧ Blk W2 g ((cur.flatten ++ rest).toArray) TRe ∧ (i < j ∧ j ≤ ts.length) ∧ (cur.length = ts.length) ∧ (∀ r ∈ cur, r.length = 6) ∧ (cur.drop j = rows.drop j) ∧ (RowsIn S wb ((ts.take j).filter fun x => !p x) (cur.take i)) ∧ (i = ((ts.take j).filter fun x => !p x).length) ∧ nn_ = ts.length - j) (n := ts.length - (i0 + 1)) ?_ ?_
  ·exact ⟨i0 + 1, i0, rows, Fits.out ⟨rfl, rfl, rfl, rfl, trivial⟩, E, hgB2, ⟨by omega, by omega⟩, hrl, hr6, rfl, (by rw [hi0f]; exact hr.take i0), (by rw [hi0f]; simp; omega), rfl⟩
  ·clear E hgB2
   rintro _ _ W2 ⟨j, i, cur, ⟨j2, rfl⟩, E, hgB2, hij, hcl, hc6, hdr, hin, hil, rfl⟩
   refine Wp_seq (Wp_seq_region ?_)
   refine qM (I6 (j : Int)) rfl ?_
   refine qM (.slice (some ⟨g, 0, none⟩) ts.length c) rfl ?_
   refine qV (r_lenSlice (ad := some ⟨g, 0, none⟩) (n := ts.length) (cap := c) Try.underlying25 rfl) ?_
   refine qV (r_lss (k := .i64) (a := (j : Int)) (b := (ts.length : Int)) rfl rfl) ?_
   refine WpL_nil ?_
   refine Wp_cond (b := decide (((j : Int) : Int) < (ts.length : Int))) rfl (fun hlt => ?_) (fun hlt => ?_)
   ·have khlt := hlt
    replace hlt := of_decide_eq_true hlt
    obtain ⟨x, hx⟩ := get_of_lt (l := ts) (i := j) (by omega)
    obtain ⟨r, hrr, hrx⟩ := hr.get hx
    have hcr : cur[j]? = some r := by rw [drop_get hdr (Nat.le_refl _)]; exact hrr
    have hfs := filter_snoc (p := p) hx
    have hdr2 : cur.drop (j + 1) = rows.drop (j + 1) := by rw [← List.drop_drop, ← List.drop_drop, hdr]
    have hrx2 : ReAt (W2) x r := ReIn.at x (ReIn.chg E (fun y hy hb => by have := hS y hy; have hb' : base ≤ y := hb; omega) x (ReIn.ext hE x hrx))
    have hrl6 := hrx.len
    obtain ⟨sa, sc, aa, ac, rfl, _, _, _⟩ := hrx2.form
    refine Wp_skip (thn_normal (Wp_seq (Wp_block (Wp_seq_region ?_))))
    refine qM (.slice (some ⟨g, 0, none⟩) ts.length c) rfl ?_
    refine qM (I6 (j : Int)) rfl ?_
    refine qV (r_indexSlice (b := g) (o := 0) (len := ts.length) (cap := c) (i := j) (o' := 0 + j * 6) rfl rfl rfl Try.underlying25 siz27 (by omega) (by omega)) ?_
    refine qV (r_loadAgg (vs := [(I6 x.kind), (.slice sa x.set.length sc), (.slice aa x.args.length ac), (I6 x.mn), (I6 x.mx), (.bool x.neg)]) rfl agg27 siz27 rfl (by rw [Nat.zero_add]; exact rows_at hgB2 hc6 hcr)) ?_
    refine s_allocStore (v := (.agg (R6 x sa sc aa ac))) (c := (R6 x sa sc aa ac)) (n := 6) (by decide) zer27 rfl siz27 rfl rfl rfl (by simp [Value.oneCell']) ?_
    intro bs ws Ns
    have Fs := Ns.ge E
    have Os_g := Ns.lt hgB2
    replace hgB2 := Ns.keep hgB2
    replace hrx2 := ReAt.ext Ns.ext x hrx2
    replace E := E.ext Ns.ext
    have Bs := Ns.blk
    refine WpL_nil (Wp_seq_region ?_)
    refine qM fv rfl ?_
    refine qV (r_loadAgg (vs := [(I6 x.kind), (.slice sa x.set.length sc), (.slice aa x.args.length ac), (I6 x.mn), (I6 x.mx), (.bool x.neg)]) rfl agg27 siz27 rfl (Bs.cells rfl)) ?_
    refine WpL_callV (fv := fv) (vs := [(.agg (R6 x sa sc aa ac))]) (by decide) rfl rfl (hf _ x _ (List.mem_of_getElem? hx) hrx2) ?_
    rintro _ w19 ⟨rfl, X19⟩
    replace hgB2 := X19.keep hgB2
    replace Bs := X19.keep Bs
    replace hrx2 := ReAt.ext X19 x hrx2
    replace E := E.ext X19
    refine qV (r_not (b := p x) rfl) ?_
    refine WpL_nil ?_
    refine Wp_cond (b := !(p x)) rfl (fun hp => ?_) (fun hp => ?_)
    ·have khp := hp
     replace hp := by simpa using hp
     refine Wp_seq_region ?_
     refine qM (.slice (some ⟨g, 0, none⟩) ts.length c) rfl ?_
     refine qM (I6 (i : Int)) rfl ?_
     refine qV (r_loadAgg (vs := [(I6 x.kind), (.slice sa x.set.length sc), (.slice aa x.args.length ac), (I6 x.mn), (I6 x.mx), (.bool x.neg)]) rfl agg27 siz27 rfl (Bs.cells rfl)) ?_
     refine qV (r_indexSlice (b := g) (o := 0) (len := ts.length) (cap := c) (i := i) (o' := 0 + i * 6) rfl rfl rfl Try.underlying25 siz27 (by omega) (by omega)) ?_
     refine s_storeAgg (b := g) (o := 0 + i * 6) (n := 6) (c' := ((cur.set i [.int .i64 x.kind, .slice sa x.set.length sc, .slice aa x.args.length ac, .int .i64 x.mn, .int .i64 x.mx, .bool x.neg]).flatten ++ rest).toArray) (vs := (R6 x sa sc aa ac)) rfl rfl (by simp [Value.oneCell']) siz27 (rfl) hgB2 (by have := rows_len hc6; simp only [List.size_toArray, List.length_append]; omega) (by rw [Nat.zero_add]; exact congrArg List.toArray (rows_set (k := 6) (v := [.int .i64 x.kind, .slice sa x.set.length sc, .slice aa x.args.length ac, .int .i64 x.mn, .int .i64 x.mx, .bool x.neg]) (rows := cur) (i := i) (rest := rest) rfl hc6 (by omega))) ?_
     intro w5 S5
     replace Bs := S5.keep (by omega) Bs
     replace E := S5.step E (by first | exact Or.inl (by omega) | exact Or.inr rfl | exact Or.inr (by assumption) | exact Or.inr (by simp) | exact Or.inr (by omega) | exact Or.inr (by dsimp only; omega))
     replace hgB2 := S5.blk
     refine WpL_nil (Wp_region ?_)
     refine qM (I6 (i : Int)) rfl ?_
     refine qV (r_add (k := .i64) (a := (i : Int)) (b := 1) (c := (i : Int) + 1) rfl rfl (wI64 (by omega))) ?_
     refine qA (I6 ((i : Int) + 1)) rfl ?_
     refine WpL_nil (inB_normal (thn_normal (Wp_region ?_)))
     refine qM (I6 (j : Int)) rfl ?_
     refine qV (r_add (k := .i64) (a := (j : Int)) (b := 1) (c := (j : Int) + 1) rfl rfl (wI64 (by omega))) ?_
     refine qA (I6 ((j : Int) + 1)) rfl ?_
     refine WpL_nil (thn_normal ?_)
     exact ⟨ts.length - (j + 1), by omega, j + 1, i + 1, cur.set i [.int .i64 x.kind, .slice sa x.set.length sc, .slice aa x.args.length ac, .int .i64 x.mn, .int .i64 x.mx, .bool x.neg], Fits.out ⟨rfl, rfl, rfl, rfl, trivial⟩, E, hgB2, ⟨by omega, by omega⟩, (by simpa using hcl), (fun r hr => by rcases List.mem_or_eq_of_mem_set hr with h | h; exact hc6 r h; rw [h]; rfl), (by rw [List.drop_set_of_lt (by omega)]; exact hdr2), (by rw [hfs, hp, List.take_add_one, List.take_set_of_le (Nat.le_refl _), List.getElem?_set_self (by omega)]; exact RowsIn.append (RowsIn.single hrx) hin), (by rw [hfs, hp, List.length_append, ← hil]; rfl), rfl⟩
    ·have khp := hp
     replace hp := by simpa using hp
     refine Wp_skip (inB_normal (thn_normal (Wp_region ?_)))
     refine qM (I6 (j : Int)) rfl ?_
     refine qV (r_add (k := .i64) (a := (j : Int)) (b := 1) (c := (j : Int) + 1) rfl rfl (wI64 (by omega))) ?_
     refine qA (I6 ((j : Int) + 1)) rfl ?_
     refine WpL_nil (thn_normal ?_)
     exact ⟨ts.length - (j + 1), by omega, j + 1, i, cur, Fits.out ⟨rfl, rfl, rfl, rfl, trivial⟩, E, hgB2, ⟨by omega, by omega⟩, hcl, hc6, hdr2, (by rw [hfs, hp]; simpa using hin), (by rw [hfs, hp]; simpa using hil), rfl⟩
   ·have khlt := hlt
    replace hlt := of_decide_eq_false hlt
    have hjj : j = ts.length := by omega
    rw [hjj, List.take_length] at hin hil
    refine Wp_exit (thn_exit (thn_exit (inB_here (thn_normal (Wp_seq_region ?_)))))
    refine qM (.slice (some ⟨g, 0, none⟩) ts.length c) rfl ?_
    refine qM (I6 (i : Int)) rfl ?_
    obtain ⟨sl, hsl⟩ : ∃ a' : Option Addr, (if c = i then (some ⟨g, 0, none⟩) else Option.map (fun q : Addr => q.add (i * 6)) (some ⟨g, 0, none⟩)) = a' := ⟨_, rfl⟩
    refine qV (r_sliceLo (a := (some ⟨g, 0, none⟩)) (len := ts.length) (cap := c) (lo := i) (l := (i : Int)) (n' := (ts.length - i)) (c' := (c - i)) Try.underlying25 siz27 rfl rfl (by omega) (by omega) hsl (by omega) (by omega)) ?_
    have hsl2 : sl = some ⟨g, i * 6, none⟩ := by rw [← hsl, if_neg (by omega)]; simp [Addr.add]; omega
    subst hsl2
    obtain ⟨cz, hcz⟩ : ∃ cz, cz = ((cur.flatten ++ rest).toArray.toList.take (i * 6) ++ (Builtin.zeroCells (Value.cells (.agg #[(.int .i64 0), (.slice none 0 0), (.slice none 0 0), (.int .i64 0), (.int .i64 0), (.bool false)])) (ts.length - i)).toList ++ (cur.flatten ++ rest).toArray.toList.drop (i * 6 + (ts.length - i) * 6)).toArray := ⟨_, rfl⟩
    refine s_clear (b := g) (o := i * 6) (m := (ts.length - i)) (cc := (c - i)) (c' := cz) Try.underlying25 zer27 rfl (by omega) hgB2 zero_one (by show i * 6 + (ts.length - i) * 6 ≤ _; simp only [List.size_toArray, List.length_append, rows_len hc6, hcl]; omega) (hcz.symm) ?_
    intro w6 S6
    replace E := S6.step E (by first | exact Or.inl (by omega) | exact Or.inr rfl | exact Or.inr (by assumption) | exact Or.inr (by simp) | exact Or.inr (by omega) | exact Or.inr (by dsimp only; omega))
    replace hgB2 := S6.blk
    refine WpL_nil (Wp_seq_region ?_)
    refine qM (.slice (some ⟨g, 0, none⟩) ts.length c) rfl ?_
    refine qM (I6 (i : Int)) rfl ?_
    obtain ⟨sm, hsm⟩ : ∃ a' : Option Addr, (if c = 0 then (some ⟨g, 0, none⟩) else Option.map (fun q : Addr => q.add (0 * 6)) (some ⟨g, 0, none⟩)) = a' := ⟨_, rfl⟩
    refine qV (r_sliceHi (a := (some ⟨g, 0, none⟩)) (len := ts.length) (cap := c) (hi := i) (l := (i : Int)) Try.underlying25 siz27 rfl rfl (by omega) (by omega) hsm) ?_
    refine qA (.slice sm i c) rfl ?_
    refine WpL_nil (Wp_ret ?_)
    refine fin_tmp Try.results50 (v := (.slice sm i c)) rfl ?_
    have hsm2 : sm = some ⟨g, 0, none⟩ := by rw [← hsm]; split <;> simp [Addr.add]
    subst hsm2
    have hfl : (cur.take i).flatten.length = i * 6 := by rw [rows_len (fun r hr => hc6 r (List.mem_of_mem_take hr))]; simp; omega
    have htk : (cur.flatten ++ rest).take (i * 6) = (cur.take i).flatten := by
     have : cur.flatten = (cur.take i).flatten ++ (cur.drop i).flatten := by rw [← List.flatten_append, List.take_append_drop]
     rw [this, List.append_assoc, List.take_append_of_le_length (by omega), List.take_of_length_le (by omega)]
    have hz : (Builtin.zeroCells (Value.cells (.agg #[(.int .i64 0), (.slice none 0 0), (.slice none 0 0), (.int .i64 0), (.int .i64 0), (.bool false)])) (ts.length - i)).toList.length = (ts.length - i) * 6 := by simp [Builtin.zeroCells, Value.cells]
    have hcl6 : (cur.flatten ++ rest).length = c * 6 := by rw [List.length_append, rows_len hc6, hcl]; omega
    refine ⟨some ⟨g, 0, none⟩, c, cur.take i, by rw [← hil], ⟨by rw [hfl, ← hil], .inr ⟨g, c, cz, by rw [← hil], hgb, hgB2, by omega, hcap2, ?_, ?_⟩⟩, hin, E⟩
    ·rw [hcz]
     simp only [List.size_toArray, List.length_append, List.length_take, List.length_drop, hz]
     simp only [List.length_append] at hcl6
     omega
    ·rw [hcz, ← hil]
     show List.take (i * 6) (List.take (i * 6) (cur.flatten ++ rest) ++ _ ++ _) = _
     rw [htk, List.append_assoc, List.take_append_of_le_length (by omega), List.take_of_length_le (by omega)]
end Go.Proofs
namespace Go.Proofs
open Go Go.Eng
set_option maxRecDepth 100000
theorem RsIn.ext {S : Nat → Prop} {w w' : World} {v : Value} {ts : List Re} (h : RsIn S w v ts) (e : Ext w w') : RsIn S w' v ts := by
 obtain ⟨aa, ac, h1, h2, h3⟩ := h
 refine ⟨aa, ac, h1, h2, ?_⟩
 rcases h3 with h | ⟨b, o, hb, h4, h5⟩
 ·exact .inl h
 ·exact .inr ⟨b, o, hb, h4, ResIn.chg e (fun _ _ f => f) ts hb h5⟩
theorem re_empty (S : Nat → Prop) (w : World) (k : Int) : ReIn S w (.mk k [] [] 0 0 false) [.int .i64 k, .slice none 0 0, .slice none 0 0, .int .i64 0, .int .i64 0, .bool false] :=
 ReIn.of (SlIn.nil _ _ _ _ _) (by simp) (.inl rfl)
theorem getD_one {α : Type} {l : List α} (h : l.length = 1) {x : α} (hx : l[0]? = some x) : l = [x] := by
  match l, h with
  | [y], _ => simp at hx; rw [hx]
end Go.Proofs
namespace Go.Proofs
open Go Go.Eng
set_option maxRecDepth 100000
theorem RowsIn.chg {S M : Nat → Prop} {w w' : World} (c : Chg M w w') (hm : ∀ b, S b → ¬ M b) : ∀ {ts : List Re} {rows : List (List Value)}, RowsIn S w ts rows → RowsIn S w' ts rows
  | [], _, h => h
  | t :: ts, rows, h => by
    obtain ⟨r, rs, h1, h2, h3⟩ := h
    exact ⟨r, rs, h1, ReIn.chg c hm t h2, RowsIn.chg c hm h3⟩
theorem RowsIn.mono {S S' : Nat → Prop} {w : World} (hs : ∀ b, S b → S' b) : ∀ {ts : List Re} {rows : List (List Value)}, RowsIn S w ts rows → RowsIn S' w ts rows
  | [], _, h => h
  | t :: ts, rows, h => by
    obtain ⟨r, rs, h1, h2, h3⟩ := h
    exact ⟨r, rs, h1, ReIn.mono hs t h2, RowsIn.mono hs h3⟩
theorem SlIn.lt {S : Nat → Prop} {w : World} {v : Value} {l : List (Int × Int)} (h : SlIn S w 2 v (l.map spanV)) : SlIn (fun b => S b ∧ b < w.heap.size) w 2 v (l.map spanV) := by
  obtain ⟨a, cap, h1, h2, h3, h4⟩ := h
  refine ⟨a, cap, h1, h2, h3, ?_⟩
  rcases h4 with h | ⟨b, o, hb, h5, h6⟩
  · exact .inl h
  · cases l with
    | nil => exact .inl rfl
    | cons s r =>
      have := h6 0 (spanV s) rfl 0 _ rfl
      exact .inr ⟨b, o, ⟨hb, World.block_lt_of_cell? w _ this⟩, h5, h6⟩
mutual
theorem ReIn.lt {S : Nat → Prop} {w : World} : ∀ (t : Re) {vs : List Value}, ReIn S w t vs → ReIn (fun b => S b ∧ b < w.heap.size) w t vs
  | .mk k set args mn mx ng, vs, h => by
    simp only [ReIn] at h ⊢
    obtain ⟨sa, sc, aa, ac, hv, hs, hl, ha⟩ := h
    refine ⟨sa, sc, aa, ac, hv, SlIn.lt hs, hl, ?_⟩
    rcases ha with h | ⟨b, o, hb, h1, h2⟩
    · exact .inl h
    · match args, h2 with
      | [], _ => exact .inl rfl
      | t :: ts, h2 =>
        have h3 := h2
        simp only [ResIn] at h3
        obtain ⟨⟨us, h4, h5⟩, _⟩ := h3
        obtain ⟨_, _, _, _, rfl, _⟩ := h5.form
        have := h4 0 _ rfl
        exact .inr ⟨b, o, ⟨hb, World.block_lt_of_cell? w _ this⟩, h1, ResIn.lt (t :: ts) h2⟩
theorem ResIn.lt {S : Nat → Prop} {w : World} {b : Nat} : ∀ (ts : List Re) {o : Nat}, ResIn S w b o ts → ResIn (fun b => S b ∧ b < w.heap.size) w b o ts
  | [], _, _ => by simp only [ResIn]
  | t :: ts, o, h => by
    simp only [ResIn] at h ⊢
    obtain ⟨⟨vs, h1, h2⟩, h3⟩ := h
    exact ⟨⟨vs, h1, ReIn.lt t h2⟩, ResIn.lt ts h3⟩
end
theorem RsIn.lt {S : Nat → Prop} {w : World} {v : Value} {ts : List Re} (h : RsIn S w v ts) : RsIn (fun b => S b ∧ b < w.heap.size) w v ts := by
  obtain ⟨aa, ac, h1, h2, h3⟩ := h
  refine ⟨aa, ac, h1, h2, ?_⟩
  rcases h3 with h | ⟨b, o, hb, h4, h5⟩
  · exact .inl h
  · match ts, h5 with
    | [], _ => exact .inl rfl
    | t :: ts, h5 =>
      have h6 := h5
      simp only [ResIn] at h6
      obtain ⟨⟨us, h7, h8⟩, _⟩ := h6
      obtain ⟨_, _, _, _, rfl, _⟩ := h8.form
      have := h7 0 _ rfl
      exact .inr ⟨b, o, ⟨hb, World.block_lt_of_cell? w _ this⟩, h4, ResIn.lt (t :: ts) h5⟩
/-- The arguments while they are made normal one by one. -/
def NSt (f : Re → Re) (Z L : Nat → Prop) (n0 : Nat) (w : World) (aa : Option Addr) (args : List Re) (k : Nat) : Prop :=
 args = [] ∨ ∃ (b : Nat) (rows : List (List Value)) (rest : List Value) (D K : Nat → Prop), aa = some ⟨b, 0, none⟩ ∧ L b ∧ Blk w b (rows.flatten ++ rest).toArray TRe ∧ RowsIn (fun y => Z y ∨ D y ∨ n0 ≤ y) w ((args.take k).map f) (rows.take k) ∧ Trees Z w (args.drop k) (rows.drop k) K ∧ rows.length = args.length ∧ (∀ r ∈ rows, r.length = 6) ∧ (∀ y, D y → L y ∧ y ≠ b ∧ ¬ K y) ∧ (∀ y, K y → L y ∧ y ≠ b)
theorem NSt.ext {f : Re → Re} {Z L : Nat → Prop} {n0 : Nat} {w w' : World} {aa : Option Addr} {args : List Re} {k : Nat} (h : NSt f Z L n0 w aa args k) (e : Ext w w') : NSt f Z L n0 w' aa args k := by
 rcases h with h | ⟨b, rows, rest, D, K, h1, h2, h3, h4, h5, h6⟩
 ·exact .inl h
 ·exact .inr ⟨b, rows, rest, D, K, h1, h2, e.keep h3, h4.ext e, Trees.ext e _ h5, h6⟩
theorem headD_get {α : Type} {l : List α} {x d : α} (h : l[0]? = some x) : l.headD d = x := by
  cases l with
  | nil => simp at h
  | cons y r => simpa using h
theorem RowsIn.lt {S : Nat → Prop} {w : World} : ∀ {ts : List Re} {rows : List (List Value)}, RowsIn S w ts rows → RowsIn (fun b => S b ∧ b < w.heap.size) w ts rows
  | [], _, h => h
  | t :: ts, rows, h => by
    obtain ⟨r, rs, h1, h2, h3⟩ := h
    exact ⟨r, rs, h1, ReIn.lt t h2, RowsIn.lt h3⟩
end Go.Proofs
namespace Go.Proofs
open Go Go.Eng Go.Sort
set_option maxRecDepth 100000
/-- A node in similar form, of arguments in similar form. -/
structure SimN (k : Int) (s : List (Int × Int)) (a : List Re) (m x : Int) (g : Bool) : Prop where
 ks : k = 0 ∨ k = 1 ∨ k = 2 ∨ k = 3 ∨ k = 4 ∨ k = 5 ∨ k = 6 ∨ k = 7 ∨ k = 8
 ng : g = false
 st : k ≠ 2 → s = []
 mm : k ≠ 6 → m = 0 ∧ x = 0
 k2 : k = 2 → s ≠ [] ∧ checkE s = 0
 none : k = 0 ∨ k = 1 ∨ k = 2 → a = []
 k3 : k = 3 → 2 ≤ a.length ∧ ∀ y ∈ a, y.kind ≠ 0 ∧ y.kind ≠ 1 ∧ y.kind ≠ 3
 k4 : k = 4 → 2 ≤ a.length ∧ (∀ y ∈ a, y.kind ≠ 0 ∧ y.kind ≠ 4 ∧ isAllB y = false) ∧ a.Pairwise fun y z => ordR y z < 0
 k7 : k = 7 → 2 ≤ a.length ∧ (∀ y ∈ a, y.kind ≠ 0 ∧ y.kind ≠ 7 ∧ isAllB y = false) ∧ a.Pairwise fun y z => ordR y z < 0
 k5 : k = 5 → ∃ y, a = [y] ∧ y.kind ≠ 0 ∧ y.kind ≠ 1 ∧ y.kind ≠ 5
 k6 : k = 6 → ∃ y, a = [y] ∧ y.kind ≠ 0 ∧ y.kind ≠ 1 ∧ 0 ≤ m ∧ m ≤ x ∧ x ≤ 8 ∧ x ≠ 0 ∧ ¬ (m = 1 ∧ x = 1)
 k8 : k = 8 → ∃ y, a = [y] ∧ y.kind ≠ 8
mutual
def SimOk : Re → Prop
  | .mk k s a m x g => SimN k s a m x g ∧ SimOks a
def SimOks : List Re → Prop
  | [] => True
  | t :: ts => SimOk t ∧ SimOks ts
end
theorem simOks_iff {ts : List Re} : SimOks ts ↔ ∀ t ∈ ts, SimOk t := by
  induction ts with
  | nil => simp [SimOks]
  | cons t ts ih => simp [SimOks, ih]
theorem SimOk.n {t : Re} (h : SimOk t) : SimN t.kind t.set t.args t.mn t.mx t.neg := by cases t; exact h.1
theorem SimOk.a {t : Re} (h : SimOk t) : ∀ x ∈ t.args, SimOk x := by cases t; exact simOks_iff.1 h.2
theorem SimOk.mk' {k : Int} {s : List (Int × Int)} {a : List Re} {m x : Int} {g : Bool} (h : SimN k s a m x g) (ha : ∀ y ∈ a, SimOk y) : SimOk (.mk k s a m x g) := ⟨h, simOks_iff.2 ha⟩
mutual
theorem sim_noNeg : ∀ {t : Re}, SimOk t → noNeg t = true
  | .mk k s a m x g, h => by
    simp only [noNeg, h.1.ng, Bool.not_false, Bool.true_and]
    exact sims_noNeg h.2
theorem sims_noNeg : ∀ {ts : List Re}, SimOks ts → noNegs ts = true
  | [], _ => rfl
  | t :: ts, h => by simp only [noNegs, sim_noNeg h.1, sims_noNeg h.2]; rfl
end
theorem sim_none : SimOk noneT := by unfold noneT; exact .mk' ⟨by simp, rfl, by simp, by simp, by simp, by simp, by simp, by simp, by simp, by simp, by simp, by simp⟩ (by simp)
theorem sim_empty : SimOk emptyT := by unfold emptyT; exact .mk' ⟨by simp, rfl, by simp, by simp, by simp, by simp, by simp, by simp, by simp, by simp, by simp, by simp⟩ (by simp)
theorem sim_all : SimOk allT := by
 unfold allT
 exact .mk' ⟨by simp, rfl, by simp, by simp, by simp, by simp, by simp, by simp, by simp, by simp, by simp, fun _ => ⟨noneT, rfl, by decide⟩⟩ (by intro y hy; simp at hy; subst hy; exact sim_none)
theorem flat_mem {k : Int} {l : List Re} {x : Re} : x ∈ flatT k l ↔ ∃ y ∈ l, (y.kind = k ∧ x ∈ y.args) ∨ (y.kind ≠ k ∧ x = y) := by
 unfold flatT
 rw [List.mem_flatMap]
 constructor
 ·rintro ⟨y, hy, h⟩
  split at h
  ·rename_i hk; exact ⟨y, hy, .inl ⟨hk, h⟩⟩
  ·rename_i hk; simp at h; exact ⟨y, hy, .inr ⟨hk, h⟩⟩
 ·rintro ⟨y, hy, ⟨hk, h⟩ | ⟨hk, h⟩⟩
  ·exact ⟨y, hy, by rw [if_pos hk]; exact h⟩
  ·exact ⟨y, hy, by rw [if_neg hk]; simp [h]⟩
theorem flat_id {k : Int} {l : List Re} (h : ∀ x ∈ l, x.kind ≠ k) : flatT k l = l := by
  unfold flatT
  induction l with
  | nil => rfl
  | cons x l ih => rw [List.flatMap_cons, if_neg (h x (by simp)), ih fun y hy => h y (by simp [hy])]; rfl
theorem del_id {p : Re → Bool} {l : List Re} (h : ∀ x ∈ l, p x = false) : delT p l = l := List.filter_eq_self.2 fun x hx => by rw [h x hx]; rfl
theorem del_mem {p : Re → Bool} {l : List Re} {x : Re} : x ∈ delT p l ↔ x ∈ l ∧ p x = false := by unfold delT; rw [List.mem_filter]; simp
theorem wrap_id {k : Int} {z : Re} {l : List Re} (h : 2 ≤ l.length) : wrapT k z l = .mk k [] l 0 0 false := by
  match l, h with
  | x :: y :: l, _ => rfl
theorem catD_id {l : List Re} (h : 2 ≤ l.length) (h2 : ∀ y ∈ l, y.kind ≠ 0 ∧ y.kind ≠ 1 ∧ y.kind ≠ 3) : catD l = .mk 3 [] l 0 0 false := by
 have e : delT isEmptyB (flatT 3 l) = l := by rw [flat_id fun y hy => (h2 y hy).2.2, del_id fun y hy => by simp [isEmptyB, (h2 y hy).2.1]]
 unfold catD
 rw [e, if_neg, wrap_id h]
 rw [List.any_eq_true]
 rintro ⟨y, hy, hk⟩
 simp [isNoneB] at hk
 exact (h2 y hy).1 hk
theorem catD_ok {l : List Re} (h : ∀ x ∈ l, SimOk x) : SimOk (catD l) := by
  unfold catD
  split
  · exact sim_none
  · rename_i hn
    have hm : ∀ y ∈ delT isEmptyB (flatT 3 l), SimOk y ∧ y.kind ≠ 0 ∧ y.kind ≠ 1 ∧ y.kind ≠ 3 := fun y hy => by
      have h0 : y.kind ≠ 0 := fun hk => hn (List.any_eq_true.2 ⟨y, hy, by simp [isNoneB, hk]⟩)
      obtain ⟨h1, h2⟩ := del_mem.1 hy
      have h3 : y.kind ≠ 1 := by simpa [isEmptyB] using h2
      obtain ⟨z, hz, ⟨hk, h4⟩ | ⟨hk, rfl⟩⟩ := flat_mem.1 h1
      · exact ⟨(h z hz).a y h4, h0, h3, (((h z hz).n.k3 hk).2 y h4).2.2⟩
      · exact ⟨h y hz, h0, h3, hk⟩
    generalize delT isEmptyB (flatT 3 l) = q at hm
    match q, hm with
    | [], _ => exact sim_empty
    | [x], hm => exact (hm x (by simp)).1
    | x :: y :: q, hm => exact .mk' ⟨by simp, rfl, by simp, by simp, by simp, by simp, fun _ => ⟨by simp, fun z hz => (hm z hz).2⟩, by simp, by simp, by simp, by simp, by simp⟩ fun z hz => (hm z hz).1
theorem ded_mem : ∀ {l : List Re} {x : Re}, x ∈ dedR l ↔ x ∈ l
  | [], x => by simp [dedR]
  | [y], x => by simp [dedR]
  | y :: z :: l, x => by
    simp only [dedR]
    split
    · rename_i h
      rw [ded_mem, (sameT_iff y z).1 h]
      simp
    · rw [List.mem_cons, ded_mem]
      simp
theorem ded_strict : ∀ {l : List Re}, (∀ x ∈ l, noNeg x = true) → l.Pairwise (fun y z => ordR y z ≤ 0) → (dedR l).Pairwise fun y z => ordR y z < 0
  | [], _, _ => by simp [dedR]
  | [y], _, _ => by simp [dedR]
  | y :: z :: l, hn, h => by
    obtain ⟨h1, h2⟩ := List.pairwise_cons.1 h
    simp only [dedR]
    split
    · exact ded_strict (fun x hx => hn x (by simp [List.mem_cons.1 hx])) h2
    · rename_i hne
      refine List.pairwise_cons.2 ⟨fun x hx => ?_, ded_strict (fun x hx => hn x (by simp [List.mem_cons.1 hx])) h2⟩
      have hyz : ordR y z < 0 := by
        have h3 := h1 z (by simp)
        have h4 : ordR y z ≠ 0 := fun e => hne ((sameT_iff y z).2 ((ord_zero (hn y (by simp)) (hn z (by simp))).1 e))
        omega
      rcases List.mem_cons.1 (ded_mem.1 hx) with rfl | hx
      · exact hyz
      · have h5 := (List.pairwise_cons.1 h2).1 x hx
        have h6 := ord_sym x y
        have h7 := ord_sym y x
        by_cases h8 : ordR y x < 0
        · exact h8
        · exfalso
          have h9 : ordR x y ≤ 0 := by omega
          have h10 := ord_tr h5 h9
          have h11 := ord_sym z y
          omega
theorem ded_id : ∀ {l : List Re}, l.Pairwise (fun y z => ordR y z < 0) → dedR l = l
  | [], _ => rfl
  | [y], _ => rfl
  | y :: z :: l, h => by
    obtain ⟨h1, h2⟩ := List.pairwise_cons.1 h
    simp only [dedR]
    rw [if_neg, ded_id h2]
    intro e
    have e1 := (sameT_iff y z).1 e
    have h3 := h1 z (by simp)
    have h4 := ord_sym y y
    rw [e1] at h3 h4
    omega
theorem sort_sorted (l : List Re) : (sortR l).Pairwise fun y z => ordR y z ≤ 0 := by
 have h := List.pairwise_mergeSort (le := leR) (fun a b c h1 h2 => by simp only [leR, decide_eq_true_eq] at *; exact ord_tr h1 h2) (fun a b => by simp only [leR, Bool.or_eq_true, decide_eq_true_eq]; exact ord_le a b) l
 exact h.imp fun {a b} h => by simpa [leR] using h
theorem sort_mem {l : List Re} {x : Re} : x ∈ sortR l ↔ x ∈ l := List.mem_mergeSort
theorem sort_id {l : List Re} (h : l.Pairwise fun y z => ordR y z < 0) : sortR l = l := List.mergeSort_of_pairwise (le := leR) (h.imp fun {a b} h => by simp [leR]; omega)
theorem choR_id {k : Int} {l : List Re} {strong weak : Re → Bool} {z : Re} (h : 2 ≤ l.length) (hk : ∀ y ∈ l, y.kind ≠ k) (hs : ∀ y ∈ l, strong y = false) (hw : ∀ y ∈ l, weak y = false) (hp : l.Pairwise fun y z => ordR y z < 0) : choR k l strong weak z = .mk k [] l 0 0 false := by
 unfold choR
 rw [List.find?_eq_none.2 fun y hy => by rw [hs y hy]; decide]
 show wrapT k z _ = _
 rw [flat_id hk, del_id hw, sort_id hp, ded_id hp, wrap_id h]
theorem choR_ok {k : Int} {l : List Re} {strong weak : Re → Bool} {z : Re} (h : ∀ x ∈ l, SimOk x) (hz : SimOk z)
    (hN : ∀ q : List Re, 2 ≤ q.length → (∀ y ∈ q, y.kind ≠ k ∧ strong y = false ∧ weak y = false) → (q.Pairwise fun y z => ordR y z < 0) → SimN k [] q 0 0 false)
    (hi : ∀ x, SimOk x → x.kind = k → ∀ y ∈ x.args, y.kind ≠ k ∧ strong y = false) : SimOk (choR k l strong weak z) := by
  unfold choR
  cases hf : l.find? strong with
  | some x => exact h x (List.mem_of_find?_eq_some hf)
  | none =>
    have hst := List.find?_eq_none.1 hf
    have hm : ∀ y ∈ dedR (sortR (delT weak (flatT k l))), SimOk y ∧ y.kind ≠ k ∧ strong y = false ∧ weak y = false := fun y hy => by
      obtain ⟨h1, h2⟩ := del_mem.1 (sort_mem.1 (ded_mem.1 hy))
      obtain ⟨x, hx, ⟨hk, h4⟩ | ⟨hk, rfl⟩⟩ := flat_mem.1 h1
      · exact ⟨(h x hx).a y h4, (hi x (h x hx) hk y h4).1, (hi x (h x hx) hk y h4).2, h2⟩
      · exact ⟨h y hx, hk, by simpa using hst y hx, h2⟩
    have hp := ded_strict (l := sortR (delT weak (flatT k l))) (fun x hx => by
      obtain ⟨h1, h2⟩ := del_mem.1 (sort_mem.1 hx)
      obtain ⟨y, hy, ⟨hk, h4⟩ | ⟨hk, rfl⟩⟩ := flat_mem.1 h1
      · exact sim_noNeg ((h y hy).a x h4)
      · exact sim_noNeg (h x hy)) (sort_sorted _)
    show SimOk (wrapT k z _)
    generalize dedR (sortR (delT weak (flatT k l))) = q at hm hp
    match q, hm, hp with
    | [], _, _ => exact hz
    | [x], hm, _ => exact (hm x (by simp)).1
    | x :: y :: q, hm, hp => exact .mk' (hN _ (by simp) (fun z hz => (hm z hz).2) hp) fun z hz => (hm z hz).1
theorem alt_ok {l : List Re} (h : ∀ x ∈ l, SimOk x) : SimOk (choR 4 l isAllB isNoneB noneT) :=
 choR_ok h sim_none (fun q h1 h2 h3 => ⟨by simp, rfl, by simp, by simp, by simp, by simp, by simp, fun _ => ⟨h1, fun y hy => ⟨by simpa [isNoneB] using (h2 y hy).2.2, (h2 y hy).1, (h2 y hy).2.1⟩, h3⟩, by simp, by simp, by simp, by simp⟩)
  fun x hx hk y hy => ⟨((hx.n.k4 hk).2.1 y hy).2.1, ((hx.n.k4 hk).2.1 y hy).2.2⟩
theorem and_ok {l : List Re} (h : ∀ x ∈ l, SimOk x) : SimOk (choR 7 l isNoneB isAllB allT) :=
 choR_ok h sim_all (fun q h1 h2 h3 => ⟨by simp, rfl, by simp, by simp, by simp, by simp, by simp, by simp, fun _ => ⟨h1, fun y hy => ⟨by simpa [isNoneB] using (h2 y hy).2.1, (h2 y hy).1, (h2 y hy).2.2⟩, h3⟩, by simp, by simp, by simp⟩)
  fun x hx hk y hy => ⟨((hx.n.k7 hk).2.1 y hy).2.1, by simpa [isNoneB] using ((hx.n.k7 hk).2.1 y hy).1⟩
/-- What is asked of a node whose arguments are in similar form: it is valid, but for flattening. -/
structure PreN (k : Int) (s : List (Int × Int)) (a : List Re) (m x : Int) (g : Bool) : Prop where
 ks : k = 0 ∨ k = 1 ∨ k = 2 ∨ k = 3 ∨ k = 4 ∨ k = 5 ∨ k = 6 ∨ k = 7 ∨ k = 8
 ng : g = false
 st : k ≠ 2 → s = []
 mm : k ≠ 6 → m = 0 ∧ x = 0
 k2 : k = 2 → s ≠ [] ∧ checkE s = 0
 none : k = 0 ∨ k = 1 ∨ k = 2 → a = []
 one : k = 5 ∨ k = 6 ∨ k = 8 → a.length = 1
 rep : k = 6 → 0 ≤ m ∧ m ≤ x ∧ x ≤ 8
theorem node_ok {k : Int} {s : List (Int × Int)} {a : List Re} {m x : Int} {g : Bool} (h : PreN k s a m x g) (ha : ∀ y ∈ a, SimOk y) : SimOk (nodeK k s a m x g) := by
  unfold nodeK
  dsimp only
  have one : k = 5 ∨ k = 6 ∨ k = 8 → ∃ y, a = [y] := fun hk => by
    match a, h.one hk with
    | [y], _ => exact ⟨y, rfl⟩
  split
  · exact catD_ok ha
  split
  · exact alt_ok ha
  split
  · exact and_ok ha
  split
  · rename_i h5
    obtain ⟨y, rfl⟩ := one (.inl h5)
    show SimOk (if y.kind = 0 ∨ y.kind = 1 then emptyT else if y.kind = 5 then y else Re.mk k s [y] m x g)
    split
    · exact sim_empty
    split
    · exact ha y (by simp)
    · exact .mk' ⟨h.ks, h.ng, h.st, h.mm, h.k2, h.none, by omega, by omega, by omega, fun _ => ⟨y, rfl, by omega, by omega, by omega⟩, by omega, by omega⟩ ha
  split
  · rename_i h6
    obtain ⟨y, rfl⟩ := one (.inr (.inl h6))
    have hr := h.rep h6
    show SimOk (if x = 0 ∨ y.kind = 1 ∨ (y.kind = 0 ∧ m = 0) then emptyT else if y.kind = 0 ∨ (m = 1 ∧ x = 1) then y else Re.mk k s [y] m x g)
    split
    · exact sim_empty
    split
    · exact ha y (by simp)
    · exact .mk' ⟨h.ks, h.ng, h.st, h.mm, h.k2, h.none, by omega, by omega, by omega, by omega, fun _ => ⟨y, rfl, by omega, by omega, by omega, by omega, by omega, by omega, by omega⟩, by omega⟩ ha
  split
  · rename_i h8
    obtain ⟨y, rfl⟩ := one (.inr (.inr h8))
    show SimOk (if y.kind = 8 then y.args.headD noneT else Re.mk k s [y] m x g)
    split
    · rename_i hy
      obtain ⟨z, hz, _⟩ := (ha y (by simp)).n.k8 hy
      rw [hz]
      exact (ha y (by simp)).a z (by rw [hz]; simp)
    · rename_i hy
      exact .mk' ⟨h.ks, h.ng, h.st, h.mm, h.k2, h.none, by omega, by omega, by omega, by omega, by omega, fun _ => ⟨y, rfl, hy⟩⟩ ha
  · exact .mk' ⟨h.ks, h.ng, h.st, h.mm, h.k2, h.none, by omega, by omega, by omega, by omega, by omega, by omega⟩ ha
theorem node_id {k : Int} {s : List (Int × Int)} {a : List Re} {m x : Int} {g : Bool} (h : SimN k s a m x g) : nodeK k s a m x g = .mk k s a m x g := by
 unfold nodeK
 dsimp only
 have hst := h.st
 have hmm := h.mm
 have hng := h.ng
 split
 ·rename_i hk
  obtain ⟨h1, h2⟩ := h.k3 hk
  rw [catD_id h1 h2, hst (by omega), (hmm (by omega)).1, (hmm (by omega)).2, hng, hk]
 split
 ·rename_i hk
  obtain ⟨h1, h2, h3⟩ := h.k4 hk
  rw [choR_id h1 (fun y hy => (h2 y hy).2.1) (fun y hy => (h2 y hy).2.2) (fun y hy => by simp [isNoneB, (h2 y hy).1]) h3, hst (by omega), (hmm (by omega)).1, (hmm (by omega)).2, hng, hk]
 split
 ·rename_i hk
  obtain ⟨h1, h2, h3⟩ := h.k7 hk
  rw [choR_id h1 (fun y hy => (h2 y hy).2.1) (fun y hy => by simp [isNoneB, (h2 y hy).1]) (fun y hy => (h2 y hy).2.2) h3, hst (by omega), (hmm (by omega)).1, (hmm (by omega)).2, hng, hk]
 split
 ·rename_i hk
  obtain ⟨y, rfl, h1, h2, h3⟩ := h.k5 hk
  show (if y.kind = 0 ∨ y.kind = 1 then emptyT else if y.kind = 5 then y else Re.mk k s [y] m x g) = _
  rw [if_neg (by omega), if_neg h3]
 split
 ·rename_i hk
  obtain ⟨y, rfl, h1, h2, h3, h4, h5, h6, h7⟩ := h.k6 hk
  show (if x = 0 ∨ y.kind = 1 ∨ (y.kind = 0 ∧ m = 0) then emptyT else if y.kind = 0 ∨ (m = 1 ∧ x = 1) then y else Re.mk k s [y] m x g) = _
  rw [if_neg (by omega), if_neg (by omega)]
 split
 ·rename_i hk
  obtain ⟨y, rfl, h1⟩ := h.k8 hk
  show (if y.kind = 8 then y.args.headD noneT else Re.mk k s [y] m x g) = _
  rw [if_neg h1]
 ·rfl
mutual
/-- What is in similar form is its own similar form. -/
theorem simR_id : ∀ {t : Re}, SimOk t → simR t = t
  | .mk k s a m x g, h => by simp only [simR]; rw [simRs_id h.2, node_id h.1]
theorem simRs_id : ∀ {ts : List Re}, SimOks ts → simRs ts = ts
  | [], _ => rfl
  | t :: ts, h => by simp only [simRs]; rw [simR_id h.1, simRs_id h.2]
end
end Go.Proofs
namespace Go.Proofs
open Go Go.Eng Go.Sort
set_option maxRecDepth 100000
theorem wrap_ok {l : List Re} (h : ∀ x ∈ l, SimOk x) (hk : ∀ y ∈ l, y.kind ≠ 0 ∧ y.kind ≠ 1 ∧ y.kind ≠ 3) : SimOk (wrapT 3 emptyT l) := by
  match l, h, hk with
  | [], _, _ => exact sim_empty
  | [x], h, _ => exact h x (by simp)
  | x :: y :: l, h, hk => exact .mk' ⟨by simp, rfl, by simp, by simp, by simp, by simp, fun _ => ⟨by simp, hk⟩, by simp, by simp, by simp, by simp, by simp⟩ h
theorem stepRs_len (c : Int) : ∀ ts : List Re, (stepRs c ts).length = ts.length
  | [] => rfl
  | t :: ts => by simp only [stepRs, List.length_cons, stepRs_len c ts]
theorem stepRs_map (c : Int) (ts : List Re) : stepRs c ts = ts.map (stepR c) := by
  induction ts with
  | nil => rfl
  | cons t ts ih => simp [stepRs, ih]
mutual
theorem step_ok (c : Int) : ∀ {t : Re}, SimOk t → SimOk (stepR c t)
  | .mk k s a m x g, h => by
    have hn := h.1
    have ha := simOks_iff.1 h.2
    have hs := steps_ok c h.2
    simp only [stepR]
    split
    · split
      · exact sim_empty
      · exact sim_none
    split
    · rename_i hk
      exact stepC_ok c h.2 (hn.k3 hk).2
    split
    · rename_i h1 h2 hk
      refine node_ok ⟨by omega, rfl, fun _ => rfl, fun _ => ⟨rfl, rfl⟩, by omega, by omega, fun h8 => ?_, by omega⟩ hs
      rw [stepRs_len]
      obtain ⟨y, rfl, _⟩ := hn.k8 (by omega)
      rfl
    split
    · rename_i hk
      obtain ⟨y, rfl, hy⟩ := hn.k5 hk
      refine catD_ok fun z hz => ?_
      simp only [stepRs, List.headD_cons, List.mem_cons, List.not_mem_nil, or_false] at hz
      rcases hz with rfl | rfl
      · exact hs _ (by simp [stepRs])
      · exact h
    split
    · rename_i hk
      obtain ⟨y, rfl, hy1, hy2, h3, h4, h5, h6, h7⟩ := hn.k6 hk
      refine catD_ok fun z hz => ?_
      simp only [stepRs, List.headD_cons, List.mem_cons, List.not_mem_nil, or_false] at hz
      rcases hz with rfl | rfl
      · exact hs _ (by simp [stepRs])
      · exact node_ok ⟨by omega, rfl, fun _ => rfl, by omega, by omega, by omega, fun _ => rfl, fun _ => by omega⟩ (by intro z hz; simp at hz; subst hz; exact ha _ (by simp))
    · exact sim_none
theorem steps_ok (c : Int) : ∀ {ts : List Re}, SimOks ts → ∀ x ∈ stepRs c ts, SimOk x
  | [], _, x, hx => by simp [stepRs] at hx
  | t :: ts, h, x, hx => by
    simp only [stepRs, List.mem_cons] at hx
    rcases hx with rfl | hx
    · exact step_ok c h.1
    · exact steps_ok c h.2 x hx
theorem stepC_ok (c : Int) : ∀ {ts : List Re}, SimOks ts → (∀ y ∈ ts, y.kind ≠ 0 ∧ y.kind ≠ 1 ∧ y.kind ≠ 3) → SimOk (stepC c ts)
  | [], _, _ => by simp only [stepC]; exact sim_none
  | t :: ts, h, hk => by
    simp only [stepC]
    split
    · exact step_ok c h.1
    · have h1 : SimOk (catD [stepR c t, wrapT 3 emptyT ts]) := catD_ok fun z hz => by
        simp only [List.mem_cons, List.not_mem_nil, or_false] at hz
        rcases hz with rfl | rfl
        · exact step_ok c h.1
        · exact wrap_ok (simOks_iff.1 h.2) fun y hy => hk y (by simp [hy])
      split
      · exact node_ok ⟨by omega, rfl, fun _ => rfl, fun _ => ⟨rfl, rfl⟩, by omega, by omega, by omega, by omega⟩ fun z hz => by
          simp only [List.mem_cons, List.not_mem_nil, or_false] at hz
          rcases hz with rfl | rfl
          · exact h1
          · exact stepC_ok c h.2 fun y hy => hk y (by simp [hy])
      · exact h1
end
theorem sizes_del (p : Re → Bool) : ∀ l : List Re, Re.sizes (delT p l) ≤ Re.sizes l
  | [] => by simp [delT]
  | x :: l => by
    have ih := sizes_del p l
    unfold delT at ih ⊢
    rw [List.filter_cons]
    split
    · simp only [Re.sizes]; omega
    · simp only [Re.sizes]; omega
theorem size_wrap (k : Int) (z : Re) (l : List Re) : (wrapT k z l).size ≤ if l = [] then z.size else Re.sizes l + 1 := by
  match l with
  | [] => exact Nat.le_refl _
  | [x] => simp [wrapT, Re.sizes]
  | x :: y :: l => simp [wrapT, Re.sizes, Re.size]
theorem catD_size (l : List Re) : (catD l).size ≤ Re.sizes l + 1 := by
 unfold catD
 have h1 := sizes_del isEmptyB (flatT 3 l)
 have h2 := sizes_flat 3 l
 split
 ·show 1 ≤ _; omega
 ·have h3 := size_wrap 3 emptyT (delT isEmptyB (flatT 3 l))
  split at h3
  ·have : emptyT.size = 1 := rfl
   omega
  ·omega
theorem sizes_ded : ∀ l : List Re, Re.sizes (dedR l) ≤ Re.sizes l
  | [] => Nat.le_refl _
  | [x] => Nat.le_refl _
  | x :: y :: l => by
    have ih := sizes_ded (y :: l)
    simp only [dedR]
    split
    · simp only [Re.sizes] at ih ⊢; omega
    · simp only [Re.sizes] at ih ⊢; omega
theorem sizes_perm {l m : List Re} (h : l.Perm m) : Re.sizes l = Re.sizes m := by
  induction h with
  | nil => rfl
  | cons x _ ih => simp only [Re.sizes, ih]
  | swap x y l => simp only [Re.sizes]; omega
  | trans _ _ ih1 ih2 => omega
theorem sizes_mem {l : List Re} {x : Re} (h : x ∈ l) : x.size ≤ Re.sizes l := by
 obtain ⟨i, hi⟩ := List.mem_iff_getElem?.1 h
 exact Re.sizes_get hi
theorem choR_size (k : Int) (l : List Re) (strong weak : Re → Bool) (z : Re) : (choR k l strong weak z).size ≤ max (Re.sizes l + 1) z.size := by
  unfold choR
  cases hf : l.find? strong with
  | some x => have := sizes_mem (List.mem_of_find?_eq_some hf); show x.size ≤ _; omega
  | none =>
    have h1 := sizes_del weak (flatT k l)
    have h2 := sizes_flat k l
    have h3 := sizes_perm (List.mergeSort_perm (delT weak (flatT k l)) leR)
    have h4 := sizes_ded (sortR (delT weak (flatT k l)))
    have h5 := size_wrap k z (dedR (sortR (delT weak (flatT k l))))
    unfold sortR at h4 h5
    show (wrapT k z (dedR (sortR (delT weak (flatT k l))))).size ≤ _
    unfold sortR
    split at h5 <;> omega
theorem node_size {k : Int} {s : List (Int × Int)} {a : List Re} {m x : Int} {g : Bool} (h7 : k = 7 → a ≠ []) (h8 : k = 8 → a ≠ []) : (nodeK k s a m x g).size ≤ Re.sizes a + 1 := by
  have hh : ∀ y, a.head? = some y → y.size ≤ Re.sizes a := fun y hy => sizes_mem (List.mem_of_mem_head? (by rw [hy]; rfl))
  have hd : (a.headD noneT).size ≤ Re.sizes a + 1 := by
    cases a with
    | nil => simp [noneT, Re.size, Re.sizes]
    | cons y r => simp only [List.headD_cons, Re.sizes]; omega
  have hM : (Re.mk k s a m x g).size = Re.sizes a + 1 := by simp [Re.size]
  unfold nodeK
  dsimp only
  split
  · exact catD_size a
  split
  · have := choR_size 4 a isAllB isNoneB noneT
    have : noneT.size = 1 := rfl
    omega
  split
  · rename_i hk
    have h1 := choR_size 7 a isNoneB isAllB allT
    have h2 : allT.size = 2 := rfl
    have h3 : 1 ≤ Re.sizes a := by
      cases a with
      | nil => exact absurd rfl (h7 hk)
      | cons y r => have := y.size_pos; simp only [Re.sizes]; omega
    omega
  split
  · split
    · show 1 ≤ _; omega
    split
    · exact hd
    · exact Nat.le_of_eq hM
  split
  · split
    · show 1 ≤ _; omega
    split
    · exact hd
    · exact Nat.le_of_eq hM
  split
  · rename_i hk
    split
    · cases a with
      | nil => exact absurd rfl (h8 hk)
      | cons y r =>
        simp only [List.headD_cons, Re.sizes]
        have hy := Re.size_eq y
        cases hya : y.args with
        | nil => simp [noneT, Re.size, Re.sizes]
        | cons z q => rw [hya] at hy; simp only [List.headD_cons, Re.sizes] at hy ⊢; omega
    · exact Nat.le_of_eq hM
  · exact Nat.le_of_eq hM
theorem wrap_size (l : List Re) : (wrapT 3 emptyT l).size ≤ Re.sizes l + 1 := by
 have h := size_wrap 3 emptyT l
 split at h
 ·have : emptyT.size = 1 := rfl
  omega
 ·exact h
theorem stepC_size (c : Int) : ∀ (l : List Re) (M : Nat), Re.sizes l ≤ M → (stepC c l).size ≤ Re.sizes (stepRs c l) + l.length * (M + 4) + 1
  | [], M, _ => by simp [stepC, noneT, Re.size, Re.sizes]
  | t :: ts, M, hM => by
    simp only [Re.sizes] at hM
    have ih := stepC_size c ts M (by omega)
    have h1 := catD_size [stepR c t, wrapT 3 emptyT ts]
    have h2 := wrap_size ts
    simp only [Re.sizes] at h1
    simp only [stepC, stepRs, Re.sizes, List.length_cons, Nat.succ_mul]
    split
    · omega
    · split
      · have h3 := node_size (k := 4) (s := []) (a := [catD [stepR c t, wrapT 3 emptyT ts], stepC c ts]) (m := 0) (x := 0) (g := false) (by omega) (by omega)
        simp only [Re.sizes] at h3
        omega
      · omega
mutual
theorem step_size (c : Int) (N : Nat) : ∀ {t : Re}, SimOk t → t.size ≤ N → (stepR c t).size + (N + 6) ≤ (N + 6) * (2 * t.size)
  | .mk k s a m x g, h, hN => by
    have hn := h.1
    have hs0 : (Re.mk k s a m x g).size = Re.sizes a + 1 := by simp [Re.size]
    have ih := steps_size c N h.2 (by omega)
    have e : (N + 6) * (2 * (Re.sizes a + 1)) = (N + 6) * (2 * Re.sizes a) + 2 * (N + 6) := by rw [Nat.mul_add 2, Nat.mul_add]; omega
    have hone : 1 + (N + 6) ≤ (N + 6) * (2 * (Re.sizes a + 1)) := by rw [e]; omega
    rw [hs0] at hN ⊢
    have hl := stepRs_len c a
    simp only [stepR]
    split
    · split <;> exact hone
    split
    · have h3 := stepC_size c a N (by omega)
      have h4 : a.length * (N + 4) ≤ (N + 6) * a.length := by rw [Nat.mul_comm (N + 6)]; exact Nat.mul_le_mul_left _ (by omega)
      rw [e]
      omega
    split
    · rename_i h1 h2 hk
      have h3 := node_size (k := k) (s := []) (a := stepRs c a) (m := 0) (x := 0) (g := false) (fun h7 e9 => by rw [e9] at hl; have := (hn.k7 h7).1; simp at hl; rw [← hl] at this; simp at this) (fun h8 e9 => by rw [e9] at hl; obtain ⟨y, rfl, _⟩ := hn.k8 h8; simp at hl)
      rw [e]
      omega
    split
    · rename_i hk
      obtain ⟨y, rfl, _⟩ := hn.k5 hk
      have h3 := catD_size [stepR c y, .mk k s [y] m x g]
      simp only [Re.sizes, Re.size, stepRs, List.headD_cons, List.length_cons, List.length_nil] at h3 ih hN e ⊢
      rw [e]
      omega
    split
    · rename_i hk
      obtain ⟨y, rfl, _⟩ := hn.k6 hk
      have h3 := catD_size [stepR c y, nodeK 6 [] [y] (max 0 (m - 1)) (x - 1) false]
      have h4 := node_size (k := 6) (s := []) (a := [y]) (m := max 0 (m - 1)) (x := x - 1) (g := false) (by omega) (by omega)
      simp only [Re.sizes, stepRs, List.headD_cons, List.length_cons, List.length_nil] at h3 h4 ih hN e ⊢
      rw [e]
      omega
    · exact hone
theorem steps_size (c : Int) (N : Nat) : ∀ {ts : List Re}, SimOks ts → Re.sizes ts ≤ N → Re.sizes (stepRs c ts) + (N + 6) * ts.length ≤ (N + 6) * (2 * Re.sizes ts)
  | [], _, _ => by simp [stepRs, Re.sizes]
  | t :: ts, h, hN => by
    simp only [Re.sizes] at hN
    have h1 := step_size c N h.1 (by omega)
    have h2 := steps_size c N h.2 (by omega)
    simp only [stepRs, Re.sizes, List.length_cons]
    have e1 : (N + 6) * (2 * (t.size + Re.sizes ts)) = (N + 6) * (2 * t.size) + (N + 6) * (2 * Re.sizes ts) := by rw [Nat.mul_add 2, Nat.mul_add]
    have e2 : (N + 6) * (ts.length + 1) = (N + 6) * ts.length + (N + 6) := by rw [Nat.mul_add, Nat.mul_one]
    omega
end
theorem step_small {c : Int} {t : Re} (h : SimOk t) (hs : t.size ≤ 300) : (stepR c t).size ≤ 200000 := by
 have h1 := step_size c 300 h hs
 have h2 : (300 + 6) * (2 * t.size) ≤ (300 + 6) * 600 := Nat.mul_le_mul_left _ (by omega)
 omega
mutual
theorem simR_size : ∀ {t : Re}, okRe t → (simR t).size ≤ t.size
  | .mk k s a m x g, h => by
    have ih : Re.sizes (simRs a) ≤ Re.sizes a := simRs_size (okRe_args h)
    have hl : (simRs a).length = a.length := by rw [simRs_map, List.length_map]
    have h2 := @okRe_two _ h
    have h1 := @okRe_one _ h
    simp only [Re.kind, Re.args] at h1 h2
    have hn := node_size (k := k) (s := s) (a := simRs a) (m := m) (x := x) (g := g) (fun h7 e9 => by have := h2 (by omega); rw [e9] at hl; simp at hl; omega) (fun h8 e9 => by have := h1 (by omega); rw [e9] at hl; simp at hl; omega)
    simp only [simR, Re.size]
    omega
theorem simRs_size : ∀ {ts : List Re}, okRes ts → Re.sizes (simRs ts) ≤ Re.sizes ts
  | [], _ => Nat.le_refl _
  | t :: ts, h => by
    simp only [okRes] at h
    have h1 := simR_size h.1
    have h2 := simRs_size h.2
    simp only [simRs, Re.sizes]
    omega
end
end Go.Proofs
namespace Go.Proofs
open Go Go.Eng
set_option maxRecDepth 100000
mutual
def usesB (ks : List Int) : Re → Bool
  | .mk k _ args _ _ _ => ks.contains k || usesBs ks args
def usesBs (ks : List Int) : List Re → Bool
  | [] => false
  | t :: ts => usesB ks t || usesBs ks ts
end
def useF (ks : List Int) : Unit → Re → Bool × Unit := fun _ t => (!ks.contains t.kind, ())
mutual
theorem walk_use (ks : List Int) : ∀ (t : Re), (walkF (useF ks) t ()).1 = !usesB ks t
  | .mk k set args mn mx ng => by
    have h := walks_use ks args
    rw [walkF_eq]
    split
    · rename_i hk
      have hk : ks.contains k = false := by simpa only [useF, Re.kind, Bool.not_eq_true'] using hk
      show (walkFs (useF ks) args ()).1 = _
      rw [h]
      simp only [usesB, hk, Bool.false_or]
    · rename_i hk
      have hk : ks.contains k = true := by
        cases hc : ks.contains k with
        | true => rfl
        | false => exact absurd (show (useF ks () (.mk k set args mn mx ng)).1 = true by simp only [useF, Re.kind, hc, Bool.not_false]) hk
      simp only [usesB, hk, Bool.true_or, Bool.not_true]
theorem walks_use (ks : List Int) : ∀ (ts : List Re), (walkFs (useF ks) ts ()).1 = !usesBs ks ts
  | [] => rfl
  | t :: ts => by
    have h1 := walk_use ks t
    have h := walks_use ks ts
    rw [walkFs_cons]
    split
    · rename_i hk
      rw [hk] at h1
      have hu : usesB ks t = false := by simpa using h1.symm
      show (walkFs (useF ks) ts ()).1 = _
      rw [h]
      simp only [usesBs, hu, Bool.false_or]
    · rename_i hk
      have hu : usesB ks t = true := by
        cases hc : usesB ks t with
        | true => rfl
        | false => rw [hc] at h1; exact absurd h1 hk
      simp only [usesBs, hu, Bool.true_or, Bool.not_true]
end
theorem uses1_c (w0 : World) (t : Re) (vs : List Value) (ks : List Int) (v : Value) (b : Nat) (ht : ReAt w0 t vs) (hB : Blk w0 b #[v] 22) (hks : IntsAt w0 v ks) :
  Ret Try.prog 41 #[.agg vs.toArray, .pointer (some ⟨b, 0, none⟩)] w0 fun r w => r = .bool (!ks.contains t.kind) ∧ Ext w0 w := by
 obtain ⟨sa, sc, aa, ac, rfl, _, _, _⟩ := ht.form
 refine Ret_of Try.func41 rfl Try.ntmps41 (Nat.le_of_ble_eq_true rfl) ?_
 have E : Chg none1 w0 w0 := Chg.refl _ _
 refine Wp_seq_region ?_
 refine s_box (v := (.agg (R6 t sa sc aa ac))) (c := (R6 t sa sc aa ac)) (by decide) rfl rfl ?_
 intro b1 w1 N1
 have F1 := N1.ge E
 have O1_b := N1.lt hB
 replace hB := N1.keep hB
 replace E := E.ext N1.ext
 have B1 := N1.blk
 refine qA (.bool false) rfl ?_
 refine WpL_nil (Wp_seq_region ?_)
 refine qV (r_load (v := v) rfl flat22 (hB.cell rfl)) ?_
 refine qF b1 0 0 rfl Try.underlying27 rfl siz3 rfl ?_
 refine qV (r_load (v := (I6 t.kind)) rfl flat3 (B1.cell rfl)) ?_
 refine WpL_enter rfl rfl (by decide) (r_callF (vs := [v, (I6 t.kind)]) Try.func42 nm42 bd42 rfl) (hasi_c _ v t.kind ks (hks.ext E)) ?_
 rintro _ w9 ⟨rfl, X9⟩
 replace hB := X9.keep hB
 replace B1 := X9.keep B1
 replace E := E.ext X9
 refine qV (r_not (b := ks.contains t.kind) rfl) ?_
 refine qA (.bool (!(ks.contains t.kind))) rfl ?_
 refine WpL_nil (Wp_ret ?_)
 refine fin_tmp Try.results41 (v := (.bool (!(ks.contains t.kind)))) rfl ?_
 exact ⟨rfl, E⟩
set_option maxHeartbeats 1000000 in
theorem uses_c (w0 : World) (t : Re) (vs : List Value) (ks : List Int) (v : Value) (ht : ReAt w0 t vs) (hks : IntsAt w0 v ks) :
  Ret Try.prog 27 #[.agg vs.toArray, v] w0 fun r w => r = .bool (usesB ks t) ∧ Ext w0 w := by
 have ht0 := ht
 obtain ⟨sa, sc, aa, ac, rfl, _, _, _⟩ := ht.form
 obtain ⟨ka, kc, rfl⟩ := SlAt.form hks
 simp only [List.length_map] at hks ⊢
 refine Ret_of Try.func27 rfl Try.ntmps27 (Nat.le_of_ble_eq_true rfl) ?_
 have E : Chg none1 w0 w0 := Chg.refl _ _
 refine Wp_seq_region ?_
 refine s_box (v := (.agg (R6 t sa sc aa ac))) (c := (R6 t sa sc aa ac)) (by decide) rfl rfl ?_
 intro br wr Nr
 have Fr := Nr.ge E
 replace E := E.ext Nr.ext
 have Br := Nr.blk
 refine s_box (v := (.slice ka ks.length kc)) (c := #[(.slice ka ks.length kc)]) (by decide) rfl rfl ?_
 intro bp wp Np
 have Fp := Np.ge E
 have Op_br := Np.lt Br
 replace Br := Np.keep Br
 replace E := E.ext Np.ext
 have Bp := Np.blk
 refine qA (.bool false) rfl ?_
 refine WpL_nil (Wp_seq_region ?_)
 refine qV (r_loadAgg (vs := [(I6 t.kind), (.slice sa t.set.length sc), (.slice aa t.args.length ac), (I6 t.mn), (I6 t.mx), (.bool t.neg)]) rfl agg27 siz27 rfl (Br.cells rfl)) ?_
 refine qV (r_makeFunc (vs := []) (us := [(P6 bp 0)]) rfl rfl) ?_
 have hf : ∀ (s : Unit) (w : World) (t : Re) (vs : List Value), bp + 1 ≤ w.heap.size → Ext wp w → Blk w bp #[.slice ka ks.length kc] 22 → ReAt wp t vs → CallV Try.prog (.func (.func 41) #[] #[.pointer (some ⟨bp, 0, none⟩)]) #[.agg vs.toArray] w fun r w' => r = .bool (useF ks s t).1 ∧ Chg none1 w w' ∧ Blk w' bp #[.slice ka ks.length kc] 22 := fun s w t vs _ hE hI ht => CallV.mk (first := #[]) (cap := #[.pointer (some ⟨bp, 0, none⟩)]) Try.func41 nm41 bd41 rfl ((uses1_c w t vs ks (.slice ka ks.length kc) bp (ReAt.ext hE t ht) hI ((hks.ext E).ext hE)).mono fun r w' h => ⟨h.1, h.2, Ext.keep h.2 hI⟩)
 refine WpL_enter rfl rfl (by decide) (r_callF (vs := [(.agg (R6 t sa sc aa ac)), (.func (.func 41) #[] #[(P6 bp 0)])]) Try.func36 nm36 bd36 rfl) ((walk_c (useF ks) (fun _ w => Blk w bp #[.slice ka ks.length kc] 22) none1 (bp + 1) _ wp (fun b hb => hb.elim) (fun s w w' hI e => e.keep hI) hf t.size t (Nat.le_refl _) () _ _ (by have := Bp.lt; omega) (Ext.refl _) Bp (ReAt.ext E t ht0)).mono (R' := fun r w => r = .bool (walkF (useF ks) t ()).1 ∧ Ext wp w) (fun r w h => ⟨h.1, h.2.1⟩)) ?_
 rintro _ w9 ⟨rfl, X9⟩
 replace Br := X9.keep Br
 replace Bp := X9.keep Bp
 replace E := E.ext X9
 refine qV (r_not (b := (walkF (useF ks) t ()).1) rfl) ?_
 refine qA (.bool (!((walkF (useF ks) t ()).1))) rfl ?_
 refine WpL_nil (Wp_ret ?_)
 refine fin_tmp Try.results27 (v := (.bool (!((walkF (useF ks) t ()).1)))) rfl ?_
 exact ⟨bool_eq (by rw [walk_use]; simp), E⟩
structure NodeI (t : Re) : Prop where
 k : 0 ≤ t.kind ∧ t.kind ≤ 10
 two : t.kind = 3 ∨ t.kind = 4 ∨ t.kind = 7 → 2 ≤ t.args.length
 one : t.kind = 5 ∨ t.kind = 6 ∨ t.kind = 8 ∨ t.kind = 9 ∨ t.kind = 10 → t.args.length = 1
 rep : t.kind = 6 → 0 ≤ t.mn ∧ t.mn ≤ t.mx ∧ t.mx ≤ 8
 grp : t.kind = 9 → 0 ≤ t.mn ∧ t.mn ≤ 9
 sett : t.kind = 2 → t.set ≠ []
theorem node_inv {t : Re} (h : nodeE t = 0) : NodeI t := by
 unfold nodeE at h
 split at h
 ·cases h
 rename_i h1
 split at h
 ·cases h
 rename_i h2
 have h3 : formB t = true := by simpa using h2
 unfold formB at h3
 simp only [Bool.and_eq_true] at h3
 have h4 := h3.1.1.1.1
 unfold okB at h4
 refine ⟨by omega, fun hk => ?_, fun hk => ?_, fun hk => ?_, fun hk => ?_, fun hk => ?_⟩
 ·rw [if_pos hk] at h4
  have := of_decide_eq_true h4; omega
 ·rw [if_neg (by omega), if_pos hk] at h4
  have := of_decide_eq_true h4; omega
 ·rw [if_neg (by omega), if_pos hk] at h
  split at h
  ·cases h
  ·omega
 ·rw [if_neg (by omega), if_neg (by omega), if_pos hk] at h
  split at h
  ·cases h
  ·omega
 ·rw [if_pos hk] at h
  intro e
  rw [e] at h
  simp [checkE, checkL] at h
end Go.Proofs
namespace Go.Proofs
open Go Go.Eng Go.Sort
set_option maxRecDepth 100000
theorem pre_of {t : Re} (h : okRe t) (h9 : t.kind ≠ 9) (h10 : t.kind ≠ 10) {a : List Re} (ha : a.length = t.args.length) : PreN t.kind t.set a t.mn t.mx t.neg := by
 have hn := okRe_node h
 have hN := node_inv hn
 have hf := (okRe_form h).2.2
 simp only [formB, Bool.and_eq_true, Bool.or_eq_true, decide_eq_true_eq, Bool.not_eq_true'] at hf
 obtain ⟨⟨⟨⟨f1, f2⟩, f3⟩, f4⟩, f5⟩ := hf
 have hk := hN.k
 refine ⟨by omega, ?_, fun h2 => ?_, fun h6 => ⟨by omega, by omega⟩, fun h2 => ⟨hN.sett h2, ?_⟩, fun h0 => ?_, fun h1 => by rw [ha]; exact hN.one (by omega), fun h6 => hN.rep h6⟩
 ·rcases f5 with h | h
  ·exact absurd h h10
  ·exact h
 ·rcases f2 with h | h
  ·exact absurd h h2
  ·exact List.eq_nil_of_length_eq_zero (by omega)
 ·unfold nodeE at hn
  split at hn
  ·cases hn
  split at hn
  ·cases hn
  first | rw [if_pos h2] at hn | skip
  by_cases hc : checkE t.set = 0
  ·exact hc
  ·rw [if_pos hc] at hn; exact hn
 ·unfold okB at f1
  rw [if_neg (by omega), if_neg (by omega)] at f1
  have := of_decide_eq_true f1
  exact List.eq_nil_of_length_eq_zero (by omega)
theorem uses_cons {ks : List Int} {k : Int} {s : List (Int × Int)} {a : List Re} {m x : Int} {g : Bool} (h : usesB ks (.mk k s a m x g) = false) : ks.contains k = false ∧ usesBs ks a = false := by
 simpa only [usesB, Bool.or_eq_false_iff] using h
mutual
theorem simR_ok : ∀ {t : Re}, okRe t → usesB [9, 10] t = false → SimOk (simR t)
  | .mk k s a m x g, h, hu => by
    obtain ⟨h1, h2⟩ := uses_cons hu
    have h9 : k ≠ 9 := fun e => by subst e; simp at h1
    have h10 : k ≠ 10 := fun e => by subst e; simp at h1
    simp only [simR]
    exact node_ok (pre_of (t := .mk k s a m x g) h h9 h10 (a := simRs a) (by rw [simRs_map, List.length_map]; rfl)) (simRs_ok (okRe_args h) h2)
theorem simRs_ok : ∀ {ts : List Re}, okRes ts → usesBs [9, 10] ts = false → ∀ x ∈ simRs ts, SimOk x
  | [], _, _, x, hx => by simp [simRs] at hx
  | t :: ts, h, hu, x, hx => by
    simp only [okRes] at h
    simp only [usesBs, Bool.or_eq_false_iff] at hu
    simp only [simRs, List.mem_cons] at hx
    rcases hx with rfl | hx
    · exact simR_ok h.1 hu.1
    · exact simRs_ok h.2 hu.2 x hx
end
theorem simN_node {k : Int} {s : List (Int × Int)} {a : List Re} {m x : Int} {g : Bool} (h : SimN k s a m x g) : nodeE (.mk k s a m x g) = 0 := by
 have hst := h.st
 have hmm := h.mm
 have hk := h.ks
 have hok : okB k a.length = true := by
  unfold okB
  split
  ·rename_i hk
   refine decide_eq_true ?_
   rcases hk with hk | hk | hk
   ·have := (h.k3 hk).1; omega
   ·have := (h.k4 hk).1; omega
   ·have := (h.k7 hk).1; omega
  split
  ·rename_i hk
   refine decide_eq_true ?_
   rcases hk with hk | hk | hk | hk | hk
   ·obtain ⟨y, rfl, _⟩ := h.k5 hk; rfl
   ·obtain ⟨y, rfl, _⟩ := h.k6 hk; rfl
   ·obtain ⟨y, rfl, _⟩ := h.k8 hk; rfl
   ·omega
   ·omega
  ·rw [h.none (by omega)]; rfl
 have hf : formB (.mk k s a m x g) = true := by
  show (((((okB k a.length && (decide (k = 2) || decide ((s.length : Int) = 0))) && ((decide (k = 6) || decide (k = 9)) || decide (m = 0))) && (decide (k = 6) || decide (x = 0))) && (decide (k = 10) || !g)) : Bool) = true
  simp only [Bool.and_eq_true, Bool.or_eq_true, decide_eq_true_eq, Bool.not_eq_true']
  refine ⟨⟨⟨⟨hok, ?_⟩, ?_⟩, ?_⟩, .inr h.ng⟩
  ·by_cases h2 : k = 2
   ·exact .inl h2
   ·rw [hst h2]; exact .inr rfl
  ·by_cases h6 : k = 6
   ·exact .inl (.inl h6)
   ·exact .inr (hmm h6).1
  ·by_cases h6 : k = 6
   ·exact .inl h6
   ·exact .inr (hmm h6).2
 show (if k < 0 ∨ 10 < k then (1 : Int) else if formB (.mk k s a m x g) = false then 3 else if k = 2 then (if checkE s ≠ 0 then checkE s else if (s.length : Int) = 0 then 3 else 0) else if k = 6 then (if m < 0 ∨ x < m ∨ 8 < x then 1 else 0) else if k = 9 then (if m < 0 ∨ 9 < m then 1 else 0) else 0) = 0
 have h1 : ¬ (k < 0 ∨ 10 < k) := by omega
 rw [if_neg h1]
 first | rw [if_neg (show ¬ formB (.mk k s a m x g) = false by rw [hf]; decide)] | skip
 split
 ·rename_i h2
  obtain ⟨h3, h4⟩ := h.k2 h2
  have h5 : s.length ≠ 0 := fun e => h3 (List.eq_nil_of_length_eq_zero e)
  rw [if_neg (by omega), if_neg (by omega)]
 split
 ·rename_i h6
  obtain ⟨y, _, _, _, h3, h4, h5, _⟩ := h.k6 h6
  rw [if_neg (by omega)]
 split
 ·omega
 ·rfl
mutual
theorem sim_valid : ∀ {t : Re}, SimOk t → okRe t ∧ usesB [9, 10] t = false
  | .mk k s a m x g, h => by
    have h1 := sims_valid h.2
    have hk := h.1.ks
    refine ⟨by simp only [okRe]; exact ⟨simN_node h.1, h1.1⟩, ?_⟩
    simp only [usesB, Bool.or_eq_false_iff]
    refine ⟨?_, h1.2⟩
    rw [Bool.eq_false_iff, ne_eq, List.contains_iff_mem]
    simp
    omega
theorem sims_valid : ∀ {ts : List Re}, SimOks ts → okRes ts ∧ usesBs [9, 10] ts = false
  | [], _ => ⟨trivial, rfl⟩
  | t :: ts, h => by
    have h1 := sim_valid h.1
    have h2 := sims_valid h.2
    exact ⟨by simp only [okRes]; exact ⟨h1.1, h2.1⟩, by simp only [usesBs, h1.2, h2.2]; rfl⟩
end
def chkD (t : Re) : Int := if fitsE t 300 ≠ 0 then fitsE t 300 else if usesB [9, 10] t = true then 3 else 0
def runD : Re → List Int → Option Re
  | t, [] => some t
  | t, c :: l => if 300 < (stepR c t).size then none else runD (stepR c t) l
def byE (t : Re) (c : Int) : Int := if chkD t ≠ 0 then chkD t else if runeB c = false then 1 else if 300 < (stepR c (simR t)).size then 2 else 0
def byD (t : Re) (c : Int) : Re := if byE t c = 0 then stepR c (simR t) else noneT
def matE (t : Re) (text : List Int) : Int := if chkD t ≠ 0 then chkD t else if 100 < text.length then 2 else if text.any (fun r => !runeB r) = true then 1 else if (runD (simR t) text).isNone = true then 2 else 0
def matD (t : Re) (text : List Int) : Bool := if matE t text = 0 then ((runD (simR t) text).map emptR).getD false else false
theorem chkD_zero {t : Re} (h : chkD t = 0) : okRe t ∧ t.size ≤ 300 ∧ usesB [9, 10] t = false ∧ SimOk (simR t) ∧ (simR t).size ≤ 300 := by
  unfold chkD at h
  by_cases h1 : fitsE t 300 = 0
  · rw [if_neg (by omega)] at h
    obtain ⟨hok, hsz⟩ := (fitsE_zero (t := t) (most := 300) (by decide) (by decide)).1 h1
    have hu : usesB [9, 10] t = false := by
      cases h2 : usesB [9, 10] t with
      | true => rw [h2] at h; cases h
      | false => rfl
    have := simR_size hok
    exact ⟨hok, by omega, hu, simR_ok hok hu, by omega⟩
  · rw [if_pos h1] at h; exact absurd h h1
theorem sim_chkD {t : Re} (h : SimOk t) (hs : t.size ≤ 300) : chkD t = 0 := by
 obtain ⟨h1, h2⟩ := sim_valid h
 unfold chkD
 rw [if_neg (by rw [(fitsE_zero (t := t) (most := 300) (by decide) (by decide)).2 ⟨h1, by omega⟩]; decide), if_neg (by rw [h2]; decide)]
/-- DerivSteps, plain: one rune, and then the rest. -/
theorem steps_law {t : Re} {c : Int} {l : List Int} (h : matE t (c :: l) = 0) : byE t c = 0 ∧ matE (byD t c) l = 0 ∧ matD (byD t c) l = matD t (c :: l) := by
 have h0 := h
 unfold matE at h
 by_cases h1 : chkD t = 0
 ·rw [if_neg (by omega)] at h
  split at h
  ·cases h
  rename_i h2
  split at h
  ·cases h
  rename_i h3
  simp only [List.length_cons] at h2
  obtain ⟨hc, hl⟩ : runeB c = true ∧ (l.any fun r => !runeB r) = false := by
   rw [List.any_cons] at h3
   cases h5 : runeB c <;> cases h6 : (l.any fun r => !runeB r) <;> simp [h5, h6] at h3 ⊢
  split at h
  ·cases h
  rename_i h4
  have hz : ¬ 300 < (stepR c (simR t)).size := fun hz => h4 (by simp only [runD, if_pos hz]; rfl)
  obtain ⟨_, _, _, hS, hSz⟩ := chkD_zero h1
  have hby : byE t c = 0 := by unfold byE; rw [if_neg (by omega), if_neg (by rw [hc]; decide), if_neg hz]
  have hbd : byD t c = stepR c (simR t) := by unfold byD; rw [if_pos hby]
  have hS2 := step_ok c hS
  have hid := simR_id hS2
  have hrun : runD (simR t) (c :: l) = runD (stepR c (simR t)) l := by simp only [runD, if_neg hz]
  have hm : matE (byD t c) l = 0 := by
   rw [hbd]
   unfold matE
   rw [if_neg (by rw [sim_chkD hS2 (by omega)]; decide), if_neg (by omega), if_neg (by rw [hl]; decide), if_neg (by rw [hid, ← hrun]; exact h4)]
  refine ⟨hby, hm, ?_⟩
  unfold matD
  rw [if_pos hm, if_pos h0, hrun, hbd, hid]
 ·rw [if_pos h1] at h; exact absurd h h1
end Go.Proofs
namespace Go.Proofs
open Go Go.Eng Go.Sort
set_option maxRecDepth 100000
theorem cmpsp_c (w0 : World) (x y : Int × Int) : Ret Try.prog 81 #[.agg #[.int .i64 x.1, .int .i64 x.2], .agg #[.int .i64 y.1, .int .i64 y.2]] w0 fun v w => v = .int .i64 (cmpSp x y) ∧ Ext w0 w := by
 refine Ret_of Try.func81 rfl Try.ntmps81 (Nat.le_of_ble_eq_true rfl) ?_
 have E : Chg none1 w0 w0 := Chg.refl _ _
 refine Wp_seq_region ?_
 refine s_box (v := (.agg #[(I6 x.1), (I6 x.2)])) (c := #[(I6 x.1), (I6 x.2)]) (by decide) rfl rfl ?_
 intro b1 w1 N1
 have F1 := N1.ge E
 replace E := E.ext N1.ext
 have B1 := N1.blk
 refine s_box (v := (.agg #[(I6 y.1), (I6 y.2)])) (c := #[(I6 y.1), (I6 y.2)]) (by decide) rfl rfl ?_
 intro b2 w2 N2
 have F2 := N2.ge E
 have O2_b1 := N2.lt B1
 replace B1 := N2.keep B1
 replace E := E.ext N2.ext
 have B2 := N2.blk
 refine qA (I6 0) rfl ?_
 refine WpL_nil (Wp_seq ?_)
 obtain ⟨Fs3, hFs3⟩ : ∃ Fs : List Fact, Fs = [.eq (P6 b1 0), .eq (I6 x.1), .eq (P6 b2 0), .eq (I6 y.1), .eq (I6 (cmpI x.1 y.1)), .eq (P6 b1 1), .eq (I6 x.2), .eq (P6 b2 1), .eq (I6 y.2), .eq (I6 (cmpI x.2 y.2)), .gen (ints2F (cmpI x.1 y.1) (cmpI x.2 y.2)) (ints2F_ext _ _), .eq (I6 (cmpSp x y)), .eq (I6 (cmpSp x y))] := ⟨_, rfl⟩
 refine Wp_dag [5, 6, 7, 8, 9, 10, 11, 12, 13, 14, 15, 16, 4] [[], [0], [], [2], [1, 3], [], [5], [], [7], [4, 6, 8], [4, 9], [9, 10], [0, 1, 2, 3, 4, 5, 6, 7, 8, 9, 10, 11]] Fs3 hFs3 mixed (by kernel_rfl) (by kernel_rfl) ?_ ?_
 ·intro wd X0
  refine DagSteps.cons (fun s' w' X U H => Or.inl ⟨?_, ?_⟩) ?_
  ·exact Guarded_none rfl
  ·exact Does_val (r_fieldAddr (b := b1) (o := 0) (o' := 0) (U 2 rfl) Try.underlying54 rfl siz3 rfl) (Ext.refl _) rfl
  refine DagSteps.cons (fun s' w' X U H => Or.inl ⟨?_, ?_⟩) ?_
  ·exact Guarded_none rfl
  ·have e5 : s' 5 = (.pointer (some ⟨b1, 0, none⟩)) := H 0 rfl 5 (.eq (.pointer (some ⟨b1, 0, none⟩))) rfl (by rw [hFs3]; rfl)
   exact Does_val (r_load (v := (I6 x.1)) e5 flat3 (((X0.trans X).keep B1).cell rfl)) (Ext.refl _) rfl
  refine DagSteps.cons (fun s' w' X U H => Or.inl ⟨?_, ?_⟩) ?_
  ·exact Guarded_none rfl
  ·exact Does_val (r_fieldAddr (b := b2) (o := 0) (o' := 0) (U 3 rfl) Try.underlying54 rfl siz3 rfl) (Ext.refl _) rfl
  refine DagSteps.cons (fun s' w' X U H => Or.inl ⟨?_, ?_⟩) ?_
  ·exact Guarded_none rfl
  ·have e7 : s' 7 = (.pointer (some ⟨b2, 0, none⟩)) := H 2 rfl 7 (.eq (.pointer (some ⟨b2, 0, none⟩))) rfl (by rw [hFs3]; rfl)
   exact Does_val (r_load (v := (I6 y.1)) e7 flat3 (((X0.trans X).keep B2).cell rfl)) (Ext.refl _) rfl
  refine DagSteps.cons (fun s' w' X U H => Or.inl ⟨?_, ?_⟩) ?_
  ·exact Guarded_none rfl
  ·have e6 : s' 6 = (.int .i64 x.1) := H 1 rfl 6 (.eq (.int .i64 x.1)) rfl (by rw [hFs3]; rfl)
   have e8 : s' 8 = (.int .i64 y.1) := H 3 rfl 8 (.eq (.int .i64 y.1)) rfl (by rw [hFs3]; rfl)
   exact Does_enter (r_callF (vs := [(I6 x.1), (I6 y.1)]) Try.func66 nm66 bd66 (lst2 e6 e8)) (compare_c _ _ _)
  refine DagSteps.cons (fun s' w' X U H => Or.inl ⟨?_, ?_⟩) ?_
  ·exact Guarded_none rfl
  ·exact Does_val (r_fieldAddr (b := b1) (o := 0) (o' := 1) (U 2 rfl) Try.underlying54 rfl siz3 rfl) (Ext.refl _) rfl
  refine DagSteps.cons (fun s' w' X U H => Or.inl ⟨?_, ?_⟩) ?_
  ·exact Guarded_none rfl
  ·have e10 : s' 10 = (.pointer (some ⟨b1, 1, none⟩)) := H 5 rfl 10 (.eq (.pointer (some ⟨b1, 1, none⟩))) rfl (by rw [hFs3]; rfl)
   exact Does_val (r_load (v := (I6 x.2)) e10 flat3 (((X0.trans X).keep B1).cell rfl)) (Ext.refl _) rfl
  refine DagSteps.cons (fun s' w' X U H => Or.inl ⟨?_, ?_⟩) ?_
  ·exact Guarded_none rfl
  ·exact Does_val (r_fieldAddr (b := b2) (o := 0) (o' := 1) (U 3 rfl) Try.underlying54 rfl siz3 rfl) (Ext.refl _) rfl
  refine DagSteps.cons (fun s' w' X U H => Or.inl ⟨?_, ?_⟩) ?_
  ·exact Guarded_none rfl
  ·have e12 : s' 12 = (.pointer (some ⟨b2, 1, none⟩)) := H 7 rfl 12 (.eq (.pointer (some ⟨b2, 1, none⟩))) rfl (by rw [hFs3]; rfl)
   exact Does_val (r_load (v := (I6 y.2)) e12 flat3 (((X0.trans X).keep B2).cell rfl)) (Ext.refl _) rfl
  refine DagSteps.cons (fun s' w' X U H => Or.inl ⟨?_, ?_⟩) ?_
  ·exact Guarded_none rfl
  ·have e11 : s' 11 = (.int .i64 x.2) := H 6 rfl 11 (.eq (.int .i64 x.2)) rfl (by rw [hFs3]; rfl)
   have e13 : s' 13 = (.int .i64 y.2) := H 8 rfl 13 (.eq (.int .i64 y.2)) rfl (by rw [hFs3]; rfl)
   exact Does_enter (r_callF (vs := [(I6 x.2), (I6 y.2)]) Try.func66 nm66 bd66 (lst2 e11 e13)) (compare_c _ _ _)
  refine DagSteps.cons (fun s' w' X U H => Or.inl ⟨?_, ?_⟩) ?_
  ·exact Guarded_none rfl
  ·have e9 : s' 9 = (.int .i64 (cmpI x.1 y.1)) := H 4 rfl 9 (.eq (.int .i64 (cmpI x.1 y.1))) rfl (by rw [hFs3]; rfl)
   have e14 : s' 14 = (.int .i64 (cmpI x.2 y.2)) := H 9 rfl 14 (.eq (.int .i64 (cmpI x.2 y.2))) rfl (by rw [hFs3]; rfl)
   exact Does_ints2 e9 e14
  refine DagSteps.cons (fun s' w' X U H => Or.inl ⟨?_, ?_⟩) ?_
  ·exact Guarded_none rfl
  ·obtain ⟨b15, e15, i15⟩ := H 10 rfl 15 (.gen (ints2F (cmpI x.1 y.1) (cmpI x.2 y.2)) (ints2F_ext _ _)) rfl (by rw [hFs3]; rfl)
   exact Does_enter (r_callF (vs := [(.slice (some ⟨b15, 0, none⟩) 2 2)]) Try.func65 nm65 bd65 (lst1 e15)) (sor_c _ _ _ (e15 ▸ i15))
  refine DagSteps.cons (fun s' w' X U H => Or.inl ⟨?_, ?_⟩) ?_
  ·exact Guarded_none rfl
  ·have e16 : s' 16 = (.int .i64 (cmpSp x y)) := H 11 rfl 16 (.eq (.int .i64 (cmpSp x y))) rfl (by rw [hFs3]; rfl)
   exact Does_val (r_assign (v := (I6 (cmpSp x y))) e16) (Ext.refl _) rfl
  exact DagSteps.nil
 ·intro s' w3 X3 U H
  obtain ⟨j3, rfl⟩ := Fits.out (σ := s') (l := [(4, (.int .i64 (cmpSp x y)))]) ⟨(show s' 4 = (.int .i64 (cmpSp x y)) from H 12 4 (.eq (.int .i64 (cmpSp x y))) rfl (by rw [hFs3]; rfl)), trivial⟩
  clear U H
  replace B1 := X3.keep B1
  replace B2 := X3.keep B2
  replace E := E.ext X3
  refine thn_normal (Wp_ret ?_)
  refine fin_tmp Try.results81 (v := (.int .i64 (cmpSp x y))) rfl ?_
  exact ⟨rfl, E⟩
set_option maxHeartbeats 1000000 in
theorem cmpfs_c (w0 : World) (v1 v2 fv : Value) (l1 l2 : List (Int × Int)) (f : Int × Int → Int × Int → Int) (h1 : SpansAt w0 v1 l1) (h2 : SpansAt w0 v2 l2)
  (hf : ∀ (w : World) (x y : Int × Int), Ext w0 w → CallV Try.prog fv #[.agg #[.int .i64 x.1, .int .i64 x.2], .agg #[.int .i64 y.1, .int .i64 y.2]] w fun r w' => r = .int .i64 (f x y) ∧ Ext w w') :
  Ret Try.prog 80 #[v1, v2, fv] w0 fun v w => v = .int .i64 (cmpL f l1 l2) ∧ Ext w0 w := by
 obtain ⟨a1, c1, rfl⟩ := SlAt.form h1
 obtain ⟨a2, c2, rfl⟩ := SlAt.form h2
 have hle1 := SlAt.le h1
 have hle2 := SlAt.le h2
 simp only [List.length_map] at h1 h2 hle1 hle2 ⊢
 refine Ret_of Try.func80 rfl Try.ntmps80 (Nat.le_of_ble_eq_true rfl) ?_
 have E : Chg none1 w0 w0 := Chg.refl _ _
 refine Wp_seq_region ?_
 refine qA (I6 0) rfl ?_
 refine WpL_nil (Wp_seq (Wp_seq_region ?_))
 refine qM (.slice a1 l1.length c1) rfl ?_
 refine qV (r_lenSlice (ad := a1) (n := l1.length) (cap := c1) Try.underlying24 rfl) ?_
 refine qM (I6 0) rfl ?_
 refine WpL_nil (Wp_block ?_)
 refine Wp_loop (fun nn_ σ W1 => ∃ (k : Nat), (∃ jj_, σ = upds jj_ [(0, (.slice a1 l1.length c1)), (1, (.slice a2 l2.length c2)), (2, fv), (11, (.slice a1 l1.length c1)), (12, (I6 (l1.length : Int))), (13, (I6 (k : Int)))]) ∧ Chg none1 w0 W1 ∧ (k ≤ l1.length) ∧ (k ≤ l2.length) ∧ (cmpL f l1 l2 = cmpL f (l1.drop k) (l2.drop k)) ∧ nn_ = l1.length - k) (n := l1.length - 0) ?_ ?_
 ·exact ⟨0, Fits.out ⟨rfl, rfl, rfl, rfl, rfl, rfl, trivial⟩, E, Nat.zero_le _, Nat.zero_le _, rfl, rfl⟩
 ·clear E
  rintro _ _ W1 ⟨k, ⟨j1, rfl⟩, E, hk, hk2, heq, rfl⟩
  refine Wp_seq_region ?_
  refine qV (r_lss (k := .i64) (a := (k : Int)) (b := (l1.length : Int)) rfl rfl) ?_
  refine WpL_nil (Wp_seq ?_)
  refine Wp_cond (b := decide (((k : Int) : Int) < (l1.length : Int))) rfl (fun hlt => ?_) (fun hlt => ?_)
  ·have khlt := hlt
   replace hlt := of_decide_eq_true hlt
   obtain ⟨p, hp⟩ := get_of_lt (l := l1) (i := k) (by omega)
   obtain ⟨b1, o1, rfl, hc1⟩ := spans_cells h1 (by omega)
   rw [drop_cons hp] at heq
   refine Wp_skip (thn_normal (Wp_seq (Wp_block (Wp_seq_region ?_))))
   refine qM (I6 (k : Int)) rfl ?_
   refine qV (r_indexSlice (b := b1) (o := o1) (len := l1.length) (cap := c1) (i := k) (o' := o1 + k * 2) rfl rfl rfl Try.underlying24 siz54 (by omega) (by omega)) ?_
   refine qV (r_loadAgg (vs := [(I6 p.1), (I6 p.2)]) rfl agg54 siz54 rfl ((hc1 k p hp).ext E)) ?_
   refine s_alloc (c := #[(I6 0), (I6 0)]) (by decide) zer54 rfl ?_
   intro bp wp Np
   have Fp := Np.ge E
   replace E := E.ext Np.ext
   have Bp := Np.blk
   refine qA (I6 (k : Int)) rfl ?_
   refine s_storeAgg (b := bp) (o := 0) (c' := #[(I6 p.1), (I6 p.2)]) rfl rfl (by simp [Value.oneCell']) siz54 rfl Bp (by first | (simp; done) | exact Nat.le_of_ble_eq_true rfl) rfl ?_
   intro w3 S3
   replace E := S3.step E (by first | exact Or.inl (by omega) | exact Or.inr rfl | exact Or.inr (by assumption) | exact Or.inr (by simp) | exact Or.inr (by omega) | exact Or.inr (by dsimp only; omega))
   replace Bp := S3.blk
   refine WpL_nil (Wp_seq (Wp_seq_region ?_))
   refine qM (I6 (k : Int)) rfl ?_
   refine qM (.slice a2 l2.length c2) rfl ?_
   refine qV (r_lenSlice (ad := a2) (n := l2.length) (cap := c2) Try.underlying24 rfl) ?_
   refine qV (r_geq (k := .i64) (a := (k : Int)) (b := (l2.length : Int)) rfl rfl) ?_
   refine WpL_nil ?_
   refine Wp_cond (b := decide (((l2.length : Int) : Int) ≤ (k : Int))) rfl (fun hge => ?_) (fun hge => ?_)
   ·have khge := hge
    replace hge := of_decide_eq_true hge
    refine Wp_seq_region ?_
    refine qA (I6 1) rfl ?_
    refine WpL_nil (Wp_ret (thn_ret (inB_ret (thn_ret (thn_ret (inB_ret (thn_ret ?_)))))))
    refine fin_tmp Try.results80 (v := (.int .i64 1)) rfl ?_
    exact ⟨int_eq (by rw [heq, List.drop_eq_nil_of_le (show l2.length ≤ k by omega)]; rfl), E⟩
   ·have khge := hge
    replace hge := of_decide_eq_false hge
    obtain ⟨q, hq⟩ := get_of_lt (l := l2) (i := k) (by omega)
    obtain ⟨b2, o2, rfl, hc2⟩ := spans_cells h2 (by omega)
    rw [drop_cons hq] at heq
    refine Wp_skip (thn_normal (Wp_seq_region ?_))
    refine qM (.slice (some ⟨b2, o2, none⟩) l2.length c2) rfl ?_
    refine qM (I6 (k : Int)) rfl ?_
    refine qV (r_indexSlice (b := b2) (o := o2) (len := l2.length) (cap := c2) (i := k) (o' := o2 + k * 2) rfl rfl rfl Try.underlying24 siz54 (by omega) (by omega)) ?_
    refine qV (r_loadAgg (vs := [(I6 q.1), (I6 q.2)]) rfl agg54 siz54 rfl ((hc2 k q hq).ext E)) ?_
    refine s_allocStore (v := (.agg #[(I6 q.1), (I6 q.2)])) (c := #[(I6 q.1), (I6 q.2)]) (n := 2) (by decide) zer54 rfl siz54 rfl rfl rfl (by simp [Value.oneCell']) ?_
    intro bq wq Nq
    have Fq := Nq.ge E
    have Oq_bp := Nq.lt Bp
    replace Bp := Nq.keep Bp
    replace E := E.ext Nq.ext
    have Bq := Nq.blk
    refine WpL_nil (Wp_seq_region ?_)
    refine qM fv rfl ?_
    refine qV (r_loadAgg (vs := [(I6 p.1), (I6 p.2)]) rfl agg54 siz54 rfl (Bp.cells rfl)) ?_
    refine qV (r_loadAgg (vs := [(I6 q.1), (I6 q.2)]) rfl agg54 siz54 rfl (Bq.cells rfl)) ?_
    refine WpL_callV (fv := fv) (vs := [(.agg #[(I6 p.1), (I6 p.2)]), (.agg #[(I6 q.1), (I6 q.2)])]) (by decide) rfl rfl (hf _ p q E) ?_
    rintro _ w9 ⟨rfl, X9⟩
    replace Bp := X9.keep Bp
    replace Bq := X9.keep Bq
    replace E := E.ext X9
    refine qA (I6 (f p q)) rfl ?_
    refine WpL_nil (Wp_seq_region ?_)
    refine qM (I6 (f p q)) rfl ?_
    refine qV (r_neq (k := .i64) (a := f p q) (b := 0) rfl rfl) ?_
    refine WpL_nil ?_
    refine Wp_cond (b := decide ((f p q : Int) ≠ 0)) rfl (fun hne => ?_) (fun hne => ?_)
    ·have khne := hne
     replace hne := of_decide_eq_true hne
     refine Wp_seq_region ?_
     refine qM (I6 (f p q)) rfl ?_
     refine qA (I6 (f p q)) rfl ?_
     refine WpL_nil (Wp_ret (inB_ret (thn_ret (thn_ret (inB_ret (thn_ret ?_))))))
     refine fin_tmp Try.results80 (v := (.int .i64 (f p q))) rfl ?_
     exact ⟨int_eq (by rw [heq, cmpL, lexI, if_pos hne]), E⟩
    ·have khne := hne
     replace hne := of_decide_eq_false hne
     refine Wp_skip (inB_normal (thn_normal (Wp_region ?_)))
     refine qV (r_add (k := .i64) (a := (k : Int)) (b := 1) (c := (k : Int) + 1) rfl rfl (wI64 (by omega))) ?_
     refine qM (I6 ((k : Int) + 1)) rfl ?_
     refine WpL_nil (thn_normal ?_)
     exact ⟨l1.length - (k + 1), by omega, k + 1, Fits.out ⟨rfl, rfl, rfl, rfl, rfl, rfl, trivial⟩, E, (by omega), (by omega), (by rw [heq, cmpL, lexI, if_neg hne]), rfl⟩
  ·have khlt := hlt
   replace hlt := of_decide_eq_false hlt
   have hkk : k = l1.length := by omega
   rw [hkk, List.drop_length] at heq
   refine Wp_exit (thn_exit (thn_exit (inB_here (thn_normal (Wp_seq (Wp_seq_region ?_))))))
   refine qM (.slice a1 l1.length c1) rfl ?_
   refine qV (r_lenSlice (ad := a1) (n := l1.length) (cap := c1) Try.underlying24 rfl) ?_
   refine qM (.slice a2 l2.length c2) rfl ?_
   refine qV (r_lenSlice (ad := a2) (n := l2.length) (cap := c2) Try.underlying24 rfl) ?_
   refine qV (r_lss (k := .i64) (a := (l1.length : Int)) (b := (l2.length : Int)) rfl rfl) ?_
   refine WpL_nil ?_
   refine Wp_cond (b := decide (((l1.length : Int) : Int) < (l2.length : Int))) rfl (fun hl => ?_) (fun hl => ?_)
   ·have khl := hl
    replace hl := of_decide_eq_true hl
    obtain ⟨q, hq⟩ := get_of_lt (l := l2) (i := l1.length) (by omega)
    refine Wp_seq_region ?_
    refine qA (I6 (-1)) rfl ?_
    refine WpL_nil (Wp_ret (thn_ret ?_))
    refine fin_tmp Try.results80 (v := (.int .i64 (-1))) rfl ?_
    exact ⟨int_eq (by rw [heq, drop_cons hq]; rfl), E⟩
   ·have khl := hl
    replace hl := of_decide_eq_false hl
    refine Wp_skip (thn_normal (Wp_seq_region ?_))
    refine qA (I6 0) rfl ?_
    refine WpL_nil (Wp_ret ?_)
    refine fin_tmp Try.results80 (v := (.int .i64 0)) rfl ?_
    exact ⟨int_eq (by rw [heq, List.drop_eq_nil_of_le (by omega)]; rfl), E⟩
theorem spord_c (w0 : World) (v1 v2 : Value) (l1 l2 : List (Int × Int)) (h1 : SpansAt w0 v1 l1) (h2 : SpansAt w0 v2 l2) :
  Ret Try.prog 67 #[v1, v2] w0 fun v w => v = .int .i64 (cmpL cmpSp l1 l2) ∧ Ext w0 w := by
 refine Ret_of Try.func67 rfl Try.ntmps67 (Nat.le_of_ble_eq_true rfl) ?_
 have E : Chg none1 w0 w0 := Chg.refl _ _
 refine Wp_seq_region ?_
 refine qA (I6 0) rfl ?_
 refine WpL_nil (Wp_seq_region ?_)
 refine qM v1 rfl ?_
 refine qM v2 rfl ?_
 refine WpL_enter rfl rfl (by decide) (r_callF (vs := [v1, v2, (.func (.func 81) #[] #[])]) Try.func80 nm80 bd80 rfl) (cmpfs_c _ v1 v2 _ l1 l2 cmpSp h1 h2 (fun w x y _ => CallV.mk (first := #[]) (cap := #[]) Try.func81 nm81 bd81 rfl (cmpsp_c w x y))) ?_
 rintro _ w9 ⟨rfl, X9⟩
 replace E := E.ext X9
 refine qA (I6 (cmpL cmpSp l1 l2)) rfl ?_
 refine WpL_nil (Wp_ret ?_)
 refine fin_tmp Try.results67 (v := (.int .i64 (cmpL cmpSp l1 l2))) rfl ?_
 exact ⟨rfl, E⟩
theorem ordRs_eq : ∀ a b : List Re, ordRs a b = cmpL ordR a b
  | [], [] => rfl
  | [], _ :: _ => rfl
  | _ :: _, [] => rfl
  | t :: ts, u :: us => by simp only [ordRs, cmpL, ordRs_eq ts us]
set_option maxHeartbeats 1000000 in
theorem cmpfr_c (w0 : World) (v1 v2 fv : Value) (l1 l2 : List Re) (h1 : RsAt w0 v1 l1) (h2 : RsAt w0 v2 l2)
  (hf : ∀ (w : World) (x u : Re) (vs us : List Value), Ext w0 w → x ∈ l1 → ReAt w x vs → ReAt w u us → CallV Try.prog fv #[.agg vs.toArray, .agg us.toArray] w fun r w' => r = .int .i64 (ordR x u) ∧ Ext w w') :
  Ret Try.prog 68 #[v1, v2, fv] w0 fun v w => v = .int .i64 (ordRs l1 l2) ∧ Ext w0 w := by
 have g1 := h1
 have g2 := h2
 obtain ⟨a1, c1, rfl, hb1, _⟩ := h1
 obtain ⟨a2, c2, rfl, hb2, _⟩ := h2
 rw [ordRs_eq]
 refine Ret_of Try.func68 rfl Try.ntmps68 (Nat.le_of_ble_eq_true rfl) ?_
 have E : Chg none1 w0 w0 := Chg.refl _ _
 refine Wp_seq_region ?_
 refine qA (I6 0) rfl ?_
 refine WpL_nil (Wp_seq (Wp_seq_region ?_))
 refine qM (.slice a1 l1.length c1) rfl ?_
 refine qV (r_lenSlice (ad := a1) (n := l1.length) (cap := c1) Try.underlying25 rfl) ?_
 refine qM (I6 0) rfl ?_
 refine WpL_nil (Wp_block ?_)
 refine Wp_loop (fun nn_ σ W1 => ∃ (k : Nat), (∃ jj_, σ = upds jj_ [(0, (.slice a1 l1.length c1)), (1, (.slice a2 l2.length c2)), (2, fv), (11, (.slice a1 l1.length c1)), (12, (I6 (l1.length : Int))), (13, (I6 (k : Int)))]) ∧ Chg none1 w0 W1 ∧ (k ≤ l1.length) ∧ (k ≤ l2.length) ∧ (cmpL ordR l1 l2 = cmpL ordR (l1.drop k) (l2.drop k)) ∧ nn_ = l1.length - k) (n := l1.length - 0) ?_ ?_
 ·exact ⟨0, Fits.out ⟨rfl, rfl, rfl, rfl, rfl, rfl, trivial⟩, E, Nat.zero_le _, Nat.zero_le _, rfl, rfl⟩
 ·clear E
  rintro _ _ W1 ⟨k, ⟨j1, rfl⟩, E, hk, hk2, heq, rfl⟩
  refine Wp_seq_region ?_
  refine qV (r_lss (k := .i64) (a := (k : Int)) (b := (l1.length : Int)) rfl rfl) ?_
  refine WpL_nil (Wp_seq ?_)
  refine Wp_cond (b := decide (((k : Int) : Int) < (l1.length : Int))) rfl (fun hlt => ?_) (fun hlt => ?_)
  ·have khlt := hlt
   replace hlt := of_decide_eq_true hlt
   obtain ⟨p, hp⟩ := get_of_lt (l := l1) (i := k) (by omega)
   obtain ⟨b1, o1, rfl, hc1⟩ := g1.cells (by omega)
   obtain ⟨vs, hcv, hpv⟩ := hc1 k p hp
   have hpv0 := hpv
   obtain ⟨sa, sc, aa, ac, rfl, _, _, _⟩ := hpv.form
   rw [drop_cons hp] at heq
   refine Wp_skip (thn_normal (Wp_seq (Wp_block (Wp_seq_region ?_))))
   refine qM (I6 (k : Int)) rfl ?_
   refine qV (r_indexSlice (b := b1) (o := o1) (len := l1.length) (cap := c1) (i := k) (o' := o1 + k * 6) rfl rfl rfl Try.underlying25 siz27 (by omega) (by omega)) ?_
   refine qV (r_loadAgg (vs := [(I6 p.kind), (.slice sa p.set.length sc), (.slice aa p.args.length ac), (I6 p.mn), (I6 p.mx), (.bool p.neg)]) rfl agg27 siz27 rfl (hcv.ext E)) ?_
   refine s_alloc (c := #[(I6 0), (.slice none 0 0), (.slice none 0 0), (I6 0), (I6 0), (.bool false)]) (by decide) zer27 rfl ?_
   intro bp wp Np
   have Fp := Np.ge E
   replace E := E.ext Np.ext
   have Bp := Np.blk
   refine qA (I6 (k : Int)) rfl ?_
   refine s_storeAgg (b := bp) (o := 0) (c' := (R6 p sa sc aa ac)) rfl rfl (by simp [Value.oneCell']) siz27 rfl Bp (by first | (simp; done) | exact Nat.le_of_ble_eq_true rfl) rfl ?_
   intro w3 S3
   replace E := S3.step E (by first | exact Or.inl (by omega) | exact Or.inr rfl | exact Or.inr (by assumption) | exact Or.inr (by simp) | exact Or.inr (by omega) | exact Or.inr (by dsimp only; omega))
   replace Bp := S3.blk
   refine WpL_nil (Wp_seq (Wp_seq_region ?_))
   refine qM (I6 (k : Int)) rfl ?_
   refine qM (.slice a2 l2.length c2) rfl ?_
   refine qV (r_lenSlice (ad := a2) (n := l2.length) (cap := c2) Try.underlying25 rfl) ?_
   refine qV (r_geq (k := .i64) (a := (k : Int)) (b := (l2.length : Int)) rfl rfl) ?_
   refine WpL_nil ?_
   refine Wp_cond (b := decide (((l2.length : Int) : Int) ≤ (k : Int))) rfl (fun hge => ?_) (fun hge => ?_)
   ·have khge := hge
    replace hge := of_decide_eq_true hge
    refine Wp_seq_region ?_
    refine qA (I6 1) rfl ?_
    refine WpL_nil (Wp_ret (thn_ret (inB_ret (thn_ret (thn_ret (inB_ret (thn_ret ?_)))))))
    refine fin_tmp Try.results68 (v := (.int .i64 1)) rfl ?_
    exact ⟨int_eq (by rw [heq, List.drop_eq_nil_of_le (show l2.length ≤ k by omega)]; rfl), E⟩
   ·have khge := hge
    replace hge := of_decide_eq_false hge
    obtain ⟨q, hq⟩ := get_of_lt (l := l2) (i := k) (by omega)
    obtain ⟨b2, o2, rfl, hc2⟩ := g2.cells (by omega)
    obtain ⟨us, hcu, hqu⟩ := hc2 k q hq
    have hqu0 := hqu
    obtain ⟨sa2, sc2, aa2, ac2, rfl, _, _, _⟩ := hqu.form
    rw [drop_cons hq] at heq
    refine Wp_skip (thn_normal (Wp_seq_region ?_))
    refine qM (.slice (some ⟨b2, o2, none⟩) l2.length c2) rfl ?_
    refine qM (I6 (k : Int)) rfl ?_
    refine qV (r_indexSlice (b := b2) (o := o2) (len := l2.length) (cap := c2) (i := k) (o' := o2 + k * 6) rfl rfl rfl Try.underlying25 siz27 (by omega) (by omega)) ?_
    refine qV (r_loadAgg (vs := [(I6 q.kind), (.slice sa2 q.set.length sc2), (.slice aa2 q.args.length ac2), (I6 q.mn), (I6 q.mx), (.bool q.neg)]) rfl agg27 siz27 rfl (hcu.ext E)) ?_
    refine s_allocStore (v := (.agg (R6 q sa2 sc2 aa2 ac2))) (c := (R6 q sa2 sc2 aa2 ac2)) (n := 6) (by decide) zer27 rfl siz27 rfl rfl rfl (by simp [Value.oneCell']) ?_
    intro bq wq Nq
    have Fq := Nq.ge E
    have Oq_bp := Nq.lt Bp
    replace Bp := Nq.keep Bp
    replace E := E.ext Nq.ext
    have Bq := Nq.blk
    refine WpL_nil (Wp_seq_region ?_)
    refine qM fv rfl ?_
    refine qV (r_loadAgg (vs := [(I6 p.kind), (.slice sa p.set.length sc), (.slice aa p.args.length ac), (I6 p.mn), (I6 p.mx), (.bool p.neg)]) rfl agg27 siz27 rfl (Bp.cells rfl)) ?_
    refine qV (r_loadAgg (vs := [(I6 q.kind), (.slice sa2 q.set.length sc2), (.slice aa2 q.args.length ac2), (I6 q.mn), (I6 q.mx), (.bool q.neg)]) rfl agg27 siz27 rfl (Bq.cells rfl)) ?_
    refine WpL_callV (fv := fv) (vs := [(.agg (R6 p sa sc aa ac)), (.agg (R6 q sa2 sc2 aa2 ac2))]) (by decide) rfl rfl (hf _ p q _ _ E (List.mem_of_getElem? hp) (ReAt.ext E p hpv0) (ReAt.ext E q hqu0)) ?_
    rintro _ w9 ⟨rfl, X9⟩
    replace Bp := X9.keep Bp
    replace Bq := X9.keep Bq
    replace E := E.ext X9
    refine qA (I6 (ordR p q)) rfl ?_
    refine WpL_nil (Wp_seq_region ?_)
    refine qM (I6 (ordR p q)) rfl ?_
    refine qV (r_neq (k := .i64) (a := ordR p q) (b := 0) rfl rfl) ?_
    refine WpL_nil ?_
    refine Wp_cond (b := decide ((ordR p q : Int) ≠ 0)) rfl (fun hne => ?_) (fun hne => ?_)
    ·have khne := hne
     replace hne := of_decide_eq_true hne
     refine Wp_seq_region ?_
     refine qM (I6 (ordR p q)) rfl ?_
     refine qA (I6 (ordR p q)) rfl ?_
     refine WpL_nil (Wp_ret (inB_ret (thn_ret (thn_ret (inB_ret (thn_ret ?_))))))
     refine fin_tmp Try.results68 (v := (.int .i64 (ordR p q))) rfl ?_
     exact ⟨int_eq (by rw [heq, cmpL, lexI, if_pos hne]), E⟩
    ·have khne := hne
     replace hne := of_decide_eq_false hne
     refine Wp_skip (inB_normal (thn_normal (Wp_region ?_)))
     refine qV (r_add (k := .i64) (a := (k : Int)) (b := 1) (c := (k : Int) + 1) rfl rfl (wI64 (by omega))) ?_
     refine qM (I6 ((k : Int) + 1)) rfl ?_
     refine WpL_nil (thn_normal ?_)
     exact ⟨l1.length - (k + 1), by omega, k + 1, Fits.out ⟨rfl, rfl, rfl, rfl, rfl, rfl, trivial⟩, E, (by omega), (by omega), (by rw [heq, cmpL, lexI, if_neg hne]), rfl⟩
  ·have khlt := hlt
   replace hlt := of_decide_eq_false hlt
   have hkk : k = l1.length := by omega
   rw [hkk, List.drop_length] at heq
   refine Wp_exit (thn_exit (thn_exit (inB_here (thn_normal (Wp_seq (Wp_seq_region ?_))))))
   refine qM (.slice a1 l1.length c1) rfl ?_
   refine qV (r_lenSlice (ad := a1) (n := l1.length) (cap := c1) Try.underlying25 rfl) ?_
   refine qM (.slice a2 l2.length c2) rfl ?_
   refine qV (r_lenSlice (ad := a2) (n := l2.length) (cap := c2) Try.underlying25 rfl) ?_
   refine qV (r_lss (k := .i64) (a := (l1.length : Int)) (b := (l2.length : Int)) rfl rfl) ?_
   refine WpL_nil ?_
   refine Wp_cond (b := decide (((l1.length : Int) : Int) < (l2.length : Int))) rfl (fun hl => ?_) (fun hl => ?_)
   ·have khl := hl
    replace hl := of_decide_eq_true hl
    obtain ⟨q, hq⟩ := get_of_lt (l := l2) (i := l1.length) (by omega)
    refine Wp_seq_region ?_
    refine qA (I6 (-1)) rfl ?_
    refine WpL_nil (Wp_ret (thn_ret ?_))
    refine fin_tmp Try.results68 (v := (.int .i64 (-1))) rfl ?_
    exact ⟨int_eq (by rw [heq, drop_cons hq]; rfl), E⟩
   ·have khl := hl
    replace hl := of_decide_eq_false hl
    refine Wp_skip (thn_normal (Wp_seq_region ?_))
    refine qA (I6 0) rfl ?_
    refine WpL_nil (Wp_ret ?_)
    refine fin_tmp Try.results68 (v := (.int .i64 0)) rfl ?_
    exact ⟨int_eq (by rw [heq, List.drop_eq_nil_of_le (by omega)]; rfl), E⟩
def ints5F (a b c d e : Int) : Fct := fun v w => ∃ bb, v = .slice (some ⟨bb, 0, none⟩) 5 5 ∧ IntsAt w v [a, b, c, d, e]
theorem ints5F_ext (a b c d e : Int) : Stable (ints5F a b c d e) := by
 rintro v w w' x ⟨bb, h1, h2⟩
 exact ⟨bb, h1, h2.ext x⟩
theorem Does_ints5 {N : Nat} {σ : Env} {w : World} {dst : Option Tmp} {ty : TypeId} {pos : String} {af : Array Edge} {g : Option (Nat × Bool)} {x1 x2 x3 x4 x5 : Operand} {a b c d e : Int} (h1 : ev σ x1 = .int .i64 a) (h2 : ev σ x2 = .int .i64 b) (h3 : ev σ x3 = .int .i64 c) (h4 : ev σ x4 = .int .i64 d) (h5 : ev σ x5 = .int .i64 e) :
  Does Try.prog N ⟨dst, .buildSlice 22 5 #[(0, x1), (1, x2), (2, x3), (3, x4), (4, x5)], ty, pos, af, g⟩ (ints5F a b c d e) σ w := by
 have hn := New.mk' w #[.int .i64 a, .int .i64 b, .int .i64 c, .int .i64 d, .int .i64 e] 3
 refine Does_val (run_buildSlice (parts := [(0, x1), (1, x2), (2, x3), (3, x4), (4, x5)]) (ps := [(0, .int .i64 a), (1, .int .i64 b), (2, .int .i64 c), (3, .int .i64 d), (4, .int .i64 e)]) (by simp only [List.map, h1, h2, h3, h4, h5]) Try.underlying22 siz3 zer3 (by decide) (by decide) (by kernel_rfl)) hn.ext ?_
 exact ⟨_, rfl, ints_of_blk [a, b, c, d, e] hn.blk (by simp) (by simp)⟩
theorem ordR_eq (t u : Re) : ordR t u = orL [cmpI t.kind u.kind, cmpL cmpSp t.set u.set, cmpI t.mn u.mn, cmpI t.mx u.mx, ordRs t.args u.args] := by cases t; cases u; rfl
set_option maxHeartbeats 2000000 in
theorem order_c : ∀ (n : Nat) (t u : Re) (w0 : World) (vs us : List Value), t.size ≤ n → ReAt w0 t vs → ReAt w0 u us →
    Ret Try.prog 59 #[.agg vs.toArray, .agg us.toArray] w0 fun v w => v = .int .i64 (ordR t u) ∧ Ext w0 w := by
  intro n
  induction n with
  | zero => intro t u w0 vs us h; have := t.size_pos; omega
  | succ n ih =>
  intro t u w0 vs us hn ht hu
  have ht0 := ht
  have hu0 := hu
  obtain ⟨sa, sc, aa, ac, rfl, hset, hlen, hargs⟩ := ht.form
  obtain ⟨sa2, sc2, aa2, ac2, rfl, hset2, hlen2, hargs2⟩ := hu.form
  have hr1 : RsAt w0 (.slice aa t.args.length ac) t.args := ReAt.rs ht0
  have hr2 : RsAt w0 (.slice aa2 u.args.length ac2) u.args := ReAt.rs hu0
  rw [ordR_eq]
  refine Ret_of Try.func59 rfl Try.ntmps59 (Nat.le_of_ble_eq_true rfl) ?_
  have E : Chg none1 w0 w0 := Chg.refl _ _
  refine Wp_seq_region ?_
  refine s_box (v := (.agg (R6 t sa sc aa ac))) (c := (R6 t sa sc aa ac)) (by decide) rfl rfl ?_
  intro b1 w1 N1
  have F1 := N1.ge E
  replace E := E.ext N1.ext
  have B1 := N1.blk
  refine s_box (v := (.agg (R6 u sa2 sc2 aa2 ac2))) (c := (R6 u sa2 sc2 aa2 ac2)) (by decide) rfl rfl ?_
  intro b2 w2 N2
  have F2 := N2.ge E
  have O2_b1 := N2.lt B1
  replace B1 := N2.keep B1
  replace E := E.ext N2.ext
  have B2 := N2.blk
  refine qA (I6 0) rfl ?_
  refine WpL_nil (Wp_seq ?_)
  obtain ⟨Fs3, hFs3⟩ : ∃ Fs : List Fact, Fs = [.eq (P6 b1 0), .eq (I6 t.kind), .eq (P6 b2 0), .eq (I6 u.kind), .eq (I6 (cmpI t.kind u.kind)), .eq (P6 b1 1), .eq (.slice sa t.set.length sc), .eq (P6 b2 1), .eq (.slice sa2 u.set.length sc2), .eq (I6 (cmpL cmpSp t.set u.set)), .eq (P6 b1 3), .eq (I6 t.mn), .eq (P6 b2 3), .eq (I6 u.mn), .eq (I6 (cmpI t.mn u.mn)), .eq (P6 b1 4), .eq (I6 t.mx), .eq (P6 b2 4), .eq (I6 u.mx), .eq (I6 (cmpI t.mx u.mx)), .eq (P6 b1 2), .eq (.slice aa t.args.length ac), .eq (P6 b2 2), .eq (.slice aa2 u.args.length ac2), .eq (I6 (ordRs t.args u.args)), .gen (ints5F (cmpI t.kind u.kind) (cmpL cmpSp t.set u.set) (cmpI t.mn u.mn) (cmpI t.mx u.mx) (ordRs t.args u.args)) (ints5F_ext _ _ _ _ _), .eq (I6 (orL [cmpI t.kind u.kind, cmpL cmpSp t.set u.set, cmpI t.mn u.mn, cmpI t.mx u.mx, ordRs t.args u.args])), .eq (I6 (orL [cmpI t.kind u.kind, cmpL cmpSp t.set u.set, cmpI t.mn u.mn, cmpI t.mx u.mx, ordRs t.args u.args]))] := ⟨_, rfl⟩
  refine Wp_dag [5, 6, 7, 8, 9, 10, 11, 12, 13, 14, 15, 16, 17, 18, 19, 20, 21, 22, 23, 24, 25, 26, 27, 28, 29, 30, 31, 4] [[], [0], [], [2], [1, 3], [], [5], [], [7], [4, 6, 8], [], [10], [], [12], [9, 11, 13], [], [15], [], [17], [14, 16, 18], [], [20], [], [22], [19, 21, 23], [4, 9, 14, 19, 24], [24, 25], [0, 1, 2, 3, 4, 5, 6, 7, 8, 9, 10, 11, 12, 13, 14, 15, 16, 17, 18, 19, 20, 21, 22, 23, 24, 25, 26]] Fs3 hFs3 mixed (by kernel_rfl) (by kernel_rfl) ?_ ?_
  · intro wd X0
    refine DagSteps.cons (fun s' w' X U H => Or.inl ⟨?_, ?_⟩) ?_
    · exact Guarded_none rfl
    · exact Does_val (r_fieldAddr (b := b1) (o := 0) (o' := 0) (U 2 rfl) Try.underlying27 rfl siz3 rfl) (Ext.refl _) rfl
    refine DagSteps.cons (fun s' w' X U H => Or.inl ⟨?_, ?_⟩) ?_
    · exact Guarded_none rfl
    · have e5 : s' 5 = (.pointer (some ⟨b1, 0, none⟩)) := H 0 rfl 5 (.eq (.pointer (some ⟨b1, 0, none⟩))) rfl (by rw [hFs3]; rfl)
      exact Does_val (r_load (v := (I6 t.kind)) e5 flat3 (((X0.trans X).keep B1).cell rfl)) (Ext.refl _) rfl
    refine DagSteps.cons (fun s' w' X U H => Or.inl ⟨?_, ?_⟩) ?_
    · exact Guarded_none rfl
    · exact Does_val (r_fieldAddr (b := b2) (o := 0) (o' := 0) (U 3 rfl) Try.underlying27 rfl siz3 rfl) (Ext.refl _) rfl
    refine DagSteps.cons (fun s' w' X U H => Or.inl ⟨?_, ?_⟩) ?_
    · exact Guarded_none rfl
    · have e7 : s' 7 = (.pointer (some ⟨b2, 0, none⟩)) := H 2 rfl 7 (.eq (.pointer (some ⟨b2, 0, none⟩))) rfl (by rw [hFs3]; rfl)
      exact Does_val (r_load (v := (I6 u.kind)) e7 flat3 (((X0.trans X).keep B2).cell rfl)) (Ext.refl _) rfl
    refine DagSteps.cons (fun s' w' X U H => Or.inl ⟨?_, ?_⟩) ?_
    · exact Guarded_none rfl
    · have e6 : s' 6 = (.int .i64 t.kind) := H 1 rfl 6 (.eq (.int .i64 t.kind)) rfl (by rw [hFs3]; rfl)
      have e8 : s' 8 = (.int .i64 u.kind) := H 3 rfl 8 (.eq (.int .i64 u.kind)) rfl (by rw [hFs3]; rfl)
      exact Does_enter (r_callF (vs := [(I6 t.kind), (I6 u.kind)]) Try.func66 nm66 bd66 (lst2 e6 e8)) (compare_c _ _ _)
    refine DagSteps.cons (fun s' w' X U H => Or.inl ⟨?_, ?_⟩) ?_
    · exact Guarded_none rfl
    · exact Does_val (r_fieldAddr (b := b1) (o := 0) (o' := 1) (U 2 rfl) Try.underlying27 rfl siz24 rfl) (Ext.refl _) rfl
    refine DagSteps.cons (fun s' w' X U H => Or.inl ⟨?_, ?_⟩) ?_
    · exact Guarded_none rfl
    · have e10 : s' 10 = (.pointer (some ⟨b1, 1, none⟩)) := H 5 rfl 10 (.eq (.pointer (some ⟨b1, 1, none⟩))) rfl (by rw [hFs3]; rfl)
      exact Does_val (r_load (v := (.slice sa t.set.length sc)) e10 flat24 (((X0.trans X).keep B1).cell rfl)) (Ext.refl _) rfl
    refine DagSteps.cons (fun s' w' X U H => Or.inl ⟨?_, ?_⟩) ?_
    · exact Guarded_none rfl
    · exact Does_val (r_fieldAddr (b := b2) (o := 0) (o' := 1) (U 3 rfl) Try.underlying27 rfl siz24 rfl) (Ext.refl _) rfl
    refine DagSteps.cons (fun s' w' X U H => Or.inl ⟨?_, ?_⟩) ?_
    · exact Guarded_none rfl
    · have e12 : s' 12 = (.pointer (some ⟨b2, 1, none⟩)) := H 7 rfl 12 (.eq (.pointer (some ⟨b2, 1, none⟩))) rfl (by rw [hFs3]; rfl)
      exact Does_val (r_load (v := (.slice sa2 u.set.length sc2)) e12 flat24 (((X0.trans X).keep B2).cell rfl)) (Ext.refl _) rfl
    refine DagSteps.cons (fun s' w' X U H => Or.inl ⟨?_, ?_⟩) ?_
    · exact Guarded_none rfl
    · have e11 : s' 11 = (.slice sa t.set.length sc) := H 6 rfl 11 (.eq (.slice sa t.set.length sc)) rfl (by rw [hFs3]; rfl)
      have e13 : s' 13 = (.slice sa2 u.set.length sc2) := H 8 rfl 13 (.eq (.slice sa2 u.set.length sc2)) rfl (by rw [hFs3]; rfl)
      exact Does_enter (r_callF (vs := [(.slice sa t.set.length sc), (.slice sa2 u.set.length sc2)]) Try.func67 nm67 bd67 (lst2 e11 e13)) (spord_c _ _ _ _ _ (hset.ext (Ext.trans E (X0.trans X))) (hset2.ext (Ext.trans E (X0.trans X))))
    refine DagSteps.cons (fun s' w' X U H => Or.inl ⟨?_, ?_⟩) ?_
    · exact Guarded_none rfl
    · exact Does_val (r_fieldAddr (b := b1) (o := 0) (o' := 3) (U 2 rfl) Try.underlying27 rfl siz3 rfl) (Ext.refl _) rfl
    refine DagSteps.cons (fun s' w' X U H => Or.inl ⟨?_, ?_⟩) ?_
    · exact Guarded_none rfl
    · have e15 : s' 15 = (.pointer (some ⟨b1, 3, none⟩)) := H 10 rfl 15 (.eq (.pointer (some ⟨b1, 3, none⟩))) rfl (by rw [hFs3]; rfl)
      exact Does_val (r_load (v := (I6 t.mn)) e15 flat3 (((X0.trans X).keep B1).cell rfl)) (Ext.refl _) rfl
    refine DagSteps.cons (fun s' w' X U H => Or.inl ⟨?_, ?_⟩) ?_
    · exact Guarded_none rfl
    · exact Does_val (r_fieldAddr (b := b2) (o := 0) (o' := 3) (U 3 rfl) Try.underlying27 rfl siz3 rfl) (Ext.refl _) rfl
    refine DagSteps.cons (fun s' w' X U H => Or.inl ⟨?_, ?_⟩) ?_
    · exact Guarded_none rfl
    · have e17 : s' 17 = (.pointer (some ⟨b2, 3, none⟩)) := H 12 rfl 17 (.eq (.pointer (some ⟨b2, 3, none⟩))) rfl (by rw [hFs3]; rfl)
      exact Does_val (r_load (v := (I6 u.mn)) e17 flat3 (((X0.trans X).keep B2).cell rfl)) (Ext.refl _) rfl
    refine DagSteps.cons (fun s' w' X U H => Or.inl ⟨?_, ?_⟩) ?_
    · exact Guarded_none rfl
    · have e16 : s' 16 = (.int .i64 t.mn) := H 11 rfl 16 (.eq (.int .i64 t.mn)) rfl (by rw [hFs3]; rfl)
      have e18 : s' 18 = (.int .i64 u.mn) := H 13 rfl 18 (.eq (.int .i64 u.mn)) rfl (by rw [hFs3]; rfl)
      exact Does_enter (r_callF (vs := [(I6 t.mn), (I6 u.mn)]) Try.func66 nm66 bd66 (lst2 e16 e18)) (compare_c _ _ _)
    refine DagSteps.cons (fun s' w' X U H => Or.inl ⟨?_, ?_⟩) ?_
    · exact Guarded_none rfl
    · exact Does_val (r_fieldAddr (b := b1) (o := 0) (o' := 4) (U 2 rfl) Try.underlying27 rfl siz3 rfl) (Ext.refl _) rfl
    refine DagSteps.cons (fun s' w' X U H => Or.inl ⟨?_, ?_⟩) ?_
    · exact Guarded_none rfl
    · have e20 : s' 20 = (.pointer (some ⟨b1, 4, none⟩)) := H 15 rfl 20 (.eq (.pointer (some ⟨b1, 4, none⟩))) rfl (by rw [hFs3]; rfl)
      exact Does_val (r_load (v := (I6 t.mx)) e20 flat3 (((X0.trans X).keep B1).cell rfl)) (Ext.refl _) rfl
    refine DagSteps.cons (fun s' w' X U H => Or.inl ⟨?_, ?_⟩) ?_
    · exact Guarded_none rfl
    · exact Does_val (r_fieldAddr (b := b2) (o := 0) (o' := 4) (U 3 rfl) Try.underlying27 rfl siz3 rfl) (Ext.refl _) rfl
    refine DagSteps.cons (fun s' w' X U H => Or.inl ⟨?_, ?_⟩) ?_
    · exact Guarded_none rfl
    · have e22 : s' 22 = (.pointer (some ⟨b2, 4, none⟩)) := H 17 rfl 22 (.eq (.pointer (some ⟨b2, 4, none⟩))) rfl (by rw [hFs3]; rfl)
      exact Does_val (r_load (v := (I6 u.mx)) e22 flat3 (((X0.trans X).keep B2).cell rfl)) (Ext.refl _) rfl
    refine DagSteps.cons (fun s' w' X U H => Or.inl ⟨?_, ?_⟩) ?_
    · exact Guarded_none rfl
    · have e21 : s' 21 = (.int .i64 t.mx) := H 16 rfl 21 (.eq (.int .i64 t.mx)) rfl (by rw [hFs3]; rfl)
      have e23 : s' 23 = (.int .i64 u.mx) := H 18 rfl 23 (.eq (.int .i64 u.mx)) rfl (by rw [hFs3]; rfl)
      exact Does_enter (r_callF (vs := [(I6 t.mx), (I6 u.mx)]) Try.func66 nm66 bd66 (lst2 e21 e23)) (compare_c _ _ _)
    refine DagSteps.cons (fun s' w' X U H => Or.inl ⟨?_, ?_⟩) ?_
    · exact Guarded_none rfl
    · exact Does_val (r_fieldAddr (b := b1) (o := 0) (o' := 2) (U 2 rfl) Try.underlying27 rfl siz25 rfl) (Ext.refl _) rfl
    refine DagSteps.cons (fun s' w' X U H => Or.inl ⟨?_, ?_⟩) ?_
    · exact Guarded_none rfl
    · have e25 : s' 25 = (.pointer (some ⟨b1, 2, none⟩)) := H 20 rfl 25 (.eq (.pointer (some ⟨b1, 2, none⟩))) rfl (by rw [hFs3]; rfl)
      exact Does_val (r_load (v := (.slice aa t.args.length ac)) e25 flat25 (((X0.trans X).keep B1).cell rfl)) (Ext.refl _) rfl
    refine DagSteps.cons (fun s' w' X U H => Or.inl ⟨?_, ?_⟩) ?_
    · exact Guarded_none rfl
    · exact Does_val (r_fieldAddr (b := b2) (o := 0) (o' := 2) (U 3 rfl) Try.underlying27 rfl siz25 rfl) (Ext.refl _) rfl
    refine DagSteps.cons (fun s' w' X U H => Or.inl ⟨?_, ?_⟩) ?_
    · exact Guarded_none rfl
    · have e27 : s' 27 = (.pointer (some ⟨b2, 2, none⟩)) := H 22 rfl 27 (.eq (.pointer (some ⟨b2, 2, none⟩))) rfl (by rw [hFs3]; rfl)
      exact Does_val (r_load (v := (.slice aa2 u.args.length ac2)) e27 flat25 (((X0.trans X).keep B2).cell rfl)) (Ext.refl _) rfl
    refine DagSteps.cons (fun s' w' X U H => Or.inl ⟨?_, ?_⟩) ?_
    · exact Guarded_none rfl
    · have e26 : s' 26 = (.slice aa t.args.length ac) := H 21 rfl 26 (.eq (.slice aa t.args.length ac)) rfl (by rw [hFs3]; rfl)
      have e28 : s' 28 = (.slice aa2 u.args.length ac2) := H 23 rfl 28 (.eq (.slice aa2 u.args.length ac2)) rfl (by rw [hFs3]; rfl)
      exact Does_enter (r_callF (vs := [(.slice aa t.args.length ac), (.slice aa2 u.args.length ac2), (.func (.func 59) #[] #[])]) Try.func68 nm68 bd68 (lst3 e26 e28 rfl)) (cmpfr_c _ _ _ _ _ _ (hr1.ext (Ext.trans E (X0.trans X))) (hr2.ext (Ext.trans E (X0.trans X))) (fun w x y xs ys _ hx hxs hys => CallV.mk (first := #[]) (cap := #[]) Try.func59 nm59 bd59 rfl (ih x y w xs ys (by obtain ⟨i, hi⟩ := List.mem_iff_getElem?.1 hx; have := Re.size_arg hi; omega) hxs hys)))
    refine DagSteps.cons (fun s' w' X U H => Or.inl ⟨?_, ?_⟩) ?_
    · exact Guarded_none rfl
    · have e9 : s' 9 = (.int .i64 (cmpI t.kind u.kind)) := H 4 rfl 9 (.eq (.int .i64 (cmpI t.kind u.kind))) rfl (by rw [hFs3]; rfl)
      have e14 : s' 14 = (.int .i64 (cmpL cmpSp t.set u.set)) := H 9 rfl 14 (.eq (.int .i64 (cmpL cmpSp t.set u.set))) rfl (by rw [hFs3]; rfl)
      have e19 : s' 19 = (.int .i64 (cmpI t.mn u.mn)) := H 14 rfl 19 (.eq (.int .i64 (cmpI t.mn u.mn))) rfl (by rw [hFs3]; rfl)
      have e24 : s' 24 = (.int .i64 (cmpI t.mx u.mx)) := H 19 rfl 24 (.eq (.int .i64 (cmpI t.mx u.mx))) rfl (by rw [hFs3]; rfl)
      have e29 : s' 29 = (.int .i64 (ordRs t.args u.args)) := H 24 rfl 29 (.eq (.int .i64 (ordRs t.args u.args))) rfl (by rw [hFs3]; rfl)
      exact Does_ints5 e9 e14 e19 e24 e29
    refine DagSteps.cons (fun s' w' X U H => Or.inl ⟨?_, ?_⟩) ?_
    · exact Guarded_none rfl
    · obtain ⟨b30, e30, i30⟩ := H 25 rfl 30 (.gen (ints5F (cmpI t.kind u.kind) (cmpL cmpSp t.set u.set) (cmpI t.mn u.mn) (cmpI t.mx u.mx) (ordRs t.args u.args)) (ints5F_ext _ _ _ _ _)) rfl (by rw [hFs3]; rfl)
      exact Does_enter (r_callF (vs := [(.slice (some ⟨b30, 0, none⟩) 5 5)]) Try.func65 nm65 bd65 (lst1 e30)) (sor_c _ _ _ (e30 ▸ i30))
    refine DagSteps.cons (fun s' w' X U H => Or.inl ⟨?_, ?_⟩) ?_
    · exact Guarded_none rfl
    · have e31 : s' 31 = (.int .i64 (orL [cmpI t.kind u.kind, cmpL cmpSp t.set u.set, cmpI t.mn u.mn, cmpI t.mx u.mx, ordRs t.args u.args])) := H 26 rfl 31 (.eq (.int .i64 (orL [cmpI t.kind u.kind, cmpL cmpSp t.set u.set, cmpI t.mn u.mn, cmpI t.mx u.mx, ordRs t.args u.args]))) rfl (by rw [hFs3]; rfl)
      exact Does_val (r_assign (v := (I6 (orL [cmpI t.kind u.kind, cmpL cmpSp t.set u.set, cmpI t.mn u.mn, cmpI t.mx u.mx, ordRs t.args u.args]))) e31) (Ext.refl _) rfl
    exact DagSteps.nil
  · intro s' w3 X3 U H
    obtain ⟨j3, rfl⟩ := Fits.out (σ := s') (l := [(4, (.int .i64 (orL [cmpI t.kind u.kind, cmpL cmpSp t.set u.set, cmpI t.mn u.mn, cmpI t.mx u.mx, ordRs t.args u.args])))]) ⟨(show s' 4 = (.int .i64 (orL [cmpI t.kind u.kind, cmpL cmpSp t.set u.set, cmpI t.mn u.mn, cmpI t.mx u.mx, ordRs t.args u.args])) from H 27 4 (.eq (.int .i64 (orL [cmpI t.kind u.kind, cmpL cmpSp t.set u.set, cmpI t.mn u.mn, cmpI t.mx u.mx, ordRs t.args u.args]))) rfl (by rw [hFs3]; rfl)), trivial⟩
    clear U H
    replace B1 := X3.keep B1
    replace B2 := X3.keep B2
    replace E := E.ext X3
    refine thn_normal (Wp_ret ?_)
    refine fin_tmp Try.results59 (v := (.int .i64 (orL [cmpI t.kind u.kind, cmpL cmpSp t.set u.set, cmpI t.mn u.mn, cmpI t.mx u.mx, ordRs t.args u.args]))) rfl ?_
    exact ⟨rfl, E⟩
end Go.Proofs
namespace Go.Proofs
open Go Go.Eng Go.Sort
set_option maxRecDepth 100000
abbrev zeroRe (k : Int) : List Value := [.int .i64 k, .slice none 0 0, .slice none 0 0, .int .i64 0, .int .i64 0, .bool false]
theorem dnone_c (w0 : World) : Ret Try.prog 35 #[] w0 fun v w => v = .agg (zeroRe 0).toArray ∧ Ext w0 w := by
 refine Ret_of Try.func35 rfl Try.ntmps35 (Nat.le_of_ble_eq_true rfl) ?_
 have E : Chg none1 w0 w0 := Chg.refl _ _
 refine Wp_seq_region ?_
 refine s_alloc (c := #[(I6 0), (.slice none 0 0), (.slice none 0 0), (I6 0), (I6 0), (.bool false)]) (by decide) zer27 rfl ?_
 intro b1 w1 N1
 have F1 := N1.ge E
 replace E := E.ext N1.ext
 have B1 := N1.blk
 refine WpL_nil (Wp_seq_region ?_)
 refine qV (r_build (ps := [(0, (I6 0))]) (v := (.agg #[(I6 0), (.slice none 0 0), (.slice none 0 0), (I6 0), (I6 0), (.bool false)])) rfl (by kernel_rfl)) ?_
 refine s_storeAgg (b := b1) (o := 0) (c' := #[(I6 0), (.slice none 0 0), (.slice none 0 0), (I6 0), (I6 0), (.bool false)]) rfl rfl (by simp [Value.oneCell']) siz27 rfl B1 (by first | (simp; done) | exact Nat.le_of_ble_eq_true rfl) rfl ?_
 intro w2 S2
 replace E := S2.step E (by first | exact Or.inl (by omega) | exact Or.inr rfl | exact Or.inr (by assumption) | exact Or.inr (by simp) | exact Or.inr (by omega) | exact Or.inr (by dsimp only; omega))
 replace B1 := S2.blk
 refine WpL_nil (Wp_ret ?_)
 refine fin_agg Try.results35 (vs := [(.int .i64 0), (.slice none 0 0), (.slice none 0 0), (.int .i64 0), (.int .i64 0), (.bool false)]) (b := b1) rfl agg27 siz27 rfl (B1.cells rfl) ?_
 exact ⟨rfl, E⟩
theorem dempty_c (w0 : World) : Ret Try.prog 32 #[] w0 fun v w => v = .agg (zeroRe 1).toArray ∧ Ext w0 w := by
 refine Ret_of Try.func32 rfl Try.ntmps32 (Nat.le_of_ble_eq_true rfl) ?_
 have E : Chg none1 w0 w0 := Chg.refl _ _
 refine Wp_seq_region ?_
 refine s_alloc (c := #[(I6 0), (.slice none 0 0), (.slice none 0 0), (I6 0), (I6 0), (.bool false)]) (by decide) zer27 rfl ?_
 intro b1 w1 N1
 have F1 := N1.ge E
 replace E := E.ext N1.ext
 have B1 := N1.blk
 refine WpL_nil (Wp_seq_region ?_)
 refine qV (r_build (ps := [(0, (I6 1))]) (v := (.agg #[(I6 1), (.slice none 0 0), (.slice none 0 0), (I6 0), (I6 0), (.bool false)])) rfl (by kernel_rfl)) ?_
 refine s_storeAgg (b := b1) (o := 0) (c' := #[(I6 1), (.slice none 0 0), (.slice none 0 0), (I6 0), (I6 0), (.bool false)]) rfl rfl (by simp [Value.oneCell']) siz27 rfl B1 (by first | (simp; done) | exact Nat.le_of_ble_eq_true rfl) rfl ?_
 intro w2 S2
 replace E := S2.step E (by first | exact Or.inl (by omega) | exact Or.inr rfl | exact Or.inr (by assumption) | exact Or.inr (by simp) | exact Or.inr (by omega) | exact Or.inr (by dsimp only; omega))
 replace B1 := S2.blk
 refine WpL_nil (Wp_ret ?_)
 refine fin_agg Try.results32 (vs := [(.int .i64 1), (.slice none 0 0), (.slice none 0 0), (.int .i64 0), (.int .i64 0), (.bool false)]) (b := b1) rfl agg27 siz27 rfl (B1.cells rfl) ?_
 exact ⟨rfl, E⟩
theorem disnone_c (w0 : World) (t : Re) (vs : List Value) (ht : ReAt w0 t vs) : Ret Try.prog 46 #[.agg vs.toArray] w0 fun v w => v = .bool (isNoneB t) ∧ Ext w0 w := by
 obtain ⟨sa, sc, aa, ac, rfl, _, _, _⟩ := ht.form
 refine Ret_of Try.func46 rfl Try.ntmps46 (Nat.le_of_ble_eq_true rfl) ?_
 have E : Chg none1 w0 w0 := Chg.refl _ _
 refine Wp_seq_region ?_
 refine s_box (v := (.agg (R6 t sa sc aa ac))) (c := (R6 t sa sc aa ac)) (by decide) rfl rfl ?_
 intro b1 w1 N1
 have F1 := N1.ge E
 replace E := E.ext N1.ext
 have B1 := N1.blk
 refine qA (.bool false) rfl ?_
 refine WpL_nil (Wp_seq_region ?_)
 refine qF b1 0 0 rfl Try.underlying27 rfl siz3 rfl ?_
 refine qV (r_load (v := (I6 t.kind)) rfl flat3 (B1.cell rfl)) ?_
 refine qV (r_eql (k := .i64) (a := t.kind) (b := 0) rfl rfl) ?_
 refine qA (.bool (decide ((t.kind : Int) = 0))) rfl ?_
 refine WpL_nil (Wp_ret ?_)
 refine fin_tmp Try.results46 (v := (.bool (decide ((t.kind : Int) = 0)))) rfl ?_
 exact ⟨rfl, E⟩
theorem discat1_c (w0 : World) (t : Re) (vs : List Value) (ht : ReAt w0 t vs) : Ret Try.prog 52 #[.agg vs.toArray] w0 fun v w => v = .bool (isEmptyB t) ∧ Ext w0 w := by
 obtain ⟨sa, sc, aa, ac, rfl, _, _, _⟩ := ht.form
 refine Ret_of Try.func52 rfl Try.ntmps52 (Nat.le_of_ble_eq_true rfl) ?_
 have E : Chg none1 w0 w0 := Chg.refl _ _
 refine Wp_seq_region ?_
 refine s_box (v := (.agg (R6 t sa sc aa ac))) (c := (R6 t sa sc aa ac)) (by decide) rfl rfl ?_
 intro b1 w1 N1
 have F1 := N1.ge E
 replace E := E.ext N1.ext
 have B1 := N1.blk
 refine qA (.bool false) rfl ?_
 refine WpL_nil (Wp_seq_region ?_)
 refine qF b1 0 0 rfl Try.underlying27 rfl siz3 rfl ?_
 refine qV (r_load (v := (I6 t.kind)) rfl flat3 (B1.cell rfl)) ?_
 refine qV (r_eql (k := .i64) (a := t.kind) (b := 1) rfl rfl) ?_
 refine qA (.bool (decide ((t.kind : Int) = 1))) rfl ?_
 refine WpL_nil (Wp_ret ?_)
 refine fin_tmp Try.results52 (v := (.bool (decide ((t.kind : Int) = 1)))) rfl ?_
 exact ⟨rfl, E⟩
theorem disall_c (w0 : World) (t : Re) (vs : List Value) (ht : ReAt w0 t vs) (h8 : t.kind = 8 → t.args ≠ []) : Ret Try.prog 45 #[.agg vs.toArray] w0 fun v w => v = .bool (isAllB t) ∧ Ext w0 w := by
 obtain ⟨sa, sc, aa, ac, rfl, _, _, hargs⟩ := ht.form
 refine Ret_of Try.func45 rfl Try.ntmps45 (Nat.le_of_ble_eq_true rfl) ?_
 have E : Chg none1 w0 w0 := Chg.refl _ _
 refine Wp_seq_region ?_
 refine s_box (v := (.agg (R6 t sa sc aa ac))) (c := (R6 t sa sc aa ac)) (by decide) rfl rfl ?_
 intro br wr Nr
 have Fr := Nr.ge E
 replace E := E.ext Nr.ext
 have Br := Nr.blk
 refine qA (.bool false) rfl ?_
 refine WpL_nil (Wp_seq_region ?_)
 refine qF br 0 0 rfl Try.underlying27 rfl siz3 rfl ?_
 refine qV (r_load (v := (I6 t.kind)) rfl flat3 (Br.cell rfl)) ?_
 refine qV (r_eql (k := .i64) (a := t.kind) (b := 8) rfl rfl) ?_
 refine qM (.bool (decide ((t.kind : Int) = 8))) rfl ?_
 rcases Bool.eq_false_or_eq_true (decide ((t.kind : Int) = 8)) with hk | hk
 ·have khk := hk
  replace khk := of_decide_eq_true khk
  obtain ⟨x, hx⟩ := get_of_lt (l := t.args) (i := 0) (List.length_pos_iff.2 (h8 khk))
  obtain ⟨ab, ao, rfl, hres⟩ := args_at hargs (List.length_pos_iff.2 (h8 khk))
  have hpl := lt_of_get hx
  obtain ⟨us, hus, hxt⟩ := hres.get hx
  obtain ⟨xsa, xsc, xaa, xac, rfl, _, _, _⟩ := hxt.form
  refine WpL_guard_yes (oj := _) rfl rfl (by decide) (congrArg Value.bool hk) ?_
  refine qF br 0 2 rfl Try.underlying27 rfl siz25 rfl ?_
  refine WpL_guard_yes (oj := _) rfl rfl (by decide) (congrArg Value.bool hk) ?_
  refine qV (r_load (v := (.slice (some ⟨ab, ao, none⟩) t.args.length ac)) rfl flat25 (Br.cell rfl)) ?_
  refine WpL_guard_yes (oj := _) rfl rfl (by decide) (congrArg Value.bool hk) ?_
  refine qV (r_indexSlice (b := ab) (o := ao) (len := t.args.length) (cap := ac) (i := 0) (o' := ao + 0 * 6) rfl rfl rfl Try.underlying25 siz27 (by omega) (by omega)) ?_
  refine WpL_guard_yes (oj := _) rfl rfl (by decide) (congrArg Value.bool hk) ?_
  refine qF ab (ao + 0 * 6) (ao + 0 * 6) rfl Try.underlying27 rfl siz3 rfl ?_
  refine WpL_guard_yes (oj := _) rfl rfl (by decide) (congrArg Value.bool hk) ?_
  refine qV (r_load (v := (I6 x.kind)) rfl flat3 (E.cell (fun f => f) (hus 0 _ rfl))) ?_
  refine WpL_guard_yes (oj := _) rfl rfl (by decide) (congrArg Value.bool hk) ?_
  refine qV (r_eql (k := .i64) (a := x.kind) (b := 0) rfl rfl) ?_
  refine qV (r_pick (b := decide ((t.kind : Int) = 8)) (v := (.bool (decide ((x.kind : Int) = 0)))) rfl (by rw [hk]; rfl)) ?_
  refine qA (.bool (decide ((x.kind : Int) = 0))) rfl ?_
  refine WpL_nil (Wp_ret ?_)
  refine fin_tmp Try.results45 (v := (.bool (decide ((x.kind : Int) = 0)))) rfl ?_
  exact ⟨bool_eq (by unfold isAllB; rw [headD_get hx, khk]; rfl), E⟩
 ·have khk := hk
  replace khk := of_decide_eq_false khk
  refine WpL_guard_no (oj := _) rfl rfl (by decide) (v := .bool false) (congrArg Value.bool hk) (Or.inl rfl) ?_
  refine WpL_guard_no (oj := _) rfl rfl (by decide) (v := .bool false) (congrArg Value.bool hk) (Or.inl rfl) ?_
  refine WpL_guard_no (oj := _) rfl rfl (by decide) (v := .bool false) (congrArg Value.bool hk) (Or.inl rfl) ?_
  refine WpL_guard_no (oj := _) rfl rfl (by decide) (v := .bool false) (congrArg Value.bool hk) (Or.inl rfl) ?_
  refine WpL_guard_no (oj := _) rfl rfl (by decide) (v := .bool false) (congrArg Value.bool hk) (Or.inl rfl) ?_
  refine WpL_guard_no (oj := _) rfl rfl (by decide) (v := .bool false) (congrArg Value.bool hk) (Or.inl rfl) ?_
  refine qV (r_pick (b := decide ((t.kind : Int) = 8)) (v := (.bool false)) rfl (by rw [hk]; rfl)) ?_
  refine qA (.bool false) rfl ?_
  refine WpL_nil (Wp_ret ?_)
  refine fin_tmp Try.results45 (v := (.bool false)) rfl ?_
  exact ⟨bool_eq (by unfold isAllB; simp [hk]), E⟩
theorem emptR_eq (t : Re) : emptR t = if t.kind = 1 ∨ t.kind = 5 then true else if t.kind = 3 ∨ t.kind = 7 ∨ t.kind = 9 then emptRs t.args else if t.kind = 4 then emptAny t.args else if t.kind = 6 then (decide (t.mn = 0) || emptRs t.args) else if t.kind = 8 then !emptRs t.args else if t.kind = 10 then (emptRs t.args != t.neg) else false := by
  cases t with
  | mk k s a m x g => simp only [emptR]; rfl
set_option maxHeartbeats 4000000 in
theorem empt_c : ∀ (n : Nat) (t : Re) (w0 : World) (vs : List Value), t.size ≤ n → n ≤ 2000000 → ReAt w0 t vs →
    Ret Try.prog 19 #[.agg vs.toArray] w0 fun v w => v = .bool (emptR t) ∧ Ext w0 w := by
  intro n
  induction n with
  | zero => intro t w0 vs h; have := t.size_pos; omega
  | succ n ih =>
  intro t w0 vs hn hnb ht
  have ht0 := ht
  obtain ⟨sa, sc, aa, ac, rfl, hset, hlen, hargs⟩ := ht.form
  have hal := len_lt_size t
  rw [emptR_eq]
  refine Ret_of Try.func19 rfl Try.ntmps19 (Nat.le_of_ble_eq_true rfl) ?_
  have E : Chg none1 w0 w0 := Chg.refl _ _
  refine Wp_seq_region ?_
  refine s_box (v := (.agg (R6 t sa sc aa ac))) (c := (R6 t sa sc aa ac)) (by decide) rfl rfl ?_
  intro b1 w1 N1
  have F1 := N1.ge E
  replace E := E.ext N1.ext
  have B1 := N1.blk
  refine qA (.bool false) rfl ?_
  refine WpL_nil (Wp_seq_region ?_)
  refine qA (.bool true) rfl ?_
  refine qA (.bool false) rfl ?_
  refine WpL_nil (Wp_seq (Wp_seq_region ?_))
  refine qF b1 0 2 rfl Try.underlying27 rfl siz25 rfl ?_
  refine qV (r_load (v := (.slice aa t.args.length ac)) rfl flat25 (B1.cell rfl)) ?_
  refine qV (r_lenSlice (ad := aa) (n := t.args.length) (cap := ac) Try.underlying25 rfl) ?_
  refine qM (I6 0) rfl ?_
  refine WpL_nil (Wp_block ?_)
  refine Wp_loop (fun nn_ σ W2 => ∃ (k : Nat) (a s : Bool), (∃ jj_, σ = upds jj_ [(1, (P6 b1 0)), (9, (.slice aa t.args.length ac)), (10, (I6 (t.args.length : Int))), (11, (I6 (k : Int))), (3, (.bool a)), (4, (.bool s))]) ∧ Chg none1 w0 W2 ∧ Blk W2 b1 (R6 t sa sc aa ac) 27 ∧ (k ≤ t.args.length) ∧ (emptRs t.args = (a && emptRs (t.args.drop k))) ∧ (emptAny t.args = (s || emptAny (t.args.drop k))) ∧ nn_ = t.args.length - k) (n := t.args.length - 0) ?_ ?_
  · exact ⟨0, true, false, Fits.out ⟨rfl, rfl, rfl, rfl, rfl, rfl, trivial⟩, E, B1, Nat.zero_le _, (by simp), (by simp), rfl⟩
  · clear E B1
    rintro _ _ W2 ⟨k, a, s, ⟨j2, rfl⟩, E, B1, hk, ha, hs, rfl⟩
    refine Wp_seq_region ?_
    refine qV (r_lss (k := .i64) (a := (k : Int)) (b := (t.args.length : Int)) rfl rfl) ?_
    refine WpL_nil (Wp_seq ?_)
    refine Wp_cond (b := decide (((k : Int) : Int) < (t.args.length : Int))) rfl (fun hlt => ?_) (fun hlt => ?_)
    · have khlt := hlt
      replace hlt := of_decide_eq_true hlt
      obtain ⟨x, hx⟩ := get_of_lt (l := t.args) (i := k) (by omega)
      obtain ⟨ab, ao, rfl, hres⟩ := args_at hargs (by omega)
      obtain ⟨us, hus, hxt⟩ := hres.get hx
      obtain ⟨xsa, xsc, xaa, xac, rfl, _, _, _⟩ := hxt.form
      rw [drop_cons hx] at ha hs
      simp only [emptRs, emptAny] at ha hs
      refine Wp_skip (thn_normal (Wp_seq (Wp_block (Wp_seq_region ?_))))
      refine qV (r_indexSlice (b := ab) (o := ao) (len := t.args.length) (cap := ac) (i := k) (o' := ao + k * 6) rfl rfl rfl Try.underlying25 siz27 (by omega) (by omega)) ?_
      refine qV (r_loadAgg (vs := [(I6 x.kind), (.slice xsa x.set.length xsc), (.slice xaa x.args.length xac), (I6 x.mn), (I6 x.mx), (.bool x.neg)]) rfl agg27 siz27 rfl (hus.ext E)) ?_
      refine s_allocStore (v := (.agg (R6 x xsa xsc xaa xac))) (c := (R6 x xsa xsc xaa xac)) (n := 6) (by decide) zer27 rfl siz27 rfl rfl rfl (by simp [Value.oneCell']) ?_
      intro b4 w4 N4
      have F4 := N4.ge E
      have O4_b1 := N4.lt B1
      replace B1 := N4.keep B1
      replace E := E.ext N4.ext
      have B4 := N4.blk
      refine WpL_nil (Wp_seq_region ?_)
      refine qV (r_loadAgg (vs := [(I6 x.kind), (.slice xsa x.set.length xsc), (.slice xaa x.args.length xac), (I6 x.mn), (I6 x.mx), (.bool x.neg)]) rfl agg27 siz27 rfl (B4.cells rfl)) ?_
      refine WpL_enter rfl rfl (by decide) (r_callF (vs := [(.agg (R6 x xsa xsc xaa xac))]) Try.func19 nm19 bd19 rfl) (ih x _ _ (by have := Re.size_arg hx; omega) (by omega) (ReAt.ext E x hxt)) ?_
      rintro _ w9 ⟨rfl, X9⟩
      replace B1 := X9.keep B1
      replace B4 := X9.keep B4
      replace E := E.ext X9
      refine qA (.bool (emptR x)) rfl ?_
      refine WpL_nil (Wp_region ?_)
      refine qM (.bool a) rfl ?_
      refine qM (.bool a) rfl ?_
      rcases Bool.eq_false_or_eq_true (a) with ga | ga
      · have kga := ga
        refine WpL_guard_yes (oj := _) rfl rfl (by decide) (congrArg Value.bool ga) ?_
        refine qM (.bool (emptR x)) rfl ?_
        refine qV (r_pick (b := a) (v := (.bool (emptR x))) rfl (by rw [ga]; rfl)) ?_
        refine qM (.bool s) rfl ?_
        refine qM (.bool s) rfl ?_
        rcases Bool.eq_false_or_eq_true (s) with gs | gs
        · have kgs := gs
          refine WpL_guard_no (oj := _) rfl rfl (by decide) (v := .bool true) (congrArg Value.bool gs) (Or.inl rfl) ?_
          refine qV (r_pick (b := s) (v := (.bool true)) rfl (by rw [gs]; rfl)) ?_
          refine qA (.bool (emptR x)) rfl ?_
          refine qA (.bool true) rfl ?_
          refine WpL_nil (inB_normal (thn_normal (Wp_region ?_)))
          refine qV (r_add (k := .i64) (a := (k : Int)) (b := 1) (c := (k : Int) + 1) rfl rfl (wI64 (by omega))) ?_
          refine qM (I6 ((k : Int) + 1)) rfl ?_
          refine WpL_nil (thn_normal ?_)
          exact ⟨t.args.length - (k + 1), by omega, k + 1, emptR x, true, Fits.out ⟨rfl, rfl, rfl, rfl, rfl, rfl, trivial⟩, E, B1, (by omega), (by rw [ha, ga]; rfl), (by rw [hs, gs]; rfl), rfl⟩
        · have kgs := gs
          refine WpL_guard_yes (oj := _) rfl rfl (by decide) (congrArg Value.bool gs) ?_
          refine qM (.bool (emptR x)) rfl ?_
          refine qV (r_pick (b := s) (v := (.bool (emptR x))) rfl (by rw [gs]; rfl)) ?_
          refine qA (.bool (emptR x)) rfl ?_
          refine qA (.bool (emptR x)) rfl ?_
          refine WpL_nil (inB_normal (thn_normal (Wp_region ?_)))
          refine qV (r_add (k := .i64) (a := (k : Int)) (b := 1) (c := (k : Int) + 1) rfl rfl (wI64 (by omega))) ?_
          refine qM (I6 ((k : Int) + 1)) rfl ?_
          refine WpL_nil (thn_normal ?_)
          exact ⟨t.args.length - (k + 1), by omega, k + 1, emptR x, emptR x, Fits.out ⟨rfl, rfl, rfl, rfl, rfl, rfl, trivial⟩, E, B1, (by omega), (by rw [ha, ga]; rfl), (by rw [hs, gs]; rfl), rfl⟩
      · have kga := ga
        refine WpL_guard_no (oj := _) rfl rfl (by decide) (v := .bool false) (congrArg Value.bool ga) (Or.inl rfl) ?_
        refine qV (r_pick (b := a) (v := (.bool false)) rfl (by rw [ga]; rfl)) ?_
        refine qM (.bool s) rfl ?_
        refine qM (.bool s) rfl ?_
        rcases Bool.eq_false_or_eq_true (s) with gs | gs
        · have kgs := gs
          refine WpL_guard_no (oj := _) rfl rfl (by decide) (v := .bool true) (congrArg Value.bool gs) (Or.inl rfl) ?_
          refine qV (r_pick (b := s) (v := (.bool true)) rfl (by rw [gs]; rfl)) ?_
          refine qA (.bool false) rfl ?_
          refine qA (.bool true) rfl ?_
          refine WpL_nil (inB_normal (thn_normal (Wp_region ?_)))
          refine qV (r_add (k := .i64) (a := (k : Int)) (b := 1) (c := (k : Int) + 1) rfl rfl (wI64 (by omega))) ?_
          refine qM (I6 ((k : Int) + 1)) rfl ?_
          refine WpL_nil (thn_normal ?_)
          exact ⟨t.args.length - (k + 1), by omega, k + 1, false, true, Fits.out ⟨rfl, rfl, rfl, rfl, rfl, rfl, trivial⟩, E, B1, (by omega), (by rw [ha, ga]; rfl), (by rw [hs, gs]; rfl), rfl⟩
        · have kgs := gs
          refine WpL_guard_yes (oj := _) rfl rfl (by decide) (congrArg Value.bool gs) ?_
          refine qM (.bool (emptR x)) rfl ?_
          refine qV (r_pick (b := s) (v := (.bool (emptR x))) rfl (by rw [gs]; rfl)) ?_
          refine qA (.bool false) rfl ?_
          refine qA (.bool (emptR x)) rfl ?_
          refine WpL_nil (inB_normal (thn_normal (Wp_region ?_)))
          refine qV (r_add (k := .i64) (a := (k : Int)) (b := 1) (c := (k : Int) + 1) rfl rfl (wI64 (by omega))) ?_
          refine qM (I6 ((k : Int) + 1)) rfl ?_
          refine WpL_nil (thn_normal ?_)
          exact ⟨t.args.length - (k + 1), by omega, k + 1, false, emptR x, Fits.out ⟨rfl, rfl, rfl, rfl, rfl, rfl, trivial⟩, E, B1, (by omega), (by rw [ha, ga]; rfl), (by rw [hs, gs]; rfl), rfl⟩
    · have khlt := hlt
      replace hlt := of_decide_eq_false hlt
      have hkl : t.args.drop k = [] := List.drop_eq_nil_of_le (by omega)
      rw [hkl] at ha hs
      have ha1 : emptRs t.args = a := by rw [ha]; simp [emptRs]
      have hs1 : emptAny t.args = s := by rw [hs]; simp [emptAny]
      rw [ha1, hs1]
      refine Wp_exit (thn_exit (thn_exit (inB_here (thn_normal (Wp_seq (Wp_seq_region ?_))))))
      refine qF b1 0 0 rfl Try.underlying27 rfl siz3 rfl ?_
      refine qV (r_load (v := (I6 t.kind)) rfl flat3 (B1.cell rfl)) ?_
      refine WpL_nil (Wp_block (Wp_seq (Wp_seq_region ?_)))
      refine qV (r_eql (k := .i64) (a := t.kind) (b := 1) rfl rfl) ?_
      refine qA (.bool (decide ((t.kind : Int) = 1))) rfl ?_
      refine WpL_nil ?_
      refine Wp_cond (b := decide ((t.kind : Int) = 1)) rfl (fun h1 => ?_) (fun h1 => ?_)
      · have kh1 := h1
        replace h1 := of_decide_eq_true h1
        refine Wp_skip (thn_normal ?_)
        refine Wp_cond_true (congrArg Value.bool kh1) ?_
        refine Wp_seq_region ?_
        refine qA (.bool true) rfl ?_
        refine WpL_nil (Wp_ret (inB_ret (thn_ret ?_)))
        refine fin_tmp Try.results19 (v := (.bool true)) rfl ?_
        exact ⟨bool_eq (by rw [if_pos (.inl h1)]), E⟩
      · have kh1 := h1
        replace h1 := of_decide_eq_false h1
        refine Wp_region ?_
        refine qV (r_eql (k := .i64) (a := t.kind) (b := 5) rfl rfl) ?_
        refine qA (.bool (decide ((t.kind : Int) = 5))) rfl ?_
        refine WpL_nil (thn_normal ?_)
        refine Wp_cond (b := decide ((t.kind : Int) = 5)) rfl (fun h5 => ?_) (fun h5 => ?_)
        · have kh5 := h5
          replace h5 := of_decide_eq_true h5
          refine Wp_seq_region ?_
          refine qA (.bool true) rfl ?_
          refine WpL_nil (Wp_ret (inB_ret (thn_ret ?_)))
          refine fin_tmp Try.results19 (v := (.bool true)) rfl ?_
          exact ⟨bool_eq (by rw [if_pos (.inr h5)]), E⟩
        · have kh5 := h5
          replace h5 := of_decide_eq_false h5
          rw [if_neg (show ¬ (t.kind = 1 ∨ t.kind = 5) by omega)]
          refine Wp_seq (Wp_seq_region ?_)
          refine qV (r_eql (k := .i64) (a := t.kind) (b := 3) rfl rfl) ?_
          refine qA (.bool (decide ((t.kind : Int) = 3))) rfl ?_
          refine WpL_nil ?_
          refine Wp_cond (b := decide ((t.kind : Int) = 3)) rfl (fun h3 => ?_) (fun h3 => ?_)
          · have kh3 := h3
            replace h3 := of_decide_eq_true h3
            refine Wp_skip (thn_normal ?_)
            refine Wp_cond_true (congrArg Value.bool kh3) ?_
            refine Wp_seq_region ?_
            refine qM (.bool a) rfl ?_
            refine qA (.bool a) rfl ?_
            refine WpL_nil (Wp_ret (inB_ret (thn_ret ?_)))
            refine fin_tmp Try.results19 (v := (.bool a)) rfl ?_
            exact ⟨bool_eq (by rw [if_pos (.inl h3)]), E⟩
          · have kh3 := h3
            replace h3 := of_decide_eq_false h3
            refine Wp_seq_region ?_
            refine qV (r_eql (k := .i64) (a := t.kind) (b := 7) rfl rfl) ?_
            refine qA (.bool (decide ((t.kind : Int) = 7))) rfl ?_
            refine WpL_nil ?_
            refine Wp_cond (b := decide ((t.kind : Int) = 7)) rfl (fun h7 => ?_) (fun h7 => ?_)
            · have kh7 := h7
              replace h7 := of_decide_eq_true h7
              refine Wp_skip (thn_normal ?_)
              refine Wp_cond_true (congrArg Value.bool kh7) ?_
              refine Wp_seq_region ?_
              refine qM (.bool a) rfl ?_
              refine qA (.bool a) rfl ?_
              refine WpL_nil (Wp_ret (inB_ret (thn_ret ?_)))
              refine fin_tmp Try.results19 (v := (.bool a)) rfl ?_
              exact ⟨bool_eq (by rw [if_pos (.inr (.inl h7))]), E⟩
            · have kh7 := h7
              replace h7 := of_decide_eq_false h7
              refine Wp_region ?_
              refine qV (r_eql (k := .i64) (a := t.kind) (b := 9) rfl rfl) ?_
              refine qA (.bool (decide ((t.kind : Int) = 9))) rfl ?_
              refine WpL_nil (thn_normal ?_)
              refine Wp_cond (b := decide ((t.kind : Int) = 9)) rfl (fun h9 => ?_) (fun h9 => ?_)
              · have kh9 := h9
                replace h9 := of_decide_eq_true h9
                refine Wp_seq_region ?_
                refine qM (.bool a) rfl ?_
                refine qA (.bool a) rfl ?_
                refine WpL_nil (Wp_ret (inB_ret (thn_ret ?_)))
                refine fin_tmp Try.results19 (v := (.bool a)) rfl ?_
                exact ⟨bool_eq (by rw [if_pos (.inr (.inr h9))]), E⟩
              · have kh9 := h9
                replace h9 := of_decide_eq_false h9
                rw [if_neg (show ¬ (t.kind = 3 ∨ t.kind = 7 ∨ t.kind = 9) by omega)]
                refine Wp_seq_region ?_
                refine qV (r_eql (k := .i64) (a := t.kind) (b := 4) rfl rfl) ?_
                refine qA (.bool (decide ((t.kind : Int) = 4))) rfl ?_
                refine WpL_nil ?_
                refine Wp_cond (b := decide ((t.kind : Int) = 4)) rfl (fun h4 => ?_) (fun h4 => ?_)
                · have kh4 := h4
                  replace h4 := of_decide_eq_true h4
                  refine Wp_seq_region ?_
                  refine qM (.bool s) rfl ?_
                  refine qA (.bool s) rfl ?_
                  refine WpL_nil (Wp_ret (inB_ret (thn_ret ?_)))
                  refine fin_tmp Try.results19 (v := (.bool s)) rfl ?_
                  exact ⟨bool_eq (by rw [if_pos h4]), E⟩
                · have kh4 := h4
                  replace h4 := of_decide_eq_false h4
                  refine Wp_seq_region ?_
                  refine qV (r_eql (k := .i64) (a := t.kind) (b := 6) rfl rfl) ?_
                  refine qA (.bool (decide ((t.kind : Int) = 6))) rfl ?_
                  refine WpL_nil ?_
                  refine Wp_cond (b := decide ((t.kind : Int) = 6)) rfl (fun h6 => ?_) (fun h6 => ?_)
                  · have kh6 := h6
                    replace h6 := of_decide_eq_true h6
                    refine Wp_seq_region ?_
                    refine qF b1 0 3 rfl Try.underlying27 rfl siz3 rfl ?_
                    refine qV (r_load (v := (I6 t.mn)) rfl flat3 (B1.cell rfl)) ?_
                    refine qV (r_eql (k := .i64) (a := t.mn) (b := 0) rfl rfl) ?_
                    refine qM (.bool (decide ((t.mn : Int) = 0))) rfl ?_
                    rcases Bool.eq_false_or_eq_true (decide ((t.mn : Int) = 0)) with hm | hm
                    · have khm := hm
                      replace khm := of_decide_eq_true khm
                      refine WpL_guard_no (oj := _) rfl rfl (by decide) (v := .bool true) (congrArg Value.bool hm) (Or.inl rfl) ?_
                      refine qV (r_pick (b := decide ((t.mn : Int) = 0)) (v := (.bool true)) rfl (by rw [hm]; rfl)) ?_
                      refine qA (.bool true) rfl ?_
                      refine WpL_nil (Wp_ret (inB_ret (thn_ret ?_)))
                      refine fin_tmp Try.results19 (v := (.bool true)) rfl ?_
                      exact ⟨bool_eq (by rw [if_neg h4, if_pos h6]; simp [hm]), E⟩
                    · have khm := hm
                      replace khm := of_decide_eq_false khm
                      refine WpL_guard_yes (oj := _) rfl rfl (by decide) (congrArg Value.bool hm) ?_
                      refine qM (.bool a) rfl ?_
                      refine qV (r_pick (b := decide ((t.mn : Int) = 0)) (v := (.bool a)) rfl (by rw [hm]; rfl)) ?_
                      refine qA (.bool a) rfl ?_
                      refine WpL_nil (Wp_ret (inB_ret (thn_ret ?_)))
                      refine fin_tmp Try.results19 (v := (.bool a)) rfl ?_
                      exact ⟨bool_eq (by rw [if_neg h4, if_pos h6]; simp [hm]), E⟩
                  · have kh6 := h6
                    replace h6 := of_decide_eq_false h6
                    refine Wp_seq_region ?_
                    refine qV (r_eql (k := .i64) (a := t.kind) (b := 8) rfl rfl) ?_
                    refine qA (.bool (decide ((t.kind : Int) = 8))) rfl ?_
                    refine WpL_nil ?_
                    refine Wp_cond (b := decide ((t.kind : Int) = 8)) rfl (fun h8 => ?_) (fun h8 => ?_)
                    · have kh8 := h8
                      replace h8 := of_decide_eq_true h8
                      refine Wp_seq_region ?_
                      refine qM (.bool a) rfl ?_
                      refine qV (r_not (b := a) rfl) ?_
                      refine qA (.bool (!a)) rfl ?_
                      refine WpL_nil (Wp_ret (inB_ret (thn_ret ?_)))
                      refine fin_tmp Try.results19 (v := (.bool (!a))) rfl ?_
                      exact ⟨bool_eq (by rw [if_neg h4, if_neg h6, if_pos h8]), E⟩
                    · have kh8 := h8
                      replace h8 := of_decide_eq_false h8
                      refine Wp_seq_region ?_
                      refine qV (r_eql (k := .i64) (a := t.kind) (b := 10) rfl rfl) ?_
                      refine qA (.bool (decide ((t.kind : Int) = 10))) rfl ?_
                      refine WpL_nil ?_
                      refine Wp_cond (b := decide ((t.kind : Int) = 10)) rfl (fun h10 => ?_) (fun h10 => ?_)
                      · have kh10 := h10
                        replace h10 := of_decide_eq_true h10
                        refine Wp_seq_region ?_
                        refine qM (.bool a) rfl ?_
                        refine qF b1 0 5 rfl Try.underlying27 rfl siz4 rfl ?_
                        refine qV (r_load (v := (.bool t.neg)) rfl flat4 (B1.cell rfl)) ?_
                        refine qV (r_neqB (p := a) (q := t.neg) Try.underlying4 rfl rfl) ?_
                        refine qA (.bool (a != t.neg)) rfl ?_
                        refine WpL_nil (Wp_ret (inB_ret (thn_ret ?_)))
                        refine fin_tmp Try.results19 (v := (.bool (a != t.neg))) rfl ?_
                        exact ⟨bool_eq (by rw [if_neg h4, if_neg h6, if_neg h8, if_pos h10]), E⟩
                      · have kh10 := h10
                        replace h10 := of_decide_eq_false h10
                        refine Wp_skip (inB_normal (thn_normal (Wp_seq_region ?_)))
                        refine qA (.bool false) rfl ?_
                        refine WpL_nil (Wp_ret ?_)
                        refine fin_tmp Try.results19 (v := (.bool false)) rfl ?_
                        exact ⟨bool_eq (by rw [if_neg h4, if_neg h6, if_neg h8, if_neg h10]), E⟩
end Go.Proofs
namespace Go.Proofs
open Go Go.Eng Go.Sort
set_option maxRecDepth 100000
theorem rsin_at {S : Nat → Prop} {w : World} {v : Value} {ts : List Re} (h : RsIn S w v ts) : RsAt w v ts := by
 obtain ⟨aa, ac, h1, h2, h3⟩ := h
 refine ⟨aa, ac, h1, h2, ?_⟩
 rcases h3 with h | ⟨b, o, _, h4, h5⟩
 ·exact .inl h
 ·exact .inr ⟨b, o, h4, ResIn.at ts h5⟩
theorem wrap_cases (k : Int) (z : Re) (l : List Re) : (l.length = 0 → wrapT k z l = z) ∧ (∀ x, l.length = 1 → l[0]? = some x → wrapT k z l = x) ∧ (2 ≤ l.length → wrapT k z l = .mk k [] l 0 0 false) := by
 refine ⟨fun h => by rw [List.eq_nil_of_length_eq_zero h]; rfl, fun x h hx => ?_, wrap_id⟩
 rw [getD_one h hx]; rfl
set_option maxHeartbeats 2000000 in
theorem dcat_c (w0 : World) (S : Nat → Prop) (v : Value) (ts : List Re) (h : RsIn S w0 v ts) (hS : ∀ x, S x → x < w0.heap.size) (hne : ∀ x ∈ ts, x.kind = 3 → x.args ≠ []) (hsz : Re.sizes ts ≤ 1000000) :
  Ret Try.prog 33 #[v] w0 fun r w => (∃ vs, r = .agg vs.toArray ∧ ReIn (fun b => S b ∨ w0.heap.size ≤ b) w (catD ts) vs) ∧ Ext w0 w := by
 have h0 := h
 obtain ⟨aa0, ac0, rfl, hac0, _⟩ := h
 have hls := len_sizes ts
 have hfle := flat_le 3 ts ts.length
 rw [List.take_length] at hfle
 obtain ⟨D, hD⟩ : ∃ D, D = delT isEmptyB (flatT 3 ts) := ⟨_, rfl⟩
 have hDl : D.length ≤ (flatT 3 ts).length := by rw [hD]; exact List.length_filter_le _ _
 have hcat : catD ts = if (D.any isNoneB) = true then noneT else wrapT 3 emptyT D := by rw [hD]; rfl
 rw [hcat]
 obtain ⟨hw0, hw1, hw2⟩ := wrap_cases 3 emptyT D
 refine Ret_of Try.func33 rfl Try.ntmps33 (Nat.le_of_ble_eq_true rfl) ?_
 have E : Chg none1 w0 w0 := Chg.refl _ _
 refine Wp_seq_region ?_
 refine s_alloc (c := #[(I6 0), (.slice none 0 0), (.slice none 0 0), (I6 0), (I6 0), (.bool false)]) (by decide) zer27 rfl ?_
 intro bo wo No
 have Fo := No.ge E
 replace E := E.ext No.ext
 have Bo := No.blk
 refine WpL_nil (Wp_seq_region ?_)
 refine qM (.slice aa0 ts.length ac0) rfl ?_
 obtain ⟨base, hbase⟩ : ∃ base, base = wo.heap.size := ⟨_, rfl⟩
 have hob : bo < base := by rw [hbase]; exact Bo.lt
 have hwb : w0.heap.size ≤ base := by omega
 have E2 : Chg none1 wo wo := Chg.refl _ _
 refine WpL_enter rfl rfl (by decide) (r_callF (vs := [(I6 3), (.slice aa0 ts.length ac0)]) Try.func51 nm51 bd51 rfl) (flat_c _ S 3 _ ts (h0.ext E) hne hsz) ?_
 rintro _ wf ⟨la, lc, rows, rfl, hown, hrs, Xf⟩
 replace Bo := Xf.keep Bo
 replace E := E.ext Xf
 rw [← hbase] at hown
 replace E2 : Chg none1 wo wf := Xf
 have hbs : base ≤ wf.heap.size := by rw [hbase]; exact Xf.size
 refine WpL_enter rfl rfl (by decide) (r_callF (vs := [(.slice la ((flatT 3 ts).length) lc), (.func (.func 52) #[] #[])]) Try.func50 nm50 bd50 rfl) ((del_c wo _ base S _ _ (flatT 3 ts) rows isEmptyB E2 hown hrs (fun x hx => by have := hS x hx; omega) (by omega) (fun w x vs _ hx => CallV.mk (first := #[]) (cap := #[]) Try.func52 nm52 bd52 rfl (discat1_c w x vs hx))).mono (R' := fun r w => ∃ la lc rows', r = .slice la D.length lc ∧ w.ownsRow base TRe 6 r D.length rows'.flatten ∧ RowsIn S wo D rows' ∧ Chg (fun x => base ≤ x) wf w) (fun r w h9 => by rw [hD]; exact h9)) ?_
 rintro _ wd ⟨la2, lc2, rows2, rfl, hown2, hrs2, Cd⟩
 replace Bo := Cd.keep (by omega) Bo
 replace E := E.step Cd (by intro x hx hm; omega)
 replace E2 := E2.step Cd (by intro x hx hm; omega)
 have hrsat : RsAt wd (.slice la2 D.length lc2) D := own_rs hown2 (hrs2.ext E2) rfl
 refine qA (.slice la2 D.length lc2) rfl ?_
 refine WpL_nil (Wp_seq (Wp_seq_region ?_))
 refine qM (.slice la2 D.length lc2) rfl ?_
 refine WpL_enter rfl rfl (by decide) (r_callF (vs := [(.slice la2 D.length lc2), (.func (.func 46) #[] #[])]) Try.func53 nm53 bd53 rfl) (res_has_c _ _ _ D isNoneB hrsat (fun w x vs _ _ hx => CallV.mk (first := #[]) (cap := #[]) Try.func46 nm46 bd46 rfl (disnone_c w x vs hx))) ?_
 rintro _ w19 ⟨rfl, X19⟩
 replace Bo := X19.keep Bo
 replace E := E.ext X19
 replace E2 := E2.ext X19
 replace hown2 := own_ext hown2 X19
 obtain ⟨hoc, hocl⟩ := own_res hown2 (hrs2.ext E2) rfl
 refine WpL_nil ?_
 refine Wp_cond (b := D.any isNoneB) rfl (fun hn => ?_) (fun hn => ?_)
 ·have khn := hn
  refine Wp_seq_region ?_
  refine WpL_enter rfl rfl (by decide) (r_callF (vs := []) Try.func35 nm35 bd35 rfl) (dnone_c _) ?_
  rintro _ w29 ⟨rfl, X29⟩
  replace Bo := X29.keep Bo
  replace E := E.ext X29
  refine s_storeAgg (b := bo) (o := 0) (c' := #[(I6 0), (.slice none 0 0), (.slice none 0 0), (I6 0), (I6 0), (.bool false)]) rfl rfl (by simp [Value.oneCell']) siz27 rfl Bo (by first | (simp; done) | exact Nat.le_of_ble_eq_true rfl) rfl ?_
  intro w2 S2
  replace E := S2.step E (by first | exact Or.inl (by omega) | exact Or.inr rfl | exact Or.inr (by assumption) | exact Or.inr (by simp) | exact Or.inr (by omega) | exact Or.inr (by dsimp only; omega))
  replace Bo := S2.blk
  refine WpL_nil (Wp_ret (thn_ret ?_))
  refine fin_agg Try.results33 (vs := [(.int .i64 0), (.slice none 0 0), (.slice none 0 0), (.int .i64 0), (.int .i64 0), (.bool false)]) (b := bo) rfl agg27 siz27 rfl (Bo.cells rfl) ?_
  exact ⟨⟨_, rfl, by rw [if_pos hn]; exact re_empty _ _ _⟩, E⟩
 ·have khn := hn
  rw [if_neg (by rw [hn]; decide)]
  refine Wp_skip (thn_normal (Wp_seq (Wp_seq_region ?_)))
  refine qM (.slice la2 D.length lc2) rfl ?_
  refine qV (r_lenSlice (ad := la2) (n := D.length) (cap := lc2) Try.underlying25 rfl) ?_
  refine WpL_nil (Wp_block (Wp_seq_region ?_))
  refine qV (r_eql (k := .i64) (a := (D.length : Int)) (b := 0) rfl rfl) ?_
  refine qA (.bool (decide (((D.length : Int) : Int) = 0))) rfl ?_
  refine WpL_nil ?_
  refine Wp_cond (b := decide (((D.length : Int) : Int) = 0)) rfl (fun h0l => ?_) (fun h0l => ?_)
  ·have kh0l := h0l
   replace h0l := of_decide_eq_true h0l
   refine Wp_seq_region ?_
   refine WpL_enter rfl rfl (by decide) (r_callF (vs := []) Try.func32 nm32 bd32 rfl) (dempty_c _) ?_
   rintro _ w29 ⟨rfl, X29⟩
   replace Bo := X29.keep Bo
   replace E := E.ext X29
   refine s_storeAgg (b := bo) (o := 0) (c' := #[(I6 1), (.slice none 0 0), (.slice none 0 0), (I6 0), (I6 0), (.bool false)]) rfl rfl (by simp [Value.oneCell']) siz27 rfl Bo (by first | (simp; done) | exact Nat.le_of_ble_eq_true rfl) rfl ?_
   intro w4 S4
   replace E := S4.step E (by first | exact Or.inl (by omega) | exact Or.inr rfl | exact Or.inr (by assumption) | exact Or.inr (by simp) | exact Or.inr (by omega) | exact Or.inr (by dsimp only; omega))
   replace Bo := S4.blk
   refine WpL_nil (Wp_ret (inB_ret (thn_ret ?_)))
   refine fin_agg Try.results33 (vs := [(.int .i64 1), (.slice none 0 0), (.slice none 0 0), (.int .i64 0), (.int .i64 0), (.bool false)]) (b := bo) rfl agg27 siz27 rfl (Bo.cells rfl) ?_
   exact ⟨⟨_, rfl, by rw [hw0 (by omega)]; exact re_empty _ _ _⟩, E⟩
  ·have kh0l := h0l
   replace h0l := of_decide_eq_false h0l
   refine Wp_seq_region ?_
   refine qV (r_eql (k := .i64) (a := (D.length : Int)) (b := 1) rfl rfl) ?_
   refine qA (.bool (decide (((D.length : Int) : Int) = 1))) rfl ?_
   refine WpL_nil ?_
   refine Wp_cond (b := decide (((D.length : Int) : Int) = 1)) rfl (fun h1l => ?_) (fun h1l => ?_)
   ·have kh1l := h1l
    replace h1l := of_decide_eq_true h1l
    obtain ⟨x, hx⟩ := get_of_lt (l := D) (i := 0) (by omega)
    obtain ⟨lb, hlb1, hlb2, hlb3, hcl⟩ := hocl.resolve_left (fun h => by rw [h] at hx; simp at hx)
    subst hlb3
    obtain ⟨xs, hcx, hrx⟩ := hcl 0 x hx
    have hrx0 := hrx
    obtain ⟨sa, sc, aa, ac, rfl, _, _, _⟩ := hrx.form
    have hS5 : Chg (fun y => y = bo) (w19) (w19) := Chg.refl _ _
    refine Wp_seq_region ?_
    refine qM (.slice (some ⟨lb, 0, none⟩) D.length lc2) rfl ?_
    refine qV (r_indexSlice (b := lb) (o := 0) (len := D.length) (cap := lc2) (i := 0) (o' := 0) rfl rfl rfl Try.underlying25 siz27 (by omega) (by omega)) ?_
    refine qV (r_loadAgg (vs := [(I6 x.kind), (.slice sa x.set.length sc), (.slice aa x.args.length ac), (I6 x.mn), (I6 x.mx), (.bool x.neg)]) rfl agg27 siz27 rfl (hcx)) ?_
    refine s_storeAgg (b := bo) (o := 0) (c' := (R6 x sa sc aa ac)) rfl rfl (by simp [Value.oneCell']) siz27 rfl Bo (by first | (simp; done) | exact Nat.le_of_ble_eq_true rfl) rfl ?_
    intro w6 S6
    replace hS5 := S6.chg
    replace E := S6.step E (by first | exact Or.inl (by omega) | exact Or.inr rfl | exact Or.inr (by assumption) | exact Or.inr (by simp) | exact Or.inr (by omega) | exact Or.inr (by dsimp only; omega))
    replace Bo := S6.blk
    refine WpL_nil (Wp_ret (inB_ret (thn_ret ?_)))
    refine fin_agg Try.results33 (vs := [(.int .i64 x.kind), (.slice sa x.set.length sc), (.slice aa x.args.length ac), (.int .i64 x.mn), (.int .i64 x.mx), (.bool x.neg)]) (b := bo) rfl agg27 siz27 rfl (Bo.cells rfl) ?_
    exact ⟨⟨_, rfl, by rw [hw1 x (by omega) hx]; exact ReIn.mono (fun y hy => .inl hy) x (ReIn.chg hS5 (fun y hy h => by have h1 := hS y hy; have h2 : y = bo := h; omega) x hrx0)⟩, E⟩
   ·have kh1l := h1l
    replace h1l := of_decide_eq_false h1l
    have hS5 : Chg (fun y => y = bo) (w19) (w19) := Chg.refl _ _
    refine Wp_skip (inB_normal (thn_normal (Wp_seq_region ?_)))
    refine qM (.slice la2 D.length lc2) rfl ?_
    refine qV (r_build (ps := [(0, (I6 3)), (2, (.slice la2 D.length lc2))]) (v := (.agg #[(I6 3), (.slice none 0 0), (.slice la2 D.length lc2), (I6 0), (I6 0), (.bool false)])) rfl (by kernel_rfl)) ?_
    refine s_storeAgg (b := bo) (o := 0) (c' := #[(I6 3), (.slice none 0 0), (.slice la2 D.length lc2), (I6 0), (I6 0), (.bool false)]) rfl rfl (by simp [Value.oneCell']) siz27 rfl Bo (by first | (simp; done) | exact Nat.le_of_ble_eq_true rfl) rfl ?_
    intro w7 S7
    replace hS5 := S7.chg
    replace E := S7.step E (by first | exact Or.inl (by omega) | exact Or.inr rfl | exact Or.inr (by assumption) | exact Or.inr (by simp) | exact Or.inr (by omega) | exact Or.inr (by dsimp only; omega))
    replace Bo := S7.blk
    refine WpL_nil (Wp_ret ?_)
    refine fin_agg Try.results33 (vs := [(.int .i64 3), (.slice none 0 0), (.slice la2 D.length lc2), (.int .i64 0), (.int .i64 0), (.bool false)]) (b := bo) rfl agg27 siz27 rfl (Bo.cells rfl) ?_
    refine ⟨⟨_, rfl, ?_⟩, E⟩
    rw [hw2 (by omega)]
    refine ReIn.of (set := []) (SlIn.nil _ _ _ _ _) hoc ?_
    rcases hocl with h | ⟨ob, hob1, hob2, hob3, hclo⟩
    ·exact .inl h
    ·refine .inr ⟨ob, 0, .inr (by omega), hob3, resin_of fun i t ht => ?_⟩
     obtain ⟨vs, h6, h7⟩ := hclo i t ht
     exact ⟨vs, h6.chg hS5 (fun h => by have h' : ob = bo := h; omega), ReIn.mono (fun y hy => .inl hy) t (ReIn.chg hS5 (fun y hy h => by have h1 := hS y hy; have h2 : y = bo := h; omega) t h7)⟩
end Go.Proofs
namespace Go.Proofs
open Go.Shelf
def Try.sortRe_ren : Go.Shelf.Ren := ⟨fun | 6 => 58 | 15 => 64 | 14 => 63 | 28 => 77 | 29 => 78 | 20 => 69 | 21 => 70 | 22 => 71 | 23 => 72 | 24 => 73 | 25 => 74 | 26 => 75 | 27 => 76 | 46 => 82 | 47 => 83 | 48 => 84 | 49 => 85 | 50 => 86 | 57 => 87 | n => n, fun | 22 => 25 | 24 => 27 | 25 => 78 | 3 => 3 | 39 => 83 | 0 => 0 | 53 => 96 | 55 => 98 | 4 => 4 | 46 => 89 | 45 => 88 | 50 => 93 | 5 => 5 | 9 => 9 | 66 => 101 | 70 => 105 | 76 => 107 | 77 => 108 | n => n, fun | n => n⟩
theorem Try.sortRe : Go.Proofs.SlLaysF0.n6 Try.prog Try.sortRe_ren := {
 mixed := by kernel_rfl
 f6 := ⟨Try.f58.name, by decide, Try.func58.trans (congrArg some (by kernel_rfl))⟩
 f14 := ⟨Try.f63.name, by decide, Try.func63.trans (congrArg some (by kernel_rfl))⟩
 f15 := Try.func64.trans (congrArg some (by kernel_rfl))
 f20 := ⟨Try.f69.name, by decide, Try.func69.trans (congrArg some (by kernel_rfl))⟩
 f21 := ⟨Try.f70.name, by decide, Try.func70.trans (congrArg some (by kernel_rfl))⟩
 f22 := ⟨Try.f71.name, by decide, Try.func71.trans (congrArg some (by kernel_rfl))⟩
 f23 := ⟨Try.f72.name, by decide, Try.func72.trans (congrArg some (by kernel_rfl))⟩
 f24 := ⟨Try.f73.name, by decide, Try.func73.trans (congrArg some (by kernel_rfl))⟩
 f25 := ⟨Try.f74.name, by decide, Try.func74.trans (congrArg some (by kernel_rfl))⟩
 f26 := ⟨Try.f75.name, by decide, Try.func75.trans (congrArg some (by kernel_rfl))⟩
 f27 := ⟨Try.f76.name, by decide, Try.func76.trans (congrArg some (by kernel_rfl))⟩
 f28 := Try.func77.trans (congrArg some (by kernel_rfl))
 f29 := Try.func78.trans (congrArg some (by kernel_rfl))
 f46 := ⟨Try.f82.name, by decide, Try.func82.trans (congrArg some (by kernel_rfl))⟩
 f47 := Try.func83.trans (congrArg some (by kernel_rfl))
 f48 := Try.func84.trans (congrArg some (by kernel_rfl))
 f49 := ⟨Try.f85.name, by decide, Try.func85.trans (congrArg some (by kernel_rfl))⟩
 f50 := ⟨Try.f86.name, by decide, Try.func86.trans (congrArg some (by kernel_rfl))⟩
 f57 := ⟨Try.f87.name, by decide, Try.func87.trans (congrArg some (by kernel_rfl))⟩
 t0 := Try.underlying0
 a0 := Try.isAgg0
 z0 := Try.sizeOf0
 v0 := Try.zeroValue0
 t3 := Try.underlying3
 a3 := Try.isAgg3
 z3 := Try.sizeOf3
 v3 := Try.zeroValue3
 t4 := Try.underlying4
 a4 := Try.isAgg4
 z4 := Try.sizeOf4
 v4 := Try.zeroValue4
 t5 := Try.underlying5
 a5 := Try.isAgg5
 z5 := Try.sizeOf5
 v5 := Try.zeroValue5
 t9 := Try.underlying9
 a9 := Try.isAgg9
 z9 := Try.sizeOf9
 v9 := Try.zeroValue9
 t22 := Try.underlying25
 a22 := Try.isAgg25
 z22 := Try.sizeOf25
 v22 := Try.zeroValue25
 t25 := Try.underlying78
 a25 := Try.isAgg78
 z25 := Try.sizeOf78
 v25 := Try.zeroValue78
 t39 := Try.underlying83
 a39 := Try.isAgg83
 z39 := Try.sizeOf83
 v39 := Try.zeroValue83
 t45 := Try.underlying88
 a45 := Try.isAgg88
 z45 := Try.sizeOf88
 v45 := Try.zeroValue88
 t46 := Try.underlying89
 a46 := Try.isAgg89
 z46 := Try.sizeOf89
 v46 := Try.zeroValue89
 t50 := Try.underlying93
 a50 := Try.isAgg93
 z50 := Try.sizeOf93
 v50 := Try.zeroValue93
 t53 := Try.underlying96
 a53 := Try.isAgg96
 z53 := Try.sizeOf96
 v53 := Try.zeroValue96
 t55 := Try.underlying98
 a55 := Try.isAgg98
 z55 := Try.sizeOf98
 v55 := Try.zeroValue98
 t66 := Try.underlying101
 a66 := Try.isAgg101
 z66 := Try.sizeOf101
 v66 := Try.zeroValue101
 t70 := Try.underlying105
 a70 := Try.isAgg105
 z70 := Try.sizeOf105
 v70 := Try.zeroValue105
 t76 := Try.underlying107
 a76 := Try.isAgg107
 z76 := Try.sizeOf107
 v76 := Try.zeroValue107
 t77 := Try.underlying108
 a77 := Try.isAgg108
 z77 := Try.sizeOf108
 v77 := Try.zeroValue108 }
end Go.Proofs
namespace Go.Proofs
open Go Go.Eng Go.Sort
set_option maxRecDepth 100000
/-- An expression with its cells. -/
structure RRow (S : Nat → Prop) (w : World) where
 t : Re
 vs : List Value
 h : ReIn S w t vs
instance {S : Nat → Prop} {w : World} : Inhabited (RRow S w) := ⟨⟨_, _, re_empty S w 0⟩⟩
def encR {S : Nat → Prop} {w : World} (r : RRow S w) : List Value := r.vs
def cfR {S : Nat → Prop} {w : World} (x y : RRow S w) : Int := ordR x.t y.t
theorem cfR_lt {S : Nat → Prop} {w : World} (x y : RRow S w) : cfR x y < 0 ↔ ordR x.t y.t < 0 := Iff.rfl
theorem swoR {S : Nat → Prop} {w : World} : SWO (ltOf (cfR (S := S) (w := w))) := by
 refine ⟨fun x => ?_, fun x y z => ?_, fun x y z => ?_⟩
 ·have := ord_sym x.t x.t
  simp only [ltOf, decide_eq_false_iff_not, cfR_lt]
  omega
 ·have a := ord_sym x.t y.t
  have b := ord_sym y.t z.t
  have c := ord_sym x.t z.t
  have a' := ord_sym y.t x.t
  have b' := ord_sym z.t y.t
  have c' := ord_sym z.t x.t
  have h1 := tr_re x.t y.t z.t
  have h2 := tr_re z.t y.t x.t
  unfold Tr3 at h1 h2
  simp only [ltOf, decide_eq_true_eq, decide_eq_false_iff_not, cfR_lt]
  omega
 ·have a := ord_sym x.t y.t
  have b := ord_sym y.t z.t
  have c := ord_sym x.t z.t
  have a' := ord_sym y.t x.t
  have b' := ord_sym z.t y.t
  have c' := ord_sym z.t x.t
  have h1 := tr_re x.t y.t z.t
  have h2 := tr_re z.t y.t x.t
  unfold Tr3 at h1 h2
  simp only [ltOf, decide_eq_true_eq, decide_eq_false_iff_not, cfR_lt]
  omega
theorem flatK_list {α : Type} [Inhabited α] (enc : α → List Value) (k : Nat) (hk : 0 < k) (he : ∀ x, (enc x).length = k) (d : List α) : (flatK enc k d.toArray).toList = (d.map enc).flatten := by
 have hrl : (d.map enc).flatten.length = d.length * k := by
  have := rows_len (k := k) (rows := d.map enc) (fun r hr => by obtain ⟨x, _, rfl⟩ := List.mem_map.1 hr; exact he x)
  rwa [List.length_map] at this
 apply List.ext_getElem?
 intro t
 by_cases ht : t < d.length * k
 ·have hi : t / k < d.length := Nat.div_lt_of_lt_mul (by rw [Nat.mul_comm]; exact ht)
  have hj : t % k < k := Nat.mod_lt _ hk
  have hx : (d.map enc)[t / k]? = some (enc d[t / k]) := by rw [List.getElem?_map, List.getElem?_eq_getElem hi]; rfl
  have hu : (enc d[t / k])[t % k]? = some ((enc d[t / k])[t % k]'(by rw [he]; exact hj)) := List.getElem?_eq_getElem _
  have h1 := rows_cells (k := k) (rows := d.map enc) (rest := []) (fun r hr => by obtain ⟨x, _, rfl⟩ := List.mem_map.1 hr; exact he x) hx _ _ hu
  rw [List.append_nil, Nat.div_add_mod'] at h1
  rw [h1]
  have h2 := get_flatK enc k d.toArray t (by simpa using ht)
  have h3 : t < (flatK enc k d.toArray).size := by rw [size_flatK]; simpa using ht
  rw [getElem!_pos _ t h3] at h2
  rw [Array.getElem?_toList, Array.getElem?_eq_getElem h3, h2]
  have h4 : d.toArray[t / k]! = d[t / k] := by rw [getElem!_pos d.toArray _ (by simpa using hi)]; simp
  rw [h4, getElem!_pos _ _ (by rw [he]; exact hj)]
 ·rw [List.getElem?_eq_none (by rw [Array.length_toList, size_flatK]; simpa using ht), List.getElem?_eq_none (by omega)]
theorem own_holdsK {α : Type} [Inhabited α] (enc : α → List Value) (k : Nat) (hk : 0 < k) (he : ∀ x, (enc x).length = k) {w : World} {base e g n c : Nat} {d : List α} (h : w.ownsRow base e k (.slice (some ⟨g, 0, none⟩) n c) n (d.map enc).flatten) (hn : d.length = n) : HoldsK enc k w g 0 d.toArray := by
 intro j hj
 rw [size_flatK] at hj
 have hfl := flatK_list enc k hk he d
 have hj2 : j < (flatK enc k d.toArray).size := by rw [size_flatK]; exact hj
 rw [getElem!_pos _ j hj2]
 have hx : (d.map enc).flatten[j]? = some (flatK enc k d.toArray)[j] := by rw [← hfl, Array.getElem?_toList, Array.getElem?_eq_getElem hj2]
 have h1 := h.cells (g := g) rfl j _ hx
 rw [Addr.add_lit] at h1
 refine ⟨h1, ?_⟩
 rcases h.2 with ⟨h1, _⟩ | ⟨g', cap, cur, hv, _, hg, _⟩
 ·simp at h1
 ·simp only [Value.slice.injEq] at hv
  obtain ⟨hv, _⟩ := hv
  simp only [Option.some.injEq, Addr.mk.injEq, and_true] at hv
  subst hv
  simp [World.frozen?, hg]
theorem own_sorted {α : Type} [Inhabited α] (enc : α → List Value) (k : Nat) (hk : 0 < k) (he : ∀ x, (enc x).length = k) {w : World} {base e g n c m : Nat} {os : Array Obj} {d : List α} {xs : List Value} (h : w.ownsRow base e k (.slice (some ⟨g, 0, none⟩) n c) n xs) (hn : d.length = n) : (sortWorldK enc k w g 0 m d.toArray os).ownsRow base e k (.slice (some ⟨g, 0, none⟩) n c) n (d.map enc).flatten := by
 have hrl : (d.map enc).flatten.length = d.length * k := by
  have := rows_len (k := k) (rows := d.map enc) (fun r hr => by obtain ⟨x, _, rfl⟩ := List.mem_map.1 hr; exact he x)
  rwa [List.length_map] at this
 rcases h.2 with ⟨h1, _⟩ | ⟨g', cap, cur, hv, hbg, hg, hnc, hcm, hcs, htake⟩
 ·simp at h1
 ·simp only [Value.slice.injEq, true_and] at hv
  obtain ⟨hv, rfl⟩ := hv
  simp only [Option.some.injEq, Addr.mk.injEq, and_true] at hv
  subst hv
  have hgl : g < w.heap.size := (Array.getElem?_eq_some_iff.1 hg).1
  refine ⟨by rw [hrl, hn], .inr ⟨g, c, putCells id 0 (flatK enc k d.toArray) cur, rfl, hbg, ?_, hnc, hcm, by simp [putCells, hcs], ?_⟩⟩
  ·unfold sortWorldK grow putRowK putRow mapBlock Sort.ahead
   dsimp only
   rw [Array.getElem?_append_left (by simpa using hgl), Array.getElem?_modify, if_pos rfl, hg]
   rfl
  ·have hle : n * k ≤ c * k := Nat.mul_le_mul_right k hnc
   apply List.ext_getElem?
   intro t
   by_cases ht : t < n * k
   ·rw [List.getElem?_take, if_pos ht, Array.getElem?_toList]
    have h3 : t < (flatK enc k d.toArray).size := by rw [size_flatK]; simpa [hn] using ht
    rw [← flatK_list enc k hk he d, Array.getElem?_toList, Array.getElem?_eq_getElem h3]
    simp only [putCells, Array.getElem?_mapIdx]
    rw [Array.getElem?_eq_getElem (show t < cur.size by rw [hcs]; omega)]
    simp only [Option.map_some, Nat.zero_le, true_and, Nat.zero_add, Nat.sub_zero, id]
    rw [if_pos h3, getElem!_pos _ t h3]
   ·rw [List.getElem?_eq_none (by rw [List.length_take]; omega), List.getElem?_eq_none (by rw [hrl, hn]; omega)]
theorem sortWR_chg {α : Type} [Inhabited α] (enc : α → List Value) (k : Nat) (w : World) (g off m : Nat) (dk : Array α) (os : Array Obj) : Chg (fun x => x = g) w (sortWorldK enc k w g off m dk os) := by
 refine ⟨rfl, rfl, rfl, Nat.le_add_right _ _, ?_, fun b hb hne => ?_⟩
 ·simp [sortWorldK, grow, putRowK, putRow, mapBlock, ahead]
 ·simp only [sortWorldK, grow, putRowK, putRow, mapBlock, ahead]
  rw [Array.getElem?_append_left (by simpa using hb), Array.getElem?_modify, if_neg (fun h => hne h.symm)]; rfl
theorem enters_calleeR {P : Program} {f : FuncId} {fn : Func} (hf : P.funcs[f]? = some fn) (hn : (fn.name == "runtime.NumGoroutine") = false) (hb : fn.body.isNone = false) : ∀ args w, (callFunc f args).run P w = .ok (.enter f args) w := fun args w => run_callF (vs := args) (w := w) hf hn hb
theorem bitsLenR_c (w0 : World) : Ret Try.prog 64 #[.int .u64 0] w0 fun v w => v = .int .i64 (Lib.bitLen 0 : Nat) ∧ Ext w0 w :=
 (Any.bits_Len (SlLaysF0.n15.bits (P := Try.prog) (ρ := Try.sortRe_ren) { Try.sortRe with }) 0 w0 (by omega) (by omega)).mono fun _ _ ⟨he, hw⟩ => ⟨_, he, rfl, by rw [hw]; exact Ext.refl _⟩
theorem ins0R_c (w0 : World) (a : Option Addr) (c : Nat) (fv : Value) : Ret Try.prog 69 #[.slice a 0 c, .int .i64 0, .int .i64 0, fv] w0 fun v w => v = .tuple #[] ∧ Ext w0 w := by
 refine Ret_of Try.func69 rfl Try.ntmps69 (Nat.le_of_ble_eq_true rfl) ?_
 have E : Chg none1 w0 w0 := Chg.refl _ _
 refine Wp_seq_region ?_
 refine qM (I6 0) rfl ?_
 refine qV (r_add (k := .i64) (a := 0) (b := 1) (c := 1) rfl rfl (by decide)) ?_
 refine qA (I6 1) rfl ?_
 refine WpL_nil (Wp_block ?_)
 refine Wp_loop (fun nn_ σ W1 => (∃ jj_, σ = upds jj_ [(0, (.slice a 0 c)), (1, (I6 0)), (2, (I6 0)), (3, fv), (8, (I6 1))]) ∧ Chg none1 w0 W1 ∧ nn_ = (0 : Nat)) (n := (0 : Nat)) ?_ ?_
 ·exact ⟨Fits.out ⟨rfl, rfl, rfl, rfl, rfl, trivial⟩, E, rfl⟩
 ·clear E
  rintro _ _ W1 ⟨⟨j1, rfl⟩, E, rfl⟩
  refine Wp_seq (Wp_seq_region ?_)
  refine qM (I6 1) rfl ?_
  refine qM (I6 0) rfl ?_
  refine qV (r_lss (k := .i64) (a := 1) (b := 0) rfl rfl) ?_
  refine WpL_nil ?_
  refine Wp_cond_false rfl ?_
  refine Wp_exit (thn_exit (thn_exit (inB_here ?_)))
  refine fin_none Try.results69 ?_
  exact ⟨rfl, E⟩
theorem pdq0R_c (w0 : World) (a : Option Addr) (c : Nat) (n : Int) (fv : Value) : Ret Try.prog 63 #[.slice a 0 c, .int .i64 0, .int .i64 0, .int .i64 n, fv] w0 fun v w => v = .tuple #[] ∧ Ext w0 w := by
 refine Ret_of Try.func63 rfl Try.ntmps63 (Nat.le_of_ble_eq_true rfl) ?_
 have E : Chg none1 w0 w0 := Chg.refl _ _
 refine Wp_seq_region ?_
 refine qA (.bool true) rfl ?_
 refine WpL_nil (Wp_seq_region ?_)
 refine qA (.bool true) rfl ?_
 refine WpL_nil (Wp_block ?_)
 refine Wp_loop (fun nn_ σ W1 => (∃ jj_, σ = upds jj_ [(0, (.slice a 0 c)), (1, (I6 0)), (2, (I6 0)), (4, fv)]) ∧ Chg none1 w0 W1 ∧ nn_ = (0 : Nat)) (n := (0 : Nat)) ?_ ?_
 ·exact ⟨Fits.out ⟨rfl, rfl, rfl, rfl, trivial⟩, E, rfl⟩
 ·clear E
  rintro _ _ W1 ⟨⟨j1, rfl⟩, E, rfl⟩
  refine Wp_block (Wp_seq_region ?_)
  refine qM (I6 0) rfl ?_
  refine qM (I6 0) rfl ?_
  refine qV (r_sub (k := .i64) (a := 0) (b := 0) (c := 0) rfl rfl (by decide)) ?_
  refine qA (I6 0) rfl ?_
  refine WpL_nil (Wp_seq (Wp_seq_region ?_))
  refine qM (I6 0) rfl ?_
  refine qV (r_leq (k := .i64) (a := 0) (b := 12) rfl rfl) ?_
  refine WpL_nil ?_
  refine Wp_cond_true rfl ?_
  refine Wp_seq_region ?_
  refine qM (.slice a 0 c) rfl ?_
  refine qM (I6 0) rfl ?_
  refine qM (I6 0) rfl ?_
  refine qM fv rfl ?_
  refine WpL_enter rfl rfl (by decide) (r_callF (vs := [(.slice a 0 c), (I6 0), (I6 0), fv]) Try.func69 nm69 bd69 rfl) (ins0R_c _ a c fv) ?_
  rintro _ w9 ⟨rfl, X9⟩
  replace E := E.ext X9
  refine WpL_nil (Wp_ret (thn_ret (inB_ret (thn_ret (inB_ret ?_)))))
  refine fin_noneR Try.results63 ?_
  exact ⟨rfl, E⟩
theorem sort0R_c (w0 : World) (a : Option Addr) (c : Nat) (fv : Value) : Ret Try.prog 58 #[.slice a 0 c, fv] w0 fun v w => v = .tuple #[] ∧ Ext w0 w := by
 refine Ret_of Try.func58 rfl Try.ntmps58 (Nat.le_of_ble_eq_true rfl) ?_
 have E : Chg none1 w0 w0 := Chg.refl _ _
 refine Wp_seq_region ?_
 refine qM (.slice a 0 c) rfl ?_
 refine qV (r_lenSlice (ad := a) (n := 0) (cap := c) Try.underlying25 rfl) ?_
 refine qA (I6 0) rfl ?_
 refine WpL_nil (Wp_region ?_)
 refine qM (.slice a 0 c) rfl ?_
 refine qM (I6 0) rfl ?_
 refine qM (I6 0) rfl ?_
 refine qV (r_convInt (k := .i64) (k' := .u64) (n := 0) (c := 0) ⟨_, Try.underlying3⟩ Try.underlying83 rfl (wU64 (by omega))) ?_
 refine WpL_enter rfl rfl (by decide) (r_callF (vs := [(.int .u64 0)]) Try.func64 nm64 bd64 rfl) (bitsLenR_c _) ?_
 rintro _ w8 ⟨rfl, X8⟩
 replace E := E.ext X8
 refine qM fv rfl ?_
 refine WpL_enter rfl rfl (by decide) (r_callF (vs := [(.slice a 0 c), (I6 0), (I6 0), (I6 (Lib.bitLen 0 : Nat)), fv]) Try.func63 nm63 bd63 rfl) (pdq0R_c _ a c _ fv) ?_
 rintro _ w9 ⟨rfl, X9⟩
 replace E := E.ext X9
 refine WpL_nil ?_
 refine fin_none Try.results58 ?_
 exact ⟨rfl, E⟩
set_option maxHeartbeats 2000000 in
theorem sortr_c (wb w0 : World) (S : Nat → Prop) (base : Nat) (v : Value) (ts : List Re) (rows : List (List Value)) (hE : Ext wb w0) (h : w0.ownsRow base TRe 6 v ts.length rows.flatten) (hr : RowsIn S wb ts rows) (hS : ∀ x, S x → x < base) (hl : ts.length ≤ 1000000) :
    Ret Try.prog 58 #[v, .func (.func 59) #[] #[]] w0 fun r w => r = .tuple #[] ∧ (∃ us qs, us.Perm ts ∧ us.Pairwise (fun x y => ordR x y ≤ 0) ∧ w.ownsRow base TRe 6 v us.length qs.flatten ∧ RowsIn S wb us qs) ∧ Chg (fun x => v.ownBlock = some x) w0 w := by
  have eg := enters_calleeR Try.func59 nm59 bd59
  rcases h.2 with ⟨rfl, h0⟩ | ⟨g, cap, cur, rfl, hbg, hg, hnc, hcm, hcs, htake⟩
  · have hd : ts = [] := List.eq_nil_of_length_eq_zero h0
    subst hd
    exact (sort0R_c w0 none 0 (.func (.func 59) #[] #[])).mono fun v w' ⟨hv, hw⟩ => ⟨hv, ⟨[], [], List.Perm.refl _, List.Pairwise.nil, World.ownsRow_nil _ _ _ _, rfl⟩, Ext.chg hw⟩
  · obtain ⟨d, hd1, hd2⟩ : ∃ d : List (RRow S wb), d.map (·.t) = ts ∧ d.map encR = rows := by
      clear h hg htake hnc hl
      induction ts generalizing rows with
      | nil =>
        have hr' : rows = [] := hr
        exact ⟨[], rfl, hr'.symm⟩
      | cons t ts ih =>
        obtain ⟨r, rs, rfl, h1, h2⟩ := hr
        obtain ⟨d, h3, h4⟩ := ih rs h2
        exact ⟨⟨t, r, h1⟩ :: d, by simp [h3], by simp [h4, encR]⟩
    have hdl : d.length = ts.length := by rw [← hd1, List.length_map]
    have he : ∀ x : RRow S wb, (encR x).length = 6 := fun x => ReIn.len x.h
    have ht : ∀ w, (isAgg (Try.sortRe_ren.t 24)).run Try.prog w = .ok true w := fun w => aggB.run agg27 w
    have hs : ∀ w, (Go.sizeOf (Try.sortRe_ren.t 24)).run Try.prog w = .ok 6 w := fun w => siz27.run w
    have hH := own_holdsK encR 6 (by decide) he (d := d) (by rw [hd2]; exact h) hdl
    have hblk : g < w0.heap.size := (Array.getElem?_eq_some_iff.1 hg).1
    have hc : CmpLays Try.prog 59 #[] encR 6 cfR g 0 d.toArray.size w0 := fun m os dk _ x y => by
      have hch := sortWR_chg encR 6 w0 g 0 m dk os
      have hx : ReAt (sortWorldK encR 6 w0 g 0 m dk os) x.t x.vs := ReIn.at x.t (ReIn.chg hch (fun b hb hm => by have := hS b hb; have hm' : b = g := hm; omega) x.t (ReIn.ext hE x.t x.h))
      have hy : ReAt (sortWorldK encR 6 w0 g 0 m dk os) y.t y.vs := ReIn.at y.t (ReIn.chg hch (fun b hb hm => by have := hS b hb; have hm' : b = g := hm; omega) y.t (ReIn.ext hE y.t y.h))
      refine Calls.mono (order_c _ x.t y.t _ _ _ (Nat.le_refl _) hx hy) ?_
      rintro e w' ⟨v, rfl, rfl, hx⟩
      obtain ⟨q, os', hw⟩ := Ext.grown hx
      exact ⟨rfl, q, os', hw⟩
    have hcon := AnyQ.slices_SortFunc Try.sortRe 6 ht hs encR he (fun x u hu => ReAt.one (ReIn.at x.t x.h) u hu) cfR swoR 59 #[] g 0 cap d.toArray w0 eg hc hH hblk (by simp; omega)
    have hz : ts.length = d.toArray.size := by simp [hdl]
    rw [hz]
    refine Calls.mono hcon ?_
    rintro e w' ⟨rfl, d', n, os, hp, hso, rfl⟩
    have hsz : d'.size = d.length := by have := hp.1; simpa using this
    have hperm : d'.toList.Perm d := by
      have h3 := hp.2.2
      simp only [List.size_toArray] at h3
      rw [show d.length = d'.size from hsz.symm, Array.extract_size] at h3
      rw [hsz] at h3
      simpa using h3
    refine ⟨_, rfl, rfl, ⟨d'.toList.map (·.t), d'.toList.map encR, by rw [← hd1]; exact hperm.map _, ?_, ?_, ?_⟩, (sortWR_chg encR 6 w0 g 0 n d' os).mono fun x _ hx => by subst hx; rfl⟩
    · rw [List.pairwise_map, List.pairwise_iff_getElem]
      intro i j hi hj hij
      have h4 := hso i j (Nat.zero_le _) hij (by simp at hj ⊢; omega)
      simp only [Array.length_toList] at hi hj
      rw [getElem!_pos d' i hi, getElem!_pos d' j hj] at h4
      have h5 : ¬ ordR d'[j].t d'[i].t < 0 := of_decide_eq_false h4
      have h6 := ord_sym d'[i].t d'[j].t
      simp only [Array.getElem_toList]
      omega
    · have h7 := own_sorted encR 6 (by decide) he (m := n) (os := os) (d := d'.toList) h (by rw [Array.length_toList, hsz, hdl])
      rw [Array.toArray_toList] at h7
      rw [List.length_map, Array.length_toList, hsz, hdl, ← hz]
      exact h7
    · generalize d'.toList = q
      induction q with
      | nil => rfl
      | cons x q ih => exact ⟨encR x, q.map encR, rfl, x.h, ih⟩
end Go.Proofs
namespace Go.Proofs
open Go Go.Eng Go.Sort
set_option maxRecDepth 100000
/-- What is kept behind an element. -/
def kdR : Option Re → List Re → List Re
  | _, [] => []
  | none, x :: l => x :: kdR (some x) l
  | some y, x :: l => if sameT x y = true then kdR (some x) l else x :: kdR (some x) l
theorem same_comm (x y : Re) : sameT x y = sameT y x := by
 rw [Bool.eq_iff_iff, sameT_iff, sameT_iff]
 exact eq_comm
theorem ded_kd : ∀ (x : Re) (l : List Re), dedR (x :: l) = x :: kdR (some x) l
  | x, [] => rfl
  | x, y :: l => by
    simp only [dedR, kdR, same_comm y x]
    split
    · rename_i h
      rw [ded_kd y l, (sameT_iff x y).1 h]
    · rw [ded_kd y l]
theorem ded_kd0 (l : List Re) : dedR l = kdR none l := by
  cases l with
  | nil => rfl
  | cons x l => exact ded_kd x l
theorem kd_snoc : ∀ (l : List Re) (p : Option Re) (x : Re), kdR p (l ++ [x]) = kdR p l ++ (match l.getLast?.or p with | some y => if sameT x y = true then [] else [x] | none => [x])
  | [], none, x => rfl
  | [], some y, x => by
    simp only [List.nil_append, kdR, List.getLast?_nil, Option.none_or]
  | z :: l, p, x => by
    have ih := kd_snoc l (some z) x
    have hg : (z :: l).getLast?.or p = l.getLast?.or (some z) := by cases l <;> simp [List.getLast?_cons]
    rw [hg]
    cases p with
    | none => simp only [List.cons_append, kdR, ih]
    | some y =>
      simp only [List.cons_append, kdR]
      split
      · exact ih
      · rw [ih]; rfl
theorem kd_take {l : List Re} {j : Nat} {x y : Re} (h0 : 0 < j) (hx : l[j]? = some x) (hy : l[j - 1]? = some y) : kdR none (l.take (j + 1)) = kdR none (l.take j) ++ (if sameT x y = true then [] else [x]) := by
 rw [List.take_add_one, hx, Option.toList_some, kd_snoc]
 have hl := lt_of_get hx
 have : (l.take j).getLast? = some y := by rw [List.getLast?_take, if_neg (by omega), hy]; rfl
 rw [this]
 rfl
theorem kd_len : ∀ (l : List Re) (p : Option Re), (kdR p l).length ≤ l.length
  | [], _ => by simp [kdR]
  | x :: l, none => by simp only [kdR, List.length_cons]; have := kd_len l (some x); omega
  | x :: l, some y => by
    simp only [kdR]
    have := kd_len l (some x)
    split <;> simp only [List.length_cons] <;> omega
theorem own_chgS {w w' : World} {base g n c : Nat} {rows : List (List Value)} {rest : List Value} (h : w.ownsRow base TRe 6 (.slice (some ⟨g, 0, none⟩) n c) n rows.flatten) (hB : Blk w' g (rows.flatten ++ rest).toArray TRe) (hn : n ≤ c) (hc : c ≤ maxLen) (hz : (rows.flatten ++ rest).length = c * 6) : w'.ownsRow base TRe 6 (.slice (some ⟨g, 0, none⟩) n c) n rows.flatten := by
 have h1 := h.1
 rcases h.2 with ⟨h2, _⟩ | ⟨g', cap, cur, hv, hbg, hg, hnc, hcm, hcs, htake⟩
 ·simp at h2
 ·simp only [Value.slice.injEq, Option.some.injEq, Addr.mk.injEq, and_true, true_and] at hv
  obtain ⟨rfl, _⟩ := hv
  exact ⟨h1, .inr ⟨g, c, _, rfl, hbg, hB, hn, hc, by rw [List.size_toArray, hz], by rw [List.toList_toArray, List.take_append_of_le_length (by omega), List.take_of_length_le (by omega)]⟩⟩
set_option maxHeartbeats 4000000 in
theorem cmpct_c (wb w0 : World) (base : Nat) (S : Nat → Prop) (v fv : Value) (ts : List Re) (rows : List (List Value)) (hE : Ext wb w0) (hown : w0.ownsRow base TRe 6 v ts.length rows.flatten) (hr : RowsIn S wb ts rows) (hS : ∀ x, S x → x < base) (hlen : ts.length ≤ 1000000)
  (hf : ∀ (w : World) (x y : Re) (xs ys : List Value), ReAt w x xs → ReAt w y ys → CallV Try.prog fv #[.agg xs.toArray, .agg ys.toArray] w fun r w' => r = .bool (sameT x y) ∧ Ext w w') :
  Ret Try.prog 60 #[v, fv] w0 fun r w => ∃ la lc rows', r = .slice la (dedR ts).length lc ∧ w.ownsRow base TRe 6 r (dedR ts).length rows'.flatten ∧ RowsIn S wb (dedR ts) rows' ∧ Chg (fun x => base ≤ x) w0 w := by
 have hown0 := hown
 obtain ⟨a, c, rfl⟩ := own_form hown
 rw [ded_kd0]
 refine Ret_of Try.func60 rfl Try.ntmps60 (Nat.le_of_ble_eq_true rfl) ?_
 have E : Chg (fun x => base ≤ x) w0 w0 := Chg.refl _ _
 refine Wp_seq_region ?_
 refine qA (.slice none 0 0) rfl ?_
 refine WpL_nil (Wp_seq (Wp_seq_region ?_))
 refine qM (.slice a ts.length c) rfl ?_
 refine qV (r_lenSlice (ad := a) (n := ts.length) (cap := c) Try.underlying25 rfl) ?_
 refine qV (r_lss (k := .i64) (a := (ts.length : Int)) (b := 2) rfl rfl) ?_
 refine WpL_nil ?_
 refine Wp_cond (b := decide (((ts.length : Int) : Int) < 2)) rfl (fun h2 => ?_) (fun h2 => ?_)
 ·have kh2 := h2
  replace h2 := of_decide_eq_true h2
  have hsm : kdR none ts = ts := by match ts, h2 with | [], _ => rfl | [x], _ => rfl | x :: y :: l, h => simp at h; omega
  refine Wp_seq_region ?_
  refine qM (.slice a ts.length c) rfl ?_
  refine qA (.slice a ts.length c) rfl ?_
  refine WpL_nil (Wp_ret (thn_ret ?_))
  refine fin_tmp Try.results60 (v := (.slice a ts.length c)) rfl ?_
  rw [hsm]; exact ⟨a, c, rows, rfl, hown0, hr, E⟩
 ·have kh2 := h2
  replace h2 := of_decide_eq_false h2
  rcases hown0.2 with ⟨_, hbad⟩ | ⟨g, cap, cur0, hv0, hgb, hgB, hcap1, hcap2, hcap3, hcap4⟩
  ·omega
  simp only [Value.slice.injEq] at hv0
  obtain ⟨rfl, _, rfl⟩ := hv0
  obtain ⟨rest, hrest⟩ : ∃ rest, rest = cur0.toList.drop (ts.length * 6) := ⟨_, rfl⟩
  have hgB2 : Blk w0 g (rows.flatten ++ rest).toArray TRe := by rw [hrest, ← hcap4, List.take_append_drop]; exact hgB
  have hszz : (rows.flatten ++ rest).length = c * 6 := by rw [hrest, ← hcap4, List.take_append_drop]; simpa using hcap3
  have hrl := hr.len
  have hr6 := hr.six
  have hrestl : rest.length = c * 6 - ts.length * 6 := by rw [List.length_append, rows_len hr6, hrl] at hszz; omega
  refine Wp_skip (thn_normal (Wp_seq (Wp_seq_region ?_)))
  refine qA (I6 1) rfl ?_
  refine WpL_nil (Wp_block ?_)
  refine Wp_loop (fun nn_ σ W2 => ∃ (k : Nat), (∃ jj_, σ = upds jj_ [(0, (.slice (some ⟨g, 0, none⟩) ts.length c)), (1, fv), (5, (I6 (k : Int)))]) ∧ Chg (fun x => base ≤ x) w0 W2 ∧ Blk W2 g ((rows.flatten ++ rest).toArray) TRe ∧ (1 ≤ k ∧ k ≤ ts.length) ∧ (kdR none (ts.take k) = ts.take k) ∧ nn_ = ts.length - k) (n := ts.length - 1) ?_ ?_
  ·exact ⟨1, Fits.out ⟨rfl, rfl, rfl, trivial⟩, E, hgB2, ⟨by omega, by omega⟩, (by match ts, h2 with | [], h => simp at h | x :: l, _ => rfl), rfl⟩
  ·clear E hgB2
   rintro _ _ W2 ⟨k, ⟨j2, rfl⟩, E, hgB2, hk, hkd, rfl⟩
   refine Wp_seq (Wp_seq_region ?_)
   refine qM (I6 (k : Int)) rfl ?_
   refine qM (.slice (some ⟨g, 0, none⟩) ts.length c) rfl ?_
   refine qV (r_lenSlice (ad := some ⟨g, 0, none⟩) (n := ts.length) (cap := c) Try.underlying25 rfl) ?_
   refine qV (r_lss (k := .i64) (a := (k : Int)) (b := (ts.length : Int)) rfl rfl) ?_
   refine WpL_nil ?_
   refine Wp_cond (b := decide (((k : Int) : Int) < (ts.length : Int))) rfl (fun hlt => ?_) (fun hlt => ?_)
   ·have khlt := hlt
    replace hlt := of_decide_eq_true hlt
    obtain ⟨x, hx⟩ := get_of_lt (l := ts) (i := k) (by omega)
    obtain ⟨y, hy⟩ := get_of_lt (l := ts) (i := k - 1) (by omega)
    obtain ⟨r, hrr, hrx⟩ := hr.get hx
    obtain ⟨s, hrs, hry⟩ := hr.get hy
    have hkt := kd_take (by omega) hx hy
    have hrx2 : ReAt (W2) x r := ReIn.at x (ReIn.chg E (fun y hy hb => by have := hS y hy; have hb' : base ≤ y := hb; omega) x (ReIn.ext hE x hrx))
    have hry2 : ReAt (W2) y s := ReIn.at y (ReIn.chg E (fun y hy hb => by have := hS y hy; have hb' : base ≤ y := hb; omega) y (ReIn.ext hE y hry))
    have hcx := rows_at hgB2 hr6 hrr
    have hcy := rows_at hgB2 hr6 hrs
    obtain ⟨sa, sc, aa, ac, rfl, _, _, _⟩ := hrx2.form
    obtain ⟨sa2, sc2, aa2, ac2, rfl, _, _, _⟩ := hry2.form
    refine Wp_skip (thn_normal (Wp_seq (Wp_block (Wp_seq ?_))))
    obtain ⟨Fs4, hFs4⟩ : ∃ Fs : List Fact, Fs = [.eq fv, .eq (.slice (some ⟨g, 0, none⟩) ts.length c), .eq (I6 (k : Int)), .eq (.pointer (some ⟨g, 0 + k * 6, none⟩)), .eq (.agg (R6 x sa sc aa ac)), .eq (.slice (some ⟨g, 0, none⟩) ts.length c), .eq (I6 (k : Int)), .eq (I6 ((k : Int) - 1)), .eq (.pointer (some ⟨g, 0 + (k - 1) * 6, none⟩)), .eq (.agg (R6 y sa2 sc2 aa2 ac2)), .eq (.bool (sameT x y))] := ⟨_, rfl⟩
    refine Wp_dag [18, 19, 20, 21, 22, 23, 24, 25, 26, 27, 28] [[], [], [], [1, 2], [3], [], [], [6], [5, 7], [8], [0, 4, 9]] Fs4 hFs4 mixed (by kernel_rfl) (by kernel_rfl) ?_ ?_
    ·intro wd X0
     refine DagSteps.cons (fun s' w' X U H => Or.inl ⟨?_, ?_⟩) ?_
     ·exact Guarded_none rfl
     ·exact Does_val (r_move (v := fv) (U 1 rfl)) (Ext.refl _) rfl
     refine DagSteps.cons (fun s' w' X U H => Or.inl ⟨?_, ?_⟩) ?_
     ·exact Guarded_none rfl
     ·exact Does_val (r_move (v := (.slice (some ⟨g, 0, none⟩) ts.length c)) (U 0 rfl)) (Ext.refl _) rfl
     refine DagSteps.cons (fun s' w' X U H => Or.inl ⟨?_, ?_⟩) ?_
     ·exact Guarded_none rfl
     ·exact Does_val (r_move (v := (I6 (k : Int))) (U 5 rfl)) (Ext.refl _) rfl
     refine DagSteps.cons (fun s' w' X U H => Or.inl ⟨?_, ?_⟩) ?_
     ·exact Guarded_none rfl
     ·have e19 : s' 19 = (.slice (some ⟨g, 0, none⟩) ts.length c) := H 1 rfl 19 (.eq (.slice (some ⟨g, 0, none⟩) ts.length c)) rfl (by rw [hFs4]; rfl)
      have e20 : s' 20 = (.int .i64 ((k : Nat) : Int)) := H 2 rfl 20 (.eq (.int .i64 ((k : Nat) : Int))) rfl (by rw [hFs4]; rfl)
      exact Does_val (r_indexSlice (b := g) (o := 0) (len := ts.length) (cap := c) (i := k) (o' := 0 + k * 6) e19 e20 rfl Try.underlying25 siz27 (by omega) (by omega)) (Ext.refl _) rfl
     refine DagSteps.cons (fun s' w' X U H => Or.inl ⟨?_, ?_⟩) ?_
     ·exact Guarded_none rfl
     ·have e21 : s' 21 = (.pointer (some ⟨g, 0 + k * 6, none⟩)) := H 3 rfl 21 (.eq (.pointer (some ⟨g, 0 + k * 6, none⟩))) rfl (by rw [hFs4]; rfl)
      exact Does_val (r_loadAgg (vs := [(I6 x.kind), (.slice sa x.set.length sc), (.slice aa x.args.length ac), (I6 x.mn), (I6 x.mx), (.bool x.neg)]) e21 agg27 siz27 rfl (by rw [Nat.zero_add]; exact hcx.ext (X0.trans X))) (Ext.refl _) rfl
     refine DagSteps.cons (fun s' w' X U H => Or.inl ⟨?_, ?_⟩) ?_
     ·exact Guarded_none rfl
     ·exact Does_val (r_move (v := (.slice (some ⟨g, 0, none⟩) ts.length c)) (U 0 rfl)) (Ext.refl _) rfl
     refine DagSteps.cons (fun s' w' X U H => Or.inl ⟨?_, ?_⟩) ?_
     ·exact Guarded_none rfl
     ·exact Does_val (r_move (v := (I6 (k : Int))) (U 5 rfl)) (Ext.refl _) rfl
     refine DagSteps.cons (fun s' w' X U H => Or.inl ⟨?_, ?_⟩) ?_
     ·exact Guarded_none rfl
     ·have e24 : s' 24 = (.int .i64 ((k : Nat) : Int)) := H 6 rfl 24 (.eq (.int .i64 ((k : Nat) : Int))) rfl (by rw [hFs4]; rfl)
      exact Does_val (r_sub (k := .i64) (a := (k : Int)) (b := 1) (c := (k : Int) - 1) e24 rfl (wI64 (by omega))) (Ext.refl _) rfl
     refine DagSteps.cons (fun s' w' X U H => Or.inl ⟨?_, ?_⟩) ?_
     ·exact Guarded_none rfl
     ·have e23 : s' 23 = (.slice (some ⟨g, 0, none⟩) ts.length c) := H 5 rfl 23 (.eq (.slice (some ⟨g, 0, none⟩) ts.length c)) rfl (by rw [hFs4]; rfl)
      have e25 : s' 25 = (.int .i64 (((k : Nat) : Int) - 1)) := H 7 rfl 25 (.eq (.int .i64 (((k : Nat) : Int) - 1))) rfl (by rw [hFs4]; rfl)
      exact Does_val (r_indexSlice (b := g) (o := 0) (len := ts.length) (cap := c) (i := k - 1) (o' := 0 + (k - 1) * 6) e23 e25 (by omega) Try.underlying25 siz27 (by omega) (by omega)) (Ext.refl _) rfl
     refine DagSteps.cons (fun s' w' X U H => Or.inl ⟨?_, ?_⟩) ?_
     ·exact Guarded_none rfl
     ·have e26 : s' 26 = (.pointer (some ⟨g, 0 + (k - 1) * 6, none⟩)) := H 8 rfl 26 (.eq (.pointer (some ⟨g, 0 + (k - 1) * 6, none⟩))) rfl (by rw [hFs4]; rfl)
      exact Does_val (r_loadAgg (vs := [(I6 y.kind), (.slice sa2 y.set.length sc2), (.slice aa2 y.args.length ac2), (I6 y.mn), (I6 y.mx), (.bool y.neg)]) e26 agg27 siz27 rfl (by rw [Nat.zero_add]; exact hcy.ext (X0.trans X))) (Ext.refl _) rfl
     refine DagSteps.cons (fun s' w' X U H => Or.inl ⟨?_, ?_⟩) ?_
     ·exact Guarded_none rfl
     ·have e22 : s' 22 = (.agg #[(.int .i64 x.kind), (.slice sa x.set.length sc), (.slice aa x.args.length ac), (.int .i64 x.mn), (.int .i64 x.mx), (.bool x.neg)]) := H 4 rfl 22 (.eq (.agg #[(.int .i64 x.kind), (.slice sa x.set.length sc), (.slice aa x.args.length ac), (.int .i64 x.mn), (.int .i64 x.mx), (.bool x.neg)])) rfl (by rw [hFs4]; rfl)
      have e27 : s' 27 = (.agg #[(.int .i64 y.kind), (.slice sa2 y.set.length sc2), (.slice aa2 y.args.length ac2), (.int .i64 y.mn), (.int .i64 y.mx), (.bool y.neg)]) := H 9 rfl 27 (.eq (.agg #[(.int .i64 y.kind), (.slice sa2 y.set.length sc2), (.slice aa2 y.args.length ac2), (.int .i64 y.mn), (.int .i64 y.mx), (.bool y.neg)])) rfl (by rw [hFs4]; rfl)
      have e18 : s' 18 = fv := H 0 rfl 18 (.eq fv) rfl (by rw [hFs4]; rfl)
      exact Does_callV e18 (lst2 e22 e27) (hf _ x y _ _ (ReAt.ext (X0.trans X) x hrx2) (ReAt.ext (X0.trans X) y hry2))
     exact DagSteps.nil
    ·intro s' w4 X4 U H
     obtain ⟨j4, rfl⟩ := Fits.out (σ := s') (l := [(0, (.slice (some ⟨g, 0, none⟩) ts.length c)), (1, fv), (5, (.int .i64 ((k : Nat) : Int))), (28, (.bool (sameT x y)))]) ⟨U 0 rfl, U 1 rfl, U 5 rfl, (show s' 28 = (.bool (sameT x y)) from H 10 28 (.eq (.bool (sameT x y))) rfl (by rw [hFs4]; rfl)), trivial⟩
     clear U H
     replace hgB2 := X4.keep hgB2
     replace E := E.ext X4
     refine thn_normal ?_
     refine Wp_cond (b := sameT x y) rfl (fun hsm => ?_) (fun hsm => ?_)
     ·have khsm := hsm
      refine Wp_seq_region ?_
      refine qM (.slice (some ⟨g, 0, none⟩) ts.length c) rfl ?_
      refine qM (I6 (k : Int)) rfl ?_
      obtain ⟨sl, hsl⟩ : ∃ a' : Option Addr, (if c = k then (some ⟨g, 0, none⟩) else Option.map (fun q : Addr => q.add (k * 6)) (some ⟨g, 0, none⟩)) = a' := ⟨_, rfl⟩
      refine qV (r_sliceLo (a := (some ⟨g, 0, none⟩)) (len := ts.length) (cap := c) (lo := k) (l := (k : Int)) (n' := (ts.length - k)) (c' := (c - k)) Try.underlying25 siz27 rfl rfl (by omega) (by omega) hsl (by omega) (by omega)) ?_
      have hsl2 : sl = some ⟨g, k * 6, none⟩ := by rw [← hsl, if_neg (by omega)]; simp [Addr.add]; omega
      subst hsl2
      refine qA (.slice (some ⟨g, k * 6, none⟩) (ts.length - k) (c - k)) rfl ?_
      refine WpL_nil (Wp_seq (Wp_seq_region ?_))
      refine qA (I6 1) rfl ?_
      refine WpL_nil (Wp_block ?_)
      refine Wp_loop (fun nn_ σ W6 => ∃ (m : Nat) (i : Nat) (cur : List (List Value)), (∃ jj_, σ = upds jj_ [(0, (.slice (some ⟨g, 0, none⟩) ts.length c)), (1, fv), (6, (.slice (some ⟨g, k * 6, none⟩) (ts.length - k) (c - k))), (7, (I6 (m : Int))), (5, (I6 (i : Int)))]) ∧ Chg (fun x => base ≤ x) w0 W6 ∧ Blk W6 g ((cur.flatten ++ rest).toArray) TRe ∧ (1 ≤ m ∧ m ≤ ts.length - k) ∧ (i < k + m) ∧ (cur.length = ts.length) ∧ (∀ r ∈ cur, r.length = 6) ∧ (cur.drop (k + m - 1) = rows.drop (k + m - 1)) ∧ (RowsIn S wb (kdR none (ts.take (k + m))) (cur.take i)) ∧ (i = (kdR none (ts.take (k + m))).length) ∧ nn_ = ts.length - k - m) (n := ts.length - k - 1) ?_ ?_
      ·exact ⟨1, k, rows, Fits.out ⟨rfl, rfl, rfl, rfl, rfl, trivial⟩, E, hgB2, ⟨by omega, by omega⟩, (by omega), hrl, hr6, rfl, (by rw [hkt, hsm, hkd]; simpa using hr.take k), (by rw [hkt, hsm, hkd]; simp; omega), rfl⟩
      ·clear E hgB2
       rintro _ _ W6 ⟨m, i, cur, ⟨j6, rfl⟩, E, hgB2, hm, hij, hcl, hc6, hdr, hin, hil, rfl⟩
       refine Wp_seq (Wp_seq_region ?_)
       refine qM (I6 (m : Int)) rfl ?_
       refine qM (.slice (some ⟨g, k * 6, none⟩) (ts.length - k) (c - k)) rfl ?_
       refine qV (r_lenSlice (ad := some ⟨g, k * 6, none⟩) (n := ts.length - k) (cap := c - k) Try.underlying25 rfl) ?_
       refine qV (r_lss (k := .i64) (a := (m : Int)) (b := ((ts.length - k : Nat) : Int)) rfl rfl) ?_
       refine WpL_nil ?_
       refine Wp_cond (b := decide (((m : Int) : Int) < ((ts.length - k : Nat) : Int))) rfl (fun hlt2 => ?_) (fun hlt2 => ?_)
       ·have khlt2 := hlt2
        replace hlt2 := of_decide_eq_true hlt2
        obtain ⟨j, hj⟩ : ∃ j, j = k + m := ⟨_, rfl⟩
        obtain ⟨x, hx⟩ := get_of_lt (l := ts) (i := j) (by omega)
        obtain ⟨y, hy⟩ := get_of_lt (l := ts) (i := j - 1) (by omega)
        obtain ⟨r, hrr, hrx⟩ := hr.get hx
        obtain ⟨s, hrs, hry⟩ := hr.get hy
        have hkt := kd_take (by omega) hx hy
        rw [← hj] at hdr hin hil hij
        have hcr : cur[j]? = some r := by rw [drop_get hdr (by omega)]; exact hrr
        have hcs : cur[j - 1]? = some s := by rw [drop_get hdr (Nat.le_refl _)]; exact hrs
        have hdr2 : cur.drop j = rows.drop j := by have := congrArg (List.drop 1) hdr; rw [List.drop_drop, List.drop_drop, show j - 1 + 1 = j by omega] at this; exact this
        have hrx2 : ReAt (W6) x r := ReIn.at x (ReIn.chg E (fun y hy hb => by have := hS y hy; have hb' : base ≤ y := hb; omega) x (ReIn.ext hE x hrx))
        have hry2 : ReAt (W6) y s := ReIn.at y (ReIn.chg E (fun y hy hb => by have := hS y hy; have hb' : base ≤ y := hb; omega) y (ReIn.ext hE y hry))
        have hcx := rows_at hgB2 hc6 hcr
        have hcy := rows_at hgB2 hc6 hcs
        obtain ⟨sa, sc, aa, ac, rfl, _, _, _⟩ := hrx2.form
        obtain ⟨sa2, sc2, aa2, ac2, rfl, _, _, _⟩ := hry2.form
        refine Wp_skip (thn_normal (Wp_seq (Wp_block (Wp_seq ?_))))
        obtain ⟨Fs8, hFs8⟩ : ∃ Fs : List Fact, Fs = [.eq fv, .eq (.slice (some ⟨g, k * 6, none⟩) (ts.length - k) (c - k)), .eq (I6 (m : Int)), .eq (.pointer (some ⟨g, k * 6 + m * 6, none⟩)), .eq (.agg (R6 x sa sc aa ac)), .eq (.slice (some ⟨g, k * 6, none⟩) (ts.length - k) (c - k)), .eq (I6 (m : Int)), .eq (I6 ((m : Int) - 1)), .eq (.pointer (some ⟨g, k * 6 + (m - 1) * 6, none⟩)), .eq (.agg (R6 y sa2 sc2 aa2 ac2)), .eq (.bool (sameT x y)), .eq (.bool (!(sameT x y)))] := ⟨_, rfl⟩
        refine Wp_dag [38, 39, 40, 41, 42, 43, 44, 45, 46, 47, 48, 49] [[], [], [], [1, 2], [3], [], [], [6], [5, 7], [8], [0, 4, 9], [10]] Fs8 hFs8 mixed (by kernel_rfl) (by kernel_rfl) ?_ ?_
        ·intro wd X0
         refine DagSteps.cons (fun s' w' X U H => Or.inl ⟨?_, ?_⟩) ?_
         ·exact Guarded_none rfl
         ·exact Does_val (r_move (v := fv) (U 1 rfl)) (Ext.refl _) rfl
         refine DagSteps.cons (fun s' w' X U H => Or.inl ⟨?_, ?_⟩) ?_
         ·exact Guarded_none rfl
         ·exact Does_val (r_move (v := (.slice (some ⟨g, k * 6, none⟩) (ts.length - k) (c - k))) (U 6 rfl)) (Ext.refl _) rfl
         refine DagSteps.cons (fun s' w' X U H => Or.inl ⟨?_, ?_⟩) ?_
         ·exact Guarded_none rfl
         ·exact Does_val (r_move (v := (I6 (m : Int))) (U 7 rfl)) (Ext.refl _) rfl
         refine DagSteps.cons (fun s' w' X U H => Or.inl ⟨?_, ?_⟩) ?_
         ·exact Guarded_none rfl
         ·have e39 : s' 39 = (.slice (some ⟨g, k * 6, none⟩) (ts.length - k) (c - k)) := H 1 rfl 39 (.eq (.slice (some ⟨g, k * 6, none⟩) (ts.length - k) (c - k))) rfl (by rw [hFs8]; rfl)
          have e40 : s' 40 = (.int .i64 ((m : Nat) : Int)) := H 2 rfl 40 (.eq (.int .i64 ((m : Nat) : Int))) rfl (by rw [hFs8]; rfl)
          exact Does_val (r_indexSlice (b := g) (o := k * 6) (len := ts.length - k) (cap := c - k) (i := m) (o' := k * 6 + m * 6) e39 e40 rfl Try.underlying25 siz27 (by omega) (by omega)) (Ext.refl _) rfl
         refine DagSteps.cons (fun s' w' X U H => Or.inl ⟨?_, ?_⟩) ?_
         ·exact Guarded_none rfl
         ·have e41 : s' 41 = (.pointer (some ⟨g, k * 6 + m * 6, none⟩)) := H 3 rfl 41 (.eq (.pointer (some ⟨g, k * 6 + m * 6, none⟩))) rfl (by rw [hFs8]; rfl)
          exact Does_val (r_loadAgg (vs := [(I6 x.kind), (.slice sa x.set.length sc), (.slice aa x.args.length ac), (I6 x.mn), (I6 x.mx), (.bool x.neg)]) e41 agg27 siz27 rfl (by rw [show k * 6 + m * 6 = j * 6 by omega]; exact hcx.ext (X0.trans X))) (Ext.refl _) rfl
         refine DagSteps.cons (fun s' w' X U H => Or.inl ⟨?_, ?_⟩) ?_
         ·exact Guarded_none rfl
         ·exact Does_val (r_move (v := (.slice (some ⟨g, k * 6, none⟩) (ts.length - k) (c - k))) (U 6 rfl)) (Ext.refl _) rfl
         refine DagSteps.cons (fun s' w' X U H => Or.inl ⟨?_, ?_⟩) ?_
         ·exact Guarded_none rfl
         ·exact Does_val (r_move (v := (I6 (m : Int))) (U 7 rfl)) (Ext.refl _) rfl
         refine DagSteps.cons (fun s' w' X U H => Or.inl ⟨?_, ?_⟩) ?_
         ·exact Guarded_none rfl
         ·have e44 : s' 44 = (.int .i64 ((m : Nat) : Int)) := H 6 rfl 44 (.eq (.int .i64 ((m : Nat) : Int))) rfl (by rw [hFs8]; rfl)
          exact Does_val (r_sub (k := .i64) (a := (m : Int)) (b := 1) (c := (m : Int) - 1) e44 rfl (wI64 (by omega))) (Ext.refl _) rfl
         refine DagSteps.cons (fun s' w' X U H => Or.inl ⟨?_, ?_⟩) ?_
         ·exact Guarded_none rfl
         ·have e43 : s' 43 = (.slice (some ⟨g, k * 6, none⟩) (ts.length - k) (c - k)) := H 5 rfl 43 (.eq (.slice (some ⟨g, k * 6, none⟩) (ts.length - k) (c - k))) rfl (by rw [hFs8]; rfl)
          have e45 : s' 45 = (.int .i64 (((m : Nat) : Int) - 1)) := H 7 rfl 45 (.eq (.int .i64 (((m : Nat) : Int) - 1))) rfl (by rw [hFs8]; rfl)
          exact Does_val (r_indexSlice (b := g) (o := k * 6) (len := ts.length - k) (cap := c - k) (i := m - 1) (o' := k * 6 + (m - 1) * 6) e43 e45 (by omega) Try.underlying25 siz27 (by omega) (by omega)) (Ext.refl _) rfl
         refine DagSteps.cons (fun s' w' X U H => Or.inl ⟨?_, ?_⟩) ?_
         ·exact Guarded_none rfl
         ·have e46 : s' 46 = (.pointer (some ⟨g, k * 6 + (m - 1) * 6, none⟩)) := H 8 rfl 46 (.eq (.pointer (some ⟨g, k * 6 + (m - 1) * 6, none⟩))) rfl (by rw [hFs8]; rfl)
          exact Does_val (r_loadAgg (vs := [(I6 y.kind), (.slice sa2 y.set.length sc2), (.slice aa2 y.args.length ac2), (I6 y.mn), (I6 y.mx), (.bool y.neg)]) e46 agg27 siz27 rfl (by rw [show k * 6 + (m - 1) * 6 = (j - 1) * 6 by omega]; exact hcy.ext (X0.trans X))) (Ext.refl _) rfl
         refine DagSteps.cons (fun s' w' X U H => Or.inl ⟨?_, ?_⟩) ?_
         ·exact Guarded_none rfl
         ·have e42 : s' 42 = (.agg #[(.int .i64 x.kind), (.slice sa x.set.length sc), (.slice aa x.args.length ac), (.int .i64 x.mn), (.int .i64 x.mx), (.bool x.neg)]) := H 4 rfl 42 (.eq (.agg #[(.int .i64 x.kind), (.slice sa x.set.length sc), (.slice aa x.args.length ac), (.int .i64 x.mn), (.int .i64 x.mx), (.bool x.neg)])) rfl (by rw [hFs8]; rfl)
          have e47 : s' 47 = (.agg #[(.int .i64 y.kind), (.slice sa2 y.set.length sc2), (.slice aa2 y.args.length ac2), (.int .i64 y.mn), (.int .i64 y.mx), (.bool y.neg)]) := H 9 rfl 47 (.eq (.agg #[(.int .i64 y.kind), (.slice sa2 y.set.length sc2), (.slice aa2 y.args.length ac2), (.int .i64 y.mn), (.int .i64 y.mx), (.bool y.neg)])) rfl (by rw [hFs8]; rfl)
          have e38 : s' 38 = fv := H 0 rfl 38 (.eq fv) rfl (by rw [hFs8]; rfl)
          exact Does_callV e38 (lst2 e42 e47) (hf _ x y _ _ (ReAt.ext (X0.trans X) x hrx2) (ReAt.ext (X0.trans X) y hry2))
         refine DagSteps.cons (fun s' w' X U H => Or.inl ⟨?_, ?_⟩) ?_
         ·exact Guarded_none rfl
         ·have e48 : s' 48 = (.bool (sameT x y)) := H 10 rfl 48 (.eq (.bool (sameT x y))) rfl (by rw [hFs8]; rfl)
          exact Does_val (r_not (b := sameT x y) e48) (Ext.refl _) rfl
         exact DagSteps.nil
        ·intro s' w8 X8 U H
         obtain ⟨j8, rfl⟩ := Fits.out (σ := s') (l := [(0, (.slice (some ⟨g, 0, none⟩) ts.length c)), (1, fv), (5, (.int .i64 ((i : Nat) : Int))), (6, (.slice (some ⟨g, k * 6, none⟩) (ts.length - k) (c - k))), (7, (.int .i64 ((m : Nat) : Int))), (49, (.bool (!(sameT x y))))]) ⟨U 0 rfl, U 1 rfl, U 5 rfl, U 6 rfl, U 7 rfl, (show s' 49 = (.bool (!(sameT x y))) from H 11 49 (.eq (.bool (!(sameT x y)))) rfl (by rw [hFs8]; rfl)), trivial⟩
         clear U H
         replace hgB2 := X8.keep hgB2
         replace hcx := hcx.ext X8
         replace E := E.ext X8
         refine thn_normal ?_
         refine Wp_cond (b := !(sameT x y)) rfl (fun hne => ?_) (fun hne => ?_)
         ·have khne := hne
          replace hne := by simpa using hne
          have hsf : sameT x y = false := by simpa using hne
          refine Wp_seq_region ?_
          refine qM (.slice (some ⟨g, 0, none⟩) ts.length c) rfl ?_
          refine qM (I6 (i : Int)) rfl ?_
          refine qM (.slice (some ⟨g, k * 6, none⟩) (ts.length - k) (c - k)) rfl ?_
          refine qM (I6 (m : Int)) rfl ?_
          refine qV (r_indexSlice (b := g) (o := k * 6) (len := ts.length - k) (cap := c - k) (i := m) (o' := k * 6 + m * 6) rfl rfl rfl Try.underlying25 siz27 (by omega) (by omega)) ?_
          refine qV (r_loadAgg (vs := [(I6 x.kind), (.slice sa x.set.length sc), (.slice aa x.args.length ac), (I6 x.mn), (I6 x.mx), (.bool x.neg)]) rfl agg27 siz27 rfl (by rw [show k * 6 + m * 6 = j * 6 by omega]; exact hcx)) ?_
          refine qV (r_indexSlice (b := g) (o := 0) (len := ts.length) (cap := c) (i := i) (o' := 0 + i * 6) rfl rfl rfl Try.underlying25 siz27 (by omega) (by omega)) ?_
          refine s_storeAgg (b := g) (o := 0 + i * 6) (n := 6) (c' := ((cur.set i [.int .i64 x.kind, .slice sa x.set.length sc, .slice aa x.args.length ac, .int .i64 x.mn, .int .i64 x.mx, .bool x.neg]).flatten ++ rest).toArray) (vs := (R6 x sa sc aa ac)) rfl rfl (by simp [Value.oneCell']) siz27 (rfl) hgB2 (by have := rows_len hc6; simp only [List.size_toArray, List.length_append]; omega) (by rw [Nat.zero_add]; exact congrArg List.toArray (rows_set (k := 6) (v := [.int .i64 x.kind, .slice sa x.set.length sc, .slice aa x.args.length ac, .int .i64 x.mn, .int .i64 x.mx, .bool x.neg]) (rows := cur) (i := i) (rest := rest) rfl hc6 (by omega))) ?_
          intro w10 S10
          replace E := S10.step E (by first | exact Or.inl (by omega) | exact Or.inr rfl | exact Or.inr (by assumption) | exact Or.inr (by simp) | exact Or.inr (by omega) | exact Or.inr (by dsimp only; omega))
          replace hgB2 := S10.blk
          refine WpL_nil (Wp_region ?_)
          refine qM (I6 (i : Int)) rfl ?_
          refine qV (r_add (k := .i64) (a := (i : Int)) (b := 1) (c := (i : Int) + 1) rfl rfl (wI64 (by omega))) ?_
          refine qA (I6 ((i : Int) + 1)) rfl ?_
          refine WpL_nil (inB_normal (thn_normal (Wp_region ?_)))
          refine qM (I6 (m : Int)) rfl ?_
          refine qV (r_add (k := .i64) (a := (m : Int)) (b := 1) (c := (m : Int) + 1) rfl rfl (wI64 (by omega))) ?_
          refine qA (I6 ((m : Int) + 1)) rfl ?_
          refine WpL_nil (thn_normal ?_)
          exact ⟨ts.length - k - (m + 1), by omega, m + 1, i + 1, cur.set i [.int .i64 x.kind, .slice sa x.set.length sc, .slice aa x.args.length ac, .int .i64 x.mn, .int .i64 x.mx, .bool x.neg], Fits.out ⟨rfl, rfl, rfl, rfl, rfl, trivial⟩, E, hgB2, ⟨by omega, by omega⟩, (by omega), (by simpa using hcl), (fun r hr => by rcases List.mem_or_eq_of_mem_set hr with h | h; exact hc6 r h; rw [h]; rfl), (by rw [show k + (m + 1) - 1 = j by omega, List.drop_set_of_lt (by omega)]; exact hdr2), (by rw [show k + (m + 1) = j + 1 by omega, hkt, hsf, List.take_add_one, List.take_set_of_le (Nat.le_refl _), List.getElem?_set_self (by omega)]; exact RowsIn.append (RowsIn.single hrx) hin), (by rw [show k + (m + 1) = j + 1 by omega, hkt, hsf, List.length_append, ← hil]; rfl), rfl⟩
         ·have khne := hne
          replace hne := by simpa using hne
          have hst : sameT x y = true := by simpa using hne
          refine Wp_skip (inB_normal (thn_normal (Wp_region ?_)))
          refine qM (I6 (m : Int)) rfl ?_
          refine qV (r_add (k := .i64) (a := (m : Int)) (b := 1) (c := (m : Int) + 1) rfl rfl (wI64 (by omega))) ?_
          refine qA (I6 ((m : Int) + 1)) rfl ?_
          refine WpL_nil (thn_normal ?_)
          exact ⟨ts.length - k - (m + 1), by omega, m + 1, i, cur, Fits.out ⟨rfl, rfl, rfl, rfl, rfl, trivial⟩, E, hgB2, ⟨by omega, by omega⟩, (by omega), hcl, hc6, (by rw [show k + (m + 1) - 1 = j by omega]; exact hdr2), (by rw [show k + (m + 1) = j + 1 by omega, hkt, hst]; simpa using hin), (by rw [show k + (m + 1) = j + 1 by omega, hkt, hst]; simpa using hil), rfl⟩
       ·have khlt2 := hlt2
        replace hlt2 := of_decide_eq_false hlt2
        have hjj : k + m = ts.length := by omega
        rw [hjj, List.take_length] at hin hil
        have hil2 : i ≤ ts.length := by rw [hil]; exact kd_len _ _
        refine Wp_exit (thn_exit (thn_exit (inB_here (thn_normal (Wp_seq_region ?_)))))
        refine qM (.slice (some ⟨g, 0, none⟩) ts.length c) rfl ?_
        refine qM (I6 (i : Int)) rfl ?_
        obtain ⟨sk, hsk⟩ : ∃ a' : Option Addr, (if c = i then (some ⟨g, 0, none⟩) else Option.map (fun q : Addr => q.add (i * 6)) (some ⟨g, 0, none⟩)) = a' := ⟨_, rfl⟩
        refine qV (r_sliceLo (a := (some ⟨g, 0, none⟩)) (len := ts.length) (cap := c) (lo := i) (l := (i : Int)) (n' := (ts.length - i)) (c' := (c - i)) Try.underlying25 siz27 rfl rfl (by omega) (by omega) hsk (by omega) (by omega)) ?_
        have hsk2 : sk = some ⟨g, i * 6, none⟩ := by rw [← hsk, if_neg (by omega)]; simp [Addr.add]; omega
        subst hsk2
        obtain ⟨cz, hcz⟩ : ∃ cz, cz = ((cur.flatten ++ rest).toArray.toList.take (i * 6) ++ (Builtin.zeroCells (Value.cells (.agg #[(.int .i64 0), (.slice none 0 0), (.slice none 0 0), (.int .i64 0), (.int .i64 0), (.bool false)])) (ts.length - i)).toList ++ (cur.flatten ++ rest).toArray.toList.drop (i * 6 + (ts.length - i) * 6)).toArray := ⟨_, rfl⟩
        refine s_clear (b := g) (o := i * 6) (m := (ts.length - i)) (cc := (c - i)) (c' := cz) Try.underlying25 zer27 rfl (by omega) hgB2 zero_one (by show i * 6 + (ts.length - i) * 6 ≤ _; simp only [List.size_toArray, List.length_append, rows_len hc6, hcl]; omega) (hcz.symm) ?_
        intro w11 S11
        replace E := S11.step E (by first | exact Or.inl (by omega) | exact Or.inr rfl | exact Or.inr (by assumption) | exact Or.inr (by simp) | exact Or.inr (by omega) | exact Or.inr (by dsimp only; omega))
        replace hgB2 := S11.blk
        refine WpL_nil (Wp_seq_region ?_)
        refine qM (.slice (some ⟨g, 0, none⟩) ts.length c) rfl ?_
        refine qM (I6 (i : Int)) rfl ?_
        obtain ⟨sm, hsm⟩ : ∃ a' : Option Addr, (if c = 0 then (some ⟨g, 0, none⟩) else Option.map (fun q : Addr => q.add (0 * 6)) (some ⟨g, 0, none⟩)) = a' := ⟨_, rfl⟩
        refine qV (r_sliceHi (a := (some ⟨g, 0, none⟩)) (len := ts.length) (cap := c) (hi := i) (l := (i : Int)) Try.underlying25 siz27 rfl rfl (by omega) (by omega) hsm) ?_
        refine qA (.slice sm i c) rfl ?_
        refine WpL_nil (Wp_ret (inB_ret (thn_ret (thn_ret (inB_ret (thn_ret ?_))))))
        refine fin_tmp Try.results60 (v := (.slice sm i c)) rfl ?_
        have hsm2 : sm = some ⟨g, 0, none⟩ := by rw [← hsm]; split <;> simp [Addr.add]
        subst hsm2
        have hfl : (cur.take i).flatten.length = i * 6 := by rw [rows_len (fun r hr => hc6 r (List.mem_of_mem_take hr))]; simp; omega
        have htk : (cur.flatten ++ rest).take (i * 6) = (cur.take i).flatten := by
         have : cur.flatten = (cur.take i).flatten ++ (cur.drop i).flatten := by rw [← List.flatten_append, List.take_append_drop]
         rw [this, List.append_assoc, List.take_append_of_le_length (by omega), List.take_of_length_le (by omega)]
        have hz : (Builtin.zeroCells (Value.cells (.agg #[(.int .i64 0), (.slice none 0 0), (.slice none 0 0), (.int .i64 0), (.int .i64 0), (.bool false)])) (ts.length - i)).toList.length = (ts.length - i) * 6 := by simp [Builtin.zeroCells, Value.cells]
        have hcl6 : (cur.flatten ++ rest).length = c * 6 := by rw [List.length_append, rows_len hc6, hcl]; omega
        refine ⟨some ⟨g, 0, none⟩, c, cur.take i, by rw [← hil], ⟨by rw [hfl, ← hil], .inr ⟨g, c, cz, by rw [← hil], hgb, hgB2, by omega, hcap2, ?_, ?_⟩⟩, hin, E⟩
        ·rw [hcz]
         simp only [List.size_toArray, List.length_append, List.length_take, List.length_drop, hz]
         simp only [List.length_append] at hcl6
         omega
        ·rw [hcz, ← hil]
         show List.take (i * 6) (List.take (i * 6) (cur.flatten ++ rest) ++ _ ++ _) = _
         rw [htk, List.append_assoc, List.take_append_of_le_length (by omega), List.take_of_length_le (by omega)]
     ·have khsm := hsm
      have hsf : sameT x y = false := by simpa using hsm
      refine Wp_skip (inB_normal (thn_normal (Wp_region ?_)))
      refine qM (I6 (k : Int)) rfl ?_
      refine qV (r_add (k := .i64) (a := (k : Int)) (b := 1) (c := (k : Int) + 1) rfl rfl (wI64 (by omega))) ?_
      refine qA (I6 ((k : Int) + 1)) rfl ?_
      refine WpL_nil (thn_normal ?_)
      exact ⟨ts.length - (k + 1), by omega, k + 1, Fits.out ⟨rfl, rfl, rfl, trivial⟩, E, hgB2, ⟨by omega, by omega⟩, (by rw [hkt, hsf, hkd, List.take_add_one, hx]; rfl), rfl⟩
   ·have khlt := hlt
    replace hlt := of_decide_eq_false hlt
    have hkk : k = ts.length := by omega
    rw [hkk, List.take_length] at hkd
    refine Wp_exit (thn_exit (thn_exit (inB_here (thn_normal (Wp_seq_region ?_)))))
    refine qM (.slice (some ⟨g, 0, none⟩) ts.length c) rfl ?_
    refine qA (.slice (some ⟨g, 0, none⟩) ts.length c) rfl ?_
    refine WpL_nil (Wp_ret ?_)
    refine fin_tmp Try.results60 (v := (.slice (some ⟨g, 0, none⟩) ts.length c)) rfl ?_
    rw [hkd]; exact ⟨_, c, rows, rfl, own_chgS hown0 hgB2 hcap1 hcap2 hszz, hr, E⟩
end Go.Proofs
namespace Go.Proofs
open Go Go.Eng Go.Sort
set_option maxRecDepth 100000
theorem sort_uniq {us D : List Re} (hp : us.Perm D) (hs : us.Pairwise fun x y => ordR x y ≤ 0) (hn : ∀ x ∈ D, noNeg x = true) : us = sortR D := by
 have hp2 : us.Perm (sortR D) := hp.trans (List.mergeSort_perm D leR).symm
 refine List.Perm.eq_of_pairwise (le := fun x y => ordR x y ≤ 0) (fun a b ha hb h1 h2 => ?_) hs (sort_sorted D) hp2
 have h3 := ord_sym a b
 have h4 := ord_sym b a
 exact (ord_zero (hn a (hp.mem_iff.1 ha)) (hn b (sort_mem.1 hb))).1 (by omega)
theorem find_idx {p : Re → Bool} {l : List Re} : (0 ≤ idx p l → ∃ i x, idx p l = ((i : Nat) : Int) ∧ l[i]? = some x ∧ l.find? p = some x) ∧ (¬ 0 ≤ idx p l → l.find? p = none) := by
  unfold idx
  cases h : l.findIdx? p with
  | none =>
    refine ⟨fun h1 => by simp at h1, fun _ => ?_⟩
    rw [List.find?_eq_none]
    intro x hx
    have := (List.findIdx?_eq_none_iff.1 h) x hx
    simp [this]
  | some i =>
    refine ⟨fun _ => ?_, fun h1 => by simp at h1⟩
    obtain ⟨hi, h1, h2⟩ := List.findIdx?_eq_some_iff_getElem.1 h
    refine ⟨i, l[i], rfl, List.getElem?_eq_getElem hi, ?_⟩
    rw [List.find?_eq_some_iff_getElem]
    exact ⟨h1, i, hi, rfl, fun j hj => by simpa using h2 j hj⟩
set_option maxHeartbeats 4000000 in
theorem choice_c (w0 : World) (S : Nat → Prop) (k : Int) (v sf gf : Value) (ts : List Re) (strong weak : Re → Bool) (zt : Re) (zv : List Value) (h : RsIn S w0 v ts) (hz : ReIn S w0 zt zv) (hS : ∀ x, S x → x < w0.heap.size) (hne : ∀ x ∈ ts, x.kind = k → x.args ≠ []) (hsz : Re.sizes ts ≤ 1000000) (hnn : ∀ x ∈ flatT k ts, noNeg x = true)
  (hs : ∀ (w : World) (x : Re) (vs : List Value), x ∈ ts → ReAt w x vs → CallV Try.prog sf #[.agg vs.toArray] w fun r w' => r = .bool (strong x) ∧ Ext w w')
  (hw : ∀ (w : World) (x : Re) (vs : List Value), x ∈ flatT k ts → ReAt w x vs → CallV Try.prog gf #[.agg vs.toArray] w fun r w' => r = .bool (weak x) ∧ Ext w w') :
  Ret Try.prog 44 #[.int .i64 k, v, sf, gf, .agg zv.toArray] w0 fun r w => (∃ vs, r = .agg vs.toArray ∧ ReIn (fun b => S b ∨ w0.heap.size ≤ b) w (choR k ts strong weak zt) vs) ∧ Ext w0 w := by
 have h0 := h
 have hz0 := hz
 obtain ⟨zsa, zsc, zaa, zac, rfl, _, _, _⟩ := hz.form
 obtain ⟨aa0, ac0, rfl, hac0, _⟩ := h
 have hls := len_sizes ts
 have hfle := flat_le k ts ts.length
 rw [List.take_length] at hfle
 have hin0 := h0
 obtain ⟨hfi1, hfi2⟩ := find_idx (p := strong) (l := ts)
 obtain ⟨q, hq⟩ : ∃ q : Int, q = idx strong ts := ⟨_, rfl⟩
 rw [← hq] at hfi1 hfi2
 obtain ⟨D, hD⟩ : ∃ D, D = delT weak (flatT k ts) := ⟨_, rfl⟩
 have hDl : D.length ≤ (flatT k ts).length := by rw [hD]; exact List.length_filter_le _ _
 have hDn : ∀ x ∈ D, noNeg x = true := fun x hx => hnn x (del_mem.1 (by rw [← hD]; exact hx)).1
 obtain ⟨G, hG⟩ : ∃ G, G = dedR (sortR D) := ⟨_, rfl⟩
 have hcho : choR k ts strong weak zt = match ts.find? strong with | some x => x | none => wrapT k zt G := by rw [hG, hD]; rfl
 rw [hcho]
 obtain ⟨hw0, hw1, hw2⟩ := wrap_cases k zt G
 refine Ret_of Try.func44 rfl Try.ntmps44 (Nat.le_of_ble_eq_true rfl) ?_
 have E : Chg none1 w0 w0 := Chg.refl _ _
 refine Wp_seq_region ?_
 refine s_box (v := (.agg (R6 zt zsa zsc zaa zac))) (c := (R6 zt zsa zsc zaa zac)) (by decide) rfl rfl ?_
 intro bz wz Nz
 have Fz := Nz.ge E
 replace E := E.ext Nz.ext
 have Bz := Nz.blk
 refine s_alloc (c := #[(I6 0), (.slice none 0 0), (.slice none 0 0), (I6 0), (I6 0), (.bool false)]) (by decide) zer27 rfl ?_
 intro bo wo No
 have Fo := No.ge E
 have Oo_bz := No.lt Bz
 replace Bz := No.keep Bz
 replace E := E.ext No.ext
 have Bo := No.blk
 refine WpL_nil (Wp_seq (Wp_seq_region ?_))
 refine qM (.slice aa0 ts.length ac0) rfl ?_
 refine qM sf rfl ?_
 obtain ⟨base, hbase⟩ : ∃ base, base = wo.heap.size := ⟨_, rfl⟩
 have hob : bo < base ∧ bz < base := ⟨by rw [hbase]; exact Bo.lt, by rw [hbase]; exact Bz.lt⟩
 have hwb : w0.heap.size ≤ base := by omega
 have E2 : Chg none1 wo wo := Chg.refl _ _
 refine WpL_enter rfl rfl (by decide) (r_callF (vs := [(.slice aa0 ts.length ac0), sf]) Try.func57 nm57 bd57 rfl) ((res_idx_c _ _ sf ts strong (rsin_at (h0.ext E)) (fun w x vs _ hm hx => hs w x vs hm hx)).mono (R' := fun r w => r = .int .i64 q ∧ Ext wo w) (fun r w h9 => ⟨by rw [h9.1, hq], h9.2⟩)) ?_
 rintro _ w9 ⟨rfl, X9⟩
 replace Bz := X9.keep Bz
 replace Bo := X9.keep Bo
 replace E := E.ext X9
 refine qA (I6 q) rfl ?_
 refine WpL_nil (Wp_seq_region ?_)
 refine qM (I6 q) rfl ?_
 refine qV (r_geq (k := .i64) (a := q) (b := 0) rfl rfl) ?_
 refine WpL_nil ?_
 refine Wp_cond (b := decide ((0 : Int) ≤ q)) rfl (fun hge => ?_) (fun hge => ?_)
 ·have khge := hge
  replace hge := of_decide_eq_true hge
  obtain ⟨i, x, hi, hx, hf⟩ := hfi1 hge
  have hilt := lt_of_get hx
  have hin : RsIn S (w9) (.slice aa0 ts.length ac0) ts := hin0.ext E
  obtain ⟨lb, lo, rfl, hcl⟩ := hin.cells (by omega)
  obtain ⟨xs, hcx, hrx⟩ := hcl i x hx
  have hrx0 := hrx
  obtain ⟨sa, sc, aa, ac, rfl, _, _, _⟩ := hrx.form
  refine Wp_seq_region ?_
  refine qM (.slice (some ⟨lb, lo, none⟩) ts.length ac0) rfl ?_
  refine qM (I6 q) rfl ?_
  refine qV (r_indexSlice (b := lb) (o := lo) (len := ts.length) (cap := ac0) (i := i) (o' := lo + i * 6) rfl rfl (by omega) Try.underlying25 siz27 (by omega) (by omega)) ?_
  have hS5 : Chg (fun y => y = bo) (w9) (w9) := Chg.refl _ _
  refine qV (r_loadAgg (vs := [(I6 x.kind), (.slice sa x.set.length sc), (.slice aa x.args.length ac), (I6 x.mn), (I6 x.mx), (.bool x.neg)]) rfl agg27 siz27 rfl (hcx)) ?_
  refine s_storeAgg (b := bo) (o := 0) (c' := (R6 x sa sc aa ac)) rfl rfl (by simp [Value.oneCell']) siz27 rfl Bo (by first | (simp; done) | exact Nat.le_of_ble_eq_true rfl) rfl ?_
  intro w2 S2
  replace hS5 := S2.chg
  replace Bz := S2.keep (by omega) Bz
  replace E := S2.step E (by first | exact Or.inl (by omega) | exact Or.inr rfl | exact Or.inr (by assumption) | exact Or.inr (by simp) | exact Or.inr (by omega) | exact Or.inr (by dsimp only; omega))
  replace Bo := S2.blk
  refine WpL_nil (Wp_ret (thn_ret ?_))
  refine fin_agg Try.results44 (vs := [(.int .i64 x.kind), (.slice sa x.set.length sc), (.slice aa x.args.length ac), (.int .i64 x.mn), (.int .i64 x.mx), (.bool x.neg)]) (b := bo) rfl agg27 siz27 rfl (Bo.cells rfl) ?_
  exact ⟨⟨_, rfl, by rw [hf]; exact ReIn.mono (fun y hy => .inl hy) x (ReIn.chg hS5 (fun y hy h => by have h1 := hS y hy; have h2 : y = bo := h; omega) x hrx0)⟩, E⟩
 ·have khge := hge
  replace hge := of_decide_eq_false hge
  rw [hfi2 hge]
  obtain ⟨base2, hbase2⟩ : ∃ base2, base2 = w9.heap.size := ⟨_, rfl⟩
  have hob2 : bo < base2 ∧ bz < base2 ∧ w0.heap.size ≤ base2 := by have := X9.size; omega
  refine Wp_skip (thn_normal (Wp_seq_region ?_))
  refine qM (I6 k) rfl ?_
  refine qM (.slice aa0 ts.length ac0) rfl ?_
  refine WpL_enter rfl rfl (by decide) (r_callF (vs := [(I6 k), (.slice aa0 ts.length ac0)]) Try.func51 nm51 bd51 rfl) (flat_c _ S k _ ts (hin0.ext E) hne hsz) ?_
  rintro _ wf ⟨la, lc, rows, rfl, hown, hrs, Xf⟩
  replace Bz := Xf.keep Bz
  replace Bo := Xf.keep Bo
  replace E := E.ext Xf
  rw [← hbase2] at hown
  have E3 : Ext w9 wf := Xf
  have hSb : ∀ x, S x → x < base2 := fun x hx => by have := hS x hx; omega
  refine qM gf rfl ?_
  refine WpL_enter rfl rfl (by decide) (r_callF (vs := [(.slice la ((flatT k ts).length) lc), gf]) Try.func50 nm50 bd50 rfl) ((del_c w9 _ base2 S _ _ (flatT k ts) rows weak E3 hown hrs hSb (by omega) hw).mono (R' := fun r w => ∃ la lc rows', r = .slice la D.length lc ∧ w.ownsRow base2 TRe 6 r D.length rows'.flatten ∧ RowsIn S w9 D rows' ∧ Chg (fun x => base2 ≤ x) wf w) (fun r w h9 => by rw [hD]; exact h9)) ?_
  rintro _ wd ⟨la2, lc2, rows2, rfl, hown2, hrs2, Cd⟩
  replace Bz := Cd.keep (by omega) Bz
  replace Bo := Cd.keep (by omega) Bo
  replace E := E.step Cd (by intro x hx hm; omega)
  replace E3 := E3.step Cd (by intro x hx hm; omega)
  refine qA (.slice la2 D.length lc2) rfl ?_
  refine WpL_nil (Wp_seq_region ?_)
  refine qM (.slice la2 D.length lc2) rfl ?_
  refine WpL_enter rfl rfl (by decide) (r_callF (vs := [(.slice la2 D.length lc2), (.func (.func 59) #[] #[])]) Try.func58 nm58 bd58 rfl) ((sortr_c w9 _ S base2 _ D rows2 E3 hown2 hrs2 hSb (by omega)).mono (R' := fun r w => r = .tuple #[] ∧ (∃ qs, w.ownsRow base2 TRe 6 (.slice la2 D.length lc2) (sortR D).length qs.flatten ∧ RowsIn S w9 (sortR D) qs) ∧ Chg (fun x => base2 ≤ x) wd w) (fun r w h9 => by obtain ⟨h1, ⟨us, qs, hp, hpw, h3, h4⟩, h5⟩ := h9; have h6 := sort_uniq hp hpw hDn; subst h6; exact ⟨h1, ⟨qs, h3, h4⟩, h5.mono fun x _ hx => (hown2.lt x hx).1⟩)) ?_
  rintro _ ws ⟨rfl, ⟨qs, hown3, hrs3⟩, Cs⟩
  replace Bz := Cs.keep (by omega) Bz
  replace Bo := Cs.keep (by omega) Bo
  replace E := E.step Cs (by intro x hx hm; omega)
  replace E3 := E3.step Cs (by intro x hx hm; omega)
  have hsl : (sortR D).length = D.length := List.length_mergeSort D
  rw [← hsl] at hown3
  rw [← hsl]
  refine WpL_nil (Wp_seq_region ?_)
  refine qM (.slice la2 ((sortR D).length) lc2) rfl ?_
  refine WpL_enter rfl rfl (by decide) (r_callF (vs := [(.slice la2 ((sortR D).length) lc2), (.func (.func 11) #[] #[])]) Try.func60 nm60 bd60 rfl) ((cmpct_c w9 _ base2 S _ _ (sortR D) qs E3 hown3 hrs3 hSb (by omega) (fun w x y xs ys hx hy => CallV.mk (first := #[]) (cap := #[]) Try.func11 nm11 bd11 rfl (resame_c _ x y w xs ys (Nat.le_refl _) hx hy))).mono (R' := fun r w => ∃ la lc rows', r = .slice la G.length lc ∧ w.ownsRow base2 TRe 6 r G.length rows'.flatten ∧ RowsIn S w9 G rows' ∧ Chg (fun x => base2 ≤ x) ws w) (fun r w h9 => by rw [hG]; exact h9)) ?_
  rintro _ wc ⟨la4, lc4, rows4, rfl, hown4, hrs4, Cc⟩
  replace Bz := Cc.keep (by omega) Bz
  replace Bo := Cc.keep (by omega) Bo
  replace E := E.step Cc (by intro x hx hm; omega)
  replace E3 := E3.step Cc (by intro x hx hm; omega)
  obtain ⟨hoc, hocl⟩ := own_res hown4 (hrs4.ext E3) rfl
  refine qA (.slice la4 G.length lc4) rfl ?_
  refine WpL_nil (Wp_seq (Wp_seq_region ?_))
  refine qM (.slice la4 G.length lc4) rfl ?_
  refine qV (r_lenSlice (ad := la4) (n := G.length) (cap := lc4) Try.underlying25 rfl) ?_
  refine WpL_nil (Wp_block (Wp_seq_region ?_))
  refine qV (r_eql (k := .i64) (a := (G.length : Int)) (b := 0) rfl rfl) ?_
  refine qA (.bool (decide (((G.length : Int) : Int) = 0))) rfl ?_
  refine WpL_nil ?_
  refine Wp_cond (b := decide (((G.length : Int) : Int) = 0)) rfl (fun h0l => ?_) (fun h0l => ?_)
  ·have kh0l := h0l
   replace h0l := of_decide_eq_true h0l
   have hS5 : Chg (fun y => y = bo) (wc) (wc) := Chg.refl _ _
   have hz9 := ReIn.ext E zt hz0
   refine Wp_seq_region ?_
   refine qV (r_loadAgg (vs := [(I6 zt.kind), (.slice zsa zt.set.length zsc), (.slice zaa zt.args.length zac), (I6 zt.mn), (I6 zt.mx), (.bool zt.neg)]) rfl agg27 siz27 rfl (Bz.cells rfl)) ?_
   refine s_storeAgg (b := bo) (o := 0) (c' := (R6 zt zsa zsc zaa zac)) rfl rfl (by simp [Value.oneCell']) siz27 rfl Bo (by first | (simp; done) | exact Nat.le_of_ble_eq_true rfl) rfl ?_
   intro w4 S4
   replace hS5 := S4.chg
   replace Bz := S4.keep (by omega) Bz
   replace E := S4.step E (by first | exact Or.inl (by omega) | exact Or.inr rfl | exact Or.inr (by assumption) | exact Or.inr (by simp) | exact Or.inr (by omega) | exact Or.inr (by dsimp only; omega))
   replace Bo := S4.blk
   refine WpL_nil (Wp_ret (inB_ret (thn_ret ?_)))
   refine fin_agg Try.results44 (vs := [(.int .i64 zt.kind), (.slice zsa zt.set.length zsc), (.slice zaa zt.args.length zac), (.int .i64 zt.mn), (.int .i64 zt.mx), (.bool zt.neg)]) (b := bo) rfl agg27 siz27 rfl (Bo.cells rfl) ?_
   exact ⟨⟨_, rfl, by show ReIn _ _ (wrapT k zt G) _; rw [hw0 (by omega)]; exact ReIn.mono (fun y hy => .inl hy) zt (ReIn.chg hS5 (fun y hy h => by have h1 := hS y hy; have h2 : y = bo := h; omega) zt hz9)⟩, E⟩
  ·have kh0l := h0l
   replace h0l := of_decide_eq_false h0l
   refine Wp_seq_region ?_
   refine qV (r_eql (k := .i64) (a := (G.length : Int)) (b := 1) rfl rfl) ?_
   refine qA (.bool (decide (((G.length : Int) : Int) = 1))) rfl ?_
   refine WpL_nil ?_
   refine Wp_cond (b := decide (((G.length : Int) : Int) = 1)) rfl (fun h1l => ?_) (fun h1l => ?_)
   ·have kh1l := h1l
    replace h1l := of_decide_eq_true h1l
    obtain ⟨x, hx⟩ := get_of_lt (l := G) (i := 0) (by omega)
    obtain ⟨lb, hlb1, hlb2, hlb3, hcl⟩ := hocl.resolve_left (fun h => by rw [h] at hx; simp at hx)
    subst hlb3
    obtain ⟨xs, hcx, hrx⟩ := hcl 0 x hx
    have hrx0 := hrx
    obtain ⟨sa, sc, aa, ac, rfl, _, _, _⟩ := hrx.form
    have hS5 : Chg (fun y => y = bo) (wc) (wc) := Chg.refl _ _
    refine Wp_seq_region ?_
    refine qM (.slice (some ⟨lb, 0, none⟩) G.length lc4) rfl ?_
    refine qV (r_indexSlice (b := lb) (o := 0) (len := G.length) (cap := lc4) (i := 0) (o' := 0) rfl rfl rfl Try.underlying25 siz27 (by omega) (by omega)) ?_
    refine qV (r_loadAgg (vs := [(I6 x.kind), (.slice sa x.set.length sc), (.slice aa x.args.length ac), (I6 x.mn), (I6 x.mx), (.bool x.neg)]) rfl agg27 siz27 rfl (hcx)) ?_
    refine s_storeAgg (b := bo) (o := 0) (c' := (R6 x sa sc aa ac)) rfl rfl (by simp [Value.oneCell']) siz27 rfl Bo (by first | (simp; done) | exact Nat.le_of_ble_eq_true rfl) rfl ?_
    intro w6 S6
    replace hS5 := S6.chg
    replace Bz := S6.keep (by omega) Bz
    replace E := S6.step E (by first | exact Or.inl (by omega) | exact Or.inr rfl | exact Or.inr (by assumption) | exact Or.inr (by simp) | exact Or.inr (by omega) | exact Or.inr (by dsimp only; omega))
    replace Bo := S6.blk
    refine WpL_nil (Wp_ret (inB_ret (thn_ret ?_)))
    refine fin_agg Try.results44 (vs := [(.int .i64 x.kind), (.slice sa x.set.length sc), (.slice aa x.args.length ac), (.int .i64 x.mn), (.int .i64 x.mx), (.bool x.neg)]) (b := bo) rfl agg27 siz27 rfl (Bo.cells rfl) ?_
    exact ⟨⟨_, rfl, by show ReIn _ _ (wrapT k zt G) _; rw [hw1 x (by omega) hx]; exact ReIn.mono (fun y hy => .inl hy) x (ReIn.chg hS5 (fun y hy h => by have h1 := hS y hy; have h2 : y = bo := h; omega) x hrx0)⟩, E⟩
   ·have kh1l := h1l
    replace h1l := of_decide_eq_false h1l
    have hS5 : Chg (fun y => y = bo) (wc) (wc) := Chg.refl _ _
    refine Wp_skip (inB_normal (thn_normal (Wp_seq_region ?_)))
    refine qM (I6 k) rfl ?_
    refine qM (.slice la4 G.length lc4) rfl ?_
    refine qV (r_build (ps := [(0, (I6 k)), (2, (.slice la4 G.length lc4))]) (v := (.agg #[(I6 k), (.slice none 0 0), (.slice la4 G.length lc4), (I6 0), (I6 0), (.bool false)])) rfl (by kernel_rfl)) ?_
    refine s_storeAgg (b := bo) (o := 0) (c' := #[(I6 k), (.slice none 0 0), (.slice la4 G.length lc4), (I6 0), (I6 0), (.bool false)]) rfl rfl (by simp [Value.oneCell']) siz27 rfl Bo (by first | (simp; done) | exact Nat.le_of_ble_eq_true rfl) rfl ?_
    intro w7 S7
    replace hS5 := S7.chg
    replace Bz := S7.keep (by omega) Bz
    replace E := S7.step E (by first | exact Or.inl (by omega) | exact Or.inr rfl | exact Or.inr (by assumption) | exact Or.inr (by simp) | exact Or.inr (by omega) | exact Or.inr (by dsimp only; omega))
    replace Bo := S7.blk
    refine WpL_nil (Wp_ret ?_)
    refine fin_agg Try.results44 (vs := [(.int .i64 k), (.slice none 0 0), (.slice la4 G.length lc4), (.int .i64 0), (.int .i64 0), (.bool false)]) (b := bo) rfl agg27 siz27 rfl (Bo.cells rfl) ?_
    refine ⟨⟨_, rfl, ?_⟩, E⟩
    show ReIn _ _ (wrapT k zt G) _
    rw [hw2 (by omega)]
    refine ReIn.of (set := []) (SlIn.nil _ _ _ _ _) hoc ?_
    rcases hocl with h | ⟨ob, hob1, hob2, hob3, hclo⟩
    ·exact .inl h
    ·refine .inr ⟨ob, 0, .inr (by omega), hob3, resin_of fun i t ht => ?_⟩
     obtain ⟨vs, h6, h7⟩ := hclo i t ht
     exact ⟨vs, h6.chg hS5 (fun h => by have h' : ob = bo := h; omega), ReIn.mono (fun y hy => .inl hy) t (ReIn.chg hS5 (fun y hy h => by have h1 := hS y hy; have h2 : y = bo := h; omega) t h7)⟩
end Go.Proofs
