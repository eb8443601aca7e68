/- Contracts and plain lemmas, part 2. -/
import Derived.Tactics
import Derived.Deep.Quiet
import Derived.Laws.AppendOwn
import Derived.KernelRfl
import Derived.Laws.Entries
import Derived.Laws.Build
import Derived.Below
import Derived.RowKit3
import Derived.StillTail
import Derived.Sort.Grow
import Derived.Deep.Draws
import Derived.Test.YtncmfkibflogkaaChecked
import Derived.Laws.StructEq
import Derived.Laws.MakeOwn
import Derived.MapKept
import Derived.Laws.BytesArg
import Derived.Laws.CopyRow
import Derived.DeepKeys3
import Derived.OpenShut
import Derived.ChangeSlices
import Derived.Test.YtncmfkibflogkaaPb1
namespace Go.Proofs
open Go Go.Eng
set_option maxRecDepth 100000
def IntssAt (w : World) (v : Value) (ll : List (List Int)) : Prop := ∃ vs : List Value, SlAt w 1 v (vs.map fun x => [x]) ∧ vs.length = ll.length ∧ ∀ (i : Nat) (u : Value) (l : List Int), vs[i]? = some u → ll[i]? = some l → IntsAt w u l
theorem IntssAt.ext {w w' : World} {v : Value} {ll : List (List Int)} (h : IntssAt w v ll) (e : Ext w w') : IntssAt w' v ll := by
  obtain ⟨vs, h1, h2, h3⟩ := h
  exact ⟨vs, h1.ext e, h2, fun i u l hu hl => (h3 i u l hu hl).ext e⟩
theorem IntssAt.form {w : World} {v : Value} {ll : List (List Int)} (h : IntssAt w v ll) : ∃ a c, v = .slice a ll.length c ∧ ll.length ≤ c ∧ ll.length ≤ 9223372036854775807 := by
  obtain ⟨vs, h1, h2, _⟩ := h
  obtain ⟨a, c, rfl⟩ := h1.form
  have := h1.cap
  have := h1.le
  simp only [List.length_map] at *
  rw [h2] at *
  exact ⟨a, c, rfl, by omega, by omega⟩
theorem intss_cells {w : World} {a : Option Addr} {n c : Nat} {ll : List (List Int)} (h : IntssAt w (.slice a n c) ll) (hn : 0 < n) :
    ∃ b o, a = some ⟨b, o, none⟩ ∧ ∀ i l, ll[i]? = some l → ∃ ra rc, w.cell? ⟨b, o + i, none⟩ = some (.slice ra l.length rc) ∧ IntsAt w (.slice ra l.length rc) l := by
  obtain ⟨vs, h1, h2, h3⟩ := h
  obtain ⟨b, o, ha, hc⟩ := SlAt.at h1 hn
  refine ⟨b, o, ha, fun i l hl => ?_⟩
  have hi : i < vs.length := by have := lt_of_get hl; omega
  have hu : vs[i]? = some vs[i] := List.getElem?_eq_getElem hi
  have h4 := h3 i vs[i] l hu hl
  obtain ⟨ra, rc, hf⟩ := SlAt.form h4
  simp only [List.length_map] at hf
  have h5 := hc i [vs[i]] (by simp [hu]) 0 _ rfl
  rw [Nat.mul_one, Nat.add_zero, hf] at h5
  rw [hf] at h4
  exact ⟨ra, rc, h5, h4⟩
def DfaAt (w : World) (d : Dfa) (vs : List Value) : Prop := ∃ aa ac na nc, vs = [.int .i64 d.start, .slice aa d.accept.length ac, .slice na d.next.length nc] ∧ IntsAt w (.slice aa d.accept.length ac) d.accept ∧ IntssAt w (.slice na d.next.length nc) d.next
theorem DfaAt.ext {w w' : World} {d : Dfa} {vs : List Value} (h : DfaAt w d vs) (e : Ext w w') : DfaAt w' d vs := by
  obtain ⟨aa, ac, na, nc, h1, h2, h3⟩ := h
  exact ⟨aa, ac, na, nc, h1, h2.ext e, h3.ext e⟩
def minL (l : List Int) : Int := l.foldl min (l.headD 0)
def maxL (l : List Int) : Int := l.foldl max (l.headD 0)
theorem fold_take (f : Int → Int → Int) {l : List Int} {k : Nat} {x z : Int} (hx : l[k]? = some x) : (l.take (k + 1)).foldl f z = f ((l.take k).foldl f z) x := by
  rw [List.take_add_one, hx]; simp [List.foldl_append]
theorem minL_le_aux : ∀ (l : List Int) (z : Int), l.foldl min z ≤ z ∧ ∀ x ∈ l, l.foldl min z ≤ x
  | [], z => ⟨Int.le_refl _, fun x h => by simp at h⟩
  | y :: l, z => by
    obtain ⟨h1, h2⟩ := minL_le_aux l (min z y)
    refine ⟨by simp only [List.foldl_cons]; omega, fun x hx => ?_⟩
    simp only [List.foldl_cons]
    rcases List.mem_cons.1 hx with rfl | hx
    · omega
    · exact h2 x hx
theorem minL_mem_aux : ∀ (l : List Int) (z : Int), l.foldl min z = z ∨ l.foldl min z ∈ l
  | [], z => .inl rfl
  | y :: l, z => by
    simp only [List.foldl_cons]
    rcases minL_mem_aux l (min z y) with h | h
    · rw [h]
      by_cases hc : z ≤ y
      · left; omega
      · right; rw [show min z y = y from by omega]; simp
    · right; simp [h]
theorem maxL_le_aux : ∀ (l : List Int) (z : Int), z ≤ l.foldl max z ∧ ∀ x ∈ l, x ≤ l.foldl max z
  | [], z => ⟨Int.le_refl _, fun x h => by simp at h⟩
  | y :: l, z => by
    obtain ⟨h1, h2⟩ := maxL_le_aux l (max z y)
    refine ⟨by simp only [List.foldl_cons]; omega, fun x hx => ?_⟩
    simp only [List.foldl_cons]
    rcases List.mem_cons.1 hx with rfl | hx
    · omega
    · exact h2 x hx
theorem maxL_mem_aux : ∀ (l : List Int) (z : Int), l.foldl max z = z ∨ l.foldl max z ∈ l
  | [], z => .inl rfl
  | y :: l, z => by
    simp only [List.foldl_cons]
    rcases maxL_mem_aux l (max z y) with h | h
    · rw [h]
      by_cases hc : y ≤ z
      · left; omega
      · right; rw [show max z y = y from by omega]; simp
    · right; simp [h]
theorem head_mem {l : List Int} (h : l ≠ []) : l.headD 0 ∈ l := by cases l with | nil => exact absurd rfl h | cons x l => simp
theorem minL_lt {l : List Int} (h : l ≠ []) {z : Int} : z ≤ minL l ↔ ∀ x ∈ l, z ≤ x := by
  constructor
  · intro h1 x hx; have := (minL_le_aux l (l.headD 0)).2 x hx; unfold minL at h1; omega
  · intro h1
    unfold minL
    rcases minL_mem_aux l (l.headD 0) with h2 | h2
    · rw [h2]; exact h1 _ (head_mem h)
    · exact h1 _ h2
theorem maxL_lt {l : List Int} (h : l ≠ []) {z : Int} : maxL l < z ↔ ∀ x ∈ l, x < z := by
  constructor
  · intro h1 x hx; have := (maxL_le_aux l (l.headD 0)).2 x hx; unfold maxL at h1; omega
  · intro h1
    unfold maxL
    rcases maxL_mem_aux l (l.headD 0) with h2 | h2
    · rw [h2]; exact h1 _ (head_mem h)
    · exact h1 _ h2
theorem min_c (w0 : World) (v : Value) (l : List Int) (h : IntsAt w0 v l) (hl : l ≠ []) : Ret Try.prog 85 #[v] w0 fun r w => r = .int .i64 (minL l) ∧ Ext w0 w := by
  obtain ⟨a, c, rfl⟩ := SlAt.form h
  have hlen : l.length ≤ 9223372036854775807 := by simpa using SlAt.le h
  simp only [List.length_map] at h ⊢
  have hpos : 0 < l.length := List.length_pos_iff.2 hl
  obtain ⟨b, o, rfl, hcl⟩ := ints_cells h hpos
  obtain ⟨x0, hx0⟩ := get_of_lt (l := l) (i := 0) hpos
  have hh : l.headD 0 = x0 := by cases l with | nil => simp at hx0 | cons y l => simpa using hx0
  refine Ret_of Try.func85 rfl Try.ntmps85 (Nat.le_of_ble_eq_true rfl) ?_
  have E : Chg none1 w0 w0 := Chg.refl _ _
  refine Wp_seq_region ?_
  refine WpL_val rfl rfl (by decide) (r_assign (v := (.int .i64 0)) rfl) ?_
  refine WpL_nil ?_
  refine Wp_seq ?_
  refine Wp_seq_region ?_
  refine WpL_val rfl rfl (by decide) (r_move (v := (.slice (some ⟨b, o, none⟩) l.length c)) rfl) ?_
  refine WpL_val rfl rfl (by decide) (r_lenSlice (ad := some ⟨b, o, none⟩) (n := l.length) (cap := c) Try.underlying22 rfl) ?_
  refine WpL_val rfl rfl (by decide) (r_lss (k := .i64) (a := ((l.length : Nat) : Int)) (b := 1) rfl rfl) ?_
  refine WpL_nil ?_
  have hc1 : (decide ((((l.length : Nat) : Int) : Int) < 1)) = false := by simp; omega
  refine Wp_cond_false (congrArg Value.bool hc1) ?_
  refine Wp_skip ?_
  refine thn_normal ?_
  refine Wp_seq_region ?_
  refine WpL_val rfl rfl (by decide) (r_move (v := (.slice (some ⟨b, o, none⟩) l.length c)) rfl) ?_
  refine WpL_val rfl rfl (by decide) (r_indexSlice (b := b) (o := o) (len := l.length) (cap := c) (i := 0) (o' := o + 0) rfl rfl rfl Try.underlying22 siz3 (by omega) (by omega)) ?_
  refine WpL_val rfl rfl (by decide) (r_load (v := (.int .i64 x0)) rfl flat3 (E.cell (fun f => f) (hcl 0 x0 hx0))) ?_
  refine WpL_val rfl rfl (by decide) (r_assign (v := (.int .i64 x0)) rfl) ?_
  refine WpL_nil ?_
  refine Wp_seq ?_
  refine Wp_seq_region ?_
  refine WpL_val rfl rfl (by decide) (r_assign (v := (.int .i64 1)) rfl) ?_
  refine WpL_nil ?_
  refine Wp_block ?_
  refine Wp_loop (fun nn_ σ W2 => ∃ (k : Nat) (m : Int), (∃ jj_, σ = upds jj_ [(0, (.slice (some ⟨b, o, none⟩) l.length c)), (4, (.int .i64 ((k : Nat) : Int))), (3, (.int .i64 m))]) ∧ Chg none1 w0 W2 ∧ (1 ≤ k ∧ k ≤ l.length) ∧ (m = (l.take k).foldl min (l.headD 0)) ∧ nn_ = l.length - k) (n := l.length - 1) ?_ ?_
  · exact ⟨1, x0, Fits.out ⟨rfl, rfl, rfl, trivial⟩, E, ⟨Nat.le_refl _, by omega⟩, (by rw [fold_take _ hx0, hh]; simp), rfl⟩
  · clear E
    rintro _ _ W2 ⟨k, m, ⟨j2, rfl⟩, E, hk, hm, rfl⟩
    refine Wp_seq ?_
    refine Wp_seq_region ?_
    refine WpL_val rfl rfl (by decide) (r_move (v := (.int .i64 ((k : Nat) : Int))) rfl) ?_
    refine WpL_val rfl rfl (by decide) (r_move (v := (.slice (some ⟨b, o, none⟩) l.length c)) rfl) ?_
    refine WpL_val rfl rfl (by decide) (r_lenSlice (ad := some ⟨b, o, none⟩) (n := l.length) (cap := c) Try.underlying22 rfl) ?_
    refine WpL_val rfl rfl (by decide) (r_lss (k := .i64) (a := ((k : Nat) : Int)) (b := ((l.length : Nat) : Int)) rfl rfl) ?_
    refine WpL_nil ?_
    refine Wp_cond (b := decide ((((k : Nat) : Int) : Int) < ((l.length : Nat) : Int))) rfl (fun hlt => ?_) (fun hlt => ?_)
    · have khlt := hlt
      replace hlt := of_decide_eq_true hlt
      obtain ⟨x, hx⟩ := get_of_lt (l := l) (i := k) (by omega)
      refine Wp_skip ?_
      refine thn_normal ?_
      refine Wp_seq ?_
      refine Wp_block ?_
      refine Wp_region ?_
      refine WpL_val rfl rfl (by decide) (r_move (v := (.int .i64 m)) rfl) ?_
      refine WpL_val rfl rfl (by decide) (r_move (v := (.slice (some ⟨b, o, none⟩) l.length c)) rfl) ?_
      refine WpL_val rfl rfl (by decide) (r_move (v := (.int .i64 ((k : Nat) : Int))) rfl) ?_
      refine WpL_val rfl rfl (by decide) (r_indexSlice (b := b) (o := o) (len := l.length) (cap := c) (i := k) (o' := o + k) rfl rfl rfl Try.underlying22 siz3 (by omega) (by omega)) ?_
      refine WpL_val rfl rfl (by decide) (r_load (v := (.int .i64 x)) rfl flat3 (E.cell (fun f => f) (hcl k x hx))) ?_
      refine WpL_val rfl rfl (by decide) (r_minI rfl rfl rfl) ?_
      refine WpL_val rfl rfl (by decide) (r_assign (v := (.int .i64 (min m x))) rfl) ?_
      refine WpL_nil ?_
      refine inB_normal ?_
      refine thn_normal ?_
      refine Wp_region ?_
      refine WpL_val rfl rfl (by decide) (r_move (v := (.int .i64 ((k : Nat) : Int))) rfl) ?_
      refine WpL_val rfl rfl (by decide) (r_add (k := .i64) (a := ((k : Nat) : Int)) (b := 1) (c := ((k : Nat) : Int) + 1) rfl rfl (wI64 (by omega))) ?_
      refine WpL_val rfl rfl (by decide) (r_assign (v := (.int .i64 (((k : Nat) : Int) + 1))) rfl) ?_
      refine WpL_nil ?_
      refine thn_normal ?_
      exact ⟨l.length - (k + 1), by omega, k + 1, (min m x), Fits.out ⟨rfl, rfl, rfl, trivial⟩, E, ⟨by omega, by omega⟩, (by rw [fold_take _ hx, hm]), rfl⟩
    · have khlt := hlt
      replace hlt := of_decide_eq_false hlt
      have hkk : k = l.length := by omega
      refine Wp_exit ?_
      refine thn_exit ?_
      refine thn_exit ?_
      refine inB_here ?_
      refine thn_normal ?_
      refine Wp_seq_region ?_
      refine WpL_val rfl rfl (by decide) (r_move (v := (.int .i64 m)) rfl) ?_
      refine WpL_val rfl rfl (by decide) (r_assign (v := (.int .i64 m)) rfl) ?_
      refine WpL_nil ?_
      refine Wp_ret ?_
      refine fin_tmp Try.results85 (v := (.int .i64 m)) rfl ?_
      refine ⟨int_eq ?_, E⟩
      rw [hm, hkk, List.take_length]; rfl
theorem max_c (w0 : World) (v : Value) (l : List Int) (h : IntsAt w0 v l) (hl : l ≠ []) : Ret Try.prog 86 #[v] w0 fun r w => r = .int .i64 (maxL l) ∧ Ext w0 w := by
  obtain ⟨a, c, rfl⟩ := SlAt.form h
  have hlen : l.length ≤ 9223372036854775807 := by simpa using SlAt.le h
  simp only [List.length_map] at h ⊢
  have hpos : 0 < l.length := List.length_pos_iff.2 hl
  obtain ⟨b, o, rfl, hcl⟩ := ints_cells h hpos
  obtain ⟨x0, hx0⟩ := get_of_lt (l := l) (i := 0) hpos
  have hh : l.headD 0 = x0 := by cases l with | nil => simp at hx0 | cons y l => simpa using hx0
  refine Ret_of Try.func86 rfl Try.ntmps86 (Nat.le_of_ble_eq_true rfl) ?_
  have E : Chg none1 w0 w0 := Chg.refl _ _
  refine Wp_seq_region ?_
  refine WpL_val rfl rfl (by decide) (r_assign (v := (.int .i64 0)) rfl) ?_
  refine WpL_nil ?_
  refine Wp_seq ?_
  refine Wp_seq_region ?_
  refine WpL_val rfl rfl (by decide) (r_move (v := (.slice (some ⟨b, o, none⟩) l.length c)) rfl) ?_
  refine WpL_val rfl rfl (by decide) (r_lenSlice (ad := some ⟨b, o, none⟩) (n := l.length) (cap := c) Try.underlying22 rfl) ?_
  refine WpL_val rfl rfl (by decide) (r_lss (k := .i64) (a := ((l.length : Nat) : Int)) (b := 1) rfl rfl) ?_
  refine WpL_nil ?_
  have hc1 : (decide ((((l.length : Nat) : Int) : Int) < 1)) = false := by simp; omega
  refine Wp_cond_false (congrArg Value.bool hc1) ?_
  refine Wp_skip ?_
  refine thn_normal ?_
  refine Wp_seq_region ?_
  refine WpL_val rfl rfl (by decide) (r_move (v := (.slice (some ⟨b, o, none⟩) l.length c)) rfl) ?_
  refine WpL_val rfl rfl (by decide) (r_indexSlice (b := b) (o := o) (len := l.length) (cap := c) (i := 0) (o' := o + 0) rfl rfl rfl Try.underlying22 siz3 (by omega) (by omega)) ?_
  refine WpL_val rfl rfl (by decide) (r_load (v := (.int .i64 x0)) rfl flat3 (E.cell (fun f => f) (hcl 0 x0 hx0))) ?_
  refine WpL_val rfl rfl (by decide) (r_assign (v := (.int .i64 x0)) rfl) ?_
  refine WpL_nil ?_
  refine Wp_seq ?_
  refine Wp_seq_region ?_
  refine WpL_val rfl rfl (by decide) (r_assign (v := (.int .i64 1)) rfl) ?_
  refine WpL_nil ?_
  refine Wp_block ?_
  refine Wp_loop (fun nn_ σ W2 => ∃ (k : Nat) (m : Int), (∃ jj_, σ = upds jj_ [(0, (.slice (some ⟨b, o, none⟩) l.length c)), (4, (.int .i64 ((k : Nat) : Int))), (3, (.int .i64 m))]) ∧ Chg none1 w0 W2 ∧ (1 ≤ k ∧ k ≤ l.length) ∧ (m = (l.take k).foldl max (l.headD 0)) ∧ nn_ = l.length - k) (n := l.length - 1) ?_ ?_
  · exact ⟨1, x0, Fits.out ⟨rfl, rfl, rfl, trivial⟩, E, ⟨Nat.le_refl _, by omega⟩, (by rw [fold_take _ hx0, hh]; simp), rfl⟩
  · clear E
    rintro _ _ W2 ⟨k, m, ⟨j2, rfl⟩, E, hk, hm, rfl⟩
    refine Wp_seq ?_
    refine Wp_seq_region ?_
    refine WpL_val rfl rfl (by decide) (r_move (v := (.int .i64 ((k : Nat) : Int))) rfl) ?_
    refine WpL_val rfl rfl (by decide) (r_move (v := (.slice (some ⟨b, o, none⟩) l.length c)) rfl) ?_
    refine WpL_val rfl rfl (by decide) (r_lenSlice (ad := some ⟨b, o, none⟩) (n := l.length) (cap := c) Try.underlying22 rfl) ?_
    refine WpL_val rfl rfl (by decide) (r_lss (k := .i64) (a := ((k : Nat) : Int)) (b := ((l.length : Nat) : Int)) rfl rfl) ?_
    refine WpL_nil ?_
    refine Wp_cond (b := decide ((((k : Nat) : Int) : Int) < ((l.length : Nat) : Int))) rfl (fun hlt => ?_) (fun hlt => ?_)
    · have khlt := hlt
      replace hlt := of_decide_eq_true hlt
      obtain ⟨x, hx⟩ := get_of_lt (l := l) (i := k) (by omega)
      refine Wp_skip ?_
      refine thn_normal ?_
      refine Wp_seq ?_
      refine Wp_block ?_
      refine Wp_region ?_
      refine WpL_val rfl rfl (by decide) (r_move (v := (.int .i64 m)) rfl) ?_
      refine WpL_val rfl rfl (by decide) (r_move (v := (.slice (some ⟨b, o, none⟩) l.length c)) rfl) ?_
      refine WpL_val rfl rfl (by decide) (r_move (v := (.int .i64 ((k : Nat) : Int))) rfl) ?_
      refine WpL_val rfl rfl (by decide) (r_indexSlice (b := b) (o := o) (len := l.length) (cap := c) (i := k) (o' := o + k) rfl rfl rfl Try.underlying22 siz3 (by omega) (by omega)) ?_
      refine WpL_val rfl rfl (by decide) (r_load (v := (.int .i64 x)) rfl flat3 (E.cell (fun f => f) (hcl k x hx))) ?_
      refine WpL_val rfl rfl (by decide) (r_maxI rfl rfl rfl) ?_
      refine WpL_val rfl rfl (by decide) (r_assign (v := (.int .i64 (max m x))) rfl) ?_
      refine WpL_nil ?_
      refine inB_normal ?_
      refine thn_normal ?_
      refine Wp_region ?_
      refine WpL_val rfl rfl (by decide) (r_move (v := (.int .i64 ((k : Nat) : Int))) rfl) ?_
      refine WpL_val rfl rfl (by decide) (r_add (k := .i64) (a := ((k : Nat) : Int)) (b := 1) (c := ((k : Nat) : Int) + 1) rfl rfl (wI64 (by omega))) ?_
      refine WpL_val rfl rfl (by decide) (r_assign (v := (.int .i64 (((k : Nat) : Int) + 1))) rfl) ?_
      refine WpL_nil ?_
      refine thn_normal ?_
      exact ⟨l.length - (k + 1), by omega, k + 1, (max m x), Fits.out ⟨rfl, rfl, rfl, trivial⟩, E, ⟨by omega, by omega⟩, (by rw [fold_take _ hx, hm]), rfl⟩
    · have khlt := hlt
      replace hlt := of_decide_eq_false hlt
      have hkk : k = l.length := by omega
      refine Wp_exit ?_
      refine thn_exit ?_
      refine thn_exit ?_
      refine inB_here ?_
      refine thn_normal ?_
      refine Wp_seq_region ?_
      refine WpL_val rfl rfl (by decide) (r_move (v := (.int .i64 m)) rfl) ?_
      refine WpL_val rfl rfl (by decide) (r_assign (v := (.int .i64 m)) rfl) ?_
      refine WpL_nil ?_
      refine Wp_ret ?_
      refine fin_tmp Try.results86 (v := (.int .i64 m)) rfl ?_
      refine ⟨int_eq ?_, E⟩
      rw [hm, hkk, List.take_length]; rfl
def badRow (n : Int) (r : List Int) : Bool := decide (minL r < -1) || decide (n ≤ maxL r)
def bad0 (d : Dfa) : Bool := (decide (d.start < 0) || decide ((d.next.length : Int) ≤ d.start)) || decide (minL d.accept < -1)
def formRow (c : Nat) (r : List Int) : Bool := decide ((r.length : Int) = 0) || decide ((r.length : Int) ≠ (c : Int))
def colsD (d : Dfa) : Nat := (d.next.headD []).length
def checkD (d : Dfa) : Int :=
  if 200 < d.next.length then 2 else if d.next.length = 0 ∨ d.accept.length ≠ d.next.length then 3 else if 16 < colsD d then 2
  else if d.next.any (formRow (colsD d)) = true then 3
  else if (bad0 d || d.next.any (badRow d.next.length)) = true then 1 else 0
set_option maxHeartbeats 4000000 in
theorem dcheck_c (w0 : World) (d : Dfa) (vs : List Value) (hd : DfaAt w0 d vs) : Ret Try.prog 50 #[.agg vs.toArray] w0 fun r w => r = .int .i64 (checkD d) ∧ Ext w0 w := by
  obtain ⟨aa, ac, na, nc, rfl, ha, hn⟩ := hd
  have hal : d.accept.length ≤ 9223372036854775807 := by simpa using SlAt.le ha
  obtain ⟨_, _, hv, hcap, hle⟩ := hn.form
  simp only [Value.slice.injEq] at hv
  obtain ⟨rfl, _, rfl⟩ := hv
  refine Ret_of Try.func50 rfl Try.ntmps50 (Nat.le_of_ble_eq_true rfl) ?_
  have E : Chg none1 w0 w0 := Chg.refl _ _
  refine Wp_seq_region ?_
  refine s_box (v := (.agg #[(.int .i64 d.start), (.slice aa d.accept.length ac), (.slice na d.next.length nc)])) (c := #[(.int .i64 d.start), (.slice aa d.accept.length ac), (.slice na d.next.length nc)]) (by decide) rfl rfl ?_
  intro br wr Nr
  have Fr := Nr.ge E
  replace E := E.ext Nr.ext
  have Br := Nr.blk
  refine WpL_val rfl rfl (by decide) (r_assign (v := (.int .i64 0)) rfl) ?_
  refine WpL_nil ?_
  refine Wp_seq_region ?_
  refine WpL_val rfl rfl (by decide) (r_fieldAddr (b := br) (o := 0) (o' := 2) rfl Try.underlying25 rfl siz23 rfl) ?_
  refine WpL_val rfl rfl (by decide) (r_load (v := (.slice na d.next.length nc)) rfl flat23 (Br.cell rfl)) ?_
  refine WpL_val rfl rfl (by decide) (r_lenSlice (ad := na) (n := d.next.length) (cap := nc) Try.underlying23 rfl) ?_
  refine WpL_val rfl rfl (by decide) (r_assign (v := (.int .i64 ((d.next.length : Nat) : Int))) rfl) ?_
  refine WpL_nil ?_
  refine Wp_seq ?_
  refine Wp_block ?_
  refine Wp_seq_region ?_
  refine WpL_val rfl rfl (by decide) (r_move (v := (.int .i64 ((d.next.length : Nat) : Int))) rfl) ?_
  refine WpL_val rfl rfl (by decide) (r_gtr (k := .i64) (a := ((d.next.length : Nat) : Int)) (b := 200) rfl rfl) ?_
  refine WpL_val rfl rfl (by decide) (r_assign (v := (.bool (decide ((200 : Int) < ((d.next.length : Nat) : Int))))) rfl) ?_
  refine WpL_nil ?_
  refine Wp_cond (b := decide ((200 : Int) < ((d.next.length : Nat) : Int))) rfl (fun h1 => ?_) (fun h1 => ?_)
  · have kh1 := h1
    replace h1 := of_decide_eq_true h1
    refine Wp_seq_region ?_
    refine WpL_val rfl rfl (by decide) (r_assign (v := (.int .i64 2)) rfl) ?_
    refine WpL_nil ?_
    refine Wp_ret ?_
    refine inB_ret ?_
    refine thn_ret ?_
    refine fin_tmp Try.results50 (v := (.int .i64 2)) rfl ?_
    exact ⟨int_eq (by unfold checkD; rw [if_pos (by omega)]), E⟩
  · have kh1 := h1
    replace h1 := of_decide_eq_false h1
    refine Wp_seq_region ?_
    refine WpL_val rfl rfl (by decide) (r_move (v := (.int .i64 ((d.next.length : Nat) : Int))) rfl) ?_
    obtain ⟨e2, he2⟩ : ∃ e, (decide ((((d.next.length : Nat) : Int) : Int) = 0)) = e := ⟨_, rfl⟩
    refine WpL_val rfl rfl (by decide) ((r_eql (k := .i64) (a := ((d.next.length : Nat) : Int)) (b := 0) rfl rfl).trans (by rw [he2]; try rfl)) ?_
    refine WpL_val rfl rfl (by decide) (r_move (v := (.bool e2)) rfl) ?_
    refine WpL_guard_any (oj := _) (gv := (.bool e2)) (u := (bif e2 then undef else (.pointer (some ⟨br, 1, none⟩)))) rfl rfl (by decide) (by decide) rfl (by cases e2 <;> first | exact Or.inr ⟨Or.inl rfl, rfl⟩ | exact Or.inr ⟨Or.inr rfl, rfl⟩ | exact Or.inl ⟨rfl, r_fieldAddr (b := br) (o := 0) (o' := 1) rfl Try.underlying25 rfl siz22 rfl⟩) ?_
    refine WpL_guard_any (oj := _) (gv := (.bool e2)) (u := (bif e2 then undef else (.slice aa d.accept.length ac))) rfl rfl (by decide) (by decide) rfl (by cases e2 <;> first | exact Or.inr ⟨Or.inl rfl, rfl⟩ | exact Or.inr ⟨Or.inr rfl, rfl⟩ | exact Or.inl ⟨rfl, r_load (v := (.slice aa d.accept.length ac)) rfl flat22 (Br.cell rfl)⟩) ?_
    refine WpL_guard_any (oj := _) (gv := (.bool e2)) (u := (bif e2 then undef else (.int .i64 ((d.accept.length : Nat) : Int)))) rfl rfl (by decide) (by decide) rfl (by cases e2 <;> first | exact Or.inr ⟨Or.inl rfl, rfl⟩ | exact Or.inr ⟨Or.inr rfl, rfl⟩ | exact Or.inl ⟨rfl, r_lenSlice (ad := aa) (n := d.accept.length) (cap := ac) Try.underlying22 rfl⟩) ?_
    refine WpL_guard_any (oj := _) (gv := (.bool e2)) (u := (bif e2 then undef else (.int .i64 ((d.next.length : Nat) : Int)))) rfl rfl (by decide) (by decide) rfl (by cases e2 <;> first | exact Or.inr ⟨Or.inl rfl, rfl⟩ | exact Or.inr ⟨Or.inr rfl, rfl⟩ | exact Or.inl ⟨rfl, r_move (v := (.int .i64 ((d.next.length : Nat) : Int))) rfl⟩) ?_
    obtain ⟨e3, he3⟩ : ∃ e, (decide ((((d.accept.length : Nat) : Int) : Int) ≠ ((d.next.length : Nat) : Int))) = e := ⟨_, rfl⟩
    refine WpL_guard_any (oj := _) (gv := (.bool e2)) (u := (bif e2 then undef else (.bool e3))) rfl rfl (by decide) (by decide) rfl (by cases e2 <;> first | exact Or.inr ⟨Or.inl rfl, rfl⟩ | exact Or.inr ⟨Or.inr rfl, rfl⟩ | exact Or.inl ⟨rfl, (r_neq (k := .i64) (a := ((d.accept.length : Nat) : Int)) (b := ((d.next.length : Nat) : Int)) rfl rfl).trans (by rw [he3]; try rfl)⟩) ?_
    obtain ⟨e4, he4⟩ : ∃ e, (e2 || e3) = e := ⟨_, rfl⟩
    refine WpL_val rfl rfl (by decide) (r_pick (b := e2) (v := .bool e4) rfl (by rw [← he4]; cases e2 <;> rfl)) ?_
    refine WpL_val rfl rfl (by decide) (r_assign (v := (.bool e4)) rfl) ?_
    refine WpL_nil ?_
    subst he4
    subst he3
    subst he2
    refine Wp_cond (b := ((decide ((((d.next.length : Nat) : Int) : Int) = 0)) || (decide ((((d.accept.length : Nat) : Int) : Int) ≠ ((d.next.length : Nat) : Int))))) rfl (fun h2 => ?_) (fun h2 => ?_)
    · have kh2 := h2
      refine Wp_seq_region ?_
      refine WpL_val rfl rfl (by decide) (r_assign (v := (.int .i64 3)) rfl) ?_
      refine WpL_nil ?_
      refine Wp_ret ?_
      refine inB_ret ?_
      refine thn_ret ?_
      refine fin_tmp Try.results50 (v := (.int .i64 3)) rfl ?_
      exact ⟨int_eq (by unfold checkD; rw [if_neg (by omega), if_pos (by simp only [Bool.or_eq_true, decide_eq_true_eq] at h2; omega)]), E⟩
    · have kh2 := h2
      simp only [Bool.or_eq_false_iff, decide_eq_false_iff_not] at h2
      have h20 : ¬ (d.next.length = 0 ∨ d.accept.length ≠ d.next.length) := by omega
      obtain ⟨row0, hrow0⟩ := get_of_lt (l := d.next) (i := 0) (by omega)
      have hc0 : colsD d = row0.length := by unfold colsD; cases hq : d.next with | nil => rw [hq] at hrow0; simp at hrow0 | cons y l => rw [hq] at hrow0; simp at hrow0; simp [hrow0]
      obtain ⟨nb, no, hna, hncl⟩ := intss_cells hn (by omega)
      subst hna
      obtain ⟨ra0, rc0, hcell0, hints0⟩ := hncl 0 row0 hrow0
      refine Wp_seq_region ?_
      refine WpL_val rfl rfl (by decide) (r_fieldAddr (b := br) (o := 0) (o' := 2) rfl Try.underlying25 rfl siz23 rfl) ?_
      refine WpL_val rfl rfl (by decide) (r_load (v := (.slice (some ⟨nb, no, none⟩) d.next.length nc)) rfl flat23 (Br.cell rfl)) ?_
      refine WpL_val rfl rfl (by decide) (r_indexSlice (b := nb) (o := no) (len := d.next.length) (cap := nc) (i := 0) (o' := no + 0) rfl rfl rfl Try.underlying23 siz22 (by omega) (by omega)) ?_
      refine WpL_val rfl rfl (by decide) (r_load (v := (.slice ra0 row0.length rc0)) rfl flat22 (E.cell (fun f => f) hcell0)) ?_
      refine WpL_val rfl rfl (by decide) (r_lenSlice (ad := ra0) (n := row0.length) (cap := rc0) Try.underlying22 rfl) ?_
      refine WpL_val rfl rfl (by decide) (r_gtr (k := .i64) (a := ((row0.length : Nat) : Int)) (b := 16) rfl rfl) ?_
      refine WpL_val rfl rfl (by decide) (r_assign (v := (.bool (decide ((16 : Int) < ((row0.length : Nat) : Int))))) rfl) ?_
      refine WpL_nil ?_
      refine Wp_cond (b := decide ((16 : Int) < ((row0.length : Nat) : Int))) rfl (fun h3 => ?_) (fun h3 => ?_)
      · have kh3 := h3
        replace h3 := of_decide_eq_true h3
        refine Wp_seq_region ?_
        refine WpL_val rfl rfl (by decide) (r_assign (v := (.int .i64 2)) rfl) ?_
        refine WpL_nil ?_
        refine Wp_ret ?_
        refine inB_ret ?_
        refine thn_ret ?_
        refine fin_tmp Try.results50 (v := (.int .i64 2)) rfl ?_
        exact ⟨int_eq (by unfold checkD; rw [if_neg (by omega), if_neg h20, if_pos (by omega)]), E⟩
      · have kh3 := h3
        replace h3 := of_decide_eq_false h3
        refine Wp_skip ?_
        refine inB_normal ?_
        refine thn_normal ?_
        refine Wp_seq ?_
        refine Wp_seq_region ?_
        refine WpL_val rfl rfl (by decide) (r_fieldAddr (b := br) (o := 0) (o' := 2) rfl Try.underlying25 rfl siz23 rfl) ?_
        refine WpL_val rfl rfl (by decide) (r_load (v := (.slice (some ⟨nb, no, none⟩) d.next.length nc)) rfl flat23 (Br.cell rfl)) ?_
        refine WpL_val rfl rfl (by decide) (r_lenSlice (ad := some ⟨nb, no, none⟩) (n := d.next.length) (cap := nc) Try.underlying23 rfl) ?_
        refine WpL_val rfl rfl (by decide) (r_move (v := (.int .i64 0)) rfl) ?_
        refine WpL_nil ?_
        refine Wp_block ?_
        refine Wp_loop (fun nn_ σ W7 => ∃ (k : Nat), (∃ jj_, σ = upds jj_ [(1, (.pointer (some ⟨br, 0, none⟩))), (3, (.int .i64 ((d.next.length : Nat) : Int))), (33, (.slice (some ⟨nb, no, none⟩) d.next.length nc)), (34, (.int .i64 ((d.next.length : Nat) : Int))), (35, (.int .i64 ((k : Nat) : Int)))]) ∧ Chg none1 w0 W7 ∧ Blk W7 br #[(.int .i64 d.start), (.slice aa d.accept.length ac), (.slice (some ⟨nb, no, none⟩) d.next.length nc)] 25 ∧ (k ≤ d.next.length) ∧ ((d.next.take k).any (formRow (colsD d)) = false) ∧ nn_ = d.next.length - k) (n := d.next.length - 0) ?_ ?_
        · exact ⟨0, Fits.out ⟨rfl, rfl, rfl, rfl, rfl, trivial⟩, E, Br, Nat.zero_le _, rfl, rfl⟩
        · clear E Br
          rintro _ _ W7 ⟨k, ⟨j7, rfl⟩, E, Br, hk, hno, rfl⟩
          refine Wp_seq_region ?_
          refine WpL_val rfl rfl (by decide) (r_lss (k := .i64) (a := ((k : Nat) : Int)) (b := ((d.next.length : Nat) : Int)) rfl rfl) ?_
          refine WpL_nil ?_
          refine Wp_seq ?_
          refine Wp_cond (b := decide ((((k : Nat) : Int) : Int) < ((d.next.length : Nat) : Int))) rfl (fun hlt => ?_) (fun hlt => ?_)
          · have khlt := hlt
            replace hlt := of_decide_eq_true hlt
            obtain ⟨row, hrow⟩ := get_of_lt (l := d.next) (i := k) (by omega)
            obtain ⟨ra, rc, hcell, hints⟩ := hncl k row hrow
            have hrl : row.length ≤ 9223372036854775807 := by simpa using SlAt.le hints
            refine Wp_skip ?_
            refine thn_normal ?_
            refine Wp_seq ?_
            refine Wp_block ?_
            refine Wp_seq_region ?_
            refine WpL_val rfl rfl (by decide) (r_indexSlice (b := nb) (o := no) (len := d.next.length) (cap := nc) (i := k) (o' := no + k) rfl rfl rfl Try.underlying23 siz22 (by omega) (by omega)) ?_
            refine WpL_val rfl rfl (by decide) (r_load (v := (.slice ra row.length rc)) rfl flat22 (E.cell (fun f => f) hcell)) ?_
            refine WpL_val rfl rfl (by decide) (r_assign (v := (.slice ra row.length rc)) rfl) ?_
            refine WpL_nil ?_
            refine Wp_seq_region ?_
            refine WpL_val rfl rfl (by decide) (r_move (v := (.slice ra row.length rc)) rfl) ?_
            refine WpL_val rfl rfl (by decide) (r_lenSlice (ad := ra) (n := row.length) (cap := rc) Try.underlying22 rfl) ?_
            obtain ⟨e9, he9⟩ : ∃ e, (decide ((((row.length : Nat) : Int) : Int) = 0)) = e := ⟨_, rfl⟩
            refine WpL_val rfl rfl (by decide) ((r_eql (k := .i64) (a := ((row.length : Nat) : Int)) (b := 0) rfl rfl).trans (by rw [he9]; try rfl)) ?_
            refine WpL_val rfl rfl (by decide) (r_move (v := (.bool e9)) rfl) ?_
            refine WpL_guard_any (oj := _) (gv := (.bool e9)) (u := (bif e9 then undef else (.slice ra row.length rc))) rfl rfl (by decide) (by decide) rfl (by cases e9 <;> first | exact Or.inr ⟨Or.inl rfl, rfl⟩ | exact Or.inr ⟨Or.inr rfl, rfl⟩ | exact Or.inl ⟨rfl, r_move (v := (.slice ra row.length rc)) rfl⟩) ?_
            refine WpL_guard_any (oj := _) (gv := (.bool e9)) (u := (bif e9 then undef else (.int .i64 ((row.length : Nat) : Int)))) rfl rfl (by decide) (by decide) rfl (by cases e9 <;> first | exact Or.inr ⟨Or.inl rfl, rfl⟩ | exact Or.inr ⟨Or.inr rfl, rfl⟩ | exact Or.inl ⟨rfl, r_lenSlice (ad := ra) (n := row.length) (cap := rc) Try.underlying22 rfl⟩) ?_
            refine WpL_guard_any (oj := _) (gv := (.bool e9)) (u := (bif e9 then undef else (.pointer (some ⟨br, 2, none⟩)))) rfl rfl (by decide) (by decide) rfl (by cases e9 <;> first | exact Or.inr ⟨Or.inl rfl, rfl⟩ | exact Or.inr ⟨Or.inr rfl, rfl⟩ | exact Or.inl ⟨rfl, r_fieldAddr (b := br) (o := 0) (o' := 2) rfl Try.underlying25 rfl siz23 rfl⟩) ?_
            refine WpL_guard_any (oj := _) (gv := (.bool e9)) (u := (bif e9 then undef else (.slice (some ⟨nb, no, none⟩) d.next.length nc))) rfl rfl (by decide) (by decide) rfl (by cases e9 <;> first | exact Or.inr ⟨Or.inl rfl, rfl⟩ | exact Or.inr ⟨Or.inr rfl, rfl⟩ | exact Or.inl ⟨rfl, r_load (v := (.slice (some ⟨nb, no, none⟩) d.next.length nc)) rfl flat23 (Br.cell rfl)⟩) ?_
            refine WpL_guard_any (oj := _) (gv := (.bool e9)) (u := (bif e9 then undef else (.pointer (some ⟨nb, no + 0, none⟩)))) rfl rfl (by decide) (by decide) rfl (by cases e9 <;> first | exact Or.inr ⟨Or.inl rfl, rfl⟩ | exact Or.inr ⟨Or.inr rfl, rfl⟩ | exact Or.inl ⟨rfl, r_indexSlice (b := nb) (o := no) (len := d.next.length) (cap := nc) (i := 0) (o' := no + 0) rfl rfl rfl Try.underlying23 siz22 (by have := of_decide_eq_false he9; omega) (by omega)⟩) ?_
            refine WpL_guard_any (oj := _) (gv := (.bool e9)) (u := (bif e9 then undef else (.slice ra0 row0.length rc0))) rfl rfl (by decide) (by decide) rfl (by cases e9 <;> first | exact Or.inr ⟨Or.inl rfl, rfl⟩ | exact Or.inr ⟨Or.inr rfl, rfl⟩ | exact Or.inl ⟨rfl, r_load (v := (.slice ra0 row0.length rc0)) rfl flat22 (E.cell (fun f => f) hcell0)⟩) ?_
            refine WpL_guard_any (oj := _) (gv := (.bool e9)) (u := (bif e9 then undef else (.int .i64 ((row0.length : Nat) : Int)))) rfl rfl (by decide) (by decide) rfl (by cases e9 <;> first | exact Or.inr ⟨Or.inl rfl, rfl⟩ | exact Or.inr ⟨Or.inr rfl, rfl⟩ | exact Or.inl ⟨rfl, r_lenSlice (ad := ra0) (n := row0.length) (cap := rc0) Try.underlying22 rfl⟩) ?_
            obtain ⟨e10, he10⟩ : ∃ e, (decide ((((row.length : Nat) : Int) : Int) ≠ ((row0.length : Nat) : Int))) = e := ⟨_, rfl⟩
            refine WpL_guard_any (oj := _) (gv := (.bool e9)) (u := (bif e9 then undef else (.bool e10))) rfl rfl (by decide) (by decide) rfl (by cases e9 <;> first | exact Or.inr ⟨Or.inl rfl, rfl⟩ | exact Or.inr ⟨Or.inr rfl, rfl⟩ | exact Or.inl ⟨rfl, (r_neq (k := .i64) (a := ((row.length : Nat) : Int)) (b := ((row0.length : Nat) : Int)) rfl rfl).trans (by rw [he10]; try rfl)⟩) ?_
            obtain ⟨e11, he11⟩ : ∃ e, (e9 || e10) = e := ⟨_, rfl⟩
            refine WpL_val rfl rfl (by decide) (r_pick (b := e9) (v := .bool e11) rfl (by rw [← he11]; cases e9 <;> rfl)) ?_
            refine WpL_nil ?_
            subst he11
            subst he10
            subst he9
            refine Wp_cond (b := ((decide ((((row.length : Nat) : Int) : Int) = 0)) || (decide ((((row.length : Nat) : Int) : Int) ≠ ((row0.length : Nat) : Int))))) rfl (fun hf => ?_) (fun hf => ?_)
            · have khf := hf
              refine Wp_seq_region ?_
              refine WpL_val rfl rfl (by decide) (r_assign (v := (.int .i64 3)) rfl) ?_
              refine WpL_nil ?_
              refine Wp_ret ?_
              refine inB_ret ?_
              refine thn_ret ?_
              refine thn_ret ?_
              refine inB_ret ?_
              refine thn_ret ?_
              refine fin_tmp Try.results50 (v := (.int .i64 3)) rfl ?_
              refine ⟨int_eq ?_, E⟩
              unfold checkD
              rw [if_neg (by omega), if_neg h20, if_neg (by omega), if_pos]
              exact List.any_eq_true.2 ⟨row, List.mem_of_getElem? hrow, by unfold formRow; rw [hc0]; simpa using hf⟩
            · have khf := hf
              refine Wp_skip ?_
              refine inB_normal ?_
              refine thn_normal ?_
              refine Wp_region ?_
              refine WpL_val rfl rfl (by decide) (r_add (k := .i64) (a := ((k : Nat) : Int)) (b := 1) (c := ((k : Nat) : Int) + 1) rfl rfl (wI64 (by omega))) ?_
              refine WpL_val rfl rfl (by decide) (r_move (v := (.int .i64 (((k : Nat) : Int) + 1))) rfl) ?_
              refine WpL_nil ?_
              refine thn_normal ?_
              exact ⟨d.next.length - (k + 1), by omega, k + 1, Fits.out ⟨rfl, rfl, rfl, rfl, rfl, trivial⟩, E, Br, (by omega), (by rw [List.take_add_one, hrow, List.any_append, hno]; simp only [Option.toList_some, List.any_cons, List.any_nil, Bool.or_false, Bool.false_or]; unfold formRow; rw [hc0]; simpa using hf), rfl⟩
          · have khlt := hlt
            replace hlt := of_decide_eq_false hlt
            have hkk : k = d.next.length := by omega
            rw [hkk, List.take_length] at hno
            have hrows : ∀ row ∈ d.next, row ≠ [] := fun row hr he => by have := (List.any_eq_false.1 hno) row hr; simp [formRow, he] at this
            have hane : d.accept ≠ [] := fun he => by rw [he] at h20; simp at h20; omega
            refine Wp_exit ?_
            refine thn_exit ?_
            refine thn_exit ?_
            refine inB_here ?_
            refine thn_normal ?_
            refine Wp_seq_region ?_
            refine WpL_val rfl rfl (by decide) (r_fieldAddr (b := br) (o := 0) (o' := 0) rfl Try.underlying25 rfl siz3 rfl) ?_
            refine WpL_val rfl rfl (by decide) (r_load (v := (.int .i64 d.start)) rfl flat3 (Br.cell rfl)) ?_
            refine WpL_val rfl rfl (by decide) (r_lss (k := .i64) (a := d.start) (b := 0) rfl rfl) ?_
            refine WpL_val rfl rfl (by decide) (r_move (v := (.bool (decide ((d.start : Int) < 0)))) rfl) ?_
            rcases Bool.eq_false_or_eq_true (decide ((d.start : Int) < 0)) with g1 | g1
            · have kg1 := g1
              replace kg1 := of_decide_eq_true kg1
              refine WpL_guard_no (oj := _) rfl rfl (by decide) (v := .bool true) (congrArg Value.bool g1) (Or.inl rfl) ?_
              refine WpL_guard_no (oj := _) rfl rfl (by decide) (v := .bool true) (congrArg Value.bool g1) (Or.inl rfl) ?_
              refine WpL_guard_no (oj := _) rfl rfl (by decide) (v := .bool true) (congrArg Value.bool g1) (Or.inl rfl) ?_
              refine WpL_guard_no (oj := _) rfl rfl (by decide) (v := .bool true) (congrArg Value.bool g1) (Or.inl rfl) ?_
              refine WpL_val rfl rfl (by decide) (r_pick (b := decide ((d.start : Int) < 0)) (v := (.bool true)) rfl (by rw [g1]; rfl)) ?_
              refine WpL_val rfl rfl (by decide) (r_move (v := (.bool true)) rfl) ?_
              refine WpL_guard_no (oj := _) rfl rfl (by decide) (v := .bool true) rfl (Or.inl rfl) ?_
              refine WpL_guard_no (oj := _) rfl rfl (by decide) (v := .bool true) rfl (Or.inl rfl) ?_
              refine WpL_guard_no (oj := _) rfl rfl (by decide) (v := .bool true) rfl (Or.inl rfl) ?_
              refine WpL_guard_no (oj := _) rfl rfl (by decide) (v := .bool true) rfl (Or.inl rfl) ?_
              refine WpL_val rfl rfl (by decide) (r_pick (b := true) (v := (.bool true)) rfl rfl) ?_
              refine WpL_val rfl rfl (by decide) (r_assign (v := (.bool true)) rfl) ?_
              refine WpL_nil ?_
              refine Wp_seq ?_
              refine Wp_seq_region ?_
              refine WpL_val rfl rfl (by decide) (r_fieldAddr (b := br) (o := 0) (o' := 2) rfl Try.underlying25 rfl siz23 rfl) ?_
              refine WpL_val rfl rfl (by decide) (r_load (v := (.slice (some ⟨nb, no, none⟩) d.next.length nc)) rfl flat23 (Br.cell rfl)) ?_
              refine WpL_val rfl rfl (by decide) (r_lenSlice (ad := some ⟨nb, no, none⟩) (n := d.next.length) (cap := nc) Try.underlying23 rfl) ?_
              refine WpL_val rfl rfl (by decide) (r_move (v := (.int .i64 0)) rfl) ?_
              refine WpL_nil ?_
              refine Wp_block ?_
              refine Wp_loop (fun nn_ σ W14 => ∃ (q : Nat) (bad : Bool), (∃ jj_, σ = upds jj_ [(3, (.int .i64 ((d.next.length : Nat) : Int))), (69, (.slice (some ⟨nb, no, none⟩) d.next.length nc)), (70, (.int .i64 ((d.next.length : Nat) : Int))), (71, (.int .i64 ((q : Nat) : Int))), (6, (.bool bad))]) ∧ Chg none1 w0 W14 ∧ Blk W14 br #[(.int .i64 d.start), (.slice aa d.accept.length ac), (.slice (some ⟨nb, no, none⟩) d.next.length nc)] 25 ∧ (q ≤ d.next.length) ∧ (bad = (bad0 d || (d.next.take q).any (badRow d.next.length))) ∧ nn_ = d.next.length - q) (n := d.next.length - 0) ?_ ?_
              · exact ⟨0, true, Fits.out ⟨rfl, rfl, rfl, rfl, rfl, trivial⟩, E, Br, Nat.zero_le _, (by simp only [List.take_zero, List.any_nil, Bool.or_false]; unfold bad0; rw [g1]; rfl), rfl⟩
              · clear E Br
                rintro _ _ W14 ⟨q, bad, ⟨j14, rfl⟩, E, Br, hq, hbad, rfl⟩
                refine Wp_seq_region ?_
                refine WpL_val rfl rfl (by decide) (r_lss (k := .i64) (a := ((q : Nat) : Int)) (b := ((d.next.length : Nat) : Int)) rfl rfl) ?_
                refine WpL_nil ?_
                refine Wp_seq ?_
                refine Wp_cond (b := decide ((((q : Nat) : Int) : Int) < ((d.next.length : Nat) : Int))) rfl (fun hltq => ?_) (fun hltq => ?_)
                · have khltq := hltq
                  replace hltq := of_decide_eq_true hltq
                  obtain ⟨row, hrow⟩ := get_of_lt (l := d.next) (i := q) (by omega)
                  obtain ⟨ra, rc, hcell, hints⟩ := hncl q row hrow
                  have hrne : row ≠ [] := hrows row (List.mem_of_getElem? hrow)
                  have hsucc : (bad0 d || (d.next.take (q + 1)).any (badRow d.next.length)) = (bad || badRow d.next.length row) := by rw [List.take_add_one, hrow, List.any_append, hbad]; simp [Bool.or_assoc]
                  refine Wp_skip ?_
                  refine thn_normal ?_
                  refine Wp_seq ?_
                  refine Wp_block ?_
                  refine Wp_seq_region ?_
                  refine WpL_val rfl rfl (by decide) (r_indexSlice (b := nb) (o := no) (len := d.next.length) (cap := nc) (i := q) (o' := no + q) rfl rfl rfl Try.underlying23 siz22 (by omega) (by omega)) ?_
                  refine WpL_val rfl rfl (by decide) (r_load (v := (.slice ra row.length rc)) rfl flat22 (E.cell (fun f => f) hcell)) ?_
                  refine WpL_val rfl rfl (by decide) (r_assign (v := (.slice ra row.length rc)) rfl) ?_
                  refine WpL_nil ?_
                  refine Wp_region ?_
                  refine WpL_val rfl rfl (by decide) (r_move (v := (.bool bad)) rfl) ?_
                  refine WpL_val rfl rfl (by decide) (r_move (v := (.bool bad)) rfl) ?_
                  rcases Bool.eq_false_or_eq_true (bad) with g5 | g5
                  · have kg5 := g5
                    refine WpL_guard_no (oj := _) rfl rfl (by decide) (v := .bool true) (congrArg Value.bool g5) (Or.inl rfl) ?_
                    refine WpL_guard_no (oj := _) rfl rfl (by decide) (v := .bool true) (congrArg Value.bool g5) (Or.inl rfl) ?_
                    refine WpL_guard_no (oj := _) rfl rfl (by decide) (v := .bool true) (congrArg Value.bool g5) (Or.inl rfl) ?_
                    refine WpL_val rfl rfl (by decide) (r_pick (b := bad) (v := (.bool true)) rfl (by rw [g5]; rfl)) ?_
                    refine WpL_val rfl rfl (by decide) (r_move (v := (.bool true)) rfl) ?_
                    refine WpL_guard_no (oj := _) rfl rfl (by decide) (v := .bool true) rfl (Or.inl rfl) ?_
                    refine WpL_guard_no (oj := _) rfl rfl (by decide) (v := .bool true) rfl (Or.inl rfl) ?_
                    refine WpL_guard_no (oj := _) rfl rfl (by decide) (v := .bool true) rfl (Or.inl rfl) ?_
                    refine WpL_guard_no (oj := _) rfl rfl (by decide) (v := .bool true) rfl (Or.inl rfl) ?_
                    refine WpL_val rfl rfl (by decide) (r_pick (b := true) (v := (.bool true)) rfl rfl) ?_
                    refine WpL_val rfl rfl (by decide) (r_assign (v := (.bool true)) rfl) ?_
                    refine WpL_nil ?_
                    refine inB_normal ?_
                    refine thn_normal ?_
                    refine Wp_region ?_
                    refine WpL_val rfl rfl (by decide) (r_add (k := .i64) (a := ((q : Nat) : Int)) (b := 1) (c := ((q : Nat) : Int) + 1) rfl rfl (wI64 (by omega))) ?_
                    refine WpL_val rfl rfl (by decide) (r_move (v := (.int .i64 (((q : Nat) : Int) + 1))) rfl) ?_
                    refine WpL_nil ?_
                    refine thn_normal ?_
                    exact ⟨d.next.length - (q + 1), by omega, q + 1, true, Fits.out ⟨rfl, rfl, rfl, rfl, rfl, trivial⟩, E, Br, (by omega), (by rw [hsucc, g5]; rfl), rfl⟩
                  · have kg5 := g5
                    refine WpL_guard_yes (oj := _) rfl rfl (by decide) (congrArg Value.bool g5) ?_
                    refine WpL_val rfl rfl (by decide) (r_move (v := (.slice ra row.length rc)) rfl) ?_
                    refine WpL_guard_yes (oj := _) rfl rfl (by decide) (congrArg Value.bool g5) ?_
                    refine WpL_enter rfl rfl (by decide) (r_callF (vs := [(.slice ra row.length rc)]) Try.func85 nm85 bd85 rfl) (min_c _ _ row (hints.ext E) hrne) ?_
                    rintro _ w19 ⟨rfl, X19⟩
                    replace Br := X19.keep Br
                    replace E := E.ext X19
                    refine WpL_guard_yes (oj := _) rfl rfl (by decide) (congrArg Value.bool g5) ?_
                    refine WpL_val rfl rfl (by decide) (r_lss (k := .i64) (a := minL row) (b := (-1)) rfl rfl) ?_
                    refine WpL_val rfl rfl (by decide) (r_pick (b := bad) (v := (.bool (decide ((minL row : Int) < (-1))))) rfl (by rw [g5]; rfl)) ?_
                    refine WpL_val rfl rfl (by decide) (r_move (v := (.bool (decide ((minL row : Int) < (-1))))) rfl) ?_
                    rcases Bool.eq_false_or_eq_true (decide ((minL row : Int) < (-1))) with g6 | g6
                    · have kg6 := g6
                      replace kg6 := of_decide_eq_true kg6
                      refine WpL_guard_no (oj := _) rfl rfl (by decide) (v := .bool true) (congrArg Value.bool g6) (Or.inl rfl) ?_
                      refine WpL_guard_no (oj := _) rfl rfl (by decide) (v := .bool true) (congrArg Value.bool g6) (Or.inl rfl) ?_
                      refine WpL_guard_no (oj := _) rfl rfl (by decide) (v := .bool true) (congrArg Value.bool g6) (Or.inl rfl) ?_
                      refine WpL_guard_no (oj := _) rfl rfl (by decide) (v := .bool true) (congrArg Value.bool g6) (Or.inl rfl) ?_
                      refine WpL_val rfl rfl (by decide) (r_pick (b := decide ((minL row : Int) < (-1))) (v := (.bool true)) rfl (by rw [g6]; rfl)) ?_
                      refine WpL_val rfl rfl (by decide) (r_assign (v := (.bool true)) rfl) ?_
                      refine WpL_nil ?_
                      refine inB_normal ?_
                      refine thn_normal ?_
                      refine Wp_region ?_
                      refine WpL_val rfl rfl (by decide) (r_add (k := .i64) (a := ((q : Nat) : Int)) (b := 1) (c := ((q : Nat) : Int) + 1) rfl rfl (wI64 (by omega))) ?_
                      refine WpL_val rfl rfl (by decide) (r_move (v := (.int .i64 (((q : Nat) : Int) + 1))) rfl) ?_
                      refine WpL_nil ?_
                      refine thn_normal ?_
                      exact ⟨d.next.length - (q + 1), by omega, q + 1, true, Fits.out ⟨rfl, rfl, rfl, rfl, rfl, trivial⟩, E, Br, (by omega), (by rw [hsucc, g5]; unfold badRow; rw [g6]; rfl), rfl⟩
                    · have kg6 := g6
                      replace kg6 := of_decide_eq_false kg6
                      refine WpL_guard_yes (oj := _) rfl rfl (by decide) (congrArg Value.bool g6) ?_
                      refine WpL_val rfl rfl (by decide) (r_move (v := (.slice ra row.length rc)) rfl) ?_
                      refine WpL_guard_yes (oj := _) rfl rfl (by decide) (congrArg Value.bool g6) ?_
                      refine WpL_enter rfl rfl (by decide) (r_callF (vs := [(.slice ra row.length rc)]) Try.func86 nm86 bd86 rfl) (max_c _ _ row (hints.ext E) hrne) ?_
                      rintro _ w29 ⟨rfl, X29⟩
                      replace Br := X29.keep Br
                      replace E := E.ext X29
                      refine WpL_guard_yes (oj := _) rfl rfl (by decide) (congrArg Value.bool g6) ?_
                      refine WpL_val rfl rfl (by decide) (r_move (v := (.int .i64 ((d.next.length : Nat) : Int))) rfl) ?_
                      refine WpL_guard_yes (oj := _) rfl rfl (by decide) (congrArg Value.bool g6) ?_
                      refine WpL_val rfl rfl (by decide) (r_geq (k := .i64) (a := maxL row) (b := ((d.next.length : Nat) : Int)) rfl rfl) ?_
                      refine WpL_val rfl rfl (by decide) (r_pick (b := decide ((minL row : Int) < (-1))) (v := (.bool (decide ((((d.next.length : Nat) : Int) : Int) ≤ maxL row)))) rfl (by rw [g6]; rfl)) ?_
                      refine WpL_val rfl rfl (by decide) (r_assign (v := (.bool (decide ((((d.next.length : Nat) : Int) : Int) ≤ maxL row)))) rfl) ?_
                      refine WpL_nil ?_
                      refine inB_normal ?_
                      refine thn_normal ?_
                      refine Wp_region ?_
                      refine WpL_val rfl rfl (by decide) (r_add (k := .i64) (a := ((q : Nat) : Int)) (b := 1) (c := ((q : Nat) : Int) + 1) rfl rfl (wI64 (by omega))) ?_
                      refine WpL_val rfl rfl (by decide) (r_move (v := (.int .i64 (((q : Nat) : Int) + 1))) rfl) ?_
                      refine WpL_nil ?_
                      refine thn_normal ?_
                      exact ⟨d.next.length - (q + 1), by omega, q + 1, (decide ((((d.next.length : Nat) : Int) : Int) ≤ maxL row)), Fits.out ⟨rfl, rfl, rfl, rfl, rfl, trivial⟩, E, Br, (by omega), (by rw [hsucc, g5]; unfold badRow; rw [g6]; rfl), rfl⟩
                · have khltq := hltq
                  replace hltq := of_decide_eq_false hltq
                  have hqq : q = d.next.length := by omega
                  rw [hqq, List.take_length] at hbad
                  refine Wp_exit ?_
                  refine thn_exit ?_
                  refine thn_exit ?_
                  refine inB_here ?_
                  refine thn_normal ?_
                  refine Wp_seq ?_
                  refine Wp_seq_region ?_
                  refine WpL_val rfl rfl (by decide) (r_move (v := (.bool bad)) rfl) ?_
                  refine WpL_nil ?_
                  refine Wp_cond (b := bad) rfl (fun hb => ?_) (fun hb => ?_)
                  · have khb := hb
                    refine Wp_seq_region ?_
                    refine WpL_val rfl rfl (by decide) (r_assign (v := (.int .i64 1)) rfl) ?_
                    refine WpL_nil ?_
                    refine Wp_ret ?_
                    refine thn_ret ?_
                    refine fin_tmp Try.results50 (v := (.int .i64 1)) rfl ?_
                    exact ⟨int_eq (by unfold checkD; rw [if_neg (by omega), if_neg h20, if_neg (by omega), if_neg (by rw [hno]; simp), if_pos (by rw [← hbad]; exact hb)]), E⟩
                  · have khb := hb
                    refine Wp_skip ?_
                    refine thn_normal ?_
                    refine Wp_seq_region ?_
                    refine WpL_val rfl rfl (by decide) (r_assign (v := (.int .i64 0)) rfl) ?_
                    refine WpL_nil ?_
                    refine Wp_ret ?_
                    refine fin_tmp Try.results50 (v := (.int .i64 0)) rfl ?_
                    exact ⟨int_eq (by unfold checkD; rw [if_neg (by omega), if_neg h20, if_neg (by omega), if_neg (by rw [hno]; simp), if_neg (by rw [← hbad, hb]; simp)]), E⟩
            · have kg1 := g1
              replace kg1 := of_decide_eq_false kg1
              refine WpL_guard_yes (oj := _) rfl rfl (by decide) (congrArg Value.bool g1) ?_
              refine WpL_val rfl rfl (by decide) (r_fieldAddr (b := br) (o := 0) (o' := 0) rfl Try.underlying25 rfl siz3 rfl) ?_
              refine WpL_guard_yes (oj := _) rfl rfl (by decide) (congrArg Value.bool g1) ?_
              refine WpL_val rfl rfl (by decide) (r_load (v := (.int .i64 d.start)) rfl flat3 (Br.cell rfl)) ?_
              refine WpL_guard_yes (oj := _) rfl rfl (by decide) (congrArg Value.bool g1) ?_
              refine WpL_val rfl rfl (by decide) (r_move (v := (.int .i64 ((d.next.length : Nat) : Int))) rfl) ?_
              refine WpL_guard_yes (oj := _) rfl rfl (by decide) (congrArg Value.bool g1) ?_
              refine WpL_val rfl rfl (by decide) (r_geq (k := .i64) (a := d.start) (b := ((d.next.length : Nat) : Int)) rfl rfl) ?_
              refine WpL_val rfl rfl (by decide) (r_pick (b := decide ((d.start : Int) < 0)) (v := (.bool (decide ((((d.next.length : Nat) : Int) : Int) ≤ d.start)))) rfl (by rw [g1]; rfl)) ?_
              refine WpL_val rfl rfl (by decide) (r_move (v := (.bool (decide ((((d.next.length : Nat) : Int) : Int) ≤ d.start)))) rfl) ?_
              rcases Bool.eq_false_or_eq_true (decide ((((d.next.length : Nat) : Int) : Int) ≤ d.start)) with g2 | g2
              · have kg2 := g2
                replace kg2 := of_decide_eq_true kg2
                refine WpL_guard_no (oj := _) rfl rfl (by decide) (v := .bool true) (congrArg Value.bool g2) (Or.inl rfl) ?_
                refine WpL_guard_no (oj := _) rfl rfl (by decide) (v := .bool true) (congrArg Value.bool g2) (Or.inl rfl) ?_
                refine WpL_guard_no (oj := _) rfl rfl (by decide) (v := .bool true) (congrArg Value.bool g2) (Or.inl rfl) ?_
                refine WpL_guard_no (oj := _) rfl rfl (by decide) (v := .bool true) (congrArg Value.bool g2) (Or.inl rfl) ?_
                refine WpL_val rfl rfl (by decide) (r_pick (b := decide ((((d.next.length : Nat) : Int) : Int) ≤ d.start)) (v := (.bool true)) rfl (by rw [g2]; rfl)) ?_
                refine WpL_val rfl rfl (by decide) (r_assign (v := (.bool true)) rfl) ?_
                refine WpL_nil ?_
                refine Wp_seq ?_
                refine Wp_seq_region ?_
                refine WpL_val rfl rfl (by decide) (r_fieldAddr (b := br) (o := 0) (o' := 2) rfl Try.underlying25 rfl siz23 rfl) ?_
                refine WpL_val rfl rfl (by decide) (r_load (v := (.slice (some ⟨nb, no, none⟩) d.next.length nc)) rfl flat23 (Br.cell rfl)) ?_
                refine WpL_val rfl rfl (by decide) (r_lenSlice (ad := some ⟨nb, no, none⟩) (n := d.next.length) (cap := nc) Try.underlying23 rfl) ?_
                refine WpL_val rfl rfl (by decide) (r_move (v := (.int .i64 0)) rfl) ?_
                refine WpL_nil ?_
                refine Wp_block ?_
                refine Wp_loop (fun nn_ σ W20 => ∃ (q : Nat) (bad : Bool), (∃ jj_, σ = upds jj_ [(3, (.int .i64 ((d.next.length : Nat) : Int))), (69, (.slice (some ⟨nb, no, none⟩) d.next.length nc)), (70, (.int .i64 ((d.next.length : Nat) : Int))), (71, (.int .i64 ((q : Nat) : Int))), (6, (.bool bad))]) ∧ Chg none1 w0 W20 ∧ Blk W20 br #[(.int .i64 d.start), (.slice aa d.accept.length ac), (.slice (some ⟨nb, no, none⟩) d.next.length nc)] 25 ∧ (q ≤ d.next.length) ∧ (bad = (bad0 d || (d.next.take q).any (badRow d.next.length))) ∧ nn_ = d.next.length - q) (n := d.next.length - 0) ?_ ?_
                · exact ⟨0, true, Fits.out ⟨rfl, rfl, rfl, rfl, rfl, trivial⟩, E, Br, Nat.zero_le _, (by simp only [List.take_zero, List.any_nil, Bool.or_false]; unfold bad0; rw [g1, g2]; rfl), rfl⟩
                · clear E Br
                  rintro _ _ W20 ⟨q, bad, ⟨j20, rfl⟩, E, Br, hq, hbad, rfl⟩
                  refine Wp_seq_region ?_
                  refine WpL_val rfl rfl (by decide) (r_lss (k := .i64) (a := ((q : Nat) : Int)) (b := ((d.next.length : Nat) : Int)) rfl rfl) ?_
                  refine WpL_nil ?_
                  refine Wp_seq ?_
                  refine Wp_cond (b := decide ((((q : Nat) : Int) : Int) < ((d.next.length : Nat) : Int))) rfl (fun hltq => ?_) (fun hltq => ?_)
                  · have khltq := hltq
                    replace hltq := of_decide_eq_true hltq
                    obtain ⟨row, hrow⟩ := get_of_lt (l := d.next) (i := q) (by omega)
                    obtain ⟨ra, rc, hcell, hints⟩ := hncl q row hrow
                    have hrne : row ≠ [] := hrows row (List.mem_of_getElem? hrow)
                    have hsucc : (bad0 d || (d.next.take (q + 1)).any (badRow d.next.length)) = (bad || badRow d.next.length row) := by rw [List.take_add_one, hrow, List.any_append, hbad]; simp [Bool.or_assoc]
                    refine Wp_skip ?_
                    refine thn_normal ?_
                    refine Wp_seq ?_
                    refine Wp_block ?_
                    refine Wp_seq_region ?_
                    refine WpL_val rfl rfl (by decide) (r_indexSlice (b := nb) (o := no) (len := d.next.length) (cap := nc) (i := q) (o' := no + q) rfl rfl rfl Try.underlying23 siz22 (by omega) (by omega)) ?_
                    refine WpL_val rfl rfl (by decide) (r_load (v := (.slice ra row.length rc)) rfl flat22 (E.cell (fun f => f) hcell)) ?_
                    refine WpL_val rfl rfl (by decide) (r_assign (v := (.slice ra row.length rc)) rfl) ?_
                    refine WpL_nil ?_
                    refine Wp_region ?_
                    refine WpL_val rfl rfl (by decide) (r_move (v := (.bool bad)) rfl) ?_
                    refine WpL_val rfl rfl (by decide) (r_move (v := (.bool bad)) rfl) ?_
                    rcases Bool.eq_false_or_eq_true (bad) with g5 | g5
                    · have kg5 := g5
                      refine WpL_guard_no (oj := _) rfl rfl (by decide) (v := .bool true) (congrArg Value.bool g5) (Or.inl rfl) ?_
                      refine WpL_guard_no (oj := _) rfl rfl (by decide) (v := .bool true) (congrArg Value.bool g5) (Or.inl rfl) ?_
                      refine WpL_guard_no (oj := _) rfl rfl (by decide) (v := .bool true) (congrArg Value.bool g5) (Or.inl rfl) ?_
                      refine WpL_val rfl rfl (by decide) (r_pick (b := bad) (v := (.bool true)) rfl (by rw [g5]; rfl)) ?_
                      refine WpL_val rfl rfl (by decide) (r_move (v := (.bool true)) rfl) ?_
                      refine WpL_guard_no (oj := _) rfl rfl (by decide) (v := .bool true) rfl (Or.inl rfl) ?_
                      refine WpL_guard_no (oj := _) rfl rfl (by decide) (v := .bool true) rfl (Or.inl rfl) ?_
                      refine WpL_guard_no (oj := _) rfl rfl (by decide) (v := .bool true) rfl (Or.inl rfl) ?_
                      refine WpL_guard_no (oj := _) rfl rfl (by decide) (v := .bool true) rfl (Or.inl rfl) ?_
                      refine WpL_val rfl rfl (by decide) (r_pick (b := true) (v := (.bool true)) rfl rfl) ?_
                      refine WpL_val rfl rfl (by decide) (r_assign (v := (.bool true)) rfl) ?_
                      refine WpL_nil ?_
                      refine inB_normal ?_
                      refine thn_normal ?_
                      refine Wp_region ?_
                      refine WpL_val rfl rfl (by decide) (r_add (k := .i64) (a := ((q : Nat) : Int)) (b := 1) (c := ((q : Nat) : Int) + 1) rfl rfl (wI64 (by omega))) ?_
                      refine WpL_val rfl rfl (by decide) (r_move (v := (.int .i64 (((q : Nat) : Int) + 1))) rfl) ?_
                      refine WpL_nil ?_
                      refine thn_normal ?_
                      exact ⟨d.next.length - (q + 1), by omega, q + 1, true, Fits.out ⟨rfl, rfl, rfl, rfl, rfl, trivial⟩, E, Br, (by omega), (by rw [hsucc, g5]; rfl), rfl⟩
                    · have kg5 := g5
                      refine WpL_guard_yes (oj := _) rfl rfl (by decide) (congrArg Value.bool g5) ?_
                      refine WpL_val rfl rfl (by decide) (r_move (v := (.slice ra row.length rc)) rfl) ?_
                      refine WpL_guard_yes (oj := _) rfl rfl (by decide) (congrArg Value.bool g5) ?_
                      refine WpL_enter rfl rfl (by decide) (r_callF (vs := [(.slice ra row.length rc)]) Try.func85 nm85 bd85 rfl) (min_c _ _ row (hints.ext E) hrne) ?_
                      rintro _ w19 ⟨rfl, X19⟩
                      replace Br := X19.keep Br
                      replace E := E.ext X19
                      refine WpL_guard_yes (oj := _) rfl rfl (by decide) (congrArg Value.bool g5) ?_
                      refine WpL_val rfl rfl (by decide) (r_lss (k := .i64) (a := minL row) (b := (-1)) rfl rfl) ?_
                      refine WpL_val rfl rfl (by decide) (r_pick (b := bad) (v := (.bool (decide ((minL row : Int) < (-1))))) rfl (by rw [g5]; rfl)) ?_
                      refine WpL_val rfl rfl (by decide) (r_move (v := (.bool (decide ((minL row : Int) < (-1))))) rfl) ?_
                      rcases Bool.eq_false_or_eq_true (decide ((minL row : Int) < (-1))) with g6 | g6
                      · have kg6 := g6
                        replace kg6 := of_decide_eq_true kg6
                        refine WpL_guard_no (oj := _) rfl rfl (by decide) (v := .bool true) (congrArg Value.bool g6) (Or.inl rfl) ?_
                        refine WpL_guard_no (oj := _) rfl rfl (by decide) (v := .bool true) (congrArg Value.bool g6) (Or.inl rfl) ?_
                        refine WpL_guard_no (oj := _) rfl rfl (by decide) (v := .bool true) (congrArg Value.bool g6) (Or.inl rfl) ?_
                        refine WpL_guard_no (oj := _) rfl rfl (by decide) (v := .bool true) (congrArg Value.bool g6) (Or.inl rfl) ?_
                        refine WpL_val rfl rfl (by decide) (r_pick (b := decide ((minL row : Int) < (-1))) (v := (.bool true)) rfl (by rw [g6]; rfl)) ?_
                        refine WpL_val rfl rfl (by decide) (r_assign (v := (.bool true)) rfl) ?_
                        refine WpL_nil ?_
                        refine inB_normal ?_
                        refine thn_normal ?_
                        refine Wp_region ?_
                        refine WpL_val rfl rfl (by decide) (r_add (k := .i64) (a := ((q : Nat) : Int)) (b := 1) (c := ((q : Nat) : Int) + 1) rfl rfl (wI64 (by omega))) ?_
                        refine WpL_val rfl rfl (by decide) (r_move (v := (.int .i64 (((q : Nat) : Int) + 1))) rfl) ?_
                        refine WpL_nil ?_
                        refine thn_normal ?_
                        exact ⟨d.next.length - (q + 1), by omega, q + 1, true, Fits.out ⟨rfl, rfl, rfl, rfl, rfl, trivial⟩, E, Br, (by omega), (by rw [hsucc, g5]; unfold badRow; rw [g6]; rfl), rfl⟩
                      · have kg6 := g6
                        replace kg6 := of_decide_eq_false kg6
                        refine WpL_guard_yes (oj := _) rfl rfl (by decide) (congrArg Value.bool g6) ?_
                        refine WpL_val rfl rfl (by decide) (r_move (v := (.slice ra row.length rc)) rfl) ?_
                        refine WpL_guard_yes (oj := _) rfl rfl (by decide) (congrArg Value.bool g6) ?_
                        refine WpL_enter rfl rfl (by decide) (r_callF (vs := [(.slice ra row.length rc)]) Try.func86 nm86 bd86 rfl) (max_c _ _ row (hints.ext E) hrne) ?_
                        rintro _ w29 ⟨rfl, X29⟩
                        replace Br := X29.keep Br
                        replace E := E.ext X29
                        refine WpL_guard_yes (oj := _) rfl rfl (by decide) (congrArg Value.bool g6) ?_
                        refine WpL_val rfl rfl (by decide) (r_move (v := (.int .i64 ((d.next.length : Nat) : Int))) rfl) ?_
                        refine WpL_guard_yes (oj := _) rfl rfl (by decide) (congrArg Value.bool g6) ?_
                        refine WpL_val rfl rfl (by decide) (r_geq (k := .i64) (a := maxL row) (b := ((d.next.length : Nat) : Int)) rfl rfl) ?_
                        refine WpL_val rfl rfl (by decide) (r_pick (b := decide ((minL row : Int) < (-1))) (v := (.bool (decide ((((d.next.length : Nat) : Int) : Int) ≤ maxL row)))) rfl (by rw [g6]; rfl)) ?_
                        refine WpL_val rfl rfl (by decide) (r_assign (v := (.bool (decide ((((d.next.length : Nat) : Int) : Int) ≤ maxL row)))) rfl) ?_
                        refine WpL_nil ?_
                        refine inB_normal ?_
                        refine thn_normal ?_
                        refine Wp_region ?_
                        refine WpL_val rfl rfl (by decide) (r_add (k := .i64) (a := ((q : Nat) : Int)) (b := 1) (c := ((q : Nat) : Int) + 1) rfl rfl (wI64 (by omega))) ?_
                        refine WpL_val rfl rfl (by decide) (r_move (v := (.int .i64 (((q : Nat) : Int) + 1))) rfl) ?_
                        refine WpL_nil ?_
                        refine thn_normal ?_
                        exact ⟨d.next.length - (q + 1), by omega, q + 1, (decide ((((d.next.length : Nat) : Int) : Int) ≤ maxL row)), Fits.out ⟨rfl, rfl, rfl, rfl, rfl, trivial⟩, E, Br, (by omega), (by rw [hsucc, g5]; unfold badRow; rw [g6]; rfl), rfl⟩
                  · have khltq := hltq
                    replace hltq := of_decide_eq_false hltq
                    have hqq : q = d.next.length := by omega
                    rw [hqq, List.take_length] at hbad
                    refine Wp_exit ?_
                    refine thn_exit ?_
                    refine thn_exit ?_
                    refine inB_here ?_
                    refine thn_normal ?_
                    refine Wp_seq ?_
                    refine Wp_seq_region ?_
                    refine WpL_val rfl rfl (by decide) (r_move (v := (.bool bad)) rfl) ?_
                    refine WpL_nil ?_
                    refine Wp_cond (b := bad) rfl (fun hb => ?_) (fun hb => ?_)
                    · have khb := hb
                      refine Wp_seq_region ?_
                      refine WpL_val rfl rfl (by decide) (r_assign (v := (.int .i64 1)) rfl) ?_
                      refine WpL_nil ?_
                      refine Wp_ret ?_
                      refine thn_ret ?_
                      refine fin_tmp Try.results50 (v := (.int .i64 1)) rfl ?_
                      exact ⟨int_eq (by unfold checkD; rw [if_neg (by omega), if_neg h20, if_neg (by omega), if_neg (by rw [hno]; simp), if_pos (by rw [← hbad]; exact hb)]), E⟩
                    · have khb := hb
                      refine Wp_skip ?_
                      refine thn_normal ?_
                      refine Wp_seq_region ?_
                      refine WpL_val rfl rfl (by decide) (r_assign (v := (.int .i64 0)) rfl) ?_
                      refine WpL_nil ?_
                      refine Wp_ret ?_
                      refine fin_tmp Try.results50 (v := (.int .i64 0)) rfl ?_
                      exact ⟨int_eq (by unfold checkD; rw [if_neg (by omega), if_neg h20, if_neg (by omega), if_neg (by rw [hno]; simp), if_neg (by rw [← hbad, hb]; simp)]), E⟩
              · have kg2 := g2
                replace kg2 := of_decide_eq_false kg2
                refine WpL_guard_yes (oj := _) rfl rfl (by decide) (congrArg Value.bool g2) ?_
                refine WpL_val rfl rfl (by decide) (r_fieldAddr (b := br) (o := 0) (o' := 1) rfl Try.underlying25 rfl siz22 rfl) ?_
                refine WpL_guard_yes (oj := _) rfl rfl (by decide) (congrArg Value.bool g2) ?_
                refine WpL_val rfl rfl (by decide) (r_load (v := (.slice aa d.accept.length ac)) rfl flat22 (Br.cell rfl)) ?_
                refine WpL_guard_yes (oj := _) rfl rfl (by decide) (congrArg Value.bool g2) ?_
                refine WpL_enter rfl rfl (by decide) (r_callF (vs := [(.slice aa d.accept.length ac)]) Try.func85 nm85 bd85 rfl) (min_c _ _ d.accept (ha.ext E) hane) ?_
                rintro _ w9 ⟨rfl, X9⟩
                replace Br := X9.keep Br
                replace E := E.ext X9
                refine WpL_guard_yes (oj := _) rfl rfl (by decide) (congrArg Value.bool g2) ?_
                refine WpL_val rfl rfl (by decide) (r_lss (k := .i64) (a := minL d.accept) (b := (-1)) rfl rfl) ?_
                refine WpL_val rfl rfl (by decide) (r_pick (b := decide ((((d.next.length : Nat) : Int) : Int) ≤ d.start)) (v := (.bool (decide ((minL d.accept : Int) < (-1))))) rfl (by rw [g2]; rfl)) ?_
                refine WpL_val rfl rfl (by decide) (r_assign (v := (.bool (decide ((minL d.accept : Int) < (-1))))) rfl) ?_
                refine WpL_nil ?_
                refine Wp_seq ?_
                refine Wp_seq_region ?_
                refine WpL_val rfl rfl (by decide) (r_fieldAddr (b := br) (o := 0) (o' := 2) rfl Try.underlying25 rfl siz23 rfl) ?_
                refine WpL_val rfl rfl (by decide) (r_load (v := (.slice (some ⟨nb, no, none⟩) d.next.length nc)) rfl flat23 (Br.cell rfl)) ?_
                refine WpL_val rfl rfl (by decide) (r_lenSlice (ad := some ⟨nb, no, none⟩) (n := d.next.length) (cap := nc) Try.underlying23 rfl) ?_
                refine WpL_val rfl rfl (by decide) (r_move (v := (.int .i64 0)) rfl) ?_
                refine WpL_nil ?_
                refine Wp_block ?_
                refine Wp_loop (fun nn_ σ W25 => ∃ (q : Nat) (bad : Bool), (∃ jj_, σ = upds jj_ [(3, (.int .i64 ((d.next.length : Nat) : Int))), (69, (.slice (some ⟨nb, no, none⟩) d.next.length nc)), (70, (.int .i64 ((d.next.length : Nat) : Int))), (71, (.int .i64 ((q : Nat) : Int))), (6, (.bool bad))]) ∧ Chg none1 w0 W25 ∧ Blk W25 br #[(.int .i64 d.start), (.slice aa d.accept.length ac), (.slice (some ⟨nb, no, none⟩) d.next.length nc)] 25 ∧ (q ≤ d.next.length) ∧ (bad = (bad0 d || (d.next.take q).any (badRow d.next.length))) ∧ nn_ = d.next.length - q) (n := d.next.length - 0) ?_ ?_
                · exact ⟨0, (decide ((minL d.accept : Int) < (-1))), Fits.out ⟨rfl, rfl, rfl, rfl, rfl, trivial⟩, E, Br, Nat.zero_le _, (by simp only [List.take_zero, List.any_nil, Bool.or_false]; unfold bad0; rw [g1, g2]; rfl), rfl⟩
                · clear E Br
                  rintro _ _ W25 ⟨q, bad, ⟨j25, rfl⟩, E, Br, hq, hbad, rfl⟩
                  refine Wp_seq_region ?_
                  refine WpL_val rfl rfl (by decide) (r_lss (k := .i64) (a := ((q : Nat) : Int)) (b := ((d.next.length : Nat) : Int)) rfl rfl) ?_
                  refine WpL_nil ?_
                  refine Wp_seq ?_
                  refine Wp_cond (b := decide ((((q : Nat) : Int) : Int) < ((d.next.length : Nat) : Int))) rfl (fun hltq => ?_) (fun hltq => ?_)
                  · have khltq := hltq
                    replace hltq := of_decide_eq_true hltq
                    obtain ⟨row, hrow⟩ := get_of_lt (l := d.next) (i := q) (by omega)
                    obtain ⟨ra, rc, hcell, hints⟩ := hncl q row hrow
                    have hrne : row ≠ [] := hrows row (List.mem_of_getElem? hrow)
                    have hsucc : (bad0 d || (d.next.take (q + 1)).any (badRow d.next.length)) = (bad || badRow d.next.length row) := by rw [List.take_add_one, hrow, List.any_append, hbad]; simp [Bool.or_assoc]
                    refine Wp_skip ?_
                    refine thn_normal ?_
                    refine Wp_seq ?_
                    refine Wp_block ?_
                    refine Wp_seq_region ?_
                    refine WpL_val rfl rfl (by decide) (r_indexSlice (b := nb) (o := no) (len := d.next.length) (cap := nc) (i := q) (o' := no + q) rfl rfl rfl Try.underlying23 siz22 (by omega) (by omega)) ?_
                    refine WpL_val rfl rfl (by decide) (r_load (v := (.slice ra row.length rc)) rfl flat22 (E.cell (fun f => f) hcell)) ?_
                    refine WpL_val rfl rfl (by decide) (r_assign (v := (.slice ra row.length rc)) rfl) ?_
                    refine WpL_nil ?_
                    refine Wp_region ?_
                    refine WpL_val rfl rfl (by decide) (r_move (v := (.bool bad)) rfl) ?_
                    refine WpL_val rfl rfl (by decide) (r_move (v := (.bool bad)) rfl) ?_
                    rcases Bool.eq_false_or_eq_true (bad) with g5 | g5
                    · have kg5 := g5
                      refine WpL_guard_no (oj := _) rfl rfl (by decide) (v := .bool true) (congrArg Value.bool g5) (Or.inl rfl) ?_
                      refine WpL_guard_no (oj := _) rfl rfl (by decide) (v := .bool true) (congrArg Value.bool g5) (Or.inl rfl) ?_
                      refine WpL_guard_no (oj := _) rfl rfl (by decide) (v := .bool true) (congrArg Value.bool g5) (Or.inl rfl) ?_
                      refine WpL_val rfl rfl (by decide) (r_pick (b := bad) (v := (.bool true)) rfl (by rw [g5]; rfl)) ?_
                      refine WpL_val rfl rfl (by decide) (r_move (v := (.bool true)) rfl) ?_
                      refine WpL_guard_no (oj := _) rfl rfl (by decide) (v := .bool true) rfl (Or.inl rfl) ?_
                      refine WpL_guard_no (oj := _) rfl rfl (by decide) (v := .bool true) rfl (Or.inl rfl) ?_
                      refine WpL_guard_no (oj := _) rfl rfl (by decide) (v := .bool true) rfl (Or.inl rfl) ?_
                      refine WpL_guard_no (oj := _) rfl rfl (by decide) (v := .bool true) rfl (Or.inl rfl) ?_
                      refine WpL_val rfl rfl (by decide) (r_pick (b := true) (v := (.bool true)) rfl rfl) ?_
                      refine WpL_val rfl rfl (by decide) (r_assign (v := (.bool true)) rfl) ?_
                      refine WpL_nil ?_
                      refine inB_normal ?_
                      refine thn_normal ?_
                      refine Wp_region ?_
                      refine WpL_val rfl rfl (by decide) (r_add (k := .i64) (a := ((q : Nat) : Int)) (b := 1) (c := ((q : Nat) : Int) + 1) rfl rfl (wI64 (by omega))) ?_
                      refine WpL_val rfl rfl (by decide) (r_move (v := (.int .i64 (((q : Nat) : Int) + 1))) rfl) ?_
                      refine WpL_nil ?_
                      refine thn_normal ?_
                      exact ⟨d.next.length - (q + 1), by omega, q + 1, true, Fits.out ⟨rfl, rfl, rfl, rfl, rfl, trivial⟩, E, Br, (by omega), (by rw [hsucc, g5]; rfl), rfl⟩
                    · have kg5 := g5
                      refine WpL_guard_yes (oj := _) rfl rfl (by decide) (congrArg Value.bool g5) ?_
                      refine WpL_val rfl rfl (by decide) (r_move (v := (.slice ra row.length rc)) rfl) ?_
                      refine WpL_guard_yes (oj := _) rfl rfl (by decide) (congrArg Value.bool g5) ?_
                      refine WpL_enter rfl rfl (by decide) (r_callF (vs := [(.slice ra row.length rc)]) Try.func85 nm85 bd85 rfl) (min_c _ _ row (hints.ext E) hrne) ?_
                      rintro _ w19 ⟨rfl, X19⟩
                      replace Br := X19.keep Br
                      replace E := E.ext X19
                      refine WpL_guard_yes (oj := _) rfl rfl (by decide) (congrArg Value.bool g5) ?_
                      refine WpL_val rfl rfl (by decide) (r_lss (k := .i64) (a := minL row) (b := (-1)) rfl rfl) ?_
                      refine WpL_val rfl rfl (by decide) (r_pick (b := bad) (v := (.bool (decide ((minL row : Int) < (-1))))) rfl (by rw [g5]; rfl)) ?_
                      refine WpL_val rfl rfl (by decide) (r_move (v := (.bool (decide ((minL row : Int) < (-1))))) rfl) ?_
                      rcases Bool.eq_false_or_eq_true (decide ((minL row : Int) < (-1))) with g6 | g6
                      · have kg6 := g6
                        replace kg6 := of_decide_eq_true kg6
                        refine WpL_guard_no (oj := _) rfl rfl (by decide) (v := .bool true) (congrArg Value.bool g6) (Or.inl rfl) ?_
                        refine WpL_guard_no (oj := _) rfl rfl (by decide) (v := .bool true) (congrArg Value.bool g6) (Or.inl rfl) ?_
                        refine WpL_guard_no (oj := _) rfl rfl (by decide) (v := .bool true) (congrArg Value.bool g6) (Or.inl rfl) ?_
                        refine WpL_guard_no (oj := _) rfl rfl (by decide) (v := .bool true) (congrArg Value.bool g6) (Or.inl rfl) ?_
                        refine WpL_val rfl rfl (by decide) (r_pick (b := decide ((minL row : Int) < (-1))) (v := (.bool true)) rfl (by rw [g6]; rfl)) ?_
                        refine WpL_val rfl rfl (by decide) (r_assign (v := (.bool true)) rfl) ?_
                        refine WpL_nil ?_
                        refine inB_normal ?_
                        refine thn_normal ?_
                        refine Wp_region ?_
                        refine WpL_val rfl rfl (by decide) (r_add (k := .i64) (a := ((q : Nat) : Int)) (b := 1) (c := ((q : Nat) : Int) + 1) rfl rfl (wI64 (by omega))) ?_
                        refine WpL_val rfl rfl (by decide) (r_move (v := (.int .i64 (((q : Nat) : Int) + 1))) rfl) ?_
                        refine WpL_nil ?_
                        refine thn_normal ?_
                        exact ⟨d.next.length - (q + 1), by omega, q + 1, true, Fits.out ⟨rfl, rfl, rfl, rfl, rfl, trivial⟩, E, Br, (by omega), (by rw [hsucc, g5]; unfold badRow; rw [g6]; rfl), rfl⟩
                      · have kg6 := g6
                        replace kg6 := of_decide_eq_false kg6
                        refine WpL_guard_yes (oj := _) rfl rfl (by decide) (congrArg Value.bool g6) ?_
                        refine WpL_val rfl rfl (by decide) (r_move (v := (.slice ra row.length rc)) rfl) ?_
                        refine WpL_guard_yes (oj := _) rfl rfl (by decide) (congrArg Value.bool g6) ?_
                        refine WpL_enter rfl rfl (by decide) (r_callF (vs := [(.slice ra row.length rc)]) Try.func86 nm86 bd86 rfl) (max_c _ _ row (hints.ext E) hrne) ?_
                        rintro _ w29 ⟨rfl, X29⟩
                        replace Br := X29.keep Br
                        replace E := E.ext X29
                        refine WpL_guard_yes (oj := _) rfl rfl (by decide) (congrArg Value.bool g6) ?_
                        refine WpL_val rfl rfl (by decide) (r_move (v := (.int .i64 ((d.next.length : Nat) : Int))) rfl) ?_
                        refine WpL_guard_yes (oj := _) rfl rfl (by decide) (congrArg Value.bool g6) ?_
                        refine WpL_val rfl rfl (by decide) (r_geq (k := .i64) (a := maxL row) (b := ((d.next.length : Nat) : Int)) rfl rfl) ?_
                        refine WpL_val rfl rfl (by decide) (r_pick (b := decide ((minL row : Int) < (-1))) (v := (.bool (decide ((((d.next.length : Nat) : Int) : Int) ≤ maxL row)))) rfl (by rw [g6]; rfl)) ?_
                        refine WpL_val rfl rfl (by decide) (r_assign (v := (.bool (decide ((((d.next.length : Nat) : Int) : Int) ≤ maxL row)))) rfl) ?_
                        refine WpL_nil ?_
                        refine inB_normal ?_
                        refine thn_normal ?_
                        refine Wp_region ?_
                        refine WpL_val rfl rfl (by decide) (r_add (k := .i64) (a := ((q : Nat) : Int)) (b := 1) (c := ((q : Nat) : Int) + 1) rfl rfl (wI64 (by omega))) ?_
                        refine WpL_val rfl rfl (by decide) (r_move (v := (.int .i64 (((q : Nat) : Int) + 1))) rfl) ?_
                        refine WpL_nil ?_
                        refine thn_normal ?_
                        exact ⟨d.next.length - (q + 1), by omega, q + 1, (decide ((((d.next.length : Nat) : Int) : Int) ≤ maxL row)), Fits.out ⟨rfl, rfl, rfl, rfl, rfl, trivial⟩, E, Br, (by omega), (by rw [hsucc, g5]; unfold badRow; rw [g6]; rfl), rfl⟩
                  · have khltq := hltq
                    replace hltq := of_decide_eq_false hltq
                    have hqq : q = d.next.length := by omega
                    rw [hqq, List.take_length] at hbad
                    refine Wp_exit ?_
                    refine thn_exit ?_
                    refine thn_exit ?_
                    refine inB_here ?_
                    refine thn_normal ?_
                    refine Wp_seq ?_
                    refine Wp_seq_region ?_
                    refine WpL_val rfl rfl (by decide) (r_move (v := (.bool bad)) rfl) ?_
                    refine WpL_nil ?_
                    refine Wp_cond (b := bad) rfl (fun hb => ?_) (fun hb => ?_)
                    · have khb := hb
                      refine Wp_seq_region ?_
                      refine WpL_val rfl rfl (by decide) (r_assign (v := (.int .i64 1)) rfl) ?_
                      refine WpL_nil ?_
                      refine Wp_ret ?_
                      refine thn_ret ?_
                      refine fin_tmp Try.results50 (v := (.int .i64 1)) rfl ?_
                      exact ⟨int_eq (by unfold checkD; rw [if_neg (by omega), if_neg h20, if_neg (by omega), if_neg (by rw [hno]; simp), if_pos (by rw [← hbad]; exact hb)]), E⟩
                    · have khb := hb
                      refine Wp_skip ?_
                      refine thn_normal ?_
                      refine Wp_seq_region ?_
                      refine WpL_val rfl rfl (by decide) (r_assign (v := (.int .i64 0)) rfl) ?_
                      refine WpL_nil ?_
                      refine Wp_ret ?_
                      refine fin_tmp Try.results50 (v := (.int .i64 0)) rfl ?_
                      exact ⟨int_eq (by unfold checkD; rw [if_neg (by omega), if_neg h20, if_neg (by omega), if_neg (by rw [hno]; simp), if_neg (by rw [← hbad, hb]; simp)]), E⟩
end Go.Proofs
namespace Go.Proofs
open Go Go.Eng
set_option maxRecDepth 100000
abbrev TS : Nat := 99
def StrAt (wb w : World) (bs : Nat) (l : List Int) : Prop := ∃ a c, Blk w bs #[.slice a l.length c] TS ∧ IntsAt wb (.slice a l.length c) l
theorem StrAt.ext {wb w w' : World} {bs : Nat} {l : List Int} (h : StrAt wb w bs l) (e : Ext w w') : StrAt wb w' bs l := let ⟨a, c, h1, h2⟩ := h; ⟨a, c, e.keep h1, h2⟩
theorem StrAt.lt {wb w : World} {bs : Nat} {l : List Int} (h : StrAt wb w bs l) : bs < w.heap.size := let ⟨_, _, h1, _⟩ := h; h1.lt
end Go.Proofs
namespace Go.Eng
open Go
def SlIn (S : Nat → Prop) (w : World) (k : Nat) (v : Value) (rows : List (List Value)) : Prop :=
  ∃ a cap, v = .slice a rows.length cap ∧ rows.length ≤ 9223372036854775807 ∧ rows.length ≤ cap ∧ (rows = [] ∨ ∃ b o, S b ∧ a = some ⟨b, o, none⟩ ∧ ∀ i r, rows[i]? = some r → CellsAt w b (o + i * k) r)
theorem SlIn.at {S : Nat → Prop} {w : World} {k : Nat} {v : Value} {rows : List (List Value)} (h : SlIn S w k v rows) : SlAt w k v rows := by
  obtain ⟨a, cap, h1, h2, h3, h4⟩ := h
  refine ⟨a, cap, h1, h2, h3, ?_⟩
  rcases h4 with h | ⟨b, o, _, h5, h6⟩
  · exact .inl h
  · exact .inr ⟨b, o, h5, h6⟩
theorem SlIn.of {w : World} {k : Nat} {v : Value} {rows : List (List Value)} (h : SlAt w k v rows) : SlIn (fun _ => True) w k v rows := by
  obtain ⟨a, cap, h1, h2, h3, h4⟩ := h
  refine ⟨a, cap, h1, h2, h3, ?_⟩
  rcases h4 with h | ⟨b, o, h5, h6⟩
  · exact .inl h
  · exact .inr ⟨b, o, trivial, h5, h6⟩
theorem SlIn.chg {S M : Nat → Prop} {w w' : World} {k : Nat} {v : Value} {rows : List (List Value)} (h : SlIn S w k v rows) (c : Chg M w w') (hm : ∀ b, S b → ¬ M b) : SlIn S w' k v rows := by
  obtain ⟨a, cap, h1, h2, h3, h4⟩ := h
  refine ⟨a, cap, h1, h2, h3, ?_⟩
  rcases h4 with h | ⟨b, o, hb, h5, h6⟩
  · exact .inl h
  · exact .inr ⟨b, o, hb, h5, fun i r hr => (h6 i r hr).chg c (hm b hb)⟩
theorem SlIn.mono {S S' : Nat → Prop} {w : World} {k : Nat} {v : Value} {rows : List (List Value)} (h : SlIn S w k v rows) (hs : ∀ b, S b → S' b) : SlIn S' w k v rows := by
  obtain ⟨a, cap, h1, h2, h3, h4⟩ := h
  refine ⟨a, cap, h1, h2, h3, ?_⟩
  rcases h4 with h | ⟨b, o, hb, h5⟩
  · exact .inl h
  · exact .inr ⟨b, o, hs b hb, h5⟩
theorem SlIn.nil (S : Nat → Prop) (w : World) (k : Nat) (a : Option Addr) (cap : Nat) : SlIn S w k (.slice a 0 cap) [] := ⟨a, cap, rfl, by simp, by simp, .inl rfl⟩
theorem SlIn.mk {S : Nat → Prop} {w : World} {k : Nat} {b o n c : Nat} {rows : List (List Value)} (h : SlAt w k (.slice (some ⟨b, o, none⟩) n c) rows) (hs : S b) : SlIn S w k (.slice (some ⟨b, o, none⟩) n c) rows := by
  obtain ⟨a, cap, h1, h2, h3, h4⟩ := h
  refine ⟨a, cap, h1, h2, h3, ?_⟩
  rcases h4 with h | ⟨b', o', h5, h6⟩
  · exact .inl h
  · simp only [Value.slice.injEq] at h1
    have : b' = b := by rw [← h1.1] at h5; simp at h5; exact h5.1.symm
    exact .inr ⟨b', o', this ▸ hs, h5, h6⟩
mutual
def ReIn (S : Nat → Prop) (w : World) : Re → List Value → Prop
  | .mk k set args mn mx ng, vs => ∃ sa sc aa ac, vs = [.int .i64 k, .slice sa set.length sc, .slice aa args.length ac, .int .i64 mn, .int .i64 mx, .bool ng] ∧ SlIn S w 2 (.slice sa set.length sc) (set.map spanV) ∧ (args.length ≤ ac ∧ ac ≤ 9223372036854775807) ∧
      (args = [] ∨ ∃ b o, S b ∧ aa = some ⟨b, o, none⟩ ∧ ResIn S w b o args)
def ResIn (S : Nat → Prop) (w : World) (b : Nat) : Nat → List Re → Prop
  | _, [] => True
  | o, t :: ts => (∃ vs, CellsAt w b o vs ∧ ReIn S w t vs) ∧ ResIn S w b (o + 6) ts
end
mutual
theorem ReIn.at {S : Nat → Prop} {w : World} : ∀ (t : Re) {vs : List Value}, ReIn S w t vs → ReAt w t vs
  | .mk k set args mn mx ng, vs, h => by
    simp only [ReIn] at h
    simp only [ReAt]
    obtain ⟨sa, sc, aa, ac, hv, hs, hl, ha⟩ := h
    refine ⟨sa, sc, aa, ac, hv, hs.at, hl, ?_⟩
    rcases ha with h | ⟨b, o, _, h1, h2⟩
    · exact .inl h
    · exact .inr ⟨b, o, h1, ResIn.at args h2⟩
theorem ResIn.at {S : Nat → Prop} {w : World} {b : Nat} : ∀ (ts : List Re) {o : Nat}, ResIn S w b o ts → ResAt w b o ts
  | [], _, _ => by simp only [ResAt]
  | t :: ts, o, h => by
    simp only [ResIn] at h
    simp only [ResAt]
    obtain ⟨⟨vs, h1, h2⟩, h3⟩ := h
    exact ⟨⟨vs, h1, ReIn.at t h2⟩, ResIn.at ts h3⟩
end
mutual
theorem ReIn.chg {S M : Nat → Prop} {w w' : World} (c : Chg M w w') (hm : ∀ b, S b → ¬ M b) : ∀ (t : Re) {vs : List Value}, ReIn S w t vs → ReIn S w' t vs
  | .mk k set args mn mx ng, vs, h => by
    simp only [ReIn] at h ⊢
    obtain ⟨sa, sc, aa, ac, hv, hs, hl, ha⟩ := h
    refine ⟨sa, sc, aa, ac, hv, hs.chg c hm, hl, ?_⟩
    rcases ha with h | ⟨b, o, hb, h1, h2⟩
    · exact .inl h
    · exact .inr ⟨b, o, hb, h1, ResIn.chg c hm args hb h2⟩
theorem ResIn.chg {S M : Nat → Prop} {w w' : World} (c : Chg M w w') (hm : ∀ b, S b → ¬ M b) {b : Nat} : ∀ (ts : List Re) {o : Nat}, S b → ResIn S w b o ts → ResIn S w' b o ts
  | [], _, _, _ => by simp only [ResIn]
  | t :: ts, o, hb, h => by
    simp only [ResIn] at h ⊢
    obtain ⟨⟨vs, h1, h2⟩, h3⟩ := h
    exact ⟨⟨vs, h1.chg c (hm b hb), ReIn.chg c hm t h2⟩, ResIn.chg c hm ts hb h3⟩
end
mutual
theorem ReIn.mono {S S' : Nat → Prop} {w : World} (hs : ∀ b, S b → S' b) : ∀ (t : Re) {vs : List Value}, ReIn S w t vs → ReIn S' w t vs
  | .mk k set args mn mx ng, vs, h => by
    simp only [ReIn] at h ⊢
    obtain ⟨sa, sc, aa, ac, hv, h0, hl, ha⟩ := h
    refine ⟨sa, sc, aa, ac, hv, h0.mono hs, hl, ?_⟩
    rcases ha with h | ⟨b, o, hb, h1, h2⟩
    · exact .inl h
    · exact .inr ⟨b, o, hs b hb, h1, ResIn.mono hs args h2⟩
theorem ResIn.mono {S S' : Nat → Prop} {w : World} (hs : ∀ b, S b → S' b) {b : Nat} : ∀ (ts : List Re) {o : Nat}, ResIn S w b o ts → ResIn S' w b o ts
  | [], _, _ => by simp only [ResIn]
  | t :: ts, o, h => by
    simp only [ResIn] at h ⊢
    obtain ⟨⟨vs, h1, h2⟩, h3⟩ := h
    exact ⟨⟨vs, h1, ReIn.mono hs t h2⟩, ResIn.mono hs ts h3⟩
end
theorem ReIn.ext {S : Nat → Prop} {w w' : World} (e : Ext w w') (t : Re) {vs : List Value} (h : ReIn S w t vs) : ReIn S w' t vs := ReIn.chg e (fun _ _ f => f) t h
theorem ReIn.form {S : Nat → Prop} {w : World} {t : Re} {vs : List Value} (h : ReIn S w t vs) : ∃ sa sc aa ac, vs = [.int .i64 t.kind, .slice sa t.set.length sc, .slice aa t.args.length ac, .int .i64 t.mn, .int .i64 t.mx, .bool t.neg] ∧ SlIn S w 2 (.slice sa t.set.length sc) (t.set.map spanV) ∧ (t.args.length ≤ ac ∧ ac ≤ 9223372036854775807) ∧
    (t.args = [] ∨ ∃ b o, S b ∧ aa = some ⟨b, o, none⟩ ∧ ResIn S w b o t.args) := by
  cases t; simp only [ReIn] at h; exact h
theorem ReIn.of {S : Nat → Prop} {w : World} {k : Int} {set : List (Int × Int)} {args : List Re} {mn mx : Int} {ng : Bool} {sa aa : Option Addr} {sc ac : Nat} (hs : SlIn S w 2 (.slice sa set.length sc) (set.map spanV)) (hl : (args.length ≤ ac ∧ ac ≤ 9223372036854775807)) (ha : args = [] ∨ ∃ b o, S b ∧ aa = some ⟨b, o, none⟩ ∧ ResIn S w b o args) :
    ReIn S w (.mk k set args mn mx ng) [.int .i64 k, .slice sa set.length sc, .slice aa args.length ac, .int .i64 mn, .int .i64 mx, .bool ng] := by
  simp only [ReIn]; exact ⟨sa, sc, aa, ac, rfl, hs, hl, ha⟩
theorem ResIn.one {S : Nat → Prop} {w : World} {b o : Nat} {t : Re} {vs : List Value} (hc : CellsAt w b o vs) (h : ReIn S w t vs) : ResIn S w b o [t] := by
  simp only [ResIn]; exact ⟨⟨vs, hc, h⟩, trivial⟩
theorem ResIn.two {S : Nat → Prop} {w : World} {b o : Nat} {t u : Re} {vs us : List Value} (hc : CellsAt w b o vs) (h : ReIn S w t vs) (hc' : CellsAt w b (o + 6) us) (h' : ReIn S w u us) : ResIn S w b o [t, u] := by
  simp only [ResIn]; exact ⟨⟨vs, hc, h⟩, ⟨us, hc', h'⟩, trivial⟩
theorem ResIn.get {S : Nat → Prop} {w : World} {b : Nat} : ∀ {ts : List Re} {o i : Nat} {t : Re}, ResIn S w b o ts → ts[i]? = some t → ∃ vs, CellsAt w b (o + i * 6) vs ∧ ReIn S w t vs
  | [], _, _, _, _, h => by simp at h
  | x :: ts, o, 0, t, h, hi => by
    simp only [ResIn] at h
    simp at hi
    subst hi
    simpa using h.1
  | x :: ts, o, i + 1, t, h, hi => by
    simp only [ResIn] at h
    have := ResIn.get h.2 (i := i) (by simpa using hi)
    rwa [show o + (i + 1) * 6 = o + 6 + i * 6 from by omega]
theorem ReIn.len {S : Nat → Prop} {w : World} {t : Re} {vs : List Value} (h : ReIn S w t vs) : vs.length = 6 := (ReIn.at t h).len
end Go.Eng
namespace Go.Proofs
open Go Go.Eng
set_option maxRecDepth 100000
abbrev TI : Nat := 3
abbrev TL : Nat := 22
/-- The lists of an automaton while it is made: each is in blocks of its own, below a bound. -/
def MStP (base top : Nat) (vals : List Value) (D : Nat → Prop) (w : World) (va vn : Value) (ka kn : Nat) (acc : List Int) (rows : List (List Int)) : Prop :=
  w.ownsRow base TI 1 va ka (acc.map (Value.int .i64)) ∧ w.ownsRow base TL 1 vn kn vals ∧ vals.length = rows.length ∧ (∀ (i : Nat) (u : Value) (l : List Int), vals[i]? = some u → rows[i]? = some l → SlIn D w 1 u (l.map intV)) ∧
    (∀ y, va.ownBlock = some y → vn.ownBlock ≠ some y) ∧ (∀ y, D y → (base ≤ y ∧ y < top) ∧ va.ownBlock ≠ some y ∧ vn.ownBlock ≠ some y) ∧ (∀ y, va.ownBlock = some y ∨ vn.ownBlock = some y → y < top) ∧ top ≤ w.heap.size
def MSt (base top : Nat) (w : World) (va vn : Value) (ka kn : Nat) (acc : List Int) (rows : List (List Int)) : Prop :=
  ∃ (vals : List Value) (D : Nat → Prop), MStP base top vals D w va vn ka kn acc rows
theorem MSt.chg {base top : Nat} {w w' : World} {va vn : Value} {ka kn : Nat} {acc : List Int} {rows : List (List Int)} {M : Nat → Prop} (h : MSt base top w va vn ka kn acc rows) (c : Chg M w w') (hM : ∀ y, M y → y < base ∨ top ≤ y) : MSt base top w' va vn ka kn acc rows := by
  obtain ⟨vals, D, h1, h2, h3, h4, h5, h6, h7, h8⟩ := h
  have hb : ∀ y, base ≤ y → y < top → ¬ M y := fun y h hlt hm => by have := hM y hm; omega
  exact ⟨vals, D, own_chg h1 c (fun q hq => hb q (h1.lt q hq).1 (h7 q (.inl hq))), own_chg h2 c (fun q hq => hb q (h2.lt q hq).1 (h7 q (.inr hq))), h3, fun i u l hu hl => (h4 i u l hu hl).chg c (fun y hy => hb y (h6 y hy).1.1 (h6 y hy).1.2), h5, h6, h7, Nat.le_trans h8 c.size⟩
theorem MSt.ext {base top : Nat} {w w' : World} {va vn : Value} {ka kn : Nat} {acc : List Int} {rows : List (List Int)} (h : MSt base top w va vn ka kn acc rows) (c : Ext w w') : MSt base top w' va vn ka kn acc rows := h.chg c fun y f => f.elim
theorem MSt.acc {base top : Nat} {w w' : World} {va va' vn : Value} {ka kn ka' : Nat} {acc acc' : List Int} {rows : List (List Int)} (h : MSt base top w va vn ka kn acc rows) (O : w'.ownsRow base TI 1 va' ka' (acc'.map (Value.int .i64))) (C : Chg (fun y => va.ownBlock = some y) w w') (hD : ∀ k, va'.ownBlock = some k → va.ownBlock = some k ∨ w.heap.size ≤ k) : MSt base w'.heap.size w' va' vn ka' kn acc' rows := by
  obtain ⟨vals, D, h1, h2, h3, h4, h5, h6, h7, h8⟩ := h
  have hs := C.size
  refine ⟨vals, D, O, own_chg h2 C (fun q hq hm => h5 q hm hq), h3, fun i u l hu hl => (h4 i u l hu hl).chg C (fun y hy hm => (h6 y hy).2.1 hm), fun y hy hn => ?_, fun y hy => ⟨⟨(h6 y hy).1.1, by have := (h6 y hy).1.2; omega⟩, fun hv => ?_, (h6 y hy).2.2⟩, fun y hy => ?_, Nat.le_refl _⟩
  · rcases hD y hy with h | h
    · exact h5 y h hn
    · have := (h2.lt y hn).2; omega
  · rcases hD y hv with h | h
    · exact (h6 y hy).2.1 h
    · have := (h6 y hy).1.2; omega
  · rcases hy with hy | hy
    · exact (O.lt y hy).2
    · have := h7 y (.inr hy); omega
theorem MSt.nxt {base top : Nat} {w w' : World} {va vn vn' u : Value} {ka kn kn' b : Nat} {acc : List Int} {rows : List (List Int)} {row : List Int} {vals : List Value} {D : Nat → Prop} (h : MStP base top vals D w va vn ka kn acc rows) (O : w'.ownsRow base TL 1 vn' kn' (vals ++ [u])) (C : Chg (fun y => vn.ownBlock = some y) w w') (hD : ∀ k, vn'.ownBlock = some k → vn.ownBlock = some k ∨ w.heap.size ≤ k)
    (hu : SlIn (fun y => y = b) w 1 u (row.map intV)) (hb : base ≤ b ∧ b < w.heap.size) (hb1 : top ≤ b) : MSt base w'.heap.size w' va vn' ka kn' acc (rows ++ [row]) := by
  obtain ⟨h1, h2, h3, h4, h5, h6, h7, h8⟩ := h
  have hs := C.size
  have hO := O
  have hb2 : vn.ownBlock ≠ some b := fun h => by have := h7 b (.inr h); omega
  have hb3 : va.ownBlock ≠ some b := fun h => by have := h7 b (.inl h); omega
  refine ⟨vals ++ [u], fun y => D y ∨ y = b, own_chg h1 C (fun q hq hm => h5 q hq hm), hO, by simp [h3], fun i v l hv hl => ?_, fun y hy hn => ?_, fun y hy => ?_, fun y hy => ?_, Nat.le_refl _⟩
  · rcases Nat.lt_or_ge i vals.length with hi | hi
    · rw [List.getElem?_append_left hi] at hv
      rw [List.getElem?_append_left (by omega)] at hl
      exact ((h4 i v l hv hl).chg C (fun y hy hm => (h6 y hy).2.2 hm)).mono (fun y hy => .inl hy)
    · rw [List.getElem?_append_right hi] at hv
      rw [List.getElem?_append_right (by omega), ← h3] at hl
      have hi0 : i - vals.length = 0 := by
        rcases Nat.eq_zero_or_pos (i - vals.length) with h | h
        · exact h
        · rw [List.getElem?_eq_none (by simp; omega)] at hv; cases hv
      rw [hi0] at hv hl
      simp at hv hl
      subst hv; subst hl
      exact (hu.chg C (fun y hy hm => by have hy' : y = b := hy; subst hy'; exact hb2 hm)).mono (fun y hy => .inr hy)
  · rcases hD y hn with h | h
    · exact h5 y hy h
    · have := (h1.lt y hy).2; omega
  · rcases hy with hy | hy
    · refine ⟨⟨(h6 y hy).1.1, by have := (h6 y hy).1.2; omega⟩, (h6 y hy).2.1, fun hn => ?_⟩
      rcases hD y hn with h | h
      · exact (h6 y hy).2.2 h
      · have := (h6 y hy).1.2; omega
    · subst hy
      refine ⟨⟨hb.1, by omega⟩, hb3, fun hn => ?_⟩
      rcases hD y hn with h | h
      · exact hb2 h
      · omega
  · rcases hy with hy | hy
    · have := h7 y (.inl hy); omega
    · exact (hO.lt y hy).2
theorem MSt.nil (base : Nat) (w : World) : MSt base 0 w (.slice none 0 0) (.slice none 0 0) 0 0 [] [] :=
  ⟨[], fun _ => False, World.ownsRow_nil _ _ _ _, World.ownsRow_nil _ _ _ _, rfl, fun i u l h => by simp at h, (fun y h => by simp [Value.ownBlock] at h), (fun y f => False.elim f), (fun y h => by simp [Value.ownBlock] at h), Nat.zero_le _⟩
theorem MSt.done {base top : Nat} {w : World} {aa na : Option Addr} {ac nc n : Nat} {start : Int} {acc : List Int} {rows : List (List Int)} (h : MSt base top w (.slice aa n ac) (.slice na n nc) n n acc rows) (hacc : acc.length = n) (hrows : rows.length = n) : DfaAt w ⟨start, acc, rows⟩ [.int .i64 start, .slice aa n ac, .slice na n nc] := by
  obtain ⟨vals, D, h1, h2, h3, h4, _, _⟩ := h
  refine ⟨aa, ac, na, nc, by rw [hacc, hrows], ?_, vals, ?_, h3, fun i u l hu hl => (h4 i u l hu hl).at⟩
  · have h5 : w.ownsRow base TI 1 (.slice aa n ac) n (acc.map intV).flatten := by rw [flat_intV]; exact h1
    have := own_slat h5 (by intro r hr; simp only [List.mem_map] at hr; obtain ⟨p, _, rfl⟩ := hr; rfl) (by simpa using hacc) (by decide)
    simp only [hacc]; exact this
  · have h5 : w.ownsRow base TL 1 (.slice na n nc) n (vals.map fun x => [x]).flatten := by
      have e : (vals.map fun x => [x]).flatten = vals := by
        clear h2 h3 h4
        induction vals with
        | nil => rfl
        | cons v vs ih => rw [List.map_cons, List.flatten_cons, ih]; rfl
      rw [e]; exact h2
    have := own_slat h5 (by intro r hr; simp only [List.mem_map] at hr; obtain ⟨p, _, rfl⟩ := hr; rfl) (by simp; omega) (by decide)
    simp only [hrows]; exact this
theorem StrAt.chg {wb w w' : World} {bs : Nat} {l : List Int} {M : Nat → Prop} (h : StrAt wb w bs l) (c : Chg M w w') (hm : ¬ M bs) : StrAt wb w' bs l := let ⟨a, cc, h1, h2⟩ := h; ⟨a, cc, c.keep hm h1, h2⟩
end Go.Proofs
namespace Go.Proofs
open Go Go.Eng
set_option maxRecDepth 100000
theorem Does_callV {P : Program} {N : Nat} {R : Fct} {σ : Env} {w : World} {dst : Option Tmp} {z : Operand} {args : List Operand} {tys : Array TypeId} {ty : TypeId} {pos : String} {af : Array Edge} {g : Option (Nat × Bool)} {fv : Value} {vs : List Value}
    (hz : ev σ z = fv) (ha : args.map (ev σ) = vs) (hc : CallV P fv vs.toArray w fun v w' => R v w' ∧ Ext w w') : Does P N ⟨dst, .call ⟨.value z, args.toArray, tys⟩, ty, pos, af, g⟩ R σ w := by
  obtain ⟨f, fn, first, cap, rfl, hf, hn, hb, hr⟩ := hc
  exact Does_enter (r_callV hz hf hn hb ha rfl) hr
theorem swap_perm {l : List Int} {i j : Nat} {x y : Int} (hi : l[i]? = some x) (hj : l[j]? = some y) (hne : i ≠ j) : List.Perm ((l.set i y).set j x) l := by
  have h1 := lt_of_get hi
  have h2 := lt_of_get hj
  have e1 : l[i] = x := by rw [List.getElem?_eq_getElem h1] at hi; simpa using hi
  have e2 : l[j] = y := by rw [List.getElem?_eq_getElem h2] at hj; simpa using hj
  rw [List.perm_iff_count]
  intro b
  have h3 : j < (l.set i y).length := by simpa using h2
  rw [List.count_set h3, List.count_set h1]
  have e3 : (l.set i y)[j] = y := by rw [List.getElem_set_ne hne]; exact e2
  rw [e3, e1]
  have hc : (x == b) = true → 0 < l.count b := fun h => by
    rw [List.count_pos_iff]
    have : x = b := by simpa using h
    rw [← this]; exact List.mem_of_getElem? hi
  cases hx : x == b
  · cases hy : y == b <;> simp
  · have := hc hx
    cases hy : y == b <;> simp <;> omega
set_option maxHeartbeats 4000000 in
theorem isort_c (w0 : World) (g c n T : Nat) (l : List Int) (rest : List Value) (fv : Value) (cf : Int → Int → Int) (a b : Nat) (hB : Blk w0 g (l.map (Value.int .i64) ++ rest).toArray T) (hn : l.length = n) (hab : a ≤ b) (hbn : b ≤ n) (hsz : n ≤ 1000000)
    (hf : ∀ (w : World) (x y : Int), Chg (fun q => q = g) w0 w → x ∈ l → y ∈ l → CallV Try.prog fv #[.int .i64 x, .int .i64 y] w fun r w' => r = .int .i64 (cf x y) ∧ Ext w w') :
    Ret Try.prog 124 #[.slice (some ⟨g, 0, none⟩) n c, .int .i64 ((a : Nat) : Int), .int .i64 ((b : Nat) : Int), fv] w0 fun _ w => ∃ l', List.Perm l' l ∧ Blk w g (l'.map (Value.int .i64) ++ rest).toArray T ∧ Chg (fun q => q = g) w0 w := by
  refine Ret_of Try.func124 rfl Try.ntmps124 (Nat.le_of_ble_eq_true rfl) ?_
  have E : Chg (fun q => q = g) w0 w0 := Chg.refl _ _
  refine Wp_seq_region ?_
  refine WpL_val rfl rfl (by decide) (r_move (v := (.int .i64 ((a : Nat) : Int))) rfl) ?_
  refine WpL_val rfl rfl (by decide) (r_add (k := .i64) (a := ((a : Nat) : Int)) (b := 1) (c := ((a : Nat) : Int) + 1) rfl rfl (wI64 (by omega))) ?_
  refine WpL_val rfl rfl (by decide) (r_assign (v := (.int .i64 (((a : Nat) : Int) + 1))) rfl) ?_
  refine WpL_nil ?_
  refine Wp_block ?_
  refine Wp_loop (fun nn_ σ W1 => ∃ (i : Nat) (cur : List Int), (∃ jj_, σ = upds jj_ [(0, (.slice (some ⟨g, 0, none⟩) n c)), (1, (.int .i64 ((a : Nat) : Int))), (2, (.int .i64 ((b : Nat) : Int))), (3, fv), (8, (.int .i64 ((i : Nat) : Int)))]) ∧ Chg (fun q => q = g) w0 W1 ∧ Blk W1 g ((cur.map (Value.int .i64) ++ rest).toArray) T ∧ (a + 1 ≤ i ∧ i ≤ b + 1) ∧ (List.Perm cur l) ∧ nn_ = b + 1 - i) (n := b + 1 - (a + 1)) ?_ ?_
  · exact ⟨a + 1, l, Fits.out ⟨rfl, rfl, rfl, rfl, rfl, trivial⟩, E, hB, ⟨by omega, by omega⟩, List.Perm.refl _, rfl⟩
  · clear E hB
    rintro _ _ W1 ⟨i, cur, ⟨j1, rfl⟩, E, hB, hi, hp, rfl⟩
    refine Wp_seq ?_
    refine Wp_seq_region ?_
    refine WpL_val rfl rfl (by decide) (r_move (v := (.int .i64 ((i : Nat) : Int))) rfl) ?_
    refine WpL_val rfl rfl (by decide) (r_move (v := (.int .i64 ((b : Nat) : Int))) rfl) ?_
    refine WpL_val rfl rfl (by decide) (r_lss (k := .i64) (a := ((i : Nat) : Int)) (b := ((b : Nat) : Int)) rfl rfl) ?_
    refine WpL_nil ?_
    refine Wp_cond (b := decide ((((i : Nat) : Int) : Int) < ((b : Nat) : Int))) rfl (fun hlt => ?_) (fun hlt => ?_)
    · have khlt := hlt
      replace hlt := of_decide_eq_true hlt
      refine Wp_skip ?_
      refine thn_normal ?_
      refine Wp_seq ?_
      refine Wp_block ?_
      refine Wp_seq_region ?_
      refine WpL_val rfl rfl (by decide) (r_move (v := (.int .i64 ((i : Nat) : Int))) rfl) ?_
      refine WpL_val rfl rfl (by decide) (r_assign (v := (.int .i64 ((i : Nat) : Int))) rfl) ?_
      refine WpL_nil ?_
      refine Wp_block ?_
      refine Wp_loop (fun nn_ σ W3 => ∃ (j : Nat) (cu : List Int), (∃ jj_, σ = upds jj_ [(0, (.slice (some ⟨g, 0, none⟩) n c)), (1, (.int .i64 ((a : Nat) : Int))), (2, (.int .i64 ((b : Nat) : Int))), (3, fv), (8, (.int .i64 ((i : Nat) : Int))), (9, (.int .i64 ((j : Nat) : Int)))]) ∧ Chg (fun q => q = g) w0 W3 ∧ Blk W3 g ((cu.map (Value.int .i64) ++ rest).toArray) T ∧ (a ≤ j ∧ j ≤ i) ∧ (List.Perm cu l) ∧ nn_ = j + 1) (n := i + 1) ?_ ?_
      · exact ⟨i, cur, Fits.out ⟨rfl, rfl, rfl, rfl, rfl, rfl, trivial⟩, E, hB, ⟨by omega, by omega⟩, hp, rfl⟩
      · clear E hB
        rintro _ _ W3 ⟨j, cu, ⟨j3, rfl⟩, E, hB, hj, hq, rfl⟩
        have hcl : cu.length = n := by rw [hq.length_eq, hn]
        rcases Bool.eq_false_or_eq_true (decide (((a : Nat) : Int) < ((j : Nat) : Int))) with hgt | hgt
        · have khgt := hgt
          replace khgt := of_decide_eq_true khgt
          obtain ⟨x, hx⟩ := get_of_lt (l := cu) (i := j) (by omega)
          obtain ⟨y, hy⟩ := get_of_lt (l := cu) (i := j - 1) (by omega)
          have hj1 : (((j : Nat) : Int) - 1) = (((j - 1 : Nat) : Nat) : Int) := by omega
          refine Wp_seq ?_
          refine Wp_seq ?_
          obtain ⟨Fs4, hFs4⟩ : ∃ Fs : List Fact, Fs = [.eq (.int .i64 ((j : Nat) : Int)), .eq (.int .i64 ((a : Nat) : Int)), .eq (.bool true), .eq (.bool true), .eq fv, .eq (.slice (some ⟨g, 0, none⟩) n c), .eq (.int .i64 ((j : Nat) : Int)), .eq (.pointer (some ⟨g, 0 + j, none⟩)), .eq (.int .i64 x), .eq (.slice (some ⟨g, 0, none⟩) n c), .eq (.int .i64 ((j : Nat) : Int)), .eq (.int .i64 (((j : Nat) : Int) - 1)), .eq (.pointer (some ⟨g, 0 + (j - 1), none⟩)), .eq (.int .i64 y), .eq (.int .i64 (cf x y)), .eq (.bool (decide (cf x y < 0))), .eq (.bool (decide (cf x y < 0)))] := ⟨_, rfl⟩
          refine Wp_dag [18, 19, 20, 21, 22, 23, 24, 25, 26, 27, 28, 29, 30, 31, 32, 33, 34] [[], [], [0, 1], [2], [3], [3], [3], [3, 5, 6], [3, 7], [3], [3], [3, 10], [3, 9, 11], [3, 12], [3, 4, 8, 13], [3, 14], [3, 15]] Fs4 hFs4 mixed (by kernel_rfl) (by kernel_rfl) ?_ ?_
          · intro wd X0
            refine DagSteps.cons (fun s' w' X U H => Or.inl ⟨?_, ?_⟩) ?_
            · exact Guarded_none rfl
            · exact Does_val (r_move (v := (.int .i64 ((j : Nat) : Int))) (U 9 rfl)) (Ext.refl _) rfl
            refine DagSteps.cons (fun s' w' X U H => Or.inl ⟨?_, ?_⟩) ?_
            · exact Guarded_none rfl
            · exact Does_val (r_move (v := (.int .i64 ((a : Nat) : Int))) (U 1 rfl)) (Ext.refl _) rfl
            refine DagSteps.cons (fun s' w' X U H => Or.inl ⟨?_, ?_⟩) ?_
            · exact Guarded_none rfl
            · have e18 : s' 18 = (.int .i64 ((j : Nat) : Int)) := H 0 rfl 18 (.eq (.int .i64 ((j : Nat) : Int))) rfl (by rw [hFs4]; rfl)
              have e19 : s' 19 = (.int .i64 ((a : Nat) : Int)) := H 1 rfl 19 (.eq (.int .i64 ((a : Nat) : Int))) rfl (by rw [hFs4]; rfl)
              exact Does_val (Eq.trans (r_gtr (k := .i64) (a := ((j : Nat) : Int)) (b := ((a : Nat) : Int)) e18 e19) (by rw [hgt])) (Ext.refl _) rfl
            refine DagSteps.cons (fun s' w' X U H => Or.inl ⟨?_, ?_⟩) ?_
            · exact Guarded_none rfl
            · have e20 : s' 20 = (.bool true) := H 2 rfl 20 (.eq (.bool true)) rfl (by rw [hFs4]; rfl)
              exact Does_val (r_move (v := (.bool true)) e20) (Ext.refl _) rfl
            refine DagSteps.cons (fun s' w' X U H => Or.inl ⟨?_, ?_⟩) ?_
            · exact Guarded_some rfl rfl (d := 21) (H 3 rfl 21 (.eq (.bool true)) rfl (by rw [hFs4]; rfl))
            · exact Does_val (r_move (v := fv) (U 3 rfl)) (Ext.refl _) rfl
            refine DagSteps.cons (fun s' w' X U H => Or.inl ⟨?_, ?_⟩) ?_
            · exact Guarded_some rfl rfl (d := 21) (H 3 rfl 21 (.eq (.bool true)) rfl (by rw [hFs4]; rfl))
            · exact Does_val (r_move (v := (.slice (some ⟨g, 0, none⟩) n c)) (U 0 rfl)) (Ext.refl _) rfl
            refine DagSteps.cons (fun s' w' X U H => Or.inl ⟨?_, ?_⟩) ?_
            · exact Guarded_some rfl rfl (d := 21) (H 3 rfl 21 (.eq (.bool true)) rfl (by rw [hFs4]; rfl))
            · exact Does_val (r_move (v := (.int .i64 ((j : Nat) : Int))) (U 9 rfl)) (Ext.refl _) rfl
            refine DagSteps.cons (fun s' w' X U H => Or.inl ⟨?_, ?_⟩) ?_
            · exact Guarded_some rfl rfl (d := 21) (H 3 rfl 21 (.eq (.bool true)) rfl (by rw [hFs4]; rfl))
            · have e23 : s' 23 = (.slice (some ⟨g, 0, none⟩) n c) := H 5 rfl 23 (.eq (.slice (some ⟨g, 0, none⟩) n c)) rfl (by rw [hFs4]; rfl)
              have e24 : s' 24 = (.int .i64 ((j : Nat) : Int)) := H 6 rfl 24 (.eq (.int .i64 ((j : Nat) : Int))) rfl (by rw [hFs4]; rfl)
              exact Does_val (r_indexSlice (b := g) (o := 0) (len := n) (cap := c) (i := j) (o' := 0 + j) e23 e24 (by omega) Try.underlying22 siz3 (by omega) (by omega)) (Ext.refl _) rfl
            refine DagSteps.cons (fun s' w' X U H => Or.inl ⟨?_, ?_⟩) ?_
            · exact Guarded_some rfl rfl (d := 21) (H 3 rfl 21 (.eq (.bool true)) rfl (by rw [hFs4]; rfl))
            · have e25 : s' 25 = (.pointer (some ⟨g, 0 + j, none⟩)) := H 7 rfl 25 (.eq (.pointer (some ⟨g, 0 + j, none⟩))) rfl (by rw [hFs4]; rfl)
              exact Does_val (r_load (v := (.int .i64 x)) e25 flat3 ((by rw [Nat.zero_add]; exact ints_get ((X0.trans X).keep hB) hx))) (Ext.refl _) rfl
            refine DagSteps.cons (fun s' w' X U H => Or.inl ⟨?_, ?_⟩) ?_
            · exact Guarded_some rfl rfl (d := 21) (H 3 rfl 21 (.eq (.bool true)) rfl (by rw [hFs4]; rfl))
            · exact Does_val (r_move (v := (.slice (some ⟨g, 0, none⟩) n c)) (U 0 rfl)) (Ext.refl _) rfl
            refine DagSteps.cons (fun s' w' X U H => Or.inl ⟨?_, ?_⟩) ?_
            · exact Guarded_some rfl rfl (d := 21) (H 3 rfl 21 (.eq (.bool true)) rfl (by rw [hFs4]; rfl))
            · exact Does_val (r_move (v := (.int .i64 ((j : Nat) : Int))) (U 9 rfl)) (Ext.refl _) rfl
            refine DagSteps.cons (fun s' w' X U H => Or.inl ⟨?_, ?_⟩) ?_
            · exact Guarded_some rfl rfl (d := 21) (H 3 rfl 21 (.eq (.bool true)) rfl (by rw [hFs4]; rfl))
            · have e28 : s' 28 = (.int .i64 ((j : Nat) : Int)) := H 10 rfl 28 (.eq (.int .i64 ((j : Nat) : Int))) rfl (by rw [hFs4]; rfl)
              exact Does_val (r_sub (k := .i64) (a := ((j : Nat) : Int)) (b := 1) (c := ((j : Nat) : Int) - 1) e28 rfl (wI64 (by omega))) (Ext.refl _) rfl
            refine DagSteps.cons (fun s' w' X U H => Or.inl ⟨?_, ?_⟩) ?_
            · exact Guarded_some rfl rfl (d := 21) (H 3 rfl 21 (.eq (.bool true)) rfl (by rw [hFs4]; rfl))
            · have e27 : s' 27 = (.slice (some ⟨g, 0, none⟩) n c) := H 9 rfl 27 (.eq (.slice (some ⟨g, 0, none⟩) n c)) rfl (by rw [hFs4]; rfl)
              have e29 : s' 29 = (.int .i64 (((j : Nat) : Int) - 1)) := H 11 rfl 29 (.eq (.int .i64 (((j : Nat) : Int) - 1))) rfl (by rw [hFs4]; rfl)
              exact Does_val (r_indexSlice (b := g) (o := 0) (len := n) (cap := c) (i := j - 1) (o' := 0 + (j - 1)) e27 e29 (by omega) Try.underlying22 siz3 (by omega) (by omega)) (Ext.refl _) rfl
            refine DagSteps.cons (fun s' w' X U H => Or.inl ⟨?_, ?_⟩) ?_
            · exact Guarded_some rfl rfl (d := 21) (H 3 rfl 21 (.eq (.bool true)) rfl (by rw [hFs4]; rfl))
            · have e30 : s' 30 = (.pointer (some ⟨g, 0 + (j - 1), none⟩)) := H 12 rfl 30 (.eq (.pointer (some ⟨g, 0 + (j - 1), none⟩))) rfl (by rw [hFs4]; rfl)
              exact Does_val (r_load (v := (.int .i64 y)) e30 flat3 ((by rw [Nat.zero_add]; exact ints_get ((X0.trans X).keep hB) hy))) (Ext.refl _) rfl
            refine DagSteps.cons (fun s' w' X U H => Or.inl ⟨?_, ?_⟩) ?_
            · exact Guarded_some rfl rfl (d := 21) (H 3 rfl 21 (.eq (.bool true)) rfl (by rw [hFs4]; rfl))
            · have e26 : s' 26 = (.int .i64 x) := H 8 rfl 26 (.eq (.int .i64 x)) rfl (by rw [hFs4]; rfl)
              have e31 : s' 31 = (.int .i64 y) := H 13 rfl 31 (.eq (.int .i64 y)) rfl (by rw [hFs4]; rfl)
              have e22 : s' 22 = fv := H 4 rfl 22 (.eq fv) rfl (by rw [hFs4]; rfl)
              exact Does_callV e22 (lst2 e26 e31) (hf _ x y (E.ext (X0.trans X)) (hq.mem_iff.1 (List.mem_of_getElem? hx)) (hq.mem_iff.1 (List.mem_of_getElem? hy)))
            refine DagSteps.cons (fun s' w' X U H => Or.inl ⟨?_, ?_⟩) ?_
            · exact Guarded_some rfl rfl (d := 21) (H 3 rfl 21 (.eq (.bool true)) rfl (by rw [hFs4]; rfl))
            · have e32 : s' 32 = (.int .i64 (cf x y)) := H 14 rfl 32 (.eq (.int .i64 (cf x y))) rfl (by rw [hFs4]; rfl)
              exact Does_val (r_lss (k := .i64) (a := cf x y) (b := 0) e32 rfl) (Ext.refl _) rfl
            refine DagSteps.cons (fun s' w' X U H => Or.inl ⟨?_, ?_⟩) ?_
            · exact Guarded_none rfl
            · have e21 : s' 21 = (.bool true) := H 3 rfl 21 (.eq (.bool true)) rfl (by rw [hFs4]; rfl)
              have e33 : s' 33 = (.bool (decide (cf x y < 0))) := H 15 rfl 33 (.eq (.bool (decide (cf x y < 0)))) rfl (by rw [hFs4]; rfl)
              exact Does_val (r_pick (b := true) (v := (.bool (decide (cf x y < 0)))) e21 e33) (Ext.refl _) rfl
            exact DagSteps.nil
          · intro s' w4 X4 U H
            obtain ⟨j4, rfl⟩ := Fits.out (σ := s') (l := [(0, (.slice (some ⟨g, 0, none⟩) n c)), (1, (.int .i64 ((a : Nat) : Int))), (2, (.int .i64 ((b : Nat) : Int))), (3, fv), (8, (.int .i64 ((i : Nat) : Int))), (9, (.int .i64 ((j : Nat) : Int))), (34, (.bool (decide (cf x y < 0))))]) ⟨U 0 rfl, U 1 rfl, U 2 rfl, U 3 rfl, U 8 rfl, U 9 rfl, (show s' 34 = (.bool (decide (cf x y < 0))) from H 16 34 (.eq (.bool (decide (cf x y < 0)))) rfl (by rw [hFs4]; rfl)), trivial⟩
            clear U H
            replace hB := X4.keep hB
            replace E := E.ext X4
            refine thn_normal ?_
            refine Wp_cond (b := decide (cf x y < 0)) rfl (fun hc => ?_) (fun hc => ?_)
            · have khc := hc
              replace hc := of_decide_eq_true hc
              refine Wp_skip ?_
              refine thn_normal ?_
              refine Wp_seq ?_
              refine Wp_block ?_
              obtain ⟨Fs6, hFs6⟩ : ∃ Fs : List (FactT ((fun q => q = g))), Fs = [.eq (.slice (some ⟨g, 0, none⟩) n c), .eq (.int .i64 ((j : Nat) : Int)), .eq (.slice (some ⟨g, 0, none⟩) n c), .eq (.int .i64 ((j : Nat) : Int)), .eq (.int .i64 (((j : Nat) : Int) - 1)), .eq (.slice (some ⟨g, 0, none⟩) n c), .eq (.int .i64 ((j : Nat) : Int)), .eq (.int .i64 (((j : Nat) : Int) - 1)), .eq (.pointer (some ⟨g, 0 + (j - 1), none⟩)), .eq (.int .i64 y), .eq (.slice (some ⟨g, 0, none⟩) n c), .eq (.int .i64 ((j : Nat) : Int)), .eq (.pointer (some ⟨g, 0 + j, none⟩)), .eq (.int .i64 x), .eq (.pointer (some ⟨g, 0 + j, none⟩)), .own (fun _ w => Blk w g ((cu.set j y).map (Value.int .i64) ++ rest).toArray T) (fun _ _ _ e h => Ext.keep e h)] := ⟨_, rfl⟩
              refine Wp_dagT ((fun q => q = g)) 16 15 [37, 38, 39, 40, 41, 42, 43, 44, 45, 46, 47, 48, 49, 50, 51, 68] [[], [], [], [], [3], [], [], [6], [5, 7], [8], [], [], [10, 11], [12], [0, 1, 5, 6, 7, 8, 9, 13], [0, 1, 5, 6, 7, 8, 9, 13, 14]] Fs6 hFs6 rfl mixed (by kernel_rfl) (by kernel_rfl) (by kernel_rfl) ?_ ?_
              · intro wd X0
                refine DagStepsT.cons (fun s' w' X U H => ?_) ?_
                · exact DoesT_val (r_move (v := (.slice (some ⟨g, 0, none⟩) n c)) (U 0 rfl)) (Chg.refl _ _) rfl
                refine DagStepsT.cons (fun s' w' X U H => ?_) ?_
                · exact DoesT_val (r_move (v := (.int .i64 ((j : Nat) : Int))) (U 9 rfl)) (Chg.refl _ _) rfl
                refine DagStepsT.cons (fun s' w' X U H => ?_) ?_
                · exact DoesT_val (r_move (v := (.slice (some ⟨g, 0, none⟩) n c)) (U 0 rfl)) (Chg.refl _ _) rfl
                refine DagStepsT.cons (fun s' w' X U H => ?_) ?_
                · exact DoesT_val (r_move (v := (.int .i64 ((j : Nat) : Int))) (U 9 rfl)) (Chg.refl _ _) rfl
                refine DagStepsT.cons (fun s' w' X U H => ?_) ?_
                · have e40 : s' 40 = (.int .i64 ((j : Nat) : Int)) := H 3 rfl 40 (.eq (.int .i64 ((j : Nat) : Int))) rfl (by rw [hFs6]; rfl)
                  exact DoesT_val (r_sub (k := .i64) (a := ((j : Nat) : Int)) (b := 1) (c := ((j : Nat) : Int) - 1) e40 rfl (wI64 (by omega))) (Chg.refl _ _) rfl
                refine DagStepsT.cons (fun s' w' X U H => ?_) ?_
                · exact DoesT_val (r_move (v := (.slice (some ⟨g, 0, none⟩) n c)) (U 0 rfl)) (Chg.refl _ _) rfl
                refine DagStepsT.cons (fun s' w' X U H => ?_) ?_
                · exact DoesT_val (r_move (v := (.int .i64 ((j : Nat) : Int))) (U 9 rfl)) (Chg.refl _ _) rfl
                refine DagStepsT.cons (fun s' w' X U H => ?_) ?_
                · have e43 : s' 43 = (.int .i64 ((j : Nat) : Int)) := H 6 rfl 43 (.eq (.int .i64 ((j : Nat) : Int))) rfl (by rw [hFs6]; rfl)
                  exact DoesT_val (r_sub (k := .i64) (a := ((j : Nat) : Int)) (b := 1) (c := ((j : Nat) : Int) - 1) e43 rfl (wI64 (by omega))) (Chg.refl _ _) rfl
                refine DagStepsT.cons (fun s' w' X U H => ?_) ?_
                · have e42 : s' 42 = (.slice (some ⟨g, 0, none⟩) n c) := H 5 rfl 42 (.eq (.slice (some ⟨g, 0, none⟩) n c)) rfl (by rw [hFs6]; rfl)
                  have e44 : s' 44 = (.int .i64 (((j : Nat) : Int) - 1)) := H 7 rfl 44 (.eq (.int .i64 (((j : Nat) : Int) - 1))) rfl (by rw [hFs6]; rfl)
                  exact DoesT_val (r_indexSlice (b := g) (o := 0) (len := n) (cap := c) (i := j - 1) (o' := 0 + (j - 1)) e42 e44 (by omega) Try.underlying22 siz3 (by omega) (by omega)) (Chg.refl _ _) rfl
                refine DagStepsT.cons (fun s' w' X U H => ?_) ?_
                · have e45 : s' 45 = (.pointer (some ⟨g, 0 + (j - 1), none⟩)) := H 8 rfl 45 (.eq (.pointer (some ⟨g, 0 + (j - 1), none⟩))) rfl (by rw [hFs6]; rfl)
                  exact DoesT_val (r_load (v := (.int .i64 y)) e45 flat3 (by rw [Nat.zero_add]; exact (Chg.keep X (fun f => f) (X0.keep hB) |> fun h => ints_get h hy))) (Chg.refl _ _) rfl
                refine DagStepsT.cons (fun s' w' X U H => ?_) ?_
                · exact DoesT_val (r_move (v := (.slice (some ⟨g, 0, none⟩) n c)) (U 0 rfl)) (Chg.refl _ _) rfl
                refine DagStepsT.cons (fun s' w' X U H => ?_) ?_
                · exact DoesT_val (r_move (v := (.int .i64 ((j : Nat) : Int))) (U 9 rfl)) (Chg.refl _ _) rfl
                refine DagStepsT.cons (fun s' w' X U H => ?_) ?_
                · have e47 : s' 47 = (.slice (some ⟨g, 0, none⟩) n c) := H 10 rfl 47 (.eq (.slice (some ⟨g, 0, none⟩) n c)) rfl (by rw [hFs6]; rfl)
                  have e48 : s' 48 = (.int .i64 ((j : Nat) : Int)) := H 11 rfl 48 (.eq (.int .i64 ((j : Nat) : Int))) rfl (by rw [hFs6]; rfl)
                  exact DoesT_val (r_indexSlice (b := g) (o := 0) (len := n) (cap := c) (i := j) (o' := 0 + j) e47 e48 (by omega) Try.underlying22 siz3 (by omega) (by omega)) (Chg.refl _ _) rfl
                refine DagStepsT.cons (fun s' w' X U H => ?_) ?_
                · have e49 : s' 49 = (.pointer (some ⟨g, 0 + j, none⟩)) := H 12 rfl 49 (.eq (.pointer (some ⟨g, 0 + j, none⟩))) rfl (by rw [hFs6]; rfl)
                  exact DoesT_val (r_load (v := (.int .i64 x)) e49 flat3 (by rw [Nat.zero_add]; exact (Chg.keep X (fun f => f) (X0.keep hB) |> fun h => ints_get h hx))) (Chg.refl _ _) rfl
                refine DagStepsT.cons (fun s' w' X U H => ?_) ?_
                · have e37 : s' 37 = (.slice (some ⟨g, 0, none⟩) n c) := H 0 rfl 37 (.eq (.slice (some ⟨g, 0, none⟩) n c)) rfl (by rw [hFs6]; rfl)
                  have e38 : s' 38 = (.int .i64 ((j : Nat) : Int)) := H 1 rfl 38 (.eq (.int .i64 ((j : Nat) : Int))) rfl (by rw [hFs6]; rfl)
                  exact DoesT_val (r_indexSlice (b := g) (o := 0) (len := n) (cap := c) (i := j) (o' := 0 + j) e37 e38 (by omega) Try.underlying22 siz3 (by omega) (by omega)) (Chg.refl _ _) rfl
                refine DagStepsT.cons (fun s' w' X U H => ?_) ?_
                · have e51 : s' 51 = (.pointer (some ⟨g, 0 + j, none⟩)) := H 14 rfl 51 (.eq (.pointer (some ⟨g, 0 + j, none⟩))) rfl (by rw [hFs6]; rfl)
                  have e46 : s' 46 = (.int .i64 y) := H 9 rfl 46 (.eq (.int .i64 y)) rfl (by rw [hFs6]; rfl)
                  exact DoesT_store e51 e46 rfl siz3 (Chg.keep X (fun f => f) (X0.keep hB)) (by simp; omega) rfl (fun w9 h => by have h2 := h.blk; rw [Nat.zero_add, ints_set (by omega) y] at h2; exact h2)
                exact DagStepsT.nil
              · intro s' wd6 w6 X0 X6 U H
                have e39 : s' 39 = (.slice (some ⟨g, 0, none⟩) n c) := H 2 39 (.eq (.slice (some ⟨g, 0, none⟩) n c)) rfl (by rw [hFs6]; rfl)
                have e41 : s' 41 = (.int .i64 (((j : Nat) : Int) - 1)) := H 4 41 (.eq (.int .i64 (((j : Nat) : Int) - 1))) rfl (by rw [hFs6]; rfl)
                have e50 : s' 50 = (.int .i64 x) := H 13 50 (.eq (.int .i64 x)) rfl (by rw [hFs6]; rfl)
                obtain hB := (show (.own (fun _ w => Blk w g ((cu.set j y).map (Value.int .i64) ++ rest).toArray T) (fun _ _ _ e h => Ext.keep e h) : FactT ((fun q => q = g))).In (s' 68) w6 from H 15 68 (.own (fun _ w => Blk w g ((cu.set j y).map (Value.int .i64) ++ rest).toArray T) (fun _ _ _ e h => Ext.keep e h)) rfl (by rw [hFs6]; rfl))
                obtain ⟨j6, rfl⟩ := Fits.out (σ := s') (l := [(0, (.slice (some ⟨g, 0, none⟩) n c)), (1, (.int .i64 ((a : Nat) : Int))), (2, (.int .i64 ((b : Nat) : Int))), (3, fv), (8, (.int .i64 ((i : Nat) : Int))), (9, (.int .i64 ((j : Nat) : Int))), (39, (.slice (some ⟨g, 0, none⟩) n c)), (41, (.int .i64 (((j : Nat) : Int) - 1))), (50, (.int .i64 x))]) ⟨U 0 rfl, U 1 rfl, U 2 rfl, U 3 rfl, U 8 rfl, U 9 rfl, e39, e41, e50, trivial⟩
                clear U H
                replace E := (E.ext X0).step X6 (fun q _ h => h)
                refine WpL_val rfl rfl (by decide) (r_indexSlice (b := g) (o := 0) (len := n) (cap := c) (i := j - 1) (o' := 0 + (j - 1)) rfl rfl (by omega) Try.underlying22 siz3 (by omega) (by omega)) ?_
                refine s_store (b := g) (o := 0 + (j - 1)) (c' := (((cu.set j y).set (j - 1) x).map (Value.int .i64) ++ rest).toArray) (v := (.int .i64 x)) rfl rfl rfl siz3 hB (by simp; omega) (by rw [Nat.zero_add]; exact ints_set (by simp; omega) x) ?_
                intro w7 S7
                replace E := S7.step E (by first | exact Or.inl (by omega) | exact Or.inr rfl | exact Or.inr (by assumption) | exact Or.inr (by simp) | exact Or.inr (by omega) | exact Or.inr (by dsimp only; omega))
                replace hB := S7.blk
                refine WpL_nil ?_
                refine inB_normal ?_
                refine thn_normal ?_
                refine Wp_region ?_
                refine WpL_val rfl rfl (by decide) (r_move (v := (.int .i64 ((j : Nat) : Int))) rfl) ?_
                refine WpL_val rfl rfl (by decide) (r_sub (k := .i64) (a := ((j : Nat) : Int)) (b := 1) (c := (((j - 1 : Nat) : Nat) : Int)) rfl rfl ((wI64 (by omega)).trans (by omega))) ?_
                refine WpL_val rfl rfl (by decide) (r_assign (v := (.int .i64 (((j - 1 : Nat) : Nat) : Int))) rfl) ?_
                refine WpL_nil ?_
                refine thn_normal ?_
                exact ⟨(j - 1) + 1, by omega, j - 1, (cu.set j y).set (j - 1) x, Fits.out ⟨rfl, rfl, rfl, rfl, rfl, rfl, trivial⟩, E, hB, ⟨by omega, by omega⟩, (swap_perm hx hy (by omega)).trans hq, rfl⟩
            · have khc := hc
              replace hc := of_decide_eq_false hc
              refine Wp_exit ?_
              refine thn_exit ?_
              refine thn_exit ?_
              refine inB_here ?_
              refine inB_normal ?_
              refine thn_normal ?_
              refine Wp_region ?_
              refine WpL_val rfl rfl (by decide) (r_move (v := (.int .i64 ((i : Nat) : Int))) rfl) ?_
              refine WpL_val rfl rfl (by decide) (r_add (k := .i64) (a := ((i : Nat) : Int)) (b := 1) (c := ((i : Nat) : Int) + 1) rfl rfl (wI64 (by omega))) ?_
              refine WpL_val rfl rfl (by decide) (r_assign (v := (.int .i64 (((i : Nat) : Int) + 1))) rfl) ?_
              refine WpL_nil ?_
              refine thn_normal ?_
              exact ⟨b + 1 - (i + 1), by omega, i + 1, cu, Fits.out ⟨rfl, rfl, rfl, rfl, rfl, trivial⟩, E, hB, ⟨by omega, by omega⟩, hq, rfl⟩
        · have khgt := hgt
          replace khgt := of_decide_eq_false khgt
          refine Wp_seq ?_
          refine Wp_seq ?_
          obtain ⟨Fs8, hFs8⟩ : ∃ Fs : List Fact, Fs = [.eq (.int .i64 ((j : Nat) : Int)), .eq (.int .i64 ((a : Nat) : Int)), .eq (.bool false), .eq (.bool false), .eq undef, .eq undef, .eq undef, .eq undef, .eq undef, .eq undef, .eq undef, .eq undef, .eq undef, .eq undef, .eq undef, .eq undef, .eq (.bool false)] := ⟨_, rfl⟩
          refine Wp_dag [18, 19, 20, 21, 22, 23, 24, 25, 26, 27, 28, 29, 30, 31, 32, 33, 34] [[], [], [0, 1], [2], [3], [3], [3], [3, 5, 6], [3, 7], [3], [3], [3, 10], [3, 9, 11], [3, 12], [3, 4, 8, 13], [3, 14], [3, 15]] Fs8 hFs8 mixed (by kernel_rfl) (by kernel_rfl) ?_ ?_
          · intro wd X0
            refine DagSteps.cons (fun s' w' X U H => Or.inl ⟨?_, ?_⟩) ?_
            · exact Guarded_none rfl
            · exact Does_val (r_move (v := (.int .i64 ((j : Nat) : Int))) (U 9 rfl)) (Ext.refl _) rfl
            refine DagSteps.cons (fun s' w' X U H => Or.inl ⟨?_, ?_⟩) ?_
            · exact Guarded_none rfl
            · exact Does_val (r_move (v := (.int .i64 ((a : Nat) : Int))) (U 1 rfl)) (Ext.refl _) rfl
            refine DagSteps.cons (fun s' w' X U H => Or.inl ⟨?_, ?_⟩) ?_
            · exact Guarded_none rfl
            · have e18 : s' 18 = (.int .i64 ((j : Nat) : Int)) := H 0 rfl 18 (.eq (.int .i64 ((j : Nat) : Int))) rfl (by rw [hFs8]; rfl)
              have e19 : s' 19 = (.int .i64 ((a : Nat) : Int)) := H 1 rfl 19 (.eq (.int .i64 ((a : Nat) : Int))) rfl (by rw [hFs8]; rfl)
              exact Does_val (Eq.trans (r_gtr (k := .i64) (a := ((j : Nat) : Int)) (b := ((a : Nat) : Int)) e18 e19) (by rw [hgt])) (Ext.refl _) rfl
            refine DagSteps.cons (fun s' w' X U H => Or.inl ⟨?_, ?_⟩) ?_
            · exact Guarded_none rfl
            · have e20 : s' 20 = (.bool false) := H 2 rfl 20 (.eq (.bool false)) rfl (by rw [hFs8]; rfl)
              exact Does_val (r_move (v := (.bool false)) e20) (Ext.refl _) rfl
            refine DagSteps.cons (fun s' w' X U H => Or.inr ⟨?_, rfl⟩) ?_
            · exact Unmet_mk rfl rfl (d := 21) (Or.inl (H 3 rfl 21 (.eq (.bool false)) rfl (by rw [hFs8]; rfl)))
            refine DagSteps.cons (fun s' w' X U H => Or.inr ⟨?_, rfl⟩) ?_
            · exact Unmet_mk rfl rfl (d := 21) (Or.inl (H 3 rfl 21 (.eq (.bool false)) rfl (by rw [hFs8]; rfl)))
            refine DagSteps.cons (fun s' w' X U H => Or.inr ⟨?_, rfl⟩) ?_
            · exact Unmet_mk rfl rfl (d := 21) (Or.inl (H 3 rfl 21 (.eq (.bool false)) rfl (by rw [hFs8]; rfl)))
            refine DagSteps.cons (fun s' w' X U H => Or.inr ⟨?_, rfl⟩) ?_
            · exact Unmet_mk rfl rfl (d := 21) (Or.inl (H 3 rfl 21 (.eq (.bool false)) rfl (by rw [hFs8]; rfl)))
            refine DagSteps.cons (fun s' w' X U H => Or.inr ⟨?_, rfl⟩) ?_
            · exact Unmet_mk rfl rfl (d := 21) (Or.inl (H 3 rfl 21 (.eq (.bool false)) rfl (by rw [hFs8]; rfl)))
            refine DagSteps.cons (fun s' w' X U H => Or.inr ⟨?_, rfl⟩) ?_
            · exact Unmet_mk rfl rfl (d := 21) (Or.inl (H 3 rfl 21 (.eq (.bool false)) rfl (by rw [hFs8]; rfl)))
            refine DagSteps.cons (fun s' w' X U H => Or.inr ⟨?_, rfl⟩) ?_
            · exact Unmet_mk rfl rfl (d := 21) (Or.inl (H 3 rfl 21 (.eq (.bool false)) rfl (by rw [hFs8]; rfl)))
            refine DagSteps.cons (fun s' w' X U H => Or.inr ⟨?_, rfl⟩) ?_
            · exact Unmet_mk rfl rfl (d := 21) (Or.inl (H 3 rfl 21 (.eq (.bool false)) rfl (by rw [hFs8]; rfl)))
            refine DagSteps.cons (fun s' w' X U H => Or.inr ⟨?_, rfl⟩) ?_
            · exact Unmet_mk rfl rfl (d := 21) (Or.inl (H 3 rfl 21 (.eq (.bool false)) rfl (by rw [hFs8]; rfl)))
            refine DagSteps.cons (fun s' w' X U H => Or.inr ⟨?_, rfl⟩) ?_
            · exact Unmet_mk rfl rfl (d := 21) (Or.inl (H 3 rfl 21 (.eq (.bool false)) rfl (by rw [hFs8]; rfl)))
            refine DagSteps.cons (fun s' w' X U H => Or.inr ⟨?_, rfl⟩) ?_
            · exact Unmet_mk rfl rfl (d := 21) (Or.inl (H 3 rfl 21 (.eq (.bool false)) rfl (by rw [hFs8]; rfl)))
            refine DagSteps.cons (fun s' w' X U H => Or.inr ⟨?_, rfl⟩) ?_
            · exact Unmet_mk rfl rfl (d := 21) (Or.inl (H 3 rfl 21 (.eq (.bool false)) rfl (by rw [hFs8]; rfl)))
            refine DagSteps.cons (fun s' w' X U H => Or.inl ⟨?_, ?_⟩) ?_
            · exact Guarded_none rfl
            · have e21 : s' 21 = (.bool false) := H 3 rfl 21 (.eq (.bool false)) rfl (by rw [hFs8]; rfl)
              exact Does_val (r_pick (b := false) (v := (.bool false)) e21 rfl) (Ext.refl _) rfl
            exact DagSteps.nil
          · intro s' w8 X8 U H
            obtain ⟨j8, rfl⟩ := Fits.out (σ := s') (l := [(0, (.slice (some ⟨g, 0, none⟩) n c)), (1, (.int .i64 ((a : Nat) : Int))), (2, (.int .i64 ((b : Nat) : Int))), (3, fv), (8, (.int .i64 ((i : Nat) : Int))), (9, (.int .i64 ((j : Nat) : Int))), (34, (.bool false))]) ⟨U 0 rfl, U 1 rfl, U 2 rfl, U 3 rfl, U 8 rfl, U 9 rfl, (show s' 34 = (.bool false) from H 16 34 (.eq (.bool false)) rfl (by rw [hFs8]; rfl)), trivial⟩
            clear U H
            replace hB := X8.keep hB
            replace E := E.ext X8
            refine thn_normal ?_
            refine Wp_cond_false rfl ?_
            refine Wp_exit ?_
            refine thn_exit ?_
            refine thn_exit ?_
            refine inB_here ?_
            refine inB_normal ?_
            refine thn_normal ?_
            refine Wp_region ?_
            refine WpL_val rfl rfl (by decide) (r_move (v := (.int .i64 ((i : Nat) : Int))) rfl) ?_
            refine WpL_val rfl rfl (by decide) (r_add (k := .i64) (a := ((i : Nat) : Int)) (b := 1) (c := ((i : Nat) : Int) + 1) rfl rfl (wI64 (by omega))) ?_
            refine WpL_val rfl rfl (by decide) (r_assign (v := (.int .i64 (((i : Nat) : Int) + 1))) rfl) ?_
            refine WpL_nil ?_
            refine thn_normal ?_
            exact ⟨b + 1 - (i + 1), by omega, i + 1, cu, Fits.out ⟨rfl, rfl, rfl, rfl, rfl, trivial⟩, E, hB, ⟨by omega, by omega⟩, hq, rfl⟩
    · have khlt := hlt
      replace hlt := of_decide_eq_false hlt
      refine Wp_exit ?_
      refine thn_exit ?_
      refine thn_exit ?_
      refine inB_here ?_
      refine fin_none Try.results124 ?_
      exact ⟨cur, hp, hB, E⟩
end Go.Proofs
namespace Go.Proofs
open Go Go.Eng
set_option maxRecDepth 100000
abbrev TD : Nat := 25
abbrev TT : Nat := 58
theorem fi_idx_c (w0 : World) (v fv : Value) (l : List Int) (p : Int → Bool) (hs : IntsAt w0 v l) (hf : ∀ (w : World) (x : Int), Ext w0 w → x ∈ l → CallV Try.prog fv #[.int .i64 x] w fun r w' => r = .bool (p x) ∧ Ext w w') :
    Ret Try.prog 93 #[v, fv] w0 fun r w => r = .int .i64 (idx p l) ∧ Ext w0 w := by
  obtain ⟨a, c, rfl⟩ := SlAt.form hs
  have hlen : l.length ≤ 9223372036854775807 := by simpa using SlAt.le hs
  simp only [List.length_map] at hs ⊢
  refine Ret_of Try.func93 rfl Try.ntmps93 (Nat.le_of_ble_eq_true rfl) ?_
  have E : Chg none1 w0 w0 := Chg.refl _ _
  refine Wp_seq_region ?_
  refine WpL_val rfl rfl (by decide) (r_assign (v := (.int .i64 0)) rfl) ?_
  refine WpL_nil ?_
  refine Wp_seq ?_
  refine Wp_seq_region ?_
  refine WpL_val rfl rfl (by decide) (r_move (v := (.slice a l.length c)) rfl) ?_
  refine WpL_val rfl rfl (by decide) (r_lenSlice (ad := a) (n := l.length) (cap := c) Try.underlying22 rfl) ?_
  refine WpL_val rfl rfl (by decide) (r_move (v := (.int .i64 0)) rfl) ?_
  refine WpL_nil ?_
  refine Wp_block ?_
  refine Wp_loop (fun nn_ σ W1 => ∃ (k : Nat), (∃ jj_, σ = upds jj_ [(0, (.slice a l.length c)), (1, fv), (7, (.int .i64 ((l.length : Nat) : Int))), (8, (.int .i64 ((k : Nat) : Int)))]) ∧ Chg none1 w0 W1 ∧ (k ≤ l.length) ∧ (∀ (i : Nat) (y : Int), i < k → l[i]? = some y → p y = false) ∧ nn_ = l.length - k) (n := l.length - 0) ?_ ?_
  · exact ⟨0, Fits.out ⟨rfl, rfl, rfl, rfl, trivial⟩, E, Nat.zero_le _, (fun i y h => absurd h (Nat.not_lt_zero _)), rfl⟩
  · clear E
    rintro _ _ W1 ⟨k, ⟨j1, rfl⟩, E, hk, hno, rfl⟩
    refine Wp_seq_region ?_
    refine WpL_val rfl rfl (by decide) (r_lss (k := .i64) (a := ((k : Nat) : Int)) (b := ((l.length : Nat) : Int)) rfl rfl) ?_
    refine WpL_nil ?_
    refine Wp_seq ?_
    refine Wp_cond (b := decide ((((k : Nat) : Int) : Int) < ((l.length : Nat) : Int))) rfl (fun hlt => ?_) (fun hlt => ?_)
    · have khlt := hlt
      replace hlt := of_decide_eq_true hlt
      obtain ⟨x, hx⟩ := get_of_lt (l := l) (i := k) (by omega)
      obtain ⟨b, o, rfl, hcells⟩ := ints_cells hs (by omega)
      refine Wp_skip ?_
      refine thn_normal ?_
      refine Wp_seq ?_
      refine Wp_block ?_
      refine Wp_seq_region ?_
      refine WpL_val rfl rfl (by decide) (r_move (v := (.int .i64 ((k : Nat) : Int))) rfl) ?_
      refine WpL_val rfl rfl (by decide) (r_assign (v := (.int .i64 ((k : Nat) : Int))) rfl) ?_
      refine WpL_nil ?_
      refine Wp_seq_region ?_
      refine WpL_val rfl rfl (by decide) (r_move (v := fv) rfl) ?_
      refine WpL_val rfl rfl (by decide) (r_move (v := (.slice (some ⟨b, o, none⟩) l.length c)) rfl) ?_
      refine WpL_val rfl rfl (by decide) (r_move (v := (.int .i64 ((k : Nat) : Int))) rfl) ?_
      refine WpL_val rfl rfl (by decide) (r_indexSlice (b := b) (o := o) (len := l.length) (cap := c) (i := k) (o' := o + k) rfl rfl rfl Try.underlying22 siz3 (by omega) (by omega)) ?_
      refine WpL_val rfl rfl (by decide) (r_load (v := (.int .i64 x)) rfl flat3 (E.cell (fun f => f) (hcells k x hx))) ?_
      refine WpL_callV (fv := fv) (vs := [(.int .i64 x)]) (by decide) rfl rfl (hf _ x E (List.mem_of_getElem? hx)) ?_
      rintro _ w9 ⟨rfl, X9⟩
      replace E := E.ext X9
      refine WpL_nil ?_
      refine Wp_cond (b := p x) rfl (fun hp => ?_) (fun hp => ?_)
      · have khp := hp
        refine Wp_seq_region ?_
        refine WpL_val rfl rfl (by decide) (r_move (v := (.int .i64 ((k : Nat) : Int))) rfl) ?_
        refine WpL_val rfl rfl (by decide) (r_assign (v := (.int .i64 ((k : Nat) : Int))) rfl) ?_
        refine WpL_nil ?_
        refine Wp_ret ?_
        refine inB_ret ?_
        refine thn_ret ?_
        refine thn_ret ?_
        refine inB_ret ?_
        refine thn_ret ?_
        refine fin_tmp Try.results93 (v := (.int .i64 ((k : Nat) : Int))) rfl ?_
        exact ⟨int_eq (idx_hit hx hp hno).symm, E⟩
      · have khp := hp
        refine Wp_skip ?_
        refine inB_normal ?_
        refine thn_normal ?_
        refine Wp_region ?_
        refine WpL_val rfl rfl (by decide) (r_add (k := .i64) (a := ((k : Nat) : Int)) (b := 1) (c := ((k : Nat) : Int) + 1) rfl rfl (wI64 (by omega))) ?_
        refine WpL_val rfl rfl (by decide) (r_move (v := (.int .i64 (((k : Nat) : Int) + 1))) rfl) ?_
        refine WpL_nil ?_
        refine thn_normal ?_
        exact ⟨l.length - (k + 1), by omega, k + 1, Fits.out ⟨rfl, rfl, rfl, rfl, trivial⟩, E, (by omega), below_next hx hp hno, rfl⟩
    · have khlt := hlt
      replace hlt := of_decide_eq_false hlt
      have hkk : k = l.length := by omega
      refine Wp_exit ?_
      refine thn_exit ?_
      refine thn_exit ?_
      refine inB_here ?_
      refine thn_normal ?_
      refine Wp_seq_region ?_
      refine WpL_val rfl rfl (by decide) (r_assign (v := (.int .i64 (-1))) rfl) ?_
      refine WpL_nil ?_
      refine Wp_ret ?_
      refine fin_tmp Try.results93 (v := (.int .i64 (-1))) rfl ?_
      exact ⟨int_eq (idx_miss fun i y hy => hno i y (by have := lt_of_get hy; omega) hy).symm, E⟩
theorem fi_has_c (w0 : World) (v fv : Value) (l : List Int) (p : Int → Bool) (hs : IntsAt w0 v l) (hf : ∀ (w : World) (x : Int), Ext w0 w → x ∈ l → CallV Try.prog fv #[.int .i64 x] w fun r w' => r = .bool (p x) ∧ Ext w w') :
    Ret Try.prog 64 #[v, fv] w0 fun r w => r = .bool (l.any p) ∧ Ext w0 w := by
  refine Ret_of Try.func64 rfl Try.ntmps64 (Nat.le_of_ble_eq_true rfl) ?_
  have E : Chg none1 w0 w0 := Chg.refl _ _
  refine Wp_seq_region ?_
  refine WpL_val rfl rfl (by decide) (r_assign (v := (.bool false)) rfl) ?_
  refine WpL_nil ?_
  refine Wp_seq_region ?_
  refine WpL_val rfl rfl (by decide) (r_move (v := v) rfl) ?_
  refine WpL_val rfl rfl (by decide) (r_move (v := fv) rfl) ?_
  refine WpL_enter rfl rfl (by decide) (r_callF (vs := [v, fv]) Try.func93 nm93 bd93 rfl) (fi_idx_c _ v fv l p hs hf) ?_
  rintro _ w9 ⟨rfl, X9⟩
  replace E := E.ext X9
  refine WpL_val rfl rfl (by decide) (r_geq (k := .i64) (a := idx p l) (b := 0) rfl rfl) ?_
  refine WpL_val rfl rfl (by decide) (r_assign (v := (.bool (decide ((0 : Int) ≤ idx p l)))) rfl) ?_
  refine WpL_nil ?_
  refine Wp_ret ?_
  refine fin_tmp Try.results64 (v := (.bool (decide ((0 : Int) ≤ idx p l)))) rfl ?_
  exact ⟨bool_eq (idx_any p l), E⟩
set_option maxHeartbeats 1000000 in
theorem entries_c (w0 : World) (b1 : Nat) (d : Dfa) (vs : List Value) (s : Nat) (row : List Int) (hB : Blk w0 b1 vs.toArray TD) (hd : DfaAt w0 d vs) (hs : d.next[s]? = some row) :
    Ret Try.prog 75 #[.int .i64 ((s : Nat) : Int), .pointer (some ⟨b1, 0, none⟩)] w0 fun v w => v = .int .i64 (((idxs row).length : Nat) : Int) ∧ Ext w0 w := by
  obtain ⟨aa, ac, na, nc, rfl, _, hn⟩ := hd
  obtain ⟨_, _, hv, hcap, hle⟩ := hn.form
  simp only [Value.slice.injEq] at hv
  obtain ⟨rfl, _, rfl⟩ := hv
  have hsl := lt_of_get hs
  obtain ⟨nb, no, rfl, hncl⟩ := intss_cells hn (by omega)
  obtain ⟨ra, rc, hcell, hints⟩ := hncl s row hs
  have hrl : row.length ≤ 9223372036854775807 := by simpa using SlAt.le hints
  refine Ret_of Try.func75 rfl Try.ntmps75 (Nat.le_of_ble_eq_true rfl) ?_
  have E : Chg none1 w0 w0 := Chg.refl _ _
  refine Wp_seq_region ?_
  refine WpL_val rfl rfl (by decide) (r_assign (v := (.int .i64 0)) rfl) ?_
  refine WpL_nil ?_
  refine Wp_seq_region ?_
  refine WpL_val rfl rfl (by decide) (r_assign (v := (.int .i64 0)) rfl) ?_
  refine WpL_nil ?_
  refine Wp_seq ?_
  refine Wp_seq_region ?_
  refine WpL_val rfl rfl (by decide) (r_fieldAddr (b := b1) (o := 0) (o' := 2) rfl Try.underlying25 rfl siz23 rfl) ?_
  refine WpL_val rfl rfl (by decide) (r_load (v := (.slice (some ⟨nb, no, none⟩) d.next.length nc)) rfl flat23 (hB.cell rfl)) ?_
  refine WpL_val rfl rfl (by decide) (r_move (v := (.int .i64 ((s : Nat) : Int))) rfl) ?_
  refine WpL_val rfl rfl (by decide) (r_indexSlice (b := nb) (o := no) (len := d.next.length) (cap := nc) (i := s) (o' := no + s) rfl rfl rfl Try.underlying23 siz22 (by omega) (by omega)) ?_
  refine WpL_val rfl rfl (by decide) (r_load (v := (.slice ra row.length rc)) rfl flat22 (E.cell (fun f => f) hcell)) ?_
  refine WpL_val rfl rfl (by decide) (r_lenSlice (ad := ra) (n := row.length) (cap := rc) Try.underlying22 rfl) ?_
  refine WpL_val rfl rfl (by decide) (r_move (v := (.int .i64 0)) rfl) ?_
  refine WpL_nil ?_
  refine Wp_block ?_
  refine Wp_loop (fun nn_ σ W1 => ∃ (k : Nat) (m : Nat), (∃ jj_, σ = upds jj_ [(11, (.slice ra row.length rc)), (12, (.int .i64 ((row.length : Nat) : Int))), (13, (.int .i64 ((k : Nat) : Int))), (4, (.int .i64 ((m : Nat) : Int)))]) ∧ Chg none1 w0 W1 ∧ Blk W1 b1 #[(.int .i64 d.start), (.slice aa d.accept.length ac), (.slice (some ⟨nb, no, none⟩) d.next.length nc)] TD ∧ (k ≤ row.length) ∧ (m = (idxsN row k).length) ∧ nn_ = row.length - k) (n := row.length - 0) ?_ ?_
  · exact ⟨0, 0, Fits.out ⟨rfl, rfl, rfl, rfl, trivial⟩, E, hB, Nat.zero_le _, rfl, rfl⟩
  · clear E hB
    rintro _ _ W1 ⟨k, m, ⟨j1, rfl⟩, E, hB, hk, hm, rfl⟩
    refine Wp_seq_region ?_
    refine WpL_val rfl rfl (by decide) (r_lss (k := .i64) (a := ((k : Nat) : Int)) (b := ((row.length : Nat) : Int)) rfl rfl) ?_
    refine WpL_nil ?_
    refine Wp_seq ?_
    refine Wp_cond (b := decide ((((k : Nat) : Int) : Int) < ((row.length : Nat) : Int))) rfl (fun hlt => ?_) (fun hlt => ?_)
    · have khlt := hlt
      replace hlt := of_decide_eq_true hlt
      obtain ⟨x, hx⟩ := get_of_lt (l := row) (i := k) (by omega)
      obtain ⟨rb, ro, hra, hrc⟩ := ints_cells hints (by omega)
      subst hra
      have hsucc := idxsN_succ hx
      have hmle := idxsN_le row k
      refine Wp_skip ?_
      refine thn_normal ?_
      refine Wp_seq ?_
      refine Wp_block ?_
      refine Wp_seq_region ?_
      refine WpL_val rfl rfl (by decide) (r_indexSlice (b := rb) (o := ro) (len := row.length) (cap := rc) (i := k) (o' := ro + k) rfl rfl rfl Try.underlying22 siz3 (by omega) (by omega)) ?_
      refine WpL_val rfl rfl (by decide) (r_load (v := (.int .i64 x)) rfl flat3 (E.cell (fun f => f) (hrc k x hx))) ?_
      refine WpL_val rfl rfl (by decide) (r_assign (v := (.int .i64 x)) rfl) ?_
      refine WpL_nil ?_
      refine Wp_seq_region ?_
      refine WpL_val rfl rfl (by decide) (r_move (v := (.int .i64 x)) rfl) ?_
      refine WpL_val rfl rfl (by decide) (r_geq (k := .i64) (a := x) (b := 0) rfl rfl) ?_
      refine WpL_nil ?_
      refine Wp_cond (b := decide ((0 : Int) ≤ x)) rfl (fun h0 => ?_) (fun h0 => ?_)
      · have kh0 := h0
        replace h0 := of_decide_eq_true h0
        refine Wp_region ?_
        refine WpL_val rfl rfl (by decide) (r_move (v := (.int .i64 ((m : Nat) : Int))) rfl) ?_
        refine WpL_val rfl rfl (by decide) (r_add (k := .i64) (a := ((m : Nat) : Int)) (b := 1) (c := ((m : Nat) : Int) + 1) rfl rfl (wI64 (by omega))) ?_
        refine WpL_val rfl rfl (by decide) (r_assign (v := (.int .i64 (((m : Nat) : Int) + 1))) rfl) ?_
        refine WpL_nil ?_
        refine inB_normal ?_
        refine thn_normal ?_
        refine Wp_region ?_
        refine WpL_val rfl rfl (by decide) (r_add (k := .i64) (a := ((k : Nat) : Int)) (b := 1) (c := ((k : Nat) : Int) + 1) rfl rfl (wI64 (by omega))) ?_
        refine WpL_val rfl rfl (by decide) (r_move (v := (.int .i64 (((k : Nat) : Int) + 1))) rfl) ?_
        refine WpL_nil ?_
        refine thn_normal ?_
        exact ⟨row.length - (k + 1), by omega, k + 1, m + 1, Fits.out ⟨rfl, rfl, rfl, rfl, trivial⟩, E, hB, (by omega), (by rw [hsucc, if_pos h0, hm]; simp), rfl⟩
      · have kh0 := h0
        replace h0 := of_decide_eq_false h0
        refine Wp_skip ?_
        refine inB_normal ?_
        refine thn_normal ?_
        refine Wp_region ?_
        refine WpL_val rfl rfl (by decide) (r_add (k := .i64) (a := ((k : Nat) : Int)) (b := 1) (c := ((k : Nat) : Int) + 1) rfl rfl (wI64 (by omega))) ?_
        refine WpL_val rfl rfl (by decide) (r_move (v := (.int .i64 (((k : Nat) : Int) + 1))) rfl) ?_
        refine WpL_nil ?_
        refine thn_normal ?_
        exact ⟨row.length - (k + 1), by omega, k + 1, m, Fits.out ⟨rfl, rfl, rfl, rfl, trivial⟩, E, hB, (by omega), (by rw [hsucc, if_neg h0, hm]; simp), rfl⟩
    · have khlt := hlt
      replace hlt := of_decide_eq_false hlt
      have hkk : k = row.length := by omega
      refine Wp_exit ?_
      refine thn_exit ?_
      refine thn_exit ?_
      refine inB_here ?_
      refine thn_normal ?_
      refine Wp_seq_region ?_
      refine WpL_val rfl rfl (by decide) (r_move (v := (.int .i64 ((m : Nat) : Int))) rfl) ?_
      refine WpL_val rfl rfl (by decide) (r_assign (v := (.int .i64 ((m : Nat) : Int))) rfl) ?_
      refine WpL_nil ?_
      refine Wp_ret ?_
      refine fin_tmp Try.results75 (v := (.int .i64 ((m : Nat) : Int))) rfl ?_
      exact ⟨int_eq (by rw [hm, hkk]; rfl), E⟩
def entD (d : Dfa) (s : Int) : Int := (((idxs (d.next.getD s.toNat [])).length : Nat) : Int)
theorem entD_nat {d : Dfa} {s : Nat} {row : List Int} (h : d.next[s]? = some row) : entD d ((s : Nat) : Int) = (((idxs row).length : Nat) : Int) := by
  unfold entD
  rw [Int.toNat_natCast, List.getD_eq_getElem?_getD, h]; rfl
set_option maxHeartbeats 1000000 in
theorem cmp2_c (w0 : World) (b1 b6 : Nat) (d : Dfa) (vs : List Value) (s u : Nat) (hB : Blk w0 b1 vs.toArray TD) (hd : DfaAt w0 d vs) (h6 : Blk w0 b6 #[.func (.func 75) #[] #[.pointer (some ⟨b1, 0, none⟩)]] 100) (hs : s < d.next.length) (hu : u < d.next.length) :
    Ret Try.prog 77 #[.int .i64 ((s : Nat) : Int), .int .i64 ((u : Nat) : Int), .pointer (some ⟨b6, 0, none⟩)] w0 fun v w => v = .int .i64 (cmpI (entD d ((u : Nat) : Int)) (entD d ((s : Nat) : Int))) ∧ Ext w0 w := by
  obtain ⟨rs, hrs⟩ := get_of_lt hs
  obtain ⟨ru, hru⟩ := get_of_lt hu
  rw [entD_nat hrs, entD_nat hru]
  refine Ret_of Try.func77 rfl Try.ntmps77 (Nat.le_of_ble_eq_true rfl) ?_
  have E : Chg none1 w0 w0 := Chg.refl _ _
  refine Wp_seq_region ?_
  refine WpL_val rfl rfl (by decide) (r_assign (v := (.int .i64 0)) rfl) ?_
  refine WpL_nil ?_
  refine Wp_seq ?_
  obtain ⟨Fs1, hFs1⟩ : ∃ Fs : List Fact, Fs = [.eq (.func (.func 75) #[] #[(.pointer (some ⟨b1, 0, none⟩))]), .eq (.int .i64 ((u : Nat) : Int)), .eq (.int .i64 (((idxs ru).length : Nat) : Int)), .eq (.func (.func 75) #[] #[(.pointer (some ⟨b1, 0, none⟩))]), .eq (.int .i64 ((s : Nat) : Int)), .eq (.int .i64 (((idxs rs).length : Nat) : Int)), .eq (.int .i64 (cmpI (((idxs ru).length : Nat) : Int) (((idxs rs).length : Nat) : Int))), .eq (.int .i64 (cmpI (((idxs ru).length : Nat) : Int) (((idxs rs).length : Nat) : Int)))] := ⟨_, rfl⟩
  refine Wp_dag [6, 7, 8, 9, 10, 11, 12, 5] [[], [], [0, 1], [], [], [2, 3, 4], [2, 5], [0, 1, 2, 3, 4, 5, 6]] Fs1 hFs1 mixed (by kernel_rfl) (by kernel_rfl) ?_ ?_
  · intro wd X0
    refine DagSteps.cons (fun s' w' X U H => Or.inl ⟨?_, ?_⟩) ?_
    · exact Guarded_none rfl
    · exact Does_val (r_load (v := (.func (.func 75) #[] #[(.pointer (some ⟨b1, 0, none⟩))])) (U 2 rfl) flat100 (((X0.trans X).keep h6).cell rfl)) (Ext.refl _) rfl
    refine DagSteps.cons (fun s' w' X U H => Or.inl ⟨?_, ?_⟩) ?_
    · exact Guarded_none rfl
    · exact Does_val (r_move (v := (.int .i64 ((u : Nat) : Int))) (U 1 rfl)) (Ext.refl _) rfl
    refine DagSteps.cons (fun s' w' X U H => Or.inl ⟨?_, ?_⟩) ?_
    · exact Guarded_none rfl
    · have e7 : s' 7 = (.int .i64 ((u : Nat) : Int)) := H 1 rfl 7 (.eq (.int .i64 ((u : Nat) : Int))) rfl (by rw [hFs1]; rfl)
      have e6 : s' 6 = (.func (.func 75) #[] #[(.pointer (some ⟨b1, 0, none⟩))]) := H 0 rfl 6 (.eq (.func (.func 75) #[] #[(.pointer (some ⟨b1, 0, none⟩))])) rfl (by rw [hFs1]; rfl)
      exact Does_enter (r_callV (first := #[]) (cap := #[(.pointer (some ⟨b1, 0, none⟩))]) (vs := [(.int .i64 ((u : Nat) : Int))]) (ws := #[(.int .i64 ((u : Nat) : Int)), (.pointer (some ⟨b1, 0, none⟩))]) e6 Try.func75 nm75 bd75 (lst1 e7) rfl) (entries_c _ b1 d vs u ru ((X0.trans X).keep (Ext.keep E hB)) (hd.ext (Ext.trans E (X0.trans X))) hru)
    refine DagSteps.cons (fun s' w' X U H => Or.inl ⟨?_, ?_⟩) ?_
    · exact Guarded_none rfl
    · exact Does_val (r_load (v := (.func (.func 75) #[] #[(.pointer (some ⟨b1, 0, none⟩))])) (U 2 rfl) flat100 (((X0.trans X).keep h6).cell rfl)) (Ext.refl _) rfl
    refine DagSteps.cons (fun s' w' X U H => Or.inl ⟨?_, ?_⟩) ?_
    · exact Guarded_none rfl
    · exact Does_val (r_move (v := (.int .i64 ((s : Nat) : Int))) (U 0 rfl)) (Ext.refl _) rfl
    refine DagSteps.cons (fun s' w' X U H => Or.inl ⟨?_, ?_⟩) ?_
    · exact Guarded_none rfl
    · have e10 : s' 10 = (.int .i64 ((s : Nat) : Int)) := H 4 rfl 10 (.eq (.int .i64 ((s : Nat) : Int))) rfl (by rw [hFs1]; rfl)
      have e9 : s' 9 = (.func (.func 75) #[] #[(.pointer (some ⟨b1, 0, none⟩))]) := H 3 rfl 9 (.eq (.func (.func 75) #[] #[(.pointer (some ⟨b1, 0, none⟩))])) rfl (by rw [hFs1]; rfl)
      exact Does_enter (r_callV (first := #[]) (cap := #[(.pointer (some ⟨b1, 0, none⟩))]) (vs := [(.int .i64 ((s : Nat) : Int))]) (ws := #[(.int .i64 ((s : Nat) : Int)), (.pointer (some ⟨b1, 0, none⟩))]) e9 Try.func75 nm75 bd75 (lst1 e10) rfl) (entries_c _ b1 d vs s rs ((X0.trans X).keep (Ext.keep E hB)) (hd.ext (Ext.trans E (X0.trans X))) hrs)
    refine DagSteps.cons (fun s' w' X U H => Or.inl ⟨?_, ?_⟩) ?_
    · exact Guarded_none rfl
    · have e8 : s' 8 = (.int .i64 (((idxs ru).length : Nat) : Int)) := H 2 rfl 8 (.eq (.int .i64 (((idxs ru).length : Nat) : Int))) rfl (by rw [hFs1]; rfl)
      have e11 : s' 11 = (.int .i64 (((idxs rs).length : Nat) : Int)) := H 5 rfl 11 (.eq (.int .i64 (((idxs rs).length : Nat) : Int))) rfl (by rw [hFs1]; rfl)
      exact Does_enter (r_callF (vs := [(.int .i64 (((idxs ru).length : Nat) : Int)), (.int .i64 (((idxs rs).length : Nat) : Int))]) Try.func78 nm78 bd78 (lst2 e8 e11)) (compare_c _ _ _)
    refine DagSteps.cons (fun s' w' X U H => Or.inl ⟨?_, ?_⟩) ?_
    · exact Guarded_none rfl
    · have e12 : s' 12 = (.int .i64 (cmpI (((idxs ru).length : Nat) : Int) (((idxs rs).length : Nat) : Int))) := H 6 rfl 12 (.eq (.int .i64 (cmpI (((idxs ru).length : Nat) : Int) (((idxs rs).length : Nat) : Int)))) rfl (by rw [hFs1]; rfl)
      exact Does_val (r_assign (v := (.int .i64 (cmpI (((idxs ru).length : Nat) : Int) (((idxs rs).length : Nat) : Int)))) e12) (Ext.refl _) rfl
    exact DagSteps.nil
  · intro s' w1 X1 U H
    obtain ⟨j1, rfl⟩ := Fits.out (σ := s') (l := [(5, (.int .i64 (cmpI (((idxs ru).length : Nat) : Int) (((idxs rs).length : Nat) : Int))))]) ⟨(show s' 5 = (.int .i64 (cmpI (((idxs ru).length : Nat) : Int) (((idxs rs).length : Nat) : Int))) from H 7 5 (.eq (.int .i64 (cmpI (((idxs ru).length : Nat) : Int) (((idxs rs).length : Nat) : Int)))) rfl (by rw [hFs1]; rfl)), trivial⟩
    clear U H
    replace h6 := X1.keep h6
    replace E := E.ext X1
    refine thn_normal ?_
    refine Wp_ret ?_
    refine fin_tmp Try.results77 (v := (.int .i64 (cmpI (((idxs ru).length : Nat) : Int) (((idxs rs).length : Nat) : Int)))) rfl ?_
    exact ⟨rfl, E⟩
def freeB (ow : List Int) (i : Nat) : Bool := decide (((ow.length : Nat) : Int) ≤ ((i : Nat) : Int)) || decide (ow.getD i (-1) < 0)
theorem freeB_iff {ow : List Int} {i : Nat} : freeB ow i = true ↔ ow.length ≤ i ∨ ∃ x, ow[i]? = some x ∧ x < 0 := by
  unfold freeB
  rw [Bool.or_eq_true, decide_eq_true_eq, decide_eq_true_eq]
  constructor
  · rintro (h | h)
    · left; omega
    · rcases Nat.lt_or_ge i ow.length with h1 | h1
      · right
        refine ⟨ow[i], List.getElem?_eq_getElem h1, ?_⟩
        rwa [List.getD_eq_getElem?_getD, List.getElem?_eq_getElem h1, Option.getD_some] at h
      · left; exact h1
  · rintro (h | ⟨x, h1, h2⟩)
    · left; omega
    · right; rw [List.getD_eq_getElem?_getD, h1]; exact h2
theorem free_c (w0 : World) (b5 i : Nat) (ow : List Int) (x0 x1 : Int) (v2 v3 v4 v5 : Value) (hB : Blk w0 b5 #[.int .i64 x0, .int .i64 x1, v2, v3, v4, v5] TT) (ho : IntsAt w0 v4 ow) :
    Ret Try.prog 79 #[.int .i64 ((i : Nat) : Int), .pointer (some ⟨b5, 0, none⟩)] w0 fun v w => v = .bool (freeB ow i) ∧ Ext w0 w := by
  obtain ⟨a, c, rfl⟩ := SlAt.form ho
  have hlen : ow.length ≤ 9223372036854775807 := by simpa using SlAt.le ho
  simp only [List.length_map] at ho hB
  rcases Nat.lt_or_ge i ow.length with hi | hi
  · obtain ⟨ob, oo, rfl, hoc⟩ := ints_cells ho (by omega)
    obtain ⟨x, hx⟩ := get_of_lt hi
    have hg : ow.getD i (-1) = x := by rw [List.getD_eq_getElem?_getD, hx]; rfl
    refine Ret_of Try.func79 rfl Try.ntmps79 (Nat.le_of_ble_eq_true rfl) ?_
    have E : Chg none1 w0 w0 := Chg.refl _ _
    refine Wp_seq_region ?_
    refine WpL_val rfl rfl (by decide) (r_assign (v := (.bool false)) rfl) ?_
    refine WpL_nil ?_
    refine Wp_seq_region ?_
    refine WpL_val rfl rfl (by decide) (r_move (v := (.int .i64 ((i : Nat) : Int))) rfl) ?_
    refine WpL_val rfl rfl (by decide) (r_fieldAddr (b := b5) (o := 0) (o' := 4) rfl Try.underlying58 rfl siz22 rfl) ?_
    refine WpL_val rfl rfl (by decide) (r_load (v := (.slice (some ⟨ob, oo, none⟩) ow.length c)) rfl flat22 (hB.cell rfl)) ?_
    refine WpL_val rfl rfl (by decide) (r_lenSlice (ad := some ⟨ob, oo, none⟩) (n := ow.length) (cap := c) Try.underlying22 rfl) ?_
    obtain ⟨e1, he1⟩ : ∃ e, (decide ((((ow.length : Nat) : Int) : Int) ≤ ((i : Nat) : Int))) = e := ⟨_, rfl⟩
    refine WpL_val rfl rfl (by decide) ((r_geq (k := .i64) (a := ((i : Nat) : Int)) (b := ((ow.length : Nat) : Int)) rfl rfl).trans (by rw [he1]; try rfl)) ?_
    refine WpL_val rfl rfl (by decide) (r_move (v := (.bool e1)) rfl) ?_
    refine WpL_guard_any (oj := _) (gv := (.bool e1)) (u := (bif e1 then undef else (.pointer (some ⟨b5, 4, none⟩)))) rfl rfl (by decide) (by decide) rfl (by cases e1 <;> first | exact Or.inr ⟨Or.inl rfl, rfl⟩ | exact Or.inr ⟨Or.inr rfl, rfl⟩ | exact Or.inl ⟨rfl, r_fieldAddr (b := b5) (o := 0) (o' := 4) rfl Try.underlying58 rfl siz22 rfl⟩) ?_
    refine WpL_guard_any (oj := _) (gv := (.bool e1)) (u := (bif e1 then undef else (.slice (some ⟨ob, oo, none⟩) ow.length c))) rfl rfl (by decide) (by decide) rfl (by cases e1 <;> first | exact Or.inr ⟨Or.inl rfl, rfl⟩ | exact Or.inr ⟨Or.inr rfl, rfl⟩ | exact Or.inl ⟨rfl, r_load (v := (.slice (some ⟨ob, oo, none⟩) ow.length c)) rfl flat22 (hB.cell rfl)⟩) ?_
    refine WpL_guard_any (oj := _) (gv := (.bool e1)) (u := (bif e1 then undef else (.int .i64 ((i : Nat) : Int)))) rfl rfl (by decide) (by decide) rfl (by cases e1 <;> first | exact Or.inr ⟨Or.inl rfl, rfl⟩ | exact Or.inr ⟨Or.inr rfl, rfl⟩ | exact Or.inl ⟨rfl, r_move (v := (.int .i64 ((i : Nat) : Int))) rfl⟩) ?_
    refine WpL_guard_any (oj := _) (gv := (.bool e1)) (u := (bif e1 then undef else (.pointer (some ⟨ob, oo + i, none⟩)))) rfl rfl (by decide) (by decide) rfl (by cases e1 <;> first | exact Or.inr ⟨Or.inl rfl, rfl⟩ | exact Or.inr ⟨Or.inr rfl, rfl⟩ | exact Or.inl ⟨rfl, r_indexSlice (b := ob) (o := oo) (len := ow.length) (cap := c) (i := i) (o' := oo + i) rfl rfl rfl Try.underlying22 siz3 (by have := of_decide_eq_false he1; omega) (by omega)⟩) ?_
    refine WpL_guard_any (oj := _) (gv := (.bool e1)) (u := (bif e1 then undef else (.int .i64 x))) rfl rfl (by decide) (by decide) rfl (by cases e1 <;> first | exact Or.inr ⟨Or.inl rfl, rfl⟩ | exact Or.inr ⟨Or.inr rfl, rfl⟩ | exact Or.inl ⟨rfl, r_load (v := (.int .i64 x)) rfl flat3 (E.cell (fun f => f) (hoc i x hx))⟩) ?_
    obtain ⟨e2, he2⟩ : ∃ e, (decide ((x : Int) < 0)) = e := ⟨_, rfl⟩
    refine WpL_guard_any (oj := _) (gv := (.bool e1)) (u := (bif e1 then undef else (.bool e2))) rfl rfl (by decide) (by decide) rfl (by cases e1 <;> first | exact Or.inr ⟨Or.inl rfl, rfl⟩ | exact Or.inr ⟨Or.inr rfl, rfl⟩ | exact Or.inl ⟨rfl, (r_lss (k := .i64) (a := x) (b := 0) rfl rfl).trans (by rw [he2]; try rfl)⟩) ?_
    obtain ⟨e3, he3⟩ : ∃ e, (e1 || e2) = e := ⟨_, rfl⟩
    refine WpL_val rfl rfl (by decide) (r_pick (b := e1) (v := .bool e3) rfl (by rw [← he3]; cases e1 <;> rfl)) ?_
    refine WpL_val rfl rfl (by decide) (r_assign (v := (.bool e3)) rfl) ?_
    refine WpL_nil ?_
    subst he3
    subst he2
    subst he1
    refine Wp_ret ?_
    refine fin_tmp Try.results79 (v := (.bool ((decide ((((ow.length : Nat) : Int) : Int) ≤ ((i : Nat) : Int))) || (decide ((x : Int) < 0))))) rfl ?_
    exact ⟨bool_eq (by unfold freeB; rw [hg]), E⟩
  · skip
    refine Ret_of Try.func79 rfl Try.ntmps79 (Nat.le_of_ble_eq_true rfl) ?_
    have E : Chg none1 w0 w0 := Chg.refl _ _
    refine Wp_seq_region ?_
    refine WpL_val rfl rfl (by decide) (r_assign (v := (.bool false)) rfl) ?_
    refine WpL_nil ?_
    refine Wp_seq_region ?_
    refine WpL_val rfl rfl (by decide) (r_move (v := (.int .i64 ((i : Nat) : Int))) rfl) ?_
    refine WpL_val rfl rfl (by decide) (r_fieldAddr (b := b5) (o := 0) (o' := 4) rfl Try.underlying58 rfl siz22 rfl) ?_
    refine WpL_val rfl rfl (by decide) (r_load (v := (.slice a ow.length c)) rfl flat22 (hB.cell rfl)) ?_
    refine WpL_val rfl rfl (by decide) (r_lenSlice (ad := a) (n := ow.length) (cap := c) Try.underlying22 rfl) ?_
    refine WpL_val rfl rfl (by decide) (r_geq (k := .i64) (a := ((i : Nat) : Int)) (b := ((ow.length : Nat) : Int)) rfl rfl) ?_
    refine WpL_val rfl rfl (by decide) (r_move (v := (.bool (decide ((((ow.length : Nat) : Int) : Int) ≤ ((i : Nat) : Int))))) rfl) ?_
    have hg1 : (decide ((((ow.length : Nat) : Int) : Int) ≤ ((i : Nat) : Int))) = true := by simp; omega
    refine WpL_guard_no (oj := _) rfl rfl (by decide) (v := .bool true) (congrArg Value.bool hg1) (Or.inl rfl) ?_
    refine WpL_guard_no (oj := _) rfl rfl (by decide) (v := .bool true) (congrArg Value.bool hg1) (Or.inl rfl) ?_
    refine WpL_guard_no (oj := _) rfl rfl (by decide) (v := .bool true) (congrArg Value.bool hg1) (Or.inl rfl) ?_
    refine WpL_guard_no (oj := _) rfl rfl (by decide) (v := .bool true) (congrArg Value.bool hg1) (Or.inl rfl) ?_
    refine WpL_guard_no (oj := _) rfl rfl (by decide) (v := .bool true) (congrArg Value.bool hg1) (Or.inl rfl) ?_
    refine WpL_guard_no (oj := _) rfl rfl (by decide) (v := .bool true) (congrArg Value.bool hg1) (Or.inl rfl) ?_
    refine WpL_val rfl rfl (by decide) (r_pick (b := decide ((((ow.length : Nat) : Int) : Int) ≤ ((i : Nat) : Int))) (v := (.bool true)) rfl (by rw [hg1]; rfl)) ?_
    refine WpL_val rfl rfl (by decide) (r_assign (v := (.bool true)) rfl) ?_
    refine WpL_nil ?_
    refine Wp_ret ?_
    refine fin_tmp Try.results79 (v := (.bool true)) rfl ?_
    exact ⟨bool_eq (by unfold freeB; rw [decide_eq_true (by omega)]; rfl), E⟩
theorem cont_c (w0 : World) (b5 b9 b12 c m : Nat) (ow : List Int) (x0 x1 : Int) (v2 v3 v4 v5 : Value) (hB : Blk w0 b5 #[.int .i64 x0, .int .i64 x1, v2, v3, v4, v5] TT) (ho : IntsAt w0 v4 ow) (h9 : Blk w0 b9 #[.func (.func 79) #[] #[.pointer (some ⟨b5, 0, none⟩)]] 94) (h12 : Blk w0 b12 #[.int .i64 ((m : Nat) : Int)] TI) (hm : m + c ≤ 9223372036854775807) :
    Ret Try.prog 81 #[.int .i64 ((c : Nat) : Int), .pointer (some ⟨b9, 0, none⟩), .pointer (some ⟨b12, 0, none⟩)] w0 fun v w => v = .bool (!freeB ow (m + c)) ∧ Ext w0 w := by
  refine Ret_of Try.func81 rfl Try.ntmps81 (Nat.le_of_ble_eq_true rfl) ?_
  have E : Chg none1 w0 w0 := Chg.refl _ _
  refine Wp_seq_region ?_
  refine WpL_val rfl rfl (by decide) (r_assign (v := (.bool false)) rfl) ?_
  refine WpL_nil ?_
  refine Wp_seq_region ?_
  refine WpL_val rfl rfl (by decide) (r_load (v := (.func (.func 79) #[] #[(.pointer (some ⟨b5, 0, none⟩))])) rfl flat94 (h9.cell rfl)) ?_
  refine WpL_val rfl rfl (by decide) (r_load (v := (.int .i64 ((m : Nat) : Int))) rfl flat3 (h12.cell rfl)) ?_
  refine WpL_val rfl rfl (by decide) (r_move (v := (.int .i64 ((c : Nat) : Int))) rfl) ?_
  refine WpL_val rfl rfl (by decide) (r_add (k := .i64) (a := ((m : Nat) : Int)) (b := ((c : Nat) : Int)) (c := (((m + c : Nat) : Nat) : Int)) rfl rfl ((wI64 (by omega)).trans (by omega))) ?_
  refine WpL_enter rfl rfl (by decide) (r_callV (first := #[]) (cap := #[(.pointer (some ⟨b5, 0, none⟩))]) (vs := [(.int .i64 (((m + c : Nat) : Nat) : Int))]) (ws := #[(.int .i64 (((m + c : Nat) : Nat) : Int)), (.pointer (some ⟨b5, 0, none⟩))]) rfl Try.func79 nm79 bd79 rfl rfl) (free_c _ b5 (m + c) ow x0 x1 v2 v3 v4 v5 (Ext.keep E hB) (ho.ext E)) ?_
  rintro _ w9 ⟨rfl, X9⟩
  replace h9 := X9.keep h9
  replace h12 := X9.keep h12
  replace E := E.ext X9
  refine WpL_val rfl rfl (by decide) (r_not (b := freeB ow (m + c)) rfl) ?_
  refine WpL_val rfl rfl (by decide) (r_assign (v := (.bool (!(freeB ow (m + c))))) rfl) ?_
  refine WpL_nil ?_
  refine Wp_ret ?_
  refine fin_tmp Try.results81 (v := (.bool (!(freeB ow (m + c))))) rfl ?_
  exact ⟨rfl, E⟩
def natV (l : List Nat) : List Int := l.map fun n => ((n : Nat) : Int)
set_option maxHeartbeats 1000000 in
theorem indices_c (w0 : World) (v : Value) (row : List Int) (h : IntsAt w0 v row) (hl : row.length ≤ 1000000) :
    Ret Try.prog 80 #[v] w0 fun r w => (∃ a c, r = .slice a (idxs row).length c ∧ w.ownsRow w0.heap.size TI 1 r (idxs row).length ((natV (idxs row)).map (Value.int .i64))) ∧ Ext w0 w := by
  obtain ⟨a, c, rfl⟩ := SlAt.form h
  simp only [List.length_map] at h ⊢
  obtain ⟨base, hbase⟩ : ∃ base, base = w0.heap.size := ⟨_, rfl⟩
  refine Ret_of Try.func80 rfl Try.ntmps80 (Nat.le_of_ble_eq_true rfl) ?_
  have E : Chg none1 w0 w0 := Chg.refl _ _
  refine Wp_seq_region ?_
  refine WpL_val rfl rfl (by decide) (r_assign (v := (.slice none 0 0)) rfl) ?_
  refine WpL_nil ?_
  refine Wp_seq_region ?_
  refine WpL_val rfl rfl (by decide) (r_assign (v := (.slice none 0 0)) rfl) ?_
  refine WpL_nil ?_
  refine Wp_seq ?_
  refine Wp_seq_region ?_
  refine WpL_val rfl rfl (by decide) (r_move (v := (.slice a row.length c)) rfl) ?_
  refine WpL_val rfl rfl (by decide) (r_lenSlice (ad := a) (n := row.length) (cap := c) Try.underlying22 rfl) ?_
  refine WpL_val rfl rfl (by decide) (r_move (v := (.int .i64 0)) rfl) ?_
  refine WpL_nil ?_
  refine Wp_block ?_
  refine Wp_loop (fun nn_ σ W1 => ∃ (k : Nat) (la : Option Addr) (lc : Nat) (m : Nat), (∃ jj_, σ = upds jj_ [(6, (.slice a row.length c)), (7, (.int .i64 ((row.length : Nat) : Int))), (8, (.int .i64 ((k : Nat) : Int))), (3, (.slice la m lc))]) ∧ Chg none1 w0 W1 ∧ (k ≤ row.length) ∧ (m = (idxsN row k).length) ∧ (W1.ownsRow base TI 1 (.slice la m lc) m ((natV (idxsN row k)).map (Value.int .i64))) ∧ (base ≤ W1.heap.size) ∧ nn_ = row.length - k) (n := row.length - 0) ?_ ?_
  · exact ⟨0, none, 0, 0, Fits.out ⟨rfl, rfl, rfl, rfl, trivial⟩, E, Nat.zero_le _, rfl, World.ownsRow_nil _ _ _ _, (by omega), rfl⟩
  · clear E
    rintro _ _ W1 ⟨k, la, lc, m, ⟨j1, rfl⟩, E, hk, hm, hown, hbs, rfl⟩
    refine Wp_seq_region ?_
    refine WpL_val rfl rfl (by decide) (r_lss (k := .i64) (a := ((k : Nat) : Int)) (b := ((row.length : Nat) : Int)) rfl rfl) ?_
    refine WpL_nil ?_
    refine Wp_seq ?_
    refine Wp_cond (b := decide ((((k : Nat) : Int) : Int) < ((row.length : Nat) : Int))) rfl (fun hlt => ?_) (fun hlt => ?_)
    · have khlt := hlt
      replace hlt := of_decide_eq_true hlt
      obtain ⟨x, hx⟩ := get_of_lt (l := row) (i := k) (by omega)
      obtain ⟨b, o, hab, hcl⟩ := ints_cells h (by omega)
      subst hab
      have hsucc := idxsN_succ hx
      have hmle := idxsN_le row k
      refine Wp_skip ?_
      refine thn_normal ?_
      refine Wp_seq ?_
      refine Wp_block ?_
      refine Wp_seq_region ?_
      refine WpL_val rfl rfl (by decide) (r_move (v := (.int .i64 ((k : Nat) : Int))) rfl) ?_
      refine WpL_val rfl rfl (by decide) (r_indexSlice (b := b) (o := o) (len := row.length) (cap := c) (i := k) (o' := o + k) rfl rfl rfl Try.underlying22 siz3 (by omega) (by omega)) ?_
      refine WpL_val rfl rfl (by decide) (r_load (v := (.int .i64 x)) rfl flat3 (E.cell (fun f => f) (hcl k x hx))) ?_
      refine WpL_val rfl rfl (by decide) (r_assign (v := (.int .i64 ((k : Nat) : Int))) rfl) ?_
      refine WpL_val rfl rfl (by decide) (r_assign (v := (.int .i64 x)) rfl) ?_
      refine WpL_nil ?_
      refine Wp_seq_region ?_
      refine WpL_val rfl rfl (by decide) (r_move (v := (.int .i64 x)) rfl) ?_
      refine WpL_val rfl rfl (by decide) (r_geq (k := .i64) (a := x) (b := 0) rfl rfl) ?_
      refine WpL_nil ?_
      refine Wp_cond (b := decide ((0 : Int) ≤ x)) rfl (fun h0 => ?_) (fun h0 => ?_)
      · have kh0 := h0
        replace h0 := of_decide_eq_true h0
        refine Wp_region ?_
        refine WpL_val rfl rfl (by decide) (r_move (v := (.slice la m lc)) rfl) ?_
        refine WpL_val rfl rfl (by decide) (r_move (v := (.int .i64 ((k : Nat) : Int))) rfl) ?_
        refine s_buildSlice (ps := [(0, (.int .i64 ((k : Nat) : Int)))]) (c := #[(.int .i64 ((k : Nat) : Int))]) (by decide) rfl Try.underlying22 siz3 zer3 (by decide) (by decide) (by kernel_rfl) ?_
        intro bq wq Nq
        have Fq := Nq.ge E
        replace hown := own_ext hown Nq.ext
        replace hbs := Nat.le_trans hbs Nq.ext.size
        replace E := E.ext Nq.ext
        have Bq := Nq.blk
        refine s_append (base := base) (n := m) (m := 1) (xs := (natV (idxsN row k)).map (Value.int .i64)) (news := [(.int .i64 ((k : Nat) : Int))]) (size := 1) (bytes := 8) (v := (.slice la m lc)) (by decide) Try.underlying22 siz3 byt3 zer3 rfl (by decide) rfl hown rfl (rfl) (Bq.cells rfl) (by simp [Value.oneCell']) (by unfold maxLen; omega) (by omega) (hbs) ?_
        intro v9 w29 Ov9 Cv9 Dv9
        replace E := E.step Cv9 (fun x hx h => absurd (hown.lt x h).1 (by omega))
        obtain ⟨la2, lc2, rfl⟩ := own_form Ov9
        refine WpL_val rfl rfl (by decide) (r_assign (v := (.slice la2 (m + 1) lc2)) rfl) ?_
        refine WpL_nil ?_
        refine inB_normal ?_
        refine thn_normal ?_
        refine Wp_region ?_
        refine WpL_val rfl rfl (by decide) (r_add (k := .i64) (a := ((k : Nat) : Int)) (b := 1) (c := ((k : Nat) : Int) + 1) rfl rfl (wI64 (by omega))) ?_
        refine WpL_val rfl rfl (by decide) (r_move (v := (.int .i64 (((k : Nat) : Int) + 1))) rfl) ?_
        refine WpL_nil ?_
        refine thn_normal ?_
        exact ⟨row.length - (k + 1), by omega, k + 1, la2, lc2, m + 1, Fits.out ⟨rfl, rfl, rfl, rfl, trivial⟩, E, (by omega), (by rw [hsucc, if_pos h0, hm]; simp), (by rw [hsucc, if_pos h0]; simpa [natV] using Ov9), Nat.le_trans hbs Cv9.size, rfl⟩
      · have kh0 := h0
        replace h0 := of_decide_eq_false h0
        refine Wp_skip ?_
        refine inB_normal ?_
        refine thn_normal ?_
        refine Wp_region ?_
        refine WpL_val rfl rfl (by decide) (r_add (k := .i64) (a := ((k : Nat) : Int)) (b := 1) (c := ((k : Nat) : Int) + 1) rfl rfl (wI64 (by omega))) ?_
        refine WpL_val rfl rfl (by decide) (r_move (v := (.int .i64 (((k : Nat) : Int) + 1))) rfl) ?_
        refine WpL_nil ?_
        refine thn_normal ?_
        exact ⟨row.length - (k + 1), by omega, k + 1, la, lc, m, Fits.out ⟨rfl, rfl, rfl, rfl, trivial⟩, E, (by omega), (by rw [hsucc, if_neg h0, hm]; simp), (by rw [hsucc, if_neg h0]; simpa using hown), hbs, rfl⟩
    · have khlt := hlt
      replace hlt := of_decide_eq_false hlt
      have hkk : k = row.length := by omega
      refine Wp_exit ?_
      refine thn_exit ?_
      refine thn_exit ?_
      refine inB_here ?_
      refine thn_normal ?_
      refine Wp_seq_region ?_
      refine WpL_val rfl rfl (by decide) (r_move (v := (.slice la m lc)) rfl) ?_
      refine WpL_val rfl rfl (by decide) (r_assign (v := (.slice la m lc)) rfl) ?_
      refine WpL_nil ?_
      refine Wp_ret ?_
      refine fin_tmp Try.results80 (v := (.slice la m lc)) rfl ?_
      have hm2 : m = (idxs row).length := by rw [hm, hkk]; rfl
      subst hm2
      subst hbase
      rw [hkk] at hown
      exact ⟨⟨la, lc, rfl, hown⟩, E⟩
end Go.Proofs
namespace Go.Proofs
open Go Go.Eng
structure PSt (rows : List (List Int)) (order : List Nat) (cols j : Nat) (owner nxt : List Int) (bs : List Nat) : Prop where
  pk : Packed rows (allF rows (order.take j)) owner nxt bs
  ol : owner.length ≤ j * cols
  bl : bs.length = rows.length
  bm : ∀ b ∈ bs, b = 0 ∨ b + cols ≤ rows.length * cols
theorem PSt.start (rows : List (List Int)) (order : List Nat) (cols : Nat) : PSt rows order cols 0 [] [] (List.replicate rows.length 0) :=
  ⟨by simpa [allF] using Packed.nil rows _, by simp, by simp, fun b hb => .inl (List.mem_replicate.1 hb).2⟩
theorem getD_of {rows : List (List Int)} {s : Nat} {row : List Int} (h : rows[s]? = some row) : rows.getD s [] = row := by rw [List.getD_eq_getElem?_getD, h]; rfl
theorem PSt.skip {rows : List (List Int)} {order : List Nat} {cols j s : Nat} {owner nxt : List Int} {bs : List Nat} {row : List Int} (h : PSt rows order cols j owner nxt bs) (hs : order[j]? = some s) (hrow : rows[s]? = some row) (h0 : idxs row = []) : PSt rows order cols (j + 1) owner nxt bs := by
  refine ⟨?_, by have := h.ol; rw [Nat.succ_mul]; omega, h.bl, h.bm⟩
  have : rowF rows s = [] := by unfold rowF; rw [getD_of hrow, h0]; rfl
  rw [allF_take hs, this, List.append_nil]
  exact h.pk
structure QSt (rows : List (List Int)) (order : List Nat) (cols j s m : Nat) (row : List Int) (q : Nat) (owner nxt : List Int) (bs : List Nat) : Prop where
  pk : Packed rows (allF rows (order.take j) ++ (rowF rows s).take q) owner nxt bs
  hb : bs[s]? = some m
  fr : ∀ (i c : Nat), q ≤ i → (idxs row)[i]? = some c → freeB owner (m + c) = true
  mb : m ≤ j * cols
  ol : owner.length ≤ (j + 1) * cols
  bl : bs.length = rows.length
  bm : ∀ b ∈ bs, b = 0 ∨ b + cols ≤ rows.length * cols
theorem QSt.start {rows : List (List Int)} {order : List Nat} {cols j s m : Nat} {row owner nxt : List Int} {bs : List Nat} (h : PSt rows order cols j owner nxt bs) (hs : order[j]? = some s) (hnd : order.Nodup) (hsl : s < rows.length) (hm : m ≤ owner.length) (hj : j < rows.length) (hfr : ∀ c ∈ idxs row, freeB owner (m + c) = true) : QSt rows order cols j s m row 0 owner nxt (bs.set s m) := by
  have hmj : m ≤ j * cols := Nat.le_trans hm h.ol
  refine ⟨?_, List.getElem?_set_self (by rw [h.bl]; exact hsl), fun i c _ hc => hfr c (List.mem_of_getElem? hc), hmj, by have := h.ol; rw [Nat.succ_mul]; omega, by rw [List.length_set, h.bl], fun b hb => ?_⟩
  · rw [List.take_zero, List.append_nil]
    refine h.pk.base (fun c hc => ?_) m
    rw [mem_allF] at hc
    obtain ⟨i, hi⟩ := List.getElem?_of_mem hc.1
    have hil : i < j := by have := lt_of_get hi; simp at this; omega
    rw [List.getElem?_take_of_lt hil] at hi
    have := (List.getElem?_inj (lt_of_get hi) hnd).1 (hi.trans hs.symm)
    omega
  · rcases List.mem_or_eq_of_mem_set hb with hb | rfl
    · exact h.bm b hb
    · right
      have : (j + 1) * cols ≤ rows.length * cols := Nat.mul_le_mul_right _ hj
      rw [Nat.succ_mul] at this
      omega
theorem freeB_pad {ow : List Int} {i : Nat} (h : freeB ow i = true) : freeB (ow ++ [-1]) i = true := by
  rw [freeB_iff] at h ⊢
  rcases h with h | ⟨x, h1, h2⟩
  · rcases Nat.lt_or_eq_of_le h with h1 | h1
    · left; simp; omega
    · right
      refine ⟨-1, ?_, by decide⟩
      rw [← h1, List.getElem?_append_right (Nat.le_refl _)]; simp
  · right
    exact ⟨x, by rw [List.getElem?_append_left (lt_of_get h1)]; exact h1, h2⟩
theorem QSt.pad {rows : List (List Int)} {order : List Nat} {cols j s m q c : Nat} {row owner nxt : List Int} {bs : List Nat} (h : QSt rows order cols j s m row q owner nxt bs) (hlen : owner.length ≤ m + c) (hc : c < cols) : QSt rows order cols j s m row q (owner ++ [-1]) (nxt ++ [-1]) bs :=
  ⟨h.pk.pad, h.hb, fun i c' hi hc' => freeB_pad (h.fr i c' hi hc'), h.mb, by have := h.mb; simp; rw [Nat.succ_mul]; omega, h.bl, h.bm⟩
theorem QSt.put {rows : List (List Int)} {order : List Nat} {cols j s m q c : Nat} {row owner nxt : List Int} {bs : List Nat} {x : Int} (h : QSt rows order cols j s m row q owner nxt bs) (hrow : rows[s]? = some row) (hq : (idxs row)[q]? = some c) (hx : row[c]? = some x) (hlen : m + c < owner.length) : QSt rows order cols j s m row (q + 1) (owner.set (m + c) ((s : Nat) : Int)) (nxt.set (m + c) x) bs := by
  have h0 : 0 ≤ x := by
    obtain ⟨y, h1, h2⟩ := mem_idxs.1 (List.mem_of_getElem? hq)
    rw [hx] at h1; cases h1; exact h2
  have hf := freeB_iff.1 (h.fr q c (Nat.le_refl _) hq)
  have hm1 : owner[m + c]? = some (-1) := by
    rcases hf with hf | ⟨y, h1, h2⟩
    · omega
    · rcases h.pk.slot (m + c) hlen with ⟨h3, _⟩ | ⟨s', c', b', x', row', _, _, _, h3, _⟩
      · exact h3
      · rw [h3] at h1; simp at h1; omega
  have hr : (rowF rows s)[q]? = some (s, c) := by unfold rowF; rw [getD_of hrow, List.getElem?_map, hq]; rfl
  refine ⟨?_, h.hb, fun i c' hi hc' => ?_, h.mb, by simpa using h.ol, h.bl, h.bm⟩
  · rw [List.take_add_one, hr, ← List.append_assoc]
    exact h.pk.put h.hb hm1 hrow hx h0
  · have hne : c' ≠ c := by
      intro he
      subst he
      have := (List.getElem?_inj (lt_of_get hc') (idxs_nodup row)).1 (hc'.trans hq.symm)
      omega
    have h4 := freeB_iff.1 (h.fr i c' (by omega) hc')
    refine freeB_iff.2 ?_
    rw [List.length_set]
    rcases h4 with h4 | ⟨y, h5, h6⟩
    · exact .inl h4
    · exact .inr ⟨y, by rw [List.getElem?_set_ne (by omega)]; exact h5, h6⟩
theorem QSt.done {rows : List (List Int)} {order : List Nat} {cols j s m : Nat} {row owner nxt : List Int} {bs : List Nat} (h : QSt rows order cols j s m row (idxs row).length owner nxt bs) (hs : order[j]? = some s) (hrow : rows[s]? = some row) : PSt rows order cols (j + 1) owner nxt bs := by
  refine ⟨?_, h.ol, h.bl, h.bm⟩
  have := h.pk
  have hl : (rowF rows s).length = (idxs row).length := by unfold rowF; rw [getD_of hrow, List.length_map]
  rw [← hl, List.take_length] at this
  rw [allF_take hs]; exact this
def ApartV (u v : Value) : Prop := ∀ y, u.ownBlock = some y → v.ownBlock ≠ some y
structure OSt (n2 : Nat) (B : Nat → Prop) (w : World) (vo vn : Value) (L : Nat) (owner nxt : List Int) : Prop where
  o : w.ownsRow n2 TI 1 vo L (owner.map (Value.int .i64))
  n : w.ownsRow n2 TI 1 vn L (nxt.map (Value.int .i64))
  ap : ApartV vo vn
  ob : ∀ b, vo.ownBlock = some b → ¬ B b
  nb : ∀ b, vn.ownBlock = some b → ¬ B b
  ol : owner.length = L
  nl : nxt.length = L
theorem OSt.start (n2 : Nat) (B : Nat → Prop) (w : World) : OSt n2 B w (.slice none 0 0) (.slice none 0 0) 0 [] [] :=
  ⟨World.ownsRow_nil _ _ _ _, World.ownsRow_nil _ _ _ _, (fun k h => by cases h), (fun k h => by cases h), (fun k h => by cases h), rfl, rfl⟩
section
variable {n2 L : Nat} {B B' M : Nat → Prop} {w w' : World} {vo vn : Value} {owner nxt : List Int}
theorem OSt.ext (h : OSt n2 B w vo vn L owner nxt) (e : Ext w w') : OSt n2 B w' vo vn L owner nxt := ⟨own_ext h.o e, own_ext h.n e, h.ap, h.ob, h.nb, h.ol, h.nl⟩
theorem OSt.chg (h : OSt n2 B w vo vn L owner nxt) (e : Chg M w w') (hM : ∀ y, M y → y < n2 ∨ B y) : OSt n2 B w' vo vn L owner nxt := by
  refine ⟨own_chg h.o e (fun k hk hm => ?_), own_chg h.n e (fun k hk hm => ?_), h.ap, h.ob, h.nb, h.ol, h.nl⟩
  · rcases hM k hm with h1 | h1
    · have := (h.o.lt k hk).1; omega
    · exact h.ob k hk h1
  · rcases hM k hm with h1 | h1
    · have := (h.n.lt k hk).1; omega
    · exact h.nb k hk h1
theorem OSt.new (h : OSt n2 B w vo vn L owner nxt) : ∀ y, w.heap.size ≤ y → vo.ownBlock ≠ some y ∧ vn.ownBlock ≠ some y := fun y hy => ⟨fun he => by have := h.o.lt y he; omega, fun he => by have := h.n.lt y he; omega⟩
theorem OSt.fresh (h : OSt n2 B w vo vn L owner nxt) (hb : ∀ y, B' y → B y ∨ (vo.ownBlock ≠ some y ∧ vn.ownBlock ≠ some y)) : OSt n2 B' w vo vn L owner nxt :=
  ⟨h.o, h.n, h.ap, fun y hy hB => (hb y hB).elim (h.ob y hy) (fun k => k.1 hy), fun y hy hB => (hb y hB).elim (h.nb y hy) (fun k => k.2 hy), h.ol, h.nl⟩
theorem OSt.pad {wb : World} {vo' vn' : Value} (h : OSt n2 B w vo vn L owner nxt) (O : wb.ownsRow n2 TI 1 vo' (L + 1) (owner.map (Value.int .i64) ++ [.int .i64 (-1)])) (D : ∀ k, vo'.ownBlock = some k → vo.ownBlock = some k ∨ w.heap.size ≤ k)
    (O' : wb.ownsRow n2 TI 1 vn' (L + 1) (nxt.map (Value.int .i64) ++ [.int .i64 (-1)])) (D' : ∀ k, vn'.ownBlock = some k → vn.ownBlock = some k ∨ w.heap.size ≤ k) (ap : ApartV vo' vn') (hB : ∀ y, B y → y < w.heap.size) : OSt n2 B wb vo' vn' (L + 1) (owner ++ [-1]) (nxt ++ [-1]) := by
  refine ⟨by simpa using O, by simpa using O', ap, fun k hk hm => ?_, fun k hk hm => ?_, by simp [h.ol], by simp [h.nl]⟩
  · rcases D k hk with h1 | h1
    · exact h.ob k h1 hm
    · have := hB k hm; omega
  · rcases D' k hk with h1 | h1
    · exact h.nb k h1 hm
    · have := hB k hm; omega
end
theorem own_ints {w : World} {base n : Nat} {v : Value} {l : List Int} (h : w.ownsRow base TI 1 v n (l.map (Value.int .i64))) (hn : l.length = n) : IntsAt w v l := by
  rw [← flat_intV] at h
  exact own_slat h (by intro r hr; simp only [List.mem_map] at hr; obtain ⟨p, _, rfl⟩ := hr; rfl) (by simpa using hn) (by decide)
theorem own_blk {w : World} {base n c : Nat} {a : Option Addr} {l : List Int} (h : w.ownsRow base TI 1 (.slice a n c) n (l.map (Value.int .i64))) (hn : 0 < n) : ∃ g rest, a = some ⟨g, 0, none⟩ ∧ base ≤ g ∧ n ≤ c ∧ c ≤ maxLen ∧ (l.map (Value.int .i64) ++ rest).length = c ∧ Blk w g (l.map (Value.int .i64) ++ rest).toArray TI := by
  rcases h.2 with ⟨h1, rfl⟩ | ⟨g, cap, cur, hv, hb, hgg, hnc, hcm, hcs, htake⟩
  · omega
  · simp only [Value.slice.injEq] at hv
    obtain ⟨rfl, _, rfl⟩ := hv
    have e1 : l.map (Value.int .i64) ++ cur.toList.drop (n * 1) = cur.toList := by rw [← htake, List.take_append_drop]
    refine ⟨g, cur.toList.drop (n * 1), rfl, hb, hnc, hcm, by rw [e1]; simpa using hcs, ?_⟩
    rw [e1]
    exact hgg
theorem blk_own {w : World} {base g n c : Nat} {l : List Int} {rest : List Value} (h : Blk w g (l.map (Value.int .i64) ++ rest).toArray TI) (hb : base ≤ g) (hn : l.length = n) (hc : n ≤ c) (hm : c ≤ maxLen) (hl : (l.map (Value.int .i64) ++ rest).length = c) : w.ownsRow base TI 1 (.slice (some ⟨g, 0, none⟩) n c) n (l.map (Value.int .i64)) :=
  ⟨by simpa using hn, .inr ⟨g, c, _, rfl, hb, h, hc, hm, by simpa using hl, by simp [← hn]⟩⟩
theorem natV_mem {x : Int} {l : List Nat} (h : x ∈ natV l) : ∃ s, s ∈ l ∧ x = ((s : Nat) : Int) := by
  simp only [natV, List.mem_map] at h
  obtain ⟨s, h1, h2⟩ := h
  exact ⟨s, h1, h2.symm⟩
theorem natV_get {l : List Nat} {i s : Nat} (h : l[i]? = some s) : (natV l)[i]? = some ((s : Nat) : Int) := by simp [natV, h]
theorem natV_set {l : List Nat} {i s : Nat} : (natV l).set i ((s : Nat) : Int) = natV (l.set i s) := by simp [natV, List.map_set]
theorem natV_perm {l' : List Int} {l : List Nat} (h : List.Perm l' (natV l)) : ∃ o : List Nat, l' = natV o ∧ List.Perm o l := by
  have h1 : l' = natV (l'.map Int.toNat) := by
    unfold natV
    rw [List.map_map]
    have : ∀ x ∈ l', ((fun n : Nat => ((n : Nat) : Int)) ∘ Int.toNat) x = x := fun x hx => by
      obtain ⟨s, _, rfl⟩ := natV_mem (h.mem_iff.1 hx)
      simp
    conv => lhs; rw [← List.map_id l']
    exact (List.map_congr_left this).symm
  refine ⟨l'.map Int.toNat, h1, ?_⟩
  have h2 := h.map Int.toNat
  have h3 : (natV l).map Int.toNat = l := by
    unfold natV
    rw [List.map_map]
    conv => rhs; rw [← List.map_id l]
    exact List.map_congr_left fun x _ => by simp
  rwa [h3] at h2
theorem row_free {owner : List Int} {m : Nat} {is : List Nat} (hm : owner.length ≤ m) : (natV is).any (fun x => !freeB owner (m + x.toNat)) = false := by
  rw [List.any_eq_false]
  intro x hx
  obtain ⟨s, _, rfl⟩ := natV_mem hx
  have : freeB owner (m + ((s : Nat) : Int).toNat) = true := freeB_iff.2 (.inl (by simp; omega))
  rw [this]; simp
theorem any_free {owner : List Int} {m : Nat} {is : List Nat} (h : (natV is).any (fun x => !freeB owner (m + x.toNat)) = false) : ∀ c ∈ is, freeB owner (m + c) = true := by
  intro c hc
  rw [List.any_eq_false] at h
  have := h ((c : Nat) : Int) (List.mem_map.2 ⟨c, hc, rfl⟩)
  simpa using this
end Go.Proofs
namespace Go.Eng
open Go
def two (c1 c2 : Nat) (M1 M2 : Nat → Prop) (p : Nat) : Nat → Prop := bif Nat.beq p c1 then M1 else bif Nat.beq p c2 then M2 else none1
/-- An operation that is sure to be yet to come when operation i is done. -/
def gone (wss : List (List Nat)) (i j : Nat) : Bool := Nat.beq j i || (wss.getD j []).contains i
def Past (wss : List (List Nat)) (Ms : Nat → Nat → Prop) (i : Nat) : Nat → Prop := fun y => ∃ j, gone wss i j = false ∧ Ms j y
theorem two_or {c1 c2 : Nat} {M1 M2 : Nat → Prop} {p y : Nat} (h : two c1 c2 M1 M2 p y) : (p = c1 ∧ M1 y) ∨ (p = c2 ∧ M2 y) := by
  unfold two at h
  cases h1 : Nat.beq p c1 with
  | true => rw [h1] at h; exact .inl ⟨Nat.eq_of_beq_eq_true h1, h⟩
  | false =>
    rw [h1] at h
    cases h2 : Nat.beq p c2 with
    | true => rw [h2] at h; exact .inr ⟨Nat.eq_of_beq_eq_true h2, h⟩
    | false => rw [h2] at h; exact h.elim
section
variable {wss : List (List Nat)} {c1 c2 i y : Nat} {M1 M2 : Nat → Prop}
theorem Past.or (h : Past wss (two c1 c2 M1 M2) i y) : M1 y ∨ M2 y := by
  obtain ⟨j, _, h2⟩ := h
  rcases two_or h2 with h | h
  · exact .inl h.2
  · exact .inr h.2
theorem Past.fst (hg : gone wss i c2 = true) (h : Past wss (two c1 c2 M1 M2) i y) : M1 y := by
  obtain ⟨j, h1, h2⟩ := h
  rcases two_or h2 with h | h
  · exact h.2
  · rw [h.1, hg] at h1; cases h1
theorem Past.none (hg : gone wss i c1 = true) (hg2 : gone wss i c2 = true) (h : Past wss (two c1 c2 M1 M2) i y) : False := by
  obtain ⟨j, h1, h2⟩ := h
  rcases two_or h2 with h | h
  · rw [h.1, hg] at h1; cases h1
  · rw [h.1, hg2] at h1; cases h1
theorem two_ext {p : Nat} {w w' : World} (h : Chg (two c1 c2 M1 M2 p) w w') : (p = c1 ∧ Chg M1 w w') ∨ (p = c2 ∧ Chg M2 w w') ∨ Ext w w' := by
  unfold two at h
  cases h1 : Nat.beq p c1 with
  | true => rw [h1] at h; exact .inl ⟨Nat.eq_of_beq_eq_true h1, h⟩
  | false =>
    rw [h1] at h
    cases h2 : Nat.beq p c2 with
    | true => rw [h2] at h; exact .inr (.inl ⟨Nat.eq_of_beq_eq_true h2, h⟩)
    | false => rw [h2] at h; exact .inr (.inr h)
end
/-- A fact of a value that may also speak of the values of the operations ahead of it. -/
abbrev FctE := Env → Fct
def HoldsX (ds : List Nat) (Fs : List FctE) (j : Nat) (σ : Env) (w : World) : Prop := ∀ d F, ds[j]? = some d → Fs[j]? = some F → F σ (σ d) w
def DagStepX (P : Program) (N : Nat) (ds : List Nat) (Fs : List FctE) (σ : Env) (w : World) (Ms : Nat → Nat → Prop) (all : List (List Nat)) (i : Nat) (o : Oper) (ws : List Nat) (F : FctE) : Prop :=
  ∀ σ' w', Chg (Past all Ms i) w w' → (∀ t, ds.contains t = false → σ' t = σ t) → (∀ j, ws.contains j = true → HoldsX ds Fs j σ' w') → DoesT (Ms i) P N o (fun v w => F σ' (Go.Eng.valOf o v) w) σ' w'
def StabX (Ms : Nat → Nat → Prop) (i : Nat) (ws : List Nat) (F : FctE) : Prop := ∀ p, p ≠ i → ws.contains p = false → ∀ σ v w w', Chg (Ms p) w w' → F σ v w → F σ v w'
def LocX (ds : List Nat) (ws : List Nat) (F : FctE) : Prop := ∀ σ1 σ2 : Env, (∀ j d, ws.contains j = true → ds[j]? = some d → σ2 d = σ1 d) → ∀ v w, F σ1 v w → F σ2 v w
theorem StabX.eq {Ms : Nat → Nat → Prop} {i : Nat} {ws : List Nat} {u : Value} : StabX Ms i ws (fun _ v _ => v = u) := fun _ _ _ _ _ _ _ _ h => h
theorem LocX.const {ds ws : List Nat} {G : Fct} : LocX ds ws (fun _ => G) := fun _ _ _ _ _ h => h
inductive DagStepsX (P : Program) (N : Nat) (ds : List Nat) (Fs : List FctE) (σ : Env) (w : World) (Ms : Nat → Nat → Prop) (all : List (List Nat)) : Nat → List Oper → List (List Nat) → List FctE → Prop where
  | nil {i : Nat} : DagStepsX P N ds Fs σ w Ms all i [] [] []
  | cons {i : Nat} {o : Oper} {l : List Oper} {ws : List Nat} {wss : List (List Nat)} {F : FctE} {Gs : List FctE} (s : StabX Ms i ws F) (lc : LocX ds ws F) (h : DagStepX P N ds Fs σ w Ms all i o ws F) (t : DagStepsX P N ds Fs σ w Ms all (i + 1) l wss Gs) : DagStepsX P N ds Fs σ w Ms all i (o :: l) (ws :: wss) (F :: Gs)
theorem DagStepsX.get {P : Program} {N : Nat} {ds : List Nat} {Fs : List FctE} {σ : Env} {w : World} {Ms : Nat → Nat → Prop} {all : List (List Nat)} : ∀ {i : Nat} {l : List Oper} {wss : List (List Nat)} {Gs : List FctE}, DagStepsX P N ds Fs σ w Ms all i l wss Gs → ∀ {j : Nat} {o : Oper}, l[j]? = some o → ∃ ws F, wss[j]? = some ws ∧ Gs[j]? = some F ∧ StabX Ms (i + j) ws F ∧ LocX ds ws F ∧ DagStepX P N ds Fs σ w Ms all (i + j) o ws F
  | _, _, _, _, .nil, j, o, h => by simp at h
  | i, _, _, _, .cons s lc h t, 0, o, ho => by
    simp at ho; subst ho
    exact ⟨_, _, rfl, rfl, s, lc, h⟩
  | i, _, _, _, .cons s lc h t, j + 1, o, ho => by
    simp at ho
    obtain ⟨ws, F, h1, h2, h3, h5, h4⟩ := DagStepsX.get t ho
    exact ⟨ws, F, by simpa using h1, by simpa using h2, by rw [show i + (j + 1) = i + 1 + j from by omega]; exact h3, h5, by rw [show i + (j + 1) = i + 1 + j from by omega]; exact h4⟩
/-- Waits that follow from the given ones. -/
def closB1 (wss cl : List (List Nat)) (i : Nat) : Bool := (cl.getD i []).all fun c => (wss.getD i []).contains c || (wss.getD i []).any fun e => (cl.getD e []).contains c
def closB (wss cl : List (List Nat)) : Bool := (List.range wss.length).all (closB1 wss cl)
theorem closB_get {wss cl : List (List Nat)} (h : closB wss cl = true) {i c : Nat} {ws : List Nat} (hw : wss[i]? = some ws) (hc : (cl.getD i []).contains c = true) : c ∈ ws ∨ ∃ e ∈ ws, (cl.getD e []).contains c = true := by
  have h1 := List.all_eq_true.1 h i (List.mem_range.2 (lt_of_get hw))
  have h2 := List.all_eq_true.1 h1 c (by simpa using hc)
  rw [List.getD_eq_getElem?_getD, hw, Option.getD_some, Bool.or_eq_true] at h2
  rcases h2 with h2 | h2
  · exact .inl (by simpa using h2)
  · obtain ⟨e, he, h3⟩ := List.any_eq_true.1 h2
    exact .inr ⟨e, he, h3⟩
theorem Wp_dagX {P : Program} {N : Nat} {Q : Post} {σ : Env} {w : World} {id : Nat} {l : List Oper} (Ms : Nat → Nat → Prop) (n : Nat) (ds : List Nat) (wss cl : List (List Nat)) (Fs : List FctE) {Gs : List FctE} (hG : Fs = Gs) (hC : closB wss cl = true) (hm : P.follows .mixedOrders = true) (hB : dagBT N 0 (l.take n) ds wss = true) (hn : nodupB ds = true)
    (hT : (decide (n < l.length) && Region.sinkB .any l.toArray n && Region.chainB .any l.toArray n && Region.seqB .any l.toArray (l.length - n) n (headDone n l.length)) = true)
    (steps : ∀ w1, Ext w w1 → DagStepsX P N ds Fs σ w1 Ms cl 0 (l.take n) cl Gs)
    (k : ∀ σ' w1 w', Ext w w1 → Chg (fun y => ∃ j, Ms j y) w1 w' → (∀ t, ds.contains t = false → σ' t = σ t) → (∀ j, HoldsX ds Fs j σ' w') → WpL P N l.toArray (Q .normal) Q (l.drop n) σ' w') : Wp P N (.region id l.toArray true) Q σ w := by
  intro a ha he
  have eQ : lift N (thn (Q .normal) Q) = lift N Q := by funext e a w; cases e <;> rfl
  refine wp_region_any hm ?_
  obtain ⟨w1, hw1⟩ : ∃ w1 : World, w1 = { w with drawn := w.drawn + 1 } := ⟨_, rfl⟩
  have hE1 : Ext w w1 := by rw [hw1]; exact drew_ext w
  rw [← hw1]
  have hst := steps w1 hE1
  rw [← hG] at hst
  simp only [Bool.and_eq_true, decide_eq_true_eq] at hT
  obtain ⟨⟨⟨hnl, hs⟩, hc⟩, hseq⟩ := hT
  have hlen : ds.length = n := by rw [dagBT_len hB]; simp; omega
  have key : ∀ (m : Nat) (listed : Array Bool) (a : Act) (w' : World), (listed.toList.take n).count false = m → HeadInv .any l.toArray n listed → Ok N a → Chg (fun y => ∃ j, listed.getD j false = true ∧ Ms j y) w1 w' → (∀ t, ds.contains t = false → env a t = σ t) → (∀ j, listed.getD j false = true → HoldsX ds Fs j (env a) w') →
      wpAny P .any l.toArray (lift N Q) (m + (l.length - n)) listed a w' := by
    intro m
    induction m with
    | zero =>
      intro listed a w' hc0 inv ha hx hu hh
      have hsz : listed.size = l.length := by simpa using inv.size
      have hl : listed = headDone n l.length := by
        apply Array.ext'
        rw [headDone]
        have := head_all (l := listed.toList) (n := n) (by simp; omega) hc0 (by
          intro t h1 h2
          have h2' : t < listed.size := by simpa using h2
          have := inv.tail t h1 (by simpa [hsz] using h2')
          simp only [Array.getD_eq_getD_getElem?, Array.getElem?_eq_getElem h2', Option.getD_some] at this
          simp [h2', this])
        rw [this]; simp [hsz]
      rw [Nat.zero_add]
      have h1 := k (env a) w1 w' hE1 (hx.mono fun y _ h => by obtain ⟨j, _, h⟩ := h; exact ⟨j, h⟩) hu (fun j d F hd hF => by
        have hj : j < n := by have := lt_of_get hd; omega
        exact hh j (by
          rw [hl, headDone]
          simp [Array.getD_eq_getD_getElem?, List.getElem?_append_left, hj]) d F hd hF) a ha rfl
      rw [eQ] at h1
      have := wpAny_of_seq (P := P) (md := .any) (ops := l.toArray) (Q' := lift N Q) (l.drop n) n listed a w' (fun j => by simp [List.getElem?_drop]) (by rw [List.length_drop, hl]; exact hseq) h1
      rwa [List.length_drop] at this
    | succ m ih =>
      intro listed a w' hcm inv ha hx hu hh
      have hsz : listed.size = l.length := by simpa using inv.size
      obtain ⟨i0, hi0n, hi0⟩ : ∃ i, i < n ∧ listed.getD i true = false := by
        have : 0 < (listed.toList.take n).count false := by omega
        rw [List.count_pos_iff] at this
        obtain ⟨i, hi, he⟩ := List.getElem_of_mem this
        have hin : i < n := by simp at hi; omega
        refine ⟨i, hin, ?_⟩
        have hil : i < listed.size := by simp at hi; omega
        simp only [Array.getD_eq_getD_getElem?, Array.getElem?_eq_getElem hil, Option.getD_some]
        simpa using he
      rw [show m + 1 + (l.length - n) = (m + (l.length - n)) + 1 by omega]
      refine ⟨fun hr => ?_, fun i hi => ?_⟩
      · exfalso
        have hall : ∀ i, i < n → listed.getD i true = true := by
          intro i
          induction i using Nat.strongRecOn with
          | _ i ihi =>
            intro hi
            cases hv : listed.getD i true with
            | true => rfl
            | false =>
              exfalso
              obtain ⟨o, ho⟩ := get_of_lt (l := l) (i := i) (by omega)
              have ho' : (l.take n)[i]? = some o := by rw [List.getElem?_take_of_lt hi]; exact ho
              obtain ⟨d, ws, _, _, h3⟩ := dagBT_get hB ho'
              have : i ∈ Region.ready .any l.toArray listed := by
                refine mem_ready.2 ⟨hv, o, by simpa using ho, fun e he hb => ?_⟩
                simp only [dagOneT, Bool.and_eq_true, Array.all_eq_true_iff_forall_mem, Bool.or_eq_true, Bool.not_eq_true', Nat.zero_add] at h3
                have := (h3.1.1.2 e he).resolve_left (by simp [hb])
                have hlt : e.on < i := by simpa [Nat.blt_eq] using this
                have h4 := ihi e.on hlt (by omega)
                have hj : e.on < listed.size := by omega
                simpa only [Array.getD_eq_getD_getElem?, Array.getElem?_eq_getElem hj, Option.getD_some] using h4
              rw [hr] at this
              cases this
        rw [hall i0 hi0n] at hi0
        cases hi0
      · have hin : i < n := by
          rcases Nat.lt_or_ge i n with h | h
          · exact h
          · exact absurd hi (tail_waits hs hc (by simpa using hnl) inv _ i0 rfl hi0n hi0 i h)
        obtain ⟨h1, o, h2, h3⟩ := mem_ready.1 hi
        have hil : i < listed.size := by omega
        have ho : l[i]? = some o := by simpa using h2
        have ho' : (l.take n)[i]? = some o := by rw [List.getElem?_take_of_lt hin]; exact ho
        obtain ⟨d, ws, hd, hws, h4⟩ := dagBT_get hB ho'
        obtain ⟨ws', F, hws', hF, hstab, hloc, hstep⟩ := hst.get ho'
        simp only [Nat.zero_add] at hstep hstab
        simp only [dagOneT, Bool.and_eq_true, List.all_eq_true, Array.any_eq_true', Array.all_eq_true_iff_forall_mem, Bool.or_eq_true, Bool.not_eq_true', Nat.zero_add] at h4
        obtain ⟨⟨⟨hdst, _⟩, hwait⟩, hgd⟩ := h4
        have hgd : o.guard = none := by simpa using hgd
        have hcl : ∀ j, listed.getD j false = true → ∀ c, (cl.getD j []).contains c = true → listed.getD c false = true := by
          intro j
          induction j using Nat.strongRecOn with
          | _ j ihj =>
            intro hlj c hc
            have hcn : j < n := by
              rcases Nat.lt_or_ge j n with h | h
              · exact h
              · rcases Nat.lt_or_ge j l.length with h' | h'
                · have := getD_both (inv.tail j h (by simpa using h')); rw [this] at hlj; cases hlj
                · simp [Array.getElem?_eq_none (show listed.size ≤ j by omega)] at hlj
            obtain ⟨oc, hoc⟩ := get_of_lt (l := l) (i := j) (by omega)
            have hoc' : (l.take n)[j]? = some oc := by rw [List.getElem?_take_of_lt hcn]; exact hoc
            obtain ⟨dc, wsc, _, hwsc, h5⟩ := dagBT_get hB hoc'
            simp only [dagOneT, Bool.and_eq_true, List.all_eq_true, Array.any_eq_true', Array.all_eq_true_iff_forall_mem, Bool.or_eq_true, Bool.not_eq_true', Nat.zero_add] at h5
            have hdir : ∀ e' ∈ wsc, listed.getD e' false = true ∧ e' < j := by
              intro e' he'
              obtain ⟨e, he, hb1, hb2⟩ := h5.1.2 e' he'
              have hei : e.on = e' := Nat.eq_of_beq_eq_true hb2
              have h6 := inv.closed j oc (by simpa using hoc) hlj e he hb1
              have h7 := (h5.1.1.2 e he).resolve_left (by simp [hb1])
              rw [hei] at h6 h7
              exact ⟨h6, by simpa [Nat.blt_eq] using h7⟩
            rcases closB_get hC hwsc hc with h6 | ⟨e', he', h6⟩
            · exact (hdir c h6).1
            · exact ihj e' (hdir e' he').2 (hdir e' he').1 c h6
        have hgone : ∀ j, listed.getD j false = true → gone cl i j = false := by
          intro j hlj
          cases hg : gone cl i j with
          | false => rfl
          | true =>
            exfalso
            simp only [gone, Bool.or_eq_true] at hg
            rcases hg with hg | hg
            · have : j = i := Nat.eq_of_beq_eq_true hg
              rw [this, getD_both h1] at hlj; cases hlj
            · have := hcl j hlj i hg
              rw [getD_both h1] at this; cases this
        have hclo : ∀ j, ws'.contains j = true → listed.getD j false = true := by
          intro j hj
          have hj' : (cl.getD i []).contains j = true := by rw [List.getD_eq_getElem?_getD, hws', Option.getD_some]; exact hj
          have hdir : ∀ e' ∈ ws, listed.getD e' false = true := by
            intro e' he'
            obtain ⟨e, he, hb1, hb2⟩ := hwait e' he'
            have : e.on = e' := Nat.eq_of_beq_eq_true hb2
            exact this ▸ h3 e he hb1
          rcases closB_get hC hws hj' with h6 | ⟨e', he', h6⟩
          · exact hdir j h6
          · exact hcl e' (hdir e' he') j h6
        have hH : ∀ j, ws'.contains j = true → HoldsX ds Fs j (env a) w' := fun j hj => hh j (hclo j hj)
        have hstep2 : ∀ w2, Chg (Ms i) w' w2 → Chg (fun y => ∃ j, (listed.setIfInBounds i true).getD j false = true ∧ Ms j y) w1 w2 := by
          intro w2 hx2
          have hg : (listed.setIfInBounds i true).getD i false = true := by simp [Array.getD_eq_getD_getElem?, hil]
          refine Chg.step (hx.mono fun y _ h => ?_) hx2 (fun y _ h => ⟨i, hg, h⟩)
          obtain ⟨j, h5, h6⟩ := h
          by_cases hij : j = i
          · exact ⟨i, hg, hij ▸ h6⟩
          · exact ⟨j, by rw [getD_set_ne _ (Ne.symm hij)]; exact h5, h6⟩
        have cont : ∀ v w2, Chg (Ms i) w' w2 → F (env a) (Go.Eng.valOf o v) w2 → wpAny P .any l.toArray (lift N Q) (m + (l.length - n)) (listed.setIfInBounds i true) (a.put o.dst v) w2 := by
          intro v w2 hx2 hv
          have henv : (∀ t, t ≠ d → env (a.put o.dst v) t = env a t) ∧ env (a.put o.dst v) d = Go.Eng.valOf o v := by
            cases hod : o.dst with
            | none =>
              rw [hod] at hdst
              have hNd : N ≤ d := Nat.le_of_ble_eq_true hdst
              refine ⟨fun t _ => rfl, ?_⟩
              simp only [Go.Eng.valOf, hod]
              show a.tmps.getD d undef = undef
              have : a.tmps.size ≤ d := by rw [ha.size]; exact hNd
              simp [Array.getElem?_eq_none this]
            | some d' =>
              rw [hod] at hdst
              simp only [Bool.and_eq_true] at hdst
              have hd1 : d' = d := Nat.eq_of_beq_eq_true hdst.1
              have hd2 : d < N := by simpa [Nat.blt_eq] using hdst.2
              subst hd1
              rw [env_put ha hd2 v]
              refine ⟨fun t ht => ?_, ?_⟩
              · have : Nat.beq t d' = false := by cases hb : Nat.beq t d'; rfl; exact absurd (Nat.eq_of_beq_eq_true hb) ht
                simp [upd, this]
              · simp [upd, Go.Eng.valOf, hod]
          refine ih _ _ _ ?_ (inv.set hi hin) (ha.put _ _) (hstep2 w2 hx2) ?_ ?_
          · have hl : listed.toList[i]? = some false := by
              simp only [Array.getD_eq_getD_getElem?, Array.getElem?_eq_getElem hil, Option.getD_some] at h1
              simp [hil, h1]
            have := count_take_set (l := listed.toList) hin (by simp; omega) hl
            rw [Array.toList_setIfInBounds]
            omega
          · intro t ht
            rw [henv.1 t (fun h => by
              subst h
              have := List.mem_of_getElem? hd
              simp [this] at ht), hu t ht]
          · intro j hj d' F' hd' hF'
            by_cases hij : j = i
            · subst hij
              rw [hd] at hd'; cases hd'
              rw [hF] at hF'; cases hF'
              rw [henv.2]
              refine hloc (env a) _ (fun j' d' hj' hd' => henv.1 d' fun he => ?_) _ _ hv
              have := nodupB_get hn (he ▸ hd') hd
              subst this
              have := hclo j' hj'
              rw [getD_both h1] at this
              cases this
            · have hne : d' ≠ d := by
                intro h
                subst h
                exact hij (nodupB_get hn hd' hd)
              rw [henv.1 d' hne]
              rw [getD_set_ne _ (Ne.symm hij)] at hj
              have h6 := hh j hj d' F' hd' hF'
              have hjn : j < n := by have := lt_of_get hd'; omega
              obtain ⟨oj, hoj⟩ := get_of_lt (l := l) (i := j) (by omega)
              have hoj' : (l.take n)[j]? = some oj := by rw [List.getElem?_take_of_lt hjn]; exact hoj
              obtain ⟨dj, wsj, _, hwsj, h5⟩ := dagBT_get hB hoj'
              obtain ⟨wsj', Fj, hwsj', hFj, hsj, hlj, _⟩ := hst.get hoj'
              rw [hF'] at hFj; cases hFj
              simp only [Nat.zero_add] at hsj
              have hci : wsj'.contains i = false := by
                cases hci : wsj'.contains i with
                | false => rfl
                | true =>
                  exfalso
                  have := hgone j hj
                  have hgc : cl.getD j [] = wsj' := by simp [hwsj']
                  simp only [gone, hgc, hci, Bool.or_true] at this
                  cases this
              refine hlj (env a) _ (fun j' d' hj' hd' => henv.1 d' fun he => ?_) _ _ (hsj i (Ne.symm hij) hci _ _ _ _ hx2 h6)
              have := nodupB_get hn (he ▸ hd') hd
              subst this
              rw [hci] at hj'
              cases hj'
        have hx0 : Chg (Past cl Ms i) w1 w' := hx.mono fun y _ h => by
          obtain ⟨j, h5, h6⟩ := h
          exact ⟨j, hgone j h5, h6⟩
        have hdo := hstep (env a) w' hx0 hu hH
        have hw : Region.wanted o (yielded l.toArray a.tmps) = true := by simp [Region.wanted, hgd]
        unfold wpOp
        simp only [h2, hw, if_true]
        exact Or.inl (hdo a ha rfl _ _ cont)
  have inv0 : HeadInv .any l.toArray n (Array.replicate l.toArray.size false) :=
    ⟨by simp, fun j oj _ hl => (by rw [getD_replicate_false] at hl; cases hl), fun t _ ht => getD_in (by simpa using ht) (getD_replicate_false _ _)⟩
  have h1 := key n (Array.replicate l.toArray.size false) a w1 (by simp; omega) inv0 ha (Chg.refl _ _) (fun t _ => by rw [he]) (fun j hj => by rw [getD_replicate_false] at hj; cases hj)
  have e3 : n + (l.length - n) = l.toArray.size := by simp; omega
  rw [e3] at h1
  exact h1
end Go.Eng
