/- Contracts and plain lemmas, part 2. -/
import Derived.Tactics
import Derived.Deep.Quiet
import Derived.Laws.AppendOwn
import Derived.KernelRfl
import Derived.Laws.Entries
import Derived.Laws.Build
import Derived.Below
import Derived.RowKit3
import Derived.StillTail
import Derived.Sort.Grow
import Derived.Deep.Draws
import Derived.Test.YtllhcafmcbibbaaChecked
import Derived.Laws.StructEq
import Derived.Laws.MakeOwn
import Derived.MapKept
import Derived.Laws.BytesArg
import Derived.Laws.CopyRow
import Derived.DeepKeys3
import Derived.OpenShut
import Derived.ChangeSlices
import Derived.Test.YtllhcafmcbibbaaZr1
namespace Go.Proofs
open Go Go.Eng
set_option maxRecDepth 100000
def IntssAt (w : World) (v : Value) (ll : List (List Int)) : Prop := ∃ vs : List Value, SlAt w 1 v (vs.map fun x => [x]) ∧ vs.length = ll.length ∧ ∀ (i : Nat) (u : Value) (l : List Int), vs[i]? = some u → ll[i]? = some l → IntsAt w u l
theorem IntssAt.ext {w w' : World} {v : Value} {ll : List (List Int)} (h : IntssAt w v ll) (e : Ext w w') : IntssAt w' v ll := by
  obtain ⟨vs, h1, h2, h3⟩ := h
  exact ⟨vs, h1.ext e, h2, fun i u l hu hl => (h3 i u l hu hl).ext e⟩
theorem IntssAt.form {w : World} {v : Value} {ll : List (List Int)} (h : IntssAt w v ll) : ∃ a c, v = .slice a ll.length c ∧ ll.length ≤ c ∧ ll.length ≤ 9223372036854775807 := by
  obtain ⟨vs, h1, h2, _⟩ := h
  obtain ⟨a, c, rfl⟩ := h1.form
  have := h1.cap
  have := h1.le
  simp only [List.length_map] at *
  rw [h2] at *
  exact ⟨a, c, rfl, by omega, by omega⟩
theorem intss_cells {w : World} {a : Option Addr} {n c : Nat} {ll : List (List Int)} (h : IntssAt w (.slice a n c) ll) (hn : 0 < n) :
    ∃ b o, a = some ⟨b, o, none⟩ ∧ ∀ i l, ll[i]? = some l → ∃ ra rc, w.cell? ⟨b, o + i, none⟩ = some (.slice ra l.length rc) ∧ IntsAt w (.slice ra l.length rc) l := by
  obtain ⟨vs, h1, h2, h3⟩ := h
  obtain ⟨b, o, ha, hc⟩ := SlAt.at h1 hn
  refine ⟨b, o, ha, fun i l hl => ?_⟩
  have hi : i < vs.length := by have := lt_of_get hl; omega
  have hu : vs[i]? = some vs[i] := List.getElem?_eq_getElem hi
  have h4 := h3 i vs[i] l hu hl
  obtain ⟨ra, rc, hf⟩ := SlAt.form h4
  simp only [List.length_map] at hf
  have h5 := hc i [vs[i]] (by simp [hu]) 0 _ rfl
  rw [Nat.mul_one, Nat.add_zero, hf] at h5
  rw [hf] at h4
  exact ⟨ra, rc, h5, h4⟩
def DfaAt (w : World) (d : Dfa) (vs : List Value) : Prop := ∃ aa ac na nc, vs = [.int .i64 d.start, .slice aa d.accept.length ac, .slice na d.next.length nc] ∧ IntsAt w (.slice aa d.accept.length ac) d.accept ∧ IntssAt w (.slice na d.next.length nc) d.next
theorem DfaAt.ext {w w' : World} {d : Dfa} {vs : List Value} (h : DfaAt w d vs) (e : Ext w w') : DfaAt w' d vs := by
  obtain ⟨aa, ac, na, nc, h1, h2, h3⟩ := h
  exact ⟨aa, ac, na, nc, h1, h2.ext e, h3.ext e⟩
def minL (l : List Int) : Int := l.foldl min (l.headD 0)
def maxL (l : List Int) : Int := l.foldl max (l.headD 0)
theorem fold_takeD (f : Int → Int → Int) {l : List Int} {k : Nat} {x z : Int} (hx : l[k]? = some x) : (l.take (k + 1)).foldl f z = f ((l.take k).foldl f z) x := by
  rw [List.take_add_one, hx]; simp [List.foldl_append]
theorem minL_le_aux : ∀ (l : List Int) (z : Int), l.foldl min z ≤ z ∧ ∀ x ∈ l, l.foldl min z ≤ x
  | [], z => ⟨Int.le_refl _, fun x h => by simp at h⟩
  | y :: l, z => by
    obtain ⟨h1, h2⟩ := minL_le_aux l (min z y)
    refine ⟨by simp only [List.foldl_cons]; omega, fun x hx => ?_⟩
    simp only [List.foldl_cons]
    rcases List.mem_cons.1 hx with rfl | hx
    · omega
    · exact h2 x hx
theorem minL_mem_aux : ∀ (l : List Int) (z : Int), l.foldl min z = z ∨ l.foldl min z ∈ l
  | [], z => .inl rfl
  | y :: l, z => by
    simp only [List.foldl_cons]
    rcases minL_mem_aux l (min z y) with h | h
    · rw [h]
      by_cases hc : z ≤ y
      · left; omega
      · right; rw [show min z y = y from by omega]; simp
    · right; simp [h]
theorem maxL_le_aux : ∀ (l : List Int) (z : Int), z ≤ l.foldl max z ∧ ∀ x ∈ l, x ≤ l.foldl max z
  | [], z => ⟨Int.le_refl _, fun x h => by simp at h⟩
  | y :: l, z => by
    obtain ⟨h1, h2⟩ := maxL_le_aux l (max z y)
    refine ⟨by simp only [List.foldl_cons]; omega, fun x hx => ?_⟩
    simp only [List.foldl_cons]
    rcases List.mem_cons.1 hx with rfl | hx
    · omega
    · exact h2 x hx
theorem maxL_mem_aux : ∀ (l : List Int) (z : Int), l.foldl max z = z ∨ l.foldl max z ∈ l
  | [], z => .inl rfl
  | y :: l, z => by
    simp only [List.foldl_cons]
    rcases maxL_mem_aux l (max z y) with h | h
    · rw [h]
      by_cases hc : y ≤ z
      · left; omega
      · right; rw [show max z y = y from by omega]; simp
    · right; simp [h]
theorem head_mem {l : List Int} (h : l ≠ []) : l.headD 0 ∈ l := by cases l with | nil => exact absurd rfl h | cons x l => simp
theorem minL_lt {l : List Int} (h : l ≠ []) {z : Int} : z ≤ minL l ↔ ∀ x ∈ l, z ≤ x := by
  constructor
  · intro h1 x hx; have := (minL_le_aux l (l.headD 0)).2 x hx; unfold minL at h1; omega
  · intro h1
    unfold minL
    rcases minL_mem_aux l (l.headD 0) with h2 | h2
    · rw [h2]; exact h1 _ (head_mem h)
    · exact h1 _ h2
theorem maxL_lt {l : List Int} (h : l ≠ []) {z : Int} : maxL l < z ↔ ∀ x ∈ l, x < z := by
  constructor
  · intro h1 x hx; have := (maxL_le_aux l (l.headD 0)).2 x hx; unfold maxL at h1; omega
  · intro h1
    unfold maxL
    rcases maxL_mem_aux l (l.headD 0) with h2 | h2
    · rw [h2]; exact h1 _ (head_mem h)
    · exact h1 _ h2
theorem min_c (w0 : World) (v : Value) (l : List Int) (h : IntsAt w0 v l) (hl : l ≠ []) : Ret Try.prog 89 #[v] w0 fun r w => r = .int .i64 (minL l) ∧ Ext w0 w := by
  obtain ⟨a, c, rfl⟩ := SlAt.form h
  have hlen : l.length ≤ 9223372036854775807 := by simpa using SlAt.le h
  simp only [List.length_map] at h ⊢
  have hpos : 0 < l.length := List.length_pos_iff.2 hl
  obtain ⟨b, o, rfl, hcl⟩ := ints_cells h hpos
  obtain ⟨x0, hx0⟩ := get_of_lt (l := l) (i := 0) hpos
  have hh : l.headD 0 = x0 := by cases l with | nil => simp at hx0 | cons y l => simpa using hx0
  refine Ret_of Try.func89 rfl Try.ntmps89 (Nat.le_of_ble_eq_true rfl) ?_
  have E : Chg none1 w0 w0 := Chg.refl _ _
  refine Wp_seq_region ?_
  refine WpL_val rfl rfl (by decide) (r_assign (v := (.int .i64 0)) rfl) ?_
  refine WpL_nil ?_
  refine Wp_seq ?_
  refine Wp_seq_region ?_
  refine WpL_val rfl rfl (by decide) (r_move (v := (.slice (some ⟨b, o, none⟩) l.length c)) rfl) ?_
  refine WpL_val rfl rfl (by decide) (r_lenSlice (ad := some ⟨b, o, none⟩) (n := l.length) (cap := c) Try.underlying26 rfl) ?_
  refine WpL_val rfl rfl (by decide) (r_lss (k := .i64) (a := ((l.length : Nat) : Int)) (b := 1) rfl rfl) ?_
  refine WpL_nil ?_
  have hc1 : (decide ((((l.length : Nat) : Int) : Int) < 1)) = false := by simp; omega
  refine Wp_cond_false (congrArg Value.bool hc1) ?_
  refine Wp_skip ?_
  refine thn_normal ?_
  refine Wp_seq_region ?_
  refine WpL_val rfl rfl (by decide) (r_move (v := (.slice (some ⟨b, o, none⟩) l.length c)) rfl) ?_
  refine WpL_val rfl rfl (by decide) (r_indexSlice (b := b) (o := o) (len := l.length) (cap := c) (i := 0) (o' := o + 0) rfl rfl rfl Try.underlying26 siz3 (by omega) (by omega)) ?_
  refine WpL_val rfl rfl (by decide) (r_load (v := (.int .i64 x0)) rfl flat3 (E.cell (fun f => f) (hcl 0 x0 hx0))) ?_
  refine WpL_val rfl rfl (by decide) (r_assign (v := (.int .i64 x0)) rfl) ?_
  refine WpL_nil ?_
  refine Wp_seq ?_
  refine Wp_seq_region ?_
  refine WpL_val rfl rfl (by decide) (r_assign (v := (.int .i64 1)) rfl) ?_
  refine WpL_nil ?_
  refine Wp_block ?_
  refine Wp_loop (fun nn_ σ W2 => ∃ (k : Nat) (m : Int), (∃ jj_, σ = upds jj_ [(0, (.slice (some ⟨b, o, none⟩) l.length c)), (4, (.int .i64 ((k : Nat) : Int))), (3, (.int .i64 m))]) ∧ Chg none1 w0 W2 ∧ (1 ≤ k ∧ k ≤ l.length) ∧ (m = (l.take k).foldl min (l.headD 0)) ∧ nn_ = l.length - k) (n := l.length - 1) ?_ ?_
  · exact ⟨1, x0, Fits.out ⟨rfl, rfl, rfl, trivial⟩, E, ⟨Nat.le_refl _, by omega⟩, (by rw [fold_takeD _ hx0, hh]; simp), rfl⟩
  · clear E
    rintro _ _ W2 ⟨k, m, ⟨j2, rfl⟩, E, hk, hm, rfl⟩
    refine Wp_seq ?_
    refine Wp_seq_region ?_
    refine WpL_val rfl rfl (by decide) (r_move (v := (.int .i64 ((k : Nat) : Int))) rfl) ?_
    refine WpL_val rfl rfl (by decide) (r_move (v := (.slice (some ⟨b, o, none⟩) l.length c)) rfl) ?_
    refine WpL_val rfl rfl (by decide) (r_lenSlice (ad := some ⟨b, o, none⟩) (n := l.length) (cap := c) Try.underlying26 rfl) ?_
    refine WpL_val rfl rfl (by decide) (r_lss (k := .i64) (a := ((k : Nat) : Int)) (b := ((l.length : Nat) : Int)) rfl rfl) ?_
    refine WpL_nil ?_
    refine Wp_cond (b := decide ((((k : Nat) : Int) : Int) < ((l.length : Nat) : Int))) rfl (fun hlt => ?_) (fun hlt => ?_)
    · have khlt := hlt
      replace hlt := of_decide_eq_true hlt
      obtain ⟨x, hx⟩ := get_of_lt (l := l) (i := k) (by omega)
      refine Wp_skip ?_
      refine thn_normal ?_
      refine Wp_seq ?_
      refine Wp_block ?_
      refine Wp_region ?_
      refine WpL_val rfl rfl (by decide) (r_move (v := (.int .i64 m)) rfl) ?_
      refine WpL_val rfl rfl (by decide) (r_move (v := (.slice (some ⟨b, o, none⟩) l.length c)) rfl) ?_
      refine WpL_val rfl rfl (by decide) (r_move (v := (.int .i64 ((k : Nat) : Int))) rfl) ?_
      refine WpL_val rfl rfl (by decide) (r_indexSlice (b := b) (o := o) (len := l.length) (cap := c) (i := k) (o' := o + k) rfl rfl rfl Try.underlying26 siz3 (by omega) (by omega)) ?_
      refine WpL_val rfl rfl (by decide) (r_load (v := (.int .i64 x)) rfl flat3 (E.cell (fun f => f) (hcl k x hx))) ?_
      refine WpL_val rfl rfl (by decide) (r_minI rfl rfl rfl) ?_
      refine WpL_val rfl rfl (by decide) (r_assign (v := (.int .i64 (min m x))) rfl) ?_
      refine WpL_nil ?_
      refine inB_normal ?_
      refine thn_normal ?_
      refine Wp_region ?_
      refine WpL_val rfl rfl (by decide) (r_move (v := (.int .i64 ((k : Nat) : Int))) rfl) ?_
      refine WpL_val rfl rfl (by decide) (r_add (k := .i64) (a := ((k : Nat) : Int)) (b := 1) (c := ((k : Nat) : Int) + 1) rfl rfl (wI64 (by omega))) ?_
      refine WpL_val rfl rfl (by decide) (r_assign (v := (.int .i64 (((k : Nat) : Int) + 1))) rfl) ?_
      refine WpL_nil ?_
      refine thn_normal ?_
      exact ⟨l.length - (k + 1), by omega, k + 1, (min m x), Fits.out ⟨rfl, rfl, rfl, trivial⟩, E, ⟨by omega, by omega⟩, (by rw [fold_takeD _ hx, hm]), rfl⟩
    · have khlt := hlt
      replace hlt := of_decide_eq_false hlt
      have hkk : k = l.length := by omega
      refine Wp_exit ?_
      refine thn_exit ?_
      refine thn_exit ?_
      refine inB_here ?_
      refine thn_normal ?_
      refine Wp_seq_region ?_
      refine WpL_val rfl rfl (by decide) (r_move (v := (.int .i64 m)) rfl) ?_
      refine WpL_val rfl rfl (by decide) (r_assign (v := (.int .i64 m)) rfl) ?_
      refine WpL_nil ?_
      refine Wp_ret ?_
      refine fin_tmp Try.results89 (v := (.int .i64 m)) rfl ?_
      refine ⟨int_eq ?_, E⟩
      rw [hm, hkk, List.take_length]; rfl
theorem max_c (w0 : World) (v : Value) (l : List Int) (h : IntsAt w0 v l) (hl : l ≠ []) : Ret Try.prog 90 #[v] w0 fun r w => r = .int .i64 (maxL l) ∧ Ext w0 w := by
  obtain ⟨a, c, rfl⟩ := SlAt.form h
  have hlen : l.length ≤ 9223372036854775807 := by simpa using SlAt.le h
  simp only [List.length_map] at h ⊢
  have hpos : 0 < l.length := List.length_pos_iff.2 hl
  obtain ⟨b, o, rfl, hcl⟩ := ints_cells h hpos
  obtain ⟨x0, hx0⟩ := get_of_lt (l := l) (i := 0) hpos
  have hh : l.headD 0 = x0 := by cases l with | nil => simp at hx0 | cons y l => simpa using hx0
  refine Ret_of Try.func90 rfl Try.ntmps90 (Nat.le_of_ble_eq_true rfl) ?_
  have E : Chg none1 w0 w0 := Chg.refl _ _
  refine Wp_seq_region ?_
  refine WpL_val rfl rfl (by decide) (r_assign (v := (.int .i64 0)) rfl) ?_
  refine WpL_nil ?_
  refine Wp_seq ?_
  refine Wp_seq_region ?_
  refine WpL_val rfl rfl (by decide) (r_move (v := (.slice (some ⟨b, o, none⟩) l.length c)) rfl) ?_
  refine WpL_val rfl rfl (by decide) (r_lenSlice (ad := some ⟨b, o, none⟩) (n := l.length) (cap := c) Try.underlying26 rfl) ?_
  refine WpL_val rfl rfl (by decide) (r_lss (k := .i64) (a := ((l.length : Nat) : Int)) (b := 1) rfl rfl) ?_
  refine WpL_nil ?_
  have hc1 : (decide ((((l.length : Nat) : Int) : Int) < 1)) = false := by simp; omega
  refine Wp_cond_false (congrArg Value.bool hc1) ?_
  refine Wp_skip ?_
  refine thn_normal ?_
  refine Wp_seq_region ?_
  refine WpL_val rfl rfl (by decide) (r_move (v := (.slice (some ⟨b, o, none⟩) l.length c)) rfl) ?_
  refine WpL_val rfl rfl (by decide) (r_indexSlice (b := b) (o := o) (len := l.length) (cap := c) (i := 0) (o' := o + 0) rfl rfl rfl Try.underlying26 siz3 (by omega) (by omega)) ?_
  refine WpL_val rfl rfl (by decide) (r_load (v := (.int .i64 x0)) rfl flat3 (E.cell (fun f => f) (hcl 0 x0 hx0))) ?_
  refine WpL_val rfl rfl (by decide) (r_assign (v := (.int .i64 x0)) rfl) ?_
  refine WpL_nil ?_
  refine Wp_seq ?_
  refine Wp_seq_region ?_
  refine WpL_val rfl rfl (by decide) (r_assign (v := (.int .i64 1)) rfl) ?_
  refine WpL_nil ?_
  refine Wp_block ?_
  refine Wp_loop (fun nn_ σ W2 => ∃ (k : Nat) (m : Int), (∃ jj_, σ = upds jj_ [(0, (.slice (some ⟨b, o, none⟩) l.length c)), (4, (.int .i64 ((k : Nat) : Int))), (3, (.int .i64 m))]) ∧ Chg none1 w0 W2 ∧ (1 ≤ k ∧ k ≤ l.length) ∧ (m = (l.take k).foldl max (l.headD 0)) ∧ nn_ = l.length - k) (n := l.length - 1) ?_ ?_
  · exact ⟨1, x0, Fits.out ⟨rfl, rfl, rfl, trivial⟩, E, ⟨Nat.le_refl _, by omega⟩, (by rw [fold_takeD _ hx0, hh]; simp), rfl⟩
  · clear E
    rintro _ _ W2 ⟨k, m, ⟨j2, rfl⟩, E, hk, hm, rfl⟩
    refine Wp_seq ?_
    refine Wp_seq_region ?_
    refine WpL_val rfl rfl (by decide) (r_move (v := (.int .i64 ((k : Nat) : Int))) rfl) ?_
    refine WpL_val rfl rfl (by decide) (r_move (v := (.slice (some ⟨b, o, none⟩) l.length c)) rfl) ?_
    refine WpL_val rfl rfl (by decide) (r_lenSlice (ad := some ⟨b, o, none⟩) (n := l.length) (cap := c) Try.underlying26 rfl) ?_
    refine WpL_val rfl rfl (by decide) (r_lss (k := .i64) (a := ((k : Nat) : Int)) (b := ((l.length : Nat) : Int)) rfl rfl) ?_
    refine WpL_nil ?_
    refine Wp_cond (b := decide ((((k : Nat) : Int) : Int) < ((l.length : Nat) : Int))) rfl (fun hlt => ?_) (fun hlt => ?_)
    · have khlt := hlt
      replace hlt := of_decide_eq_true hlt
      obtain ⟨x, hx⟩ := get_of_lt (l := l) (i := k) (by omega)
      refine Wp_skip ?_
      refine thn_normal ?_
      refine Wp_seq ?_
      refine Wp_block ?_
      refine Wp_region ?_
      refine WpL_val rfl rfl (by decide) (r_move (v := (.int .i64 m)) rfl) ?_
      refine WpL_val rfl rfl (by decide) (r_move (v := (.slice (some ⟨b, o, none⟩) l.length c)) rfl) ?_
      refine WpL_val rfl rfl (by decide) (r_move (v := (.int .i64 ((k : Nat) : Int))) rfl) ?_
      refine WpL_val rfl rfl (by decide) (r_indexSlice (b := b) (o := o) (len := l.length) (cap := c) (i := k) (o' := o + k) rfl rfl rfl Try.underlying26 siz3 (by omega) (by omega)) ?_
      refine WpL_val rfl rfl (by decide) (r_load (v := (.int .i64 x)) rfl flat3 (E.cell (fun f => f) (hcl k x hx))) ?_
      refine WpL_val rfl rfl (by decide) (r_maxI rfl rfl rfl) ?_
      refine WpL_val rfl rfl (by decide) (r_assign (v := (.int .i64 (max m x))) rfl) ?_
      refine WpL_nil ?_
      refine inB_normal ?_
      refine thn_normal ?_
      refine Wp_region ?_
      refine WpL_val rfl rfl (by decide) (r_move (v := (.int .i64 ((k : Nat) : Int))) rfl) ?_
      refine WpL_val rfl rfl (by decide) (r_add (k := .i64) (a := ((k : Nat) : Int)) (b := 1) (c := ((k : Nat) : Int) + 1) rfl rfl (wI64 (by omega))) ?_
      refine WpL_val rfl rfl (by decide) (r_assign (v := (.int .i64 (((k : Nat) : Int) + 1))) rfl) ?_
      refine WpL_nil ?_
      refine thn_normal ?_
      exact ⟨l.length - (k + 1), by omega, k + 1, (max m x), Fits.out ⟨rfl, rfl, rfl, trivial⟩, E, ⟨by omega, by omega⟩, (by rw [fold_takeD _ hx, hm]), rfl⟩
    · have khlt := hlt
      replace hlt := of_decide_eq_false hlt
      have hkk : k = l.length := by omega
      refine Wp_exit ?_
      refine thn_exit ?_
      refine thn_exit ?_
      refine inB_here ?_
      refine thn_normal ?_
      refine Wp_seq_region ?_
      refine WpL_val rfl rfl (by decide) (r_move (v := (.int .i64 m)) rfl) ?_
      refine WpL_val rfl rfl (by decide) (r_assign (v := (.int .i64 m)) rfl) ?_
      refine WpL_nil ?_
      refine Wp_ret ?_
      refine fin_tmp Try.results90 (v := (.int .i64 m)) rfl ?_
      refine ⟨int_eq ?_, E⟩
      rw [hm, hkk, List.take_length]; rfl
def badRow (n : Int) (r : List Int) : Bool := decide (minL r < -1) || decide (n ≤ maxL r)
def bad0 (d : Dfa) : Bool := (decide (d.start < 0) || decide ((d.next.length : Int) ≤ d.start)) || decide (minL d.accept < -1)
def formRow (c : Nat) (r : List Int) : Bool := decide ((r.length : Int) = 0) || decide ((r.length : Int) ≠ (c : Int))
def colsD (d : Dfa) : Nat := (d.next.headD []).length
def checkD (d : Dfa) : Int :=
  if 200 < d.next.length then 2 else if d.next.length = 0 ∨ d.accept.length ≠ d.next.length then 3 else if 16 < colsD d then 2
  else if d.next.any (formRow (colsD d)) = true then 3
  else if (bad0 d || d.next.any (badRow d.next.length)) = true then 1 else 0
set_option maxHeartbeats 4000000 in
theorem dcheck_c (w0 : World) (d : Dfa) (vs : List Value) (hd : DfaAt w0 d vs) : Ret Try.prog 48 #[.agg vs.toArray] w0 fun r w => r = .int .i64 (checkD d) ∧ Ext w0 w := by
  obtain ⟨aa, ac, na, nc, rfl, ha, hn⟩ := hd
  have hal : d.accept.length ≤ 9223372036854775807 := by simpa using SlAt.le ha
  obtain ⟨_, _, hv, hcap, hle⟩ := hn.form
  simp only [Value.slice.injEq] at hv
  obtain ⟨rfl, _, rfl⟩ := hv
  refine Ret_of Try.func48 rfl Try.ntmps48 (Nat.le_of_ble_eq_true rfl) ?_
  have E : Chg none1 w0 w0 := Chg.refl _ _
  refine Wp_seq_region ?_
  refine s_box (v := (.agg #[(.int .i64 d.start), (.slice aa d.accept.length ac), (.slice na d.next.length nc)])) (c := #[(.int .i64 d.start), (.slice aa d.accept.length ac), (.slice na d.next.length nc)]) (by decide) rfl rfl ?_
  intro br wr Nr
  have Fr := Nr.ge E
  replace E := E.ext Nr.ext
  have Br := Nr.blk
  refine WpL_val rfl rfl (by decide) (r_assign (v := (.int .i64 0)) rfl) ?_
  refine WpL_nil ?_
  refine Wp_seq_region ?_
  refine WpL_val rfl rfl (by decide) (r_fieldAddr (b := br) (o := 0) (o' := 2) rfl Try.underlying44 rfl siz42 rfl) ?_
  refine WpL_val rfl rfl (by decide) (r_load (v := (.slice na d.next.length nc)) rfl flat42 (Br.cell rfl)) ?_
  refine WpL_val rfl rfl (by decide) (r_lenSlice (ad := na) (n := d.next.length) (cap := nc) Try.underlying42 rfl) ?_
  refine WpL_val rfl rfl (by decide) (r_assign (v := (.int .i64 ((d.next.length : Nat) : Int))) rfl) ?_
  refine WpL_nil ?_
  refine Wp_seq ?_
  refine Wp_block ?_
  refine Wp_seq_region ?_
  refine WpL_val rfl rfl (by decide) (r_move (v := (.int .i64 ((d.next.length : Nat) : Int))) rfl) ?_
  refine WpL_val rfl rfl (by decide) (r_gtr (k := .i64) (a := ((d.next.length : Nat) : Int)) (b := 200) rfl rfl) ?_
  refine WpL_val rfl rfl (by decide) (r_assign (v := (.bool (decide ((200 : Int) < ((d.next.length : Nat) : Int))))) rfl) ?_
  refine WpL_nil ?_
  refine Wp_cond (b := decide ((200 : Int) < ((d.next.length : Nat) : Int))) rfl (fun h1 => ?_) (fun h1 => ?_)
  · have kh1 := h1
    replace h1 := of_decide_eq_true h1
    refine Wp_seq_region ?_
    refine WpL_val rfl rfl (by decide) (r_assign (v := (.int .i64 2)) rfl) ?_
    refine WpL_nil ?_
    refine Wp_ret ?_
    refine inB_ret ?_
    refine thn_ret ?_
    refine fin_tmp Try.results48 (v := (.int .i64 2)) rfl ?_
    exact ⟨int_eq (by unfold checkD; rw [if_pos (by omega)]), E⟩
  · have kh1 := h1
    replace h1 := of_decide_eq_false h1
    refine Wp_seq_region ?_
    refine WpL_val rfl rfl (by decide) (r_move (v := (.int .i64 ((d.next.length : Nat) : Int))) rfl) ?_
    obtain ⟨e2, he2⟩ : ∃ e, (decide ((((d.next.length : Nat) : Int) : Int) = 0)) = e := ⟨_, rfl⟩
    refine WpL_val rfl rfl (by decide) ((r_eql (k := .i64) (a := ((d.next.length : Nat) : Int)) (b := 0) rfl rfl).trans (by rw [he2]; try rfl)) ?_
    refine WpL_val rfl rfl (by decide) (r_move (v := (.bool e2)) rfl) ?_
    refine WpL_guard_any (oj := _) (gv := (.bool e2)) (u := (bif e2 then undef else (.pointer (some ⟨br, 1, none⟩)))) rfl rfl (by decide) (by decide) rfl (by cases e2 <;> first | exact Or.inr ⟨Or.inl rfl, rfl⟩ | exact Or.inr ⟨Or.inr rfl, rfl⟩ | exact Or.inl ⟨rfl, r_fieldAddr (b := br) (o := 0) (o' := 1) rfl Try.underlying44 rfl siz26 rfl⟩) ?_
    refine WpL_guard_any (oj := _) (gv := (.bool e2)) (u := (bif e2 then undef else (.slice aa d.accept.length ac))) rfl rfl (by decide) (by decide) rfl (by cases e2 <;> first | exact Or.inr ⟨Or.inl rfl, rfl⟩ | exact Or.inr ⟨Or.inr rfl, rfl⟩ | exact Or.inl ⟨rfl, r_load (v := (.slice aa d.accept.length ac)) rfl flat26 (Br.cell rfl)⟩) ?_
    refine WpL_guard_any (oj := _) (gv := (.bool e2)) (u := (bif e2 then undef else (.int .i64 ((d.accept.length : Nat) : Int)))) rfl rfl (by decide) (by decide) rfl (by cases e2 <;> first | exact Or.inr ⟨Or.inl rfl, rfl⟩ | exact Or.inr ⟨Or.inr rfl, rfl⟩ | exact Or.inl ⟨rfl, r_lenSlice (ad := aa) (n := d.accept.length) (cap := ac) Try.underlying26 rfl⟩) ?_
    refine WpL_guard_any (oj := _) (gv := (.bool e2)) (u := (bif e2 then undef else (.int .i64 ((d.next.length : Nat) : Int)))) rfl rfl (by decide) (by decide) rfl (by cases e2 <;> first | exact Or.inr ⟨Or.inl rfl, rfl⟩ | exact Or.inr ⟨Or.inr rfl, rfl⟩ | exact Or.inl ⟨rfl, r_move (v := (.int .i64 ((d.next.length : Nat) : Int))) rfl⟩) ?_
    obtain ⟨e3, he3⟩ : ∃ e, (decide ((((d.accept.length : Nat) : Int) : Int) ≠ ((d.next.length : Nat) : Int))) = e := ⟨_, rfl⟩
    refine WpL_guard_any (oj := _) (gv := (.bool e2)) (u := (bif e2 then undef else (.bool e3))) rfl rfl (by decide) (by decide) rfl (by cases e2 <;> first | exact Or.inr ⟨Or.inl rfl, rfl⟩ | exact Or.inr ⟨Or.inr rfl, rfl⟩ | exact Or.inl ⟨rfl, (r_neq (k := .i64) (a := ((d.accept.length : Nat) : Int)) (b := ((d.next.length : Nat) : Int)) rfl rfl).trans (by rw [he3]; try rfl)⟩) ?_
    obtain ⟨e4, he4⟩ : ∃ e, (e2 || e3) = e := ⟨_, rfl⟩
    refine WpL_val rfl rfl (by decide) (r_pick (b := e2) (v := .bool e4) rfl (by rw [← he4]; cases e2 <;> rfl)) ?_
    refine WpL_val rfl rfl (by decide) (r_assign (v := (.bool e4)) rfl) ?_
    refine WpL_nil ?_
    subst he4
    subst he3
    subst he2
    refine Wp_cond (b := ((decide ((((d.next.length : Nat) : Int) : Int) = 0)) || (decide ((((d.accept.length : Nat) : Int) : Int) ≠ ((d.next.length : Nat) : Int))))) rfl (fun h2 => ?_) (fun h2 => ?_)
    · have kh2 := h2
      refine Wp_seq_region ?_
      refine WpL_val rfl rfl (by decide) (r_assign (v := (.int .i64 3)) rfl) ?_
      refine WpL_nil ?_
      refine Wp_ret ?_
      refine inB_ret ?_
      refine thn_ret ?_
      refine fin_tmp Try.results48 (v := (.int .i64 3)) rfl ?_
      exact ⟨int_eq (by unfold checkD; rw [if_neg (by omega), if_pos (by simp only [Bool.or_eq_true, decide_eq_true_eq] at h2; omega)]), E⟩
    · have kh2 := h2
      simp only [Bool.or_eq_false_iff, decide_eq_false_iff_not] at h2
      have h20 : ¬ (d.next.length = 0 ∨ d.accept.length ≠ d.next.length) := by omega
      obtain ⟨row0, hrow0⟩ := get_of_lt (l := d.next) (i := 0) (by omega)
      have hc0 : colsD d = row0.length := by unfold colsD; cases hq : d.next with | nil => rw [hq] at hrow0; simp at hrow0 | cons y l => rw [hq] at hrow0; simp at hrow0; simp [hrow0]
      obtain ⟨nb, no, hna, hncl⟩ := intss_cells hn (by omega)
      subst hna
      obtain ⟨ra0, rc0, hcell0, hints0⟩ := hncl 0 row0 hrow0
      refine Wp_seq_region ?_
      refine WpL_val rfl rfl (by decide) (r_fieldAddr (b := br) (o := 0) (o' := 2) rfl Try.underlying44 rfl siz42 rfl) ?_
      refine WpL_val rfl rfl (by decide) (r_load (v := (.slice (some ⟨nb, no, none⟩) d.next.length nc)) rfl flat42 (Br.cell rfl)) ?_
      refine WpL_val rfl rfl (by decide) (r_indexSlice (b := nb) (o := no) (len := d.next.length) (cap := nc) (i := 0) (o' := no + 0) rfl rfl rfl Try.underlying42 siz26 (by omega) (by omega)) ?_
      refine WpL_val rfl rfl (by decide) (r_load (v := (.slice ra0 row0.length rc0)) rfl flat26 (E.cell (fun f => f) hcell0)) ?_
      refine WpL_val rfl rfl (by decide) (r_lenSlice (ad := ra0) (n := row0.length) (cap := rc0) Try.underlying26 rfl) ?_
      refine WpL_val rfl rfl (by decide) (r_gtr (k := .i64) (a := ((row0.length : Nat) : Int)) (b := 16) rfl rfl) ?_
      refine WpL_val rfl rfl (by decide) (r_assign (v := (.bool (decide ((16 : Int) < ((row0.length : Nat) : Int))))) rfl) ?_
      refine WpL_nil ?_
      refine Wp_cond (b := decide ((16 : Int) < ((row0.length : Nat) : Int))) rfl (fun h3 => ?_) (fun h3 => ?_)
      · have kh3 := h3
        replace h3 := of_decide_eq_true h3
        refine Wp_seq_region ?_
        refine WpL_val rfl rfl (by decide) (r_assign (v := (.int .i64 2)) rfl) ?_
        refine WpL_nil ?_
        refine Wp_ret ?_
        refine inB_ret ?_
        refine thn_ret ?_
        refine fin_tmp Try.results48 (v := (.int .i64 2)) rfl ?_
        exact ⟨int_eq (by unfold checkD; rw [if_neg (by omega), if_neg h20, if_pos (by omega)]), E⟩
      · have kh3 := h3
        replace h3 := of_decide_eq_false h3
        refine Wp_skip ?_
        refine inB_normal ?_
        refine thn_normal ?_
        refine Wp_seq ?_
        refine Wp_seq_region ?_
        refine WpL_val rfl rfl (by decide) (r_fieldAddr (b := br) (o := 0) (o' := 2) rfl Try.underlying44 rfl siz42 rfl) ?_
        refine WpL_val rfl rfl (by decide) (r_load (v := (.slice (some ⟨nb, no, none⟩) d.next.length nc)) rfl flat42 (Br.cell rfl)) ?_
        refine WpL_val rfl rfl (by decide) (r_lenSlice (ad := some ⟨nb, no, none⟩) (n := d.next.length) (cap := nc) Try.underlying42 rfl) ?_
        refine WpL_val rfl rfl (by decide) (r_move (v := (.int .i64 0)) rfl) ?_
        refine WpL_nil ?_
        refine Wp_block ?_
        refine Wp_loop (fun nn_ σ W7 => ∃ (k : Nat), (∃ jj_, σ = upds jj_ [(1, (.pointer (some ⟨br, 0, none⟩))), (3, (.int .i64 ((d.next.length : Nat) : Int))), (33, (.slice (some ⟨nb, no, none⟩) d.next.length nc)), (34, (.int .i64 ((d.next.length : Nat) : Int))), (35, (.int .i64 ((k : Nat) : Int)))]) ∧ Chg none1 w0 W7 ∧ Blk W7 br #[(.int .i64 d.start), (.slice aa d.accept.length ac), (.slice (some ⟨nb, no, none⟩) d.next.length nc)] 44 ∧ (k ≤ d.next.length) ∧ ((d.next.take k).any (formRow (colsD d)) = false) ∧ nn_ = d.next.length - k) (n := d.next.length - 0) ?_ ?_
        · exact ⟨0, Fits.out ⟨rfl, rfl, rfl, rfl, rfl, trivial⟩, E, Br, Nat.zero_le _, rfl, rfl⟩
        · clear E Br
          rintro _ _ W7 ⟨k, ⟨j7, rfl⟩, E, Br, hk, hno, rfl⟩
          refine Wp_seq_region ?_
          refine WpL_val rfl rfl (by decide) (r_lss (k := .i64) (a := ((k : Nat) : Int)) (b := ((d.next.length : Nat) : Int)) rfl rfl) ?_
          refine WpL_nil ?_
          refine Wp_seq ?_
          refine Wp_cond (b := decide ((((k : Nat) : Int) : Int) < ((d.next.length : Nat) : Int))) rfl (fun hlt => ?_) (fun hlt => ?_)
          · have khlt := hlt
            replace hlt := of_decide_eq_true hlt
            obtain ⟨row, hrow⟩ := get_of_lt (l := d.next) (i := k) (by omega)
            obtain ⟨ra, rc, hcell, hints⟩ := hncl k row hrow
            have hrl : row.length ≤ 9223372036854775807 := by simpa using SlAt.le hints
            refine Wp_skip ?_
            refine thn_normal ?_
            refine Wp_seq ?_
            refine Wp_block ?_
            refine Wp_seq_region ?_
            refine WpL_val rfl rfl (by decide) (r_indexSlice (b := nb) (o := no) (len := d.next.length) (cap := nc) (i := k) (o' := no + k) rfl rfl rfl Try.underlying42 siz26 (by omega) (by omega)) ?_
            refine WpL_val rfl rfl (by decide) (r_load (v := (.slice ra row.length rc)) rfl flat26 (E.cell (fun f => f) hcell)) ?_
            refine WpL_val rfl rfl (by decide) (r_assign (v := (.slice ra row.length rc)) rfl) ?_
            refine WpL_nil ?_
            refine Wp_seq_region ?_
            refine WpL_val rfl rfl (by decide) (r_move (v := (.slice ra row.length rc)) rfl) ?_
            refine WpL_val rfl rfl (by decide) (r_lenSlice (ad := ra) (n := row.length) (cap := rc) Try.underlying26 rfl) ?_
            obtain ⟨e9, he9⟩ : ∃ e, (decide ((((row.length : Nat) : Int) : Int) = 0)) = e := ⟨_, rfl⟩
            refine WpL_val rfl rfl (by decide) ((r_eql (k := .i64) (a := ((row.length : Nat) : Int)) (b := 0) rfl rfl).trans (by rw [he9]; try rfl)) ?_
            refine WpL_val rfl rfl (by decide) (r_move (v := (.bool e9)) rfl) ?_
            refine WpL_guard_any (oj := _) (gv := (.bool e9)) (u := (bif e9 then undef else (.slice ra row.length rc))) rfl rfl (by decide) (by decide) rfl (by cases e9 <;> first | exact Or.inr ⟨Or.inl rfl, rfl⟩ | exact Or.inr ⟨Or.inr rfl, rfl⟩ | exact Or.inl ⟨rfl, r_move (v := (.slice ra row.length rc)) rfl⟩) ?_
            refine WpL_guard_any (oj := _) (gv := (.bool e9)) (u := (bif e9 then undef else (.int .i64 ((row.length : Nat) : Int)))) rfl rfl (by decide) (by decide) rfl (by cases e9 <;> first | exact Or.inr ⟨Or.inl rfl, rfl⟩ | exact Or.inr ⟨Or.inr rfl, rfl⟩ | exact Or.inl ⟨rfl, r_lenSlice (ad := ra) (n := row.length) (cap := rc) Try.underlying26 rfl⟩) ?_
            refine WpL_guard_any (oj := _) (gv := (.bool e9)) (u := (bif e9 then undef else (.pointer (some ⟨br, 2, none⟩)))) rfl rfl (by decide) (by decide) rfl (by cases e9 <;> first | exact Or.inr ⟨Or.inl rfl, rfl⟩ | exact Or.inr ⟨Or.inr rfl, rfl⟩ | exact Or.inl ⟨rfl, r_fieldAddr (b := br) (o := 0) (o' := 2) rfl Try.underlying44 rfl siz42 rfl⟩) ?_
            refine WpL_guard_any (oj := _) (gv := (.bool e9)) (u := (bif e9 then undef else (.slice (some ⟨nb, no, none⟩) d.next.length nc))) rfl rfl (by decide) (by decide) rfl (by cases e9 <;> first | exact Or.inr ⟨Or.inl rfl, rfl⟩ | exact Or.inr ⟨Or.inr rfl, rfl⟩ | exact Or.inl ⟨rfl, r_load (v := (.slice (some ⟨nb, no, none⟩) d.next.length nc)) rfl flat42 (Br.cell rfl)⟩) ?_
            refine WpL_guard_any (oj := _) (gv := (.bool e9)) (u := (bif e9 then undef else (.pointer (some ⟨nb, no + 0, none⟩)))) rfl rfl (by decide) (by decide) rfl (by cases e9 <;> first | exact Or.inr ⟨Or.inl rfl, rfl⟩ | exact Or.inr ⟨Or.inr rfl, rfl⟩ | exact Or.inl ⟨rfl, r_indexSlice (b := nb) (o := no) (len := d.next.length) (cap := nc) (i := 0) (o' := no + 0) rfl rfl rfl Try.underlying42 siz26 (by have := of_decide_eq_false he9; omega) (by omega)⟩) ?_
            refine WpL_guard_any (oj := _) (gv := (.bool e9)) (u := (bif e9 then undef else (.slice ra0 row0.length rc0))) rfl rfl (by decide) (by decide) rfl (by cases e9 <;> first | exact Or.inr ⟨Or.inl rfl, rfl⟩ | exact Or.inr ⟨Or.inr rfl, rfl⟩ | exact Or.inl ⟨rfl, r_load (v := (.slice ra0 row0.length rc0)) rfl flat26 (E.cell (fun f => f) hcell0)⟩) ?_
            refine WpL_guard_any (oj := _) (gv := (.bool e9)) (u := (bif e9 then undef else (.int .i64 ((row0.length : Nat) : Int)))) rfl rfl (by decide) (by decide) rfl (by cases e9 <;> first | exact Or.inr ⟨Or.inl rfl, rfl⟩ | exact Or.inr ⟨Or.inr rfl, rfl⟩ | exact Or.inl ⟨rfl, r_lenSlice (ad := ra0) (n := row0.length) (cap := rc0) Try.underlying26 rfl⟩) ?_
            obtain ⟨e10, he10⟩ : ∃ e, (decide ((((row.length : Nat) : Int) : Int) ≠ ((row0.length : Nat) : Int))) = e := ⟨_, rfl⟩
            refine WpL_guard_any (oj := _) (gv := (.bool e9)) (u := (bif e9 then undef else (.bool e10))) rfl rfl (by decide) (by decide) rfl (by cases e9 <;> first | exact Or.inr ⟨Or.inl rfl, rfl⟩ | exact Or.inr ⟨Or.inr rfl, rfl⟩ | exact Or.inl ⟨rfl, (r_neq (k := .i64) (a := ((row.length : Nat) : Int)) (b := ((row0.length : Nat) : Int)) rfl rfl).trans (by rw [he10]; try rfl)⟩) ?_
            obtain ⟨e11, he11⟩ : ∃ e, (e9 || e10) = e := ⟨_, rfl⟩
            refine WpL_val rfl rfl (by decide) (r_pick (b := e9) (v := .bool e11) rfl (by rw [← he11]; cases e9 <;> rfl)) ?_
            refine WpL_nil ?_
            subst he11
            subst he10
            subst he9
            refine Wp_cond (b := ((decide ((((row.length : Nat) : Int) : Int) = 0)) || (decide ((((row.length : Nat) : Int) : Int) ≠ ((row0.length : Nat) : Int))))) rfl (fun hf => ?_) (fun hf => ?_)
            · have khf := hf
              refine Wp_seq_region ?_
              refine WpL_val rfl rfl (by decide) (r_assign (v := (.int .i64 3)) rfl) ?_
              refine WpL_nil ?_
              refine Wp_ret ?_
              refine inB_ret ?_
              refine thn_ret ?_
              refine thn_ret ?_
              refine inB_ret ?_
              refine thn_ret ?_
              refine fin_tmp Try.results48 (v := (.int .i64 3)) rfl ?_
              refine ⟨int_eq ?_, E⟩
              unfold checkD
              rw [if_neg (by omega), if_neg h20, if_neg (by omega), if_pos]
              exact List.any_eq_true.2 ⟨row, List.mem_of_getElem? hrow, by unfold formRow; rw [hc0]; simpa using hf⟩
            · have khf := hf
              refine Wp_skip ?_
              refine inB_normal ?_
              refine thn_normal ?_
              refine Wp_region ?_
              refine WpL_val rfl rfl (by decide) (r_add (k := .i64) (a := ((k : Nat) : Int)) (b := 1) (c := ((k : Nat) : Int) + 1) rfl rfl (wI64 (by omega))) ?_
              refine WpL_val rfl rfl (by decide) (r_move (v := (.int .i64 (((k : Nat) : Int) + 1))) rfl) ?_
              refine WpL_nil ?_
              refine thn_normal ?_
              exact ⟨d.next.length - (k + 1), by omega, k + 1, Fits.out ⟨rfl, rfl, rfl, rfl, rfl, trivial⟩, E, Br, (by omega), (by rw [List.take_add_one, hrow, List.any_append, hno]; simp only [Option.toList_some, List.any_cons, List.any_nil, Bool.or_false, Bool.false_or]; unfold formRow; rw [hc0]; simpa using hf), rfl⟩
          · have khlt := hlt
            replace hlt := of_decide_eq_false hlt
            have hkk : k = d.next.length := by omega
            rw [hkk, List.take_length] at hno
            have hrows : ∀ row ∈ d.next, row ≠ [] := fun row hr he => by have := (List.any_eq_false.1 hno) row hr; simp [formRow, he] at this
            have hane : d.accept ≠ [] := fun he => by rw [he] at h20; simp at h20; omega
            refine Wp_exit ?_
            refine thn_exit ?_
            refine thn_exit ?_
            refine inB_here ?_
            refine thn_normal ?_
            refine Wp_seq_region ?_
            refine WpL_val rfl rfl (by decide) (r_fieldAddr (b := br) (o := 0) (o' := 0) rfl Try.underlying44 rfl siz3 rfl) ?_
            refine WpL_val rfl rfl (by decide) (r_load (v := (.int .i64 d.start)) rfl flat3 (Br.cell rfl)) ?_
            refine WpL_val rfl rfl (by decide) (r_lss (k := .i64) (a := d.start) (b := 0) rfl rfl) ?_
            refine WpL_val rfl rfl (by decide) (r_move (v := (.bool (decide ((d.start : Int) < 0)))) rfl) ?_
            rcases Bool.eq_false_or_eq_true (decide ((d.start : Int) < 0)) with g1 | g1
            · have kg1 := g1
              replace kg1 := of_decide_eq_true kg1
              refine WpL_guard_no (oj := _) rfl rfl (by decide) (v := .bool true) (congrArg Value.bool g1) (Or.inl rfl) ?_
              refine WpL_guard_no (oj := _) rfl rfl (by decide) (v := .bool true) (congrArg Value.bool g1) (Or.inl rfl) ?_
              refine WpL_guard_no (oj := _) rfl rfl (by decide) (v := .bool true) (congrArg Value.bool g1) (Or.inl rfl) ?_
              refine WpL_guard_no (oj := _) rfl rfl (by decide) (v := .bool true) (congrArg Value.bool g1) (Or.inl rfl) ?_
              refine WpL_val rfl rfl (by decide) (r_pick (b := decide ((d.start : Int) < 0)) (v := (.bool true)) rfl (by rw [g1]; rfl)) ?_
              refine WpL_val rfl rfl (by decide) (r_move (v := (.bool true)) rfl) ?_
              refine WpL_guard_no (oj := _) rfl rfl (by decide) (v := .bool true) rfl (Or.inl rfl) ?_
              refine WpL_guard_no (oj := _) rfl rfl (by decide) (v := .bool true) rfl (Or.inl rfl) ?_
              refine WpL_guard_no (oj := _) rfl rfl (by decide) (v := .bool true) rfl (Or.inl rfl) ?_
              refine WpL_guard_no (oj := _) rfl rfl (by decide) (v := .bool true) rfl (Or.inl rfl) ?_
              refine WpL_val rfl rfl (by decide) (r_pick (b := true) (v := (.bool true)) rfl rfl) ?_
              refine WpL_val rfl rfl (by decide) (r_assign (v := (.bool true)) rfl) ?_
              refine WpL_nil ?_
              refine Wp_seq ?_
              refine Wp_seq_region ?_
              refine WpL_val rfl rfl (by decide) (r_fieldAddr (b := br) (o := 0) (o' := 2) rfl Try.underlying44 rfl siz42 rfl) ?_
              refine WpL_val rfl rfl (by decide) (r_load (v := (.slice (some ⟨nb, no, none⟩) d.next.length nc)) rfl flat42 (Br.cell rfl)) ?_
              refine WpL_val rfl rfl (by decide) (r_lenSlice (ad := some ⟨nb, no, none⟩) (n := d.next.length) (cap := nc) Try.underlying42 rfl) ?_
              refine WpL_val rfl rfl (by decide) (r_move (v := (.int .i64 0)) rfl) ?_
              refine WpL_nil ?_
              refine Wp_block ?_
              refine Wp_loop (fun nn_ σ W14 => ∃ (q : Nat) (bad : Bool), (∃ jj_, σ = upds jj_ [(3, (.int .i64 ((d.next.length : Nat) : Int))), (69, (.slice (some ⟨nb, no, none⟩) d.next.length nc)), (70, (.int .i64 ((d.next.length : Nat) : Int))), (71, (.int .i64 ((q : Nat) : Int))), (6, (.bool bad))]) ∧ Chg none1 w0 W14 ∧ Blk W14 br #[(.int .i64 d.start), (.slice aa d.accept.length ac), (.slice (some ⟨nb, no, none⟩) d.next.length nc)] 44 ∧ (q ≤ d.next.length) ∧ (bad = (bad0 d || (d.next.take q).any (badRow d.next.length))) ∧ nn_ = d.next.length - q) (n := d.next.length - 0) ?_ ?_
              · exact ⟨0, true, Fits.out ⟨rfl, rfl, rfl, rfl, rfl, trivial⟩, E, Br, Nat.zero_le _, (by simp only [List.take_zero, List.any_nil, Bool.or_false]; unfold bad0; rw [g1]; rfl), rfl⟩
              · clear E Br
                rintro _ _ W14 ⟨q, bad, ⟨j14, rfl⟩, E, Br, hq, hbad, rfl⟩
                refine Wp_seq_region ?_
                refine WpL_val rfl rfl (by decide) (r_lss (k := .i64) (a := ((q : Nat) : Int)) (b := ((d.next.length : Nat) : Int)) rfl rfl) ?_
                refine WpL_nil ?_
                refine Wp_seq ?_
                refine Wp_cond (b := decide ((((q : Nat) : Int) : Int) < ((d.next.length : Nat) : Int))) rfl (fun hltq => ?_) (fun hltq => ?_)
                · have khltq := hltq
                  replace hltq := of_decide_eq_true hltq
                  obtain ⟨row, hrow⟩ := get_of_lt (l := d.next) (i := q) (by omega)
                  obtain ⟨ra, rc, hcell, hints⟩ := hncl q row hrow
                  have hrne : row ≠ [] := hrows row (List.mem_of_getElem? hrow)
                  have hsucc : (bad0 d || (d.next.take (q + 1)).any (badRow d.next.length)) = (bad || badRow d.next.length row) := by rw [List.take_add_one, hrow, List.any_append, hbad]; simp [Bool.or_assoc]
                  refine Wp_skip ?_
                  refine thn_normal ?_
                  refine Wp_seq ?_
                  refine Wp_block ?_
                  refine Wp_seq_region ?_
                  refine WpL_val rfl rfl (by decide) (r_indexSlice (b := nb) (o := no) (len := d.next.length) (cap := nc) (i := q) (o' := no + q) rfl rfl rfl Try.underlying42 siz26 (by omega) (by omega)) ?_
                  refine WpL_val rfl rfl (by decide) (r_load (v := (.slice ra row.length rc)) rfl flat26 (E.cell (fun f => f) hcell)) ?_
                  refine WpL_val rfl rfl (by decide) (r_assign (v := (.slice ra row.length rc)) rfl) ?_
                  refine WpL_nil ?_
                  refine Wp_region ?_
                  refine WpL_val rfl rfl (by decide) (r_move (v := (.bool bad)) rfl) ?_
                  refine WpL_val rfl rfl (by decide) (r_move (v := (.bool bad)) rfl) ?_
                  rcases Bool.eq_false_or_eq_true (bad) with g5 | g5
                  · have kg5 := g5
                    refine WpL_guard_no (oj := _) rfl rfl (by decide) (v := .bool true) (congrArg Value.bool g5) (Or.inl rfl) ?_
                    refine WpL_guard_no (oj := _) rfl rfl (by decide) (v := .bool true) (congrArg Value.bool g5) (Or.inl rfl) ?_
                    refine WpL_guard_no (oj := _) rfl rfl (by decide) (v := .bool true) (congrArg Value.bool g5) (Or.inl rfl) ?_
                    refine WpL_val rfl rfl (by decide) (r_pick (b := bad) (v := (.bool true)) rfl (by rw [g5]; rfl)) ?_
                    refine WpL_val rfl rfl (by decide) (r_move (v := (.bool true)) rfl) ?_
                    refine WpL_guard_no (oj := _) rfl rfl (by decide) (v := .bool true) rfl (Or.inl rfl) ?_
                    refine WpL_guard_no (oj := _) rfl rfl (by decide) (v := .bool true) rfl (Or.inl rfl) ?_
                    refine WpL_guard_no (oj := _) rfl rfl (by decide) (v := .bool true) rfl (Or.inl rfl) ?_
                    refine WpL_guard_no (oj := _) rfl rfl (by decide) (v := .bool true) rfl (Or.inl rfl) ?_
                    refine WpL_val rfl rfl (by decide) (r_pick (b := true) (v := (.bool true)) rfl rfl) ?_
                    refine WpL_val rfl rfl (by decide) (r_assign (v := (.bool true)) rfl) ?_
                    refine WpL_nil ?_
                    refine inB_normal ?_
                    refine thn_normal ?_
                    refine Wp_region ?_
                    refine WpL_val rfl rfl (by decide) (r_add (k := .i64) (a := ((q : Nat) : Int)) (b := 1) (c := ((q : Nat) : Int) + 1) rfl rfl (wI64 (by omega))) ?_
                    refine WpL_val rfl rfl (by decide) (r_move (v := (.int .i64 (((q : Nat) : Int) + 1))) rfl) ?_
                    refine WpL_nil ?_
                    refine thn_normal ?_
                    exact ⟨d.next.length - (q + 1), by omega, q + 1, true, Fits.out ⟨rfl, rfl, rfl, rfl, rfl, trivial⟩, E, Br, (by omega), (by rw [hsucc, g5]; rfl), rfl⟩
                  · have kg5 := g5
                    refine WpL_guard_yes (oj := _) rfl rfl (by decide) (congrArg Value.bool g5) ?_
                    refine WpL_val rfl rfl (by decide) (r_move (v := (.slice ra row.length rc)) rfl) ?_
                    refine WpL_guard_yes (oj := _) rfl rfl (by decide) (congrArg Value.bool g5) ?_
                    refine WpL_enter rfl rfl (by decide) (r_callF (vs := [(.slice ra row.length rc)]) Try.func89 nm89 bd89 rfl) (min_c _ _ row (hints.ext E) hrne) ?_
                    rintro _ w19 ⟨rfl, X19⟩
                    replace Br := X19.keep Br
                    replace E := E.ext X19
                    refine WpL_guard_yes (oj := _) rfl rfl (by decide) (congrArg Value.bool g5) ?_
                    refine WpL_val rfl rfl (by decide) (r_lss (k := .i64) (a := minL row) (b := (-1)) rfl rfl) ?_
                    refine WpL_val rfl rfl (by decide) (r_pick (b := bad) (v := (.bool (decide ((minL row : Int) < (-1))))) rfl (by rw [g5]; rfl)) ?_
                    refine WpL_val rfl rfl (by decide) (r_move (v := (.bool (decide ((minL row : Int) < (-1))))) rfl) ?_
                    rcases Bool.eq_false_or_eq_true (decide ((minL row : Int) < (-1))) with g6 | g6
                    · have kg6 := g6
                      replace kg6 := of_decide_eq_true kg6
                      refine WpL_guard_no (oj := _) rfl rfl (by decide) (v := .bool true) (congrArg Value.bool g6) (Or.inl rfl) ?_
                      refine WpL_guard_no (oj := _) rfl rfl (by decide) (v := .bool true) (congrArg Value.bool g6) (Or.inl rfl) ?_
                      refine WpL_guard_no (oj := _) rfl rfl (by decide) (v := .bool true) (congrArg Value.bool g6) (Or.inl rfl) ?_
                      refine WpL_guard_no (oj := _) rfl rfl (by decide) (v := .bool true) (congrArg Value.bool g6) (Or.inl rfl) ?_
                      refine WpL_val rfl rfl (by decide) (r_pick (b := decide ((minL row : Int) < (-1))) (v := (.bool true)) rfl (by rw [g6]; rfl)) ?_
                      refine WpL_val rfl rfl (by decide) (r_assign (v := (.bool true)) rfl) ?_
                      refine WpL_nil ?_
                      refine inB_normal ?_
                      refine thn_normal ?_
                      refine Wp_region ?_
                      refine WpL_val rfl rfl (by decide) (r_add (k := .i64) (a := ((q : Nat) : Int)) (b := 1) (c := ((q : Nat) : Int) + 1) rfl rfl (wI64 (by omega))) ?_
                      refine WpL_val rfl rfl (by decide) (r_move (v := (.int .i64 (((q : Nat) : Int) + 1))) rfl) ?_
                      refine WpL_nil ?_
                      refine thn_normal ?_
                      exact ⟨d.next.length - (q + 1), by omega, q + 1, true, Fits.out ⟨rfl, rfl, rfl, rfl, rfl, trivial⟩, E, Br, (by omega), (by rw [hsucc, g5]; unfold badRow; rw [g6]; rfl), rfl⟩
                    · have kg6 := g6
                      replace kg6 := of_decide_eq_false kg6
                      refine WpL_guard_yes (oj := _) rfl rfl (by decide) (congrArg Value.bool g6) ?_
                      refine WpL_val rfl rfl (by decide) (r_move (v := (.slice ra row.length rc)) rfl) ?_
                      refine WpL_guard_yes (oj := _) rfl rfl (by decide) (congrArg Value.bool g6) ?_
                      refine WpL_enter rfl rfl (by decide) (r_callF (vs := [(.slice ra row.length rc)]) Try.func90 nm90 bd90 rfl) (max_c _ _ row (hints.ext E) hrne) ?_
                      rintro _ w29 ⟨rfl, X29⟩
                      replace Br := X29.keep Br
                      replace E := E.ext X29
                      refine WpL_guard_yes (oj := _) rfl rfl (by decide) (congrArg Value.bool g6) ?_
                      refine WpL_val rfl rfl (by decide) (r_move (v := (.int .i64 ((d.next.length : Nat) : Int))) rfl) ?_
                      refine WpL_guard_yes (oj := _) rfl rfl (by decide) (congrArg Value.bool g6) ?_
                      refine WpL_val rfl rfl (by decide) (r_geq (k := .i64) (a := maxL row) (b := ((d.next.length : Nat) : Int)) rfl rfl) ?_
                      refine WpL_val rfl rfl (by decide) (r_pick (b := decide ((minL row : Int) < (-1))) (v := (.bool (decide ((((d.next.length : Nat) : Int) : Int) ≤ maxL row)))) rfl (by rw [g6]; rfl)) ?_
                      refine WpL_val rfl rfl (by decide) (r_assign (v := (.bool (decide ((((d.next.length : Nat) : Int) : Int) ≤ maxL row)))) rfl) ?_
                      refine WpL_nil ?_
                      refine inB_normal ?_
                      refine thn_normal ?_
                      refine Wp_region ?_
                      refine WpL_val rfl rfl (by decide) (r_add (k := .i64) (a := ((q : Nat) : Int)) (b := 1) (c := ((q : Nat) : Int) + 1) rfl rfl (wI64 (by omega))) ?_
                      refine WpL_val rfl rfl (by decide) (r_move (v := (.int .i64 (((q : Nat) : Int) + 1))) rfl) ?_
                      refine WpL_nil ?_
                      refine thn_normal ?_
                      exact ⟨d.next.length - (q + 1), by omega, q + 1, (decide ((((d.next.length : Nat) : Int) : Int) ≤ maxL row)), Fits.out ⟨rfl, rfl, rfl, rfl, rfl, trivial⟩, E, Br, (by omega), (by rw [hsucc, g5]; unfold badRow; rw [g6]; rfl), rfl⟩
                · have khltq := hltq
                  replace hltq := of_decide_eq_false hltq
                  have hqq : q = d.next.length := by omega
                  rw [hqq, List.take_length] at hbad
                  refine Wp_exit ?_
                  refine thn_exit ?_
                  refine thn_exit ?_
                  refine inB_here ?_
                  refine thn_normal ?_
                  refine Wp_seq ?_
                  refine Wp_seq_region ?_
                  refine WpL_val rfl rfl (by decide) (r_move (v := (.bool bad)) rfl) ?_
                  refine WpL_nil ?_
                  refine Wp_cond (b := bad) rfl (fun hb => ?_) (fun hb => ?_)
                  · have khb := hb
                    refine Wp_seq_region ?_
                    refine WpL_val rfl rfl (by decide) (r_assign (v := (.int .i64 1)) rfl) ?_
                    refine WpL_nil ?_
                    refine Wp_ret ?_
                    refine thn_ret ?_
                    refine fin_tmp Try.results48 (v := (.int .i64 1)) rfl ?_
                    exact ⟨int_eq (by unfold checkD; rw [if_neg (by omega), if_neg h20, if_neg (by omega), if_neg (by rw [hno]; simp), if_pos (by rw [← hbad]; exact hb)]), E⟩
                  · have khb := hb
                    refine Wp_skip ?_
                    refine thn_normal ?_
                    refine Wp_seq_region ?_
                    refine WpL_val rfl rfl (by decide) (r_assign (v := (.int .i64 0)) rfl) ?_
                    refine WpL_nil ?_
                    refine Wp_ret ?_
                    refine fin_tmp Try.results48 (v := (.int .i64 0)) rfl ?_
                    exact ⟨int_eq (by unfold checkD; rw [if_neg (by omega), if_neg h20, if_neg (by omega), if_neg (by rw [hno]; simp), if_neg (by rw [← hbad, hb]; simp)]), E⟩
            · have kg1 := g1
              replace kg1 := of_decide_eq_false kg1
              refine WpL_guard_yes (oj := _) rfl rfl (by decide) (congrArg Value.bool g1) ?_
              refine WpL_val rfl rfl (by decide) (r_fieldAddr (b := br) (o := 0) (o' := 0) rfl Try.underlying44 rfl siz3 rfl) ?_
              refine WpL_guard_yes (oj := _) rfl rfl (by decide) (congrArg Value.bool g1) ?_
              refine WpL_val rfl rfl (by decide) (r_load (v := (.int .i64 d.start)) rfl flat3 (Br.cell rfl)) ?_
              refine WpL_guard_yes (oj := _) rfl rfl (by decide) (congrArg Value.bool g1) ?_
              refine WpL_val rfl rfl (by decide) (r_move (v := (.int .i64 ((d.next.length : Nat) : Int))) rfl) ?_
              refine WpL_guard_yes (oj := _) rfl rfl (by decide) (congrArg Value.bool g1) ?_
              refine WpL_val rfl rfl (by decide) (r_geq (k := .i64) (a := d.start) (b := ((d.next.length : Nat) : Int)) rfl rfl) ?_
              refine WpL_val rfl rfl (by decide) (r_pick (b := decide ((d.start : Int) < 0)) (v := (.bool (decide ((((d.next.length : Nat) : Int) : Int) ≤ d.start)))) rfl (by rw [g1]; rfl)) ?_
              refine WpL_val rfl rfl (by decide) (r_move (v := (.bool (decide ((((d.next.length : Nat) : Int) : Int) ≤ d.start)))) rfl) ?_
              rcases Bool.eq_false_or_eq_true (decide ((((d.next.length : Nat) : Int) : Int) ≤ d.start)) with g2 | g2
              · have kg2 := g2
                replace kg2 := of_decide_eq_true kg2
                refine WpL_guard_no (oj := _) rfl rfl (by decide) (v := .bool true) (congrArg Value.bool g2) (Or.inl rfl) ?_
                refine WpL_guard_no (oj := _) rfl rfl (by decide) (v := .bool true) (congrArg Value.bool g2) (Or.inl rfl) ?_
                refine WpL_guard_no (oj := _) rfl rfl (by decide) (v := .bool true) (congrArg Value.bool g2) (Or.inl rfl) ?_
                refine WpL_guard_no (oj := _) rfl rfl (by decide) (v := .bool true) (congrArg Value.bool g2) (Or.inl rfl) ?_
                refine WpL_val rfl rfl (by decide) (r_pick (b := decide ((((d.next.length : Nat) : Int) : Int) ≤ d.start)) (v := (.bool true)) rfl (by rw [g2]; rfl)) ?_
                refine WpL_val rfl rfl (by decide) (r_assign (v := (.bool true)) rfl) ?_
                refine WpL_nil ?_
                refine Wp_seq ?_
                refine Wp_seq_region ?_
                refine WpL_val rfl rfl (by decide) (r_fieldAddr (b := br) (o := 0) (o' := 2) rfl Try.underlying44 rfl siz42 rfl) ?_
                refine WpL_val rfl rfl (by decide) (r_load (v := (.slice (some ⟨nb, no, none⟩) d.next.length nc)) rfl flat42 (Br.cell rfl)) ?_
                refine WpL_val rfl rfl (by decide) (r_lenSlice (ad := some ⟨nb, no, none⟩) (n := d.next.length) (cap := nc) Try.underlying42 rfl) ?_
                refine WpL_val rfl rfl (by decide) (r_move (v := (.int .i64 0)) rfl) ?_
                refine WpL_nil ?_
                refine Wp_block ?_
                refine Wp_loop (fun nn_ σ W20 => ∃ (q : Nat) (bad : Bool), (∃ jj_, σ = upds jj_ [(3, (.int .i64 ((d.next.length : Nat) : Int))), (69, (.slice (some ⟨nb, no, none⟩) d.next.length nc)), (70, (.int .i64 ((d.next.length : Nat) : Int))), (71, (.int .i64 ((q : Nat) : Int))), (6, (.bool bad))]) ∧ Chg none1 w0 W20 ∧ Blk W20 br #[(.int .i64 d.start), (.slice aa d.accept.length ac), (.slice (some ⟨nb, no, none⟩) d.next.length nc)] 44 ∧ (q ≤ d.next.length) ∧ (bad = (bad0 d || (d.next.take q).any (badRow d.next.length))) ∧ nn_ = d.next.length - q) (n := d.next.length - 0) ?_ ?_
                · exact ⟨0, true, Fits.out ⟨rfl, rfl, rfl, rfl, rfl, trivial⟩, E, Br, Nat.zero_le _, (by simp only [List.take_zero, List.any_nil, Bool.or_false]; unfold bad0; rw [g1, g2]; rfl), rfl⟩
                · clear E Br
                  rintro _ _ W20 ⟨q, bad, ⟨j20, rfl⟩, E, Br, hq, hbad, rfl⟩
                  refine Wp_seq_region ?_
                  refine WpL_val rfl rfl (by decide) (r_lss (k := .i64) (a := ((q : Nat) : Int)) (b := ((d.next.length : Nat) : Int)) rfl rfl) ?_
                  refine WpL_nil ?_
                  refine Wp_seq ?_
                  refine Wp_cond (b := decide ((((q : Nat) : Int) : Int) < ((d.next.length : Nat) : Int))) rfl (fun hltq => ?_) (fun hltq => ?_)
                  · have khltq := hltq
                    replace hltq := of_decide_eq_true hltq
                    obtain ⟨row, hrow⟩ := get_of_lt (l := d.next) (i := q) (by omega)
                    obtain ⟨ra, rc, hcell, hints⟩ := hncl q row hrow
                    have hrne : row ≠ [] := hrows row (List.mem_of_getElem? hrow)
                    have hsucc : (bad0 d || (d.next.take (q + 1)).any (badRow d.next.length)) = (bad || badRow d.next.length row) := by rw [List.take_add_one, hrow, List.any_append, hbad]; simp [Bool.or_assoc]
                    refine Wp_skip ?_
                    refine thn_normal ?_
                    refine Wp_seq ?_
                    refine Wp_block ?_
                    refine Wp_seq_region ?_
                    refine WpL_val rfl rfl (by decide) (r_indexSlice (b := nb) (o := no) (len := d.next.length) (cap := nc) (i := q) (o' := no + q) rfl rfl rfl Try.underlying42 siz26 (by omega) (by omega)) ?_
                    refine WpL_val rfl rfl (by decide) (r_load (v := (.slice ra row.length rc)) rfl flat26 (E.cell (fun f => f) hcell)) ?_
                    refine WpL_val rfl rfl (by decide) (r_assign (v := (.slice ra row.length rc)) rfl) ?_
                    refine WpL_nil ?_
                    refine Wp_region ?_
                    refine WpL_val rfl rfl (by decide) (r_move (v := (.bool bad)) rfl) ?_
                    refine WpL_val rfl rfl (by decide) (r_move (v := (.bool bad)) rfl) ?_
                    rcases Bool.eq_false_or_eq_true (bad) with g5 | g5
                    · have kg5 := g5
                      refine WpL_guard_no (oj := _) rfl rfl (by decide) (v := .bool true) (congrArg Value.bool g5) (Or.inl rfl) ?_
                      refine WpL_guard_no (oj := _) rfl rfl (by decide) (v := .bool true) (congrArg Value.bool g5) (Or.inl rfl) ?_
                      refine WpL_guard_no (oj := _) rfl rfl (by decide) (v := .bool true) (congrArg Value.bool g5) (Or.inl rfl) ?_
                      refine WpL_val rfl rfl (by decide) (r_pick (b := bad) (v := (.bool true)) rfl (by rw [g5]; rfl)) ?_
                      refine WpL_val rfl rfl (by decide) (r_move (v := (.bool true)) rfl) ?_
                      refine WpL_guard_no (oj := _) rfl rfl (by decide) (v := .bool true) rfl (Or.inl rfl) ?_
                      refine WpL_guard_no (oj := _) rfl rfl (by decide) (v := .bool true) rfl (Or.inl rfl) ?_
                      refine WpL_guard_no (oj := _) rfl rfl (by decide) (v := .bool true) rfl (Or.inl rfl) ?_
                      refine WpL_guard_no (oj := _) rfl rfl (by decide) (v := .bool true) rfl (Or.inl rfl) ?_
                      refine WpL_val rfl rfl (by decide) (r_pick (b := true) (v := (.bool true)) rfl rfl) ?_
                      refine WpL_val rfl rfl (by decide) (r_assign (v := (.bool true)) rfl) ?_
                      refine WpL_nil ?_
                      refine inB_normal ?_
                      refine thn_normal ?_
                      refine Wp_region ?_
                      refine WpL_val rfl rfl (by decide) (r_add (k := .i64) (a := ((q : Nat) : Int)) (b := 1) (c := ((q : Nat) : Int) + 1) rfl rfl (wI64 (by omega))) ?_
                      refine WpL_val rfl rfl (by decide) (r_move (v := (.int .i64 (((q : Nat) : Int) + 1))) rfl) ?_
                      refine WpL_nil ?_
                      refine thn_normal ?_
                      exact ⟨d.next.length - (q + 1), by omega, q + 1, true, Fits.out ⟨rfl, rfl, rfl, rfl, rfl, trivial⟩, E, Br, (by omega), (by rw [hsucc, g5]; rfl), rfl⟩
                    · have kg5 := g5
                      refine WpL_guard_yes (oj := _) rfl rfl (by decide) (congrArg Value.bool g5) ?_
                      refine WpL_val rfl rfl (by decide) (r_move (v := (.slice ra row.length rc)) rfl) ?_
                      refine WpL_guard_yes (oj := _) rfl rfl (by decide) (congrArg Value.bool g5) ?_
                      refine WpL_enter rfl rfl (by decide) (r_callF (vs := [(.slice ra row.length rc)]) Try.func89 nm89 bd89 rfl) (min_c _ _ row (hints.ext E) hrne) ?_
                      rintro _ w19 ⟨rfl, X19⟩
                      replace Br := X19.keep Br
                      replace E := E.ext X19
                      refine WpL_guard_yes (oj := _) rfl rfl (by decide) (congrArg Value.bool g5) ?_
                      refine WpL_val rfl rfl (by decide) (r_lss (k := .i64) (a := minL row) (b := (-1)) rfl rfl) ?_
                      refine WpL_val rfl rfl (by decide) (r_pick (b := bad) (v := (.bool (decide ((minL row : Int) < (-1))))) rfl (by rw [g5]; rfl)) ?_
                      refine WpL_val rfl rfl (by decide) (r_move (v := (.bool (decide ((minL row : Int) < (-1))))) rfl) ?_
                      rcases Bool.eq_false_or_eq_true (decide ((minL row : Int) < (-1))) with g6 | g6
                      · have kg6 := g6
                        replace kg6 := of_decide_eq_true kg6
                        refine WpL_guard_no (oj := _) rfl rfl (by decide) (v := .bool true) (congrArg Value.bool g6) (Or.inl rfl) ?_
                        refine WpL_guard_no (oj := _) rfl rfl (by decide) (v := .bool true) (congrArg Value.bool g6) (Or.inl rfl) ?_
                        refine WpL_guard_no (oj := _) rfl rfl (by decide) (v := .bool true) (congrArg Value.bool g6) (Or.inl rfl) ?_
                        refine WpL_guard_no (oj := _) rfl rfl (by decide) (v := .bool true) (congrArg Value.bool g6) (Or.inl rfl) ?_
                        refine WpL_val rfl rfl (by decide) (r_pick (b := decide ((minL row : Int) < (-1))) (v := (.bool true)) rfl (by rw [g6]; rfl)) ?_
                        refine WpL_val rfl rfl (by decide) (r_assign (v := (.bool true)) rfl) ?_
                        refine WpL_nil ?_
                        refine inB_normal ?_
                        refine thn_normal ?_
                        refine Wp_region ?_
                        refine WpL_val rfl rfl (by decide) (r_add (k := .i64) (a := ((q : Nat) : Int)) (b := 1) (c := ((q : Nat) : Int) + 1) rfl rfl (wI64 (by omega))) ?_
                        refine WpL_val rfl rfl (by decide) (r_move (v := (.int .i64 (((q : Nat) : Int) + 1))) rfl) ?_
                        refine WpL_nil ?_
                        refine thn_normal ?_
                        exact ⟨d.next.length - (q + 1), by omega, q + 1, true, Fits.out ⟨rfl, rfl, rfl, rfl, rfl, trivial⟩, E, Br, (by omega), (by rw [hsucc, g5]; unfold badRow; rw [g6]; rfl), rfl⟩
                      · have kg6 := g6
                        replace kg6 := of_decide_eq_false kg6
                        refine WpL_guard_yes (oj := _) rfl rfl (by decide) (congrArg Value.bool g6) ?_
                        refine WpL_val rfl rfl (by decide) (r_move (v := (.slice ra row.length rc)) rfl) ?_
                        refine WpL_guard_yes (oj := _) rfl rfl (by decide) (congrArg Value.bool g6) ?_
                        refine WpL_enter rfl rfl (by decide) (r_callF (vs := [(.slice ra row.length rc)]) Try.func90 nm90 bd90 rfl) (max_c _ _ row (hints.ext E) hrne) ?_
                        rintro _ w29 ⟨rfl, X29⟩
                        replace Br := X29.keep Br
                        replace E := E.ext X29
                        refine WpL_guard_yes (oj := _) rfl rfl (by decide) (congrArg Value.bool g6) ?_
                        refine WpL_val rfl rfl (by decide) (r_move (v := (.int .i64 ((d.next.length : Nat) : Int))) rfl) ?_
                        refine WpL_guard_yes (oj := _) rfl rfl (by decide) (congrArg Value.bool g6) ?_
                        refine WpL_val rfl rfl (by decide) (r_geq (k := .i64) (a := maxL row) (b := ((d.next.length : Nat) : Int)) rfl rfl) ?_
                        refine WpL_val rfl rfl (by decide) (r_pick (b := decide ((minL row : Int) < (-1))) (v := (.bool (decide ((((d.next.length : Nat) : Int) : Int) ≤ maxL row)))) rfl (by rw [g6]; rfl)) ?_
                        refine WpL_val rfl rfl (by decide) (r_assign (v := (.bool (decide ((((d.next.length : Nat) : Int) : Int) ≤ maxL row)))) rfl) ?_
                        refine WpL_nil ?_
                        refine inB_normal ?_
                        refine thn_normal ?_
                        refine Wp_region ?_
                        refine WpL_val rfl rfl (by decide) (r_add (k := .i64) (a := ((q : Nat) : Int)) (b := 1) (c := ((q : Nat) : Int) + 1) rfl rfl (wI64 (by omega))) ?_
                        refine WpL_val rfl rfl (by decide) (r_move (v := (.int .i64 (((q : Nat) : Int) + 1))) rfl) ?_
                        refine WpL_nil ?_
                        refine thn_normal ?_
                        exact ⟨d.next.length - (q + 1), by omega, q + 1, (decide ((((d.next.length : Nat) : Int) : Int) ≤ maxL row)), Fits.out ⟨rfl, rfl, rfl, rfl, rfl, trivial⟩, E, Br, (by omega), (by rw [hsucc, g5]; unfold badRow; rw [g6]; rfl), rfl⟩
                  · have khltq := hltq
                    replace hltq := of_decide_eq_false hltq
                    have hqq : q = d.next.length := by omega
                    rw [hqq, List.take_length] at hbad
                    refine Wp_exit ?_
                    refine thn_exit ?_
                    refine thn_exit ?_
                    refine inB_here ?_
                    refine thn_normal ?_
                    refine Wp_seq ?_
                    refine Wp_seq_region ?_
                    refine WpL_val rfl rfl (by decide) (r_move (v := (.bool bad)) rfl) ?_
                    refine WpL_nil ?_
                    refine Wp_cond (b := bad) rfl (fun hb => ?_) (fun hb => ?_)
                    · have khb := hb
                      refine Wp_seq_region ?_
                      refine WpL_val rfl rfl (by decide) (r_assign (v := (.int .i64 1)) rfl) ?_
                      refine WpL_nil ?_
                      refine Wp_ret ?_
                      refine thn_ret ?_
                      refine fin_tmp Try.results48 (v := (.int .i64 1)) rfl ?_
                      exact ⟨int_eq (by unfold checkD; rw [if_neg (by omega), if_neg h20, if_neg (by omega), if_neg (by rw [hno]; simp), if_pos (by rw [← hbad]; exact hb)]), E⟩
                    · have khb := hb
                      refine Wp_skip ?_
                      refine thn_normal ?_
                      refine Wp_seq_region ?_
                      refine WpL_val rfl rfl (by decide) (r_assign (v := (.int .i64 0)) rfl) ?_
                      refine WpL_nil ?_
                      refine Wp_ret ?_
                      refine fin_tmp Try.results48 (v := (.int .i64 0)) rfl ?_
                      exact ⟨int_eq (by unfold checkD; rw [if_neg (by omega), if_neg h20, if_neg (by omega), if_neg (by rw [hno]; simp), if_neg (by rw [← hbad, hb]; simp)]), E⟩
              · have kg2 := g2
                replace kg2 := of_decide_eq_false kg2
                refine WpL_guard_yes (oj := _) rfl rfl (by decide) (congrArg Value.bool g2) ?_
                refine WpL_val rfl rfl (by decide) (r_fieldAddr (b := br) (o := 0) (o' := 1) rfl Try.underlying44 rfl siz26 rfl) ?_
                refine WpL_guard_yes (oj := _) rfl rfl (by decide) (congrArg Value.bool g2) ?_
                refine WpL_val rfl rfl (by decide) (r_load (v := (.slice aa d.accept.length ac)) rfl flat26 (Br.cell rfl)) ?_
                refine WpL_guard_yes (oj := _) rfl rfl (by decide) (congrArg Value.bool g2) ?_
                refine WpL_enter rfl rfl (by decide) (r_callF (vs := [(.slice aa d.accept.length ac)]) Try.func89 nm89 bd89 rfl) (min_c _ _ d.accept (ha.ext E) hane) ?_
                rintro _ w9 ⟨rfl, X9⟩
                replace Br := X9.keep Br
                replace E := E.ext X9
                refine WpL_guard_yes (oj := _) rfl rfl (by decide) (congrArg Value.bool g2) ?_
                refine WpL_val rfl rfl (by decide) (r_lss (k := .i64) (a := minL d.accept) (b := (-1)) rfl rfl) ?_
                refine WpL_val rfl rfl (by decide) (r_pick (b := decide ((((d.next.length : Nat) : Int) : Int) ≤ d.start)) (v := (.bool (decide ((minL d.accept : Int) < (-1))))) rfl (by rw [g2]; rfl)) ?_
                refine WpL_val rfl rfl (by decide) (r_assign (v := (.bool (decide ((minL d.accept : Int) < (-1))))) rfl) ?_
                refine WpL_nil ?_
                refine Wp_seq ?_
                refine Wp_seq_region ?_
                refine WpL_val rfl rfl (by decide) (r_fieldAddr (b := br) (o := 0) (o' := 2) rfl Try.underlying44 rfl siz42 rfl) ?_
                refine WpL_val rfl rfl (by decide) (r_load (v := (.slice (some ⟨nb, no, none⟩) d.next.length nc)) rfl flat42 (Br.cell rfl)) ?_
                refine WpL_val rfl rfl (by decide) (r_lenSlice (ad := some ⟨nb, no, none⟩) (n := d.next.length) (cap := nc) Try.underlying42 rfl) ?_
                refine WpL_val rfl rfl (by decide) (r_move (v := (.int .i64 0)) rfl) ?_
                refine WpL_nil ?_
                refine Wp_block ?_
                refine Wp_loop (fun nn_ σ W25 => ∃ (q : Nat) (bad : Bool), (∃ jj_, σ = upds jj_ [(3, (.int .i64 ((d.next.length : Nat) : Int))), (69, (.slice (some ⟨nb, no, none⟩) d.next.length nc)), (70, (.int .i64 ((d.next.length : Nat) : Int))), (71, (.int .i64 ((q : Nat) : Int))), (6, (.bool bad))]) ∧ Chg none1 w0 W25 ∧ Blk W25 br #[(.int .i64 d.start), (.slice aa d.accept.length ac), (.slice (some ⟨nb, no, none⟩) d.next.length nc)] 44 ∧ (q ≤ d.next.length) ∧ (bad = (bad0 d || (d.next.take q).any (badRow d.next.length))) ∧ nn_ = d.next.length - q) (n := d.next.length - 0) ?_ ?_
                · exact ⟨0, (decide ((minL d.accept : Int) < (-1))), Fits.out ⟨rfl, rfl, rfl, rfl, rfl, trivial⟩, E, Br, Nat.zero_le _, (by simp only [List.take_zero, List.any_nil, Bool.or_false]; unfold bad0; rw [g1, g2]; rfl), rfl⟩
                · clear E Br
                  rintro _ _ W25 ⟨q, bad, ⟨j25, rfl⟩, E, Br, hq, hbad, rfl⟩
                  refine Wp_seq_region ?_
                  refine WpL_val rfl rfl (by decide) (r_lss (k := .i64) (a := ((q : Nat) : Int)) (b := ((d.next.length : Nat) : Int)) rfl rfl) ?_
                  refine WpL_nil ?_
                  refine Wp_seq ?_
                  refine Wp_cond (b := decide ((((q : Nat) : Int) : Int) < ((d.next.length : Nat) : Int))) rfl (fun hltq => ?_) (fun hltq => ?_)
                  · have khltq := hltq
                    replace hltq := of_decide_eq_true hltq
                    obtain ⟨row, hrow⟩ := get_of_lt (l := d.next) (i := q) (by omega)
                    obtain ⟨ra, rc, hcell, hints⟩ := hncl q row hrow
                    have hrne : row ≠ [] := hrows row (List.mem_of_getElem? hrow)
                    have hsucc : (bad0 d || (d.next.take (q + 1)).any (badRow d.next.length)) = (bad || badRow d.next.length row) := by rw [List.take_add_one, hrow, List.any_append, hbad]; simp [Bool.or_assoc]
                    refine Wp_skip ?_
                    refine thn_normal ?_
                    refine Wp_seq ?_
                    refine Wp_block ?_
                    refine Wp_seq_region ?_
                    refine WpL_val rfl rfl (by decide) (r_indexSlice (b := nb) (o := no) (len := d.next.length) (cap := nc) (i := q) (o' := no + q) rfl rfl rfl Try.underlying42 siz26 (by omega) (by omega)) ?_
                    refine WpL_val rfl rfl (by decide) (r_load (v := (.slice ra row.length rc)) rfl flat26 (E.cell (fun f => f) hcell)) ?_
                    refine WpL_val rfl rfl (by decide) (r_assign (v := (.slice ra row.length rc)) rfl) ?_
                    refine WpL_nil ?_
                    refine Wp_region ?_
                    refine WpL_val rfl rfl (by decide) (r_move (v := (.bool bad)) rfl) ?_
                    refine WpL_val rfl rfl (by decide) (r_move (v := (.bool bad)) rfl) ?_
                    rcases Bool.eq_false_or_eq_true (bad) with g5 | g5
                    · have kg5 := g5
                      refine WpL_guard_no (oj := _) rfl rfl (by decide) (v := .bool true) (congrArg Value.bool g5) (Or.inl rfl) ?_
                      refine WpL_guard_no (oj := _) rfl rfl (by decide) (v := .bool true) (congrArg Value.bool g5) (Or.inl rfl) ?_
                      refine WpL_guard_no (oj := _) rfl rfl (by decide) (v := .bool true) (congrArg Value.bool g5) (Or.inl rfl) ?_
                      refine WpL_val rfl rfl (by decide) (r_pick (b := bad) (v := (.bool true)) rfl (by rw [g5]; rfl)) ?_
                      refine WpL_val rfl rfl (by decide) (r_move (v := (.bool true)) rfl) ?_
                      refine WpL_guard_no (oj := _) rfl rfl (by decide) (v := .bool true) rfl (Or.inl rfl) ?_
                      refine WpL_guard_no (oj := _) rfl rfl (by decide) (v := .bool true) rfl (Or.inl rfl) ?_
                      refine WpL_guard_no (oj := _) rfl rfl (by decide) (v := .bool true) rfl (Or.inl rfl) ?_
                      refine WpL_guard_no (oj := _) rfl rfl (by decide) (v := .bool true) rfl (Or.inl rfl) ?_
                      refine WpL_val rfl rfl (by decide) (r_pick (b := true) (v := (.bool true)) rfl rfl) ?_
                      refine WpL_val rfl rfl (by decide) (r_assign (v := (.bool true)) rfl) ?_
                      refine WpL_nil ?_
                      refine inB_normal ?_
                      refine thn_normal ?_
                      refine Wp_region ?_
                      refine WpL_val rfl rfl (by decide) (r_add (k := .i64) (a := ((q : Nat) : Int)) (b := 1) (c := ((q : Nat) : Int) + 1) rfl rfl (wI64 (by omega))) ?_
                      refine WpL_val rfl rfl (by decide) (r_move (v := (.int .i64 (((q : Nat) : Int) + 1))) rfl) ?_
                      refine WpL_nil ?_
                      refine thn_normal ?_
                      exact ⟨d.next.length - (q + 1), by omega, q + 1, true, Fits.out ⟨rfl, rfl, rfl, rfl, rfl, trivial⟩, E, Br, (by omega), (by rw [hsucc, g5]; rfl), rfl⟩
                    · have kg5 := g5
                      refine WpL_guard_yes (oj := _) rfl rfl (by decide) (congrArg Value.bool g5) ?_
                      refine WpL_val rfl rfl (by decide) (r_move (v := (.slice ra row.length rc)) rfl) ?_
                      refine WpL_guard_yes (oj := _) rfl rfl (by decide) (congrArg Value.bool g5) ?_
                      refine WpL_enter rfl rfl (by decide) (r_callF (vs := [(.slice ra row.length rc)]) Try.func89 nm89 bd89 rfl) (min_c _ _ row (hints.ext E) hrne) ?_
                      rintro _ w19 ⟨rfl, X19⟩
                      replace Br := X19.keep Br
                      replace E := E.ext X19
                      refine WpL_guard_yes (oj := _) rfl rfl (by decide) (congrArg Value.bool g5) ?_
                      refine WpL_val rfl rfl (by decide) (r_lss (k := .i64) (a := minL row) (b := (-1)) rfl rfl) ?_
                      refine WpL_val rfl rfl (by decide) (r_pick (b := bad) (v := (.bool (decide ((minL row : Int) < (-1))))) rfl (by rw [g5]; rfl)) ?_
                      refine WpL_val rfl rfl (by decide) (r_move (v := (.bool (decide ((minL row : Int) < (-1))))) rfl) ?_
                      rcases Bool.eq_false_or_eq_true (decide ((minL row : Int) < (-1))) with g6 | g6
                      · have kg6 := g6
                        replace kg6 := of_decide_eq_true kg6
                        refine WpL_guard_no (oj := _) rfl rfl (by decide) (v := .bool true) (congrArg Value.bool g6) (Or.inl rfl) ?_
                        refine WpL_guard_no (oj := _) rfl rfl (by decide) (v := .bool true) (congrArg Value.bool g6) (Or.inl rfl) ?_
                        refine WpL_guard_no (oj := _) rfl rfl (by decide) (v := .bool true) (congrArg Value.bool g6) (Or.inl rfl) ?_
                        refine WpL_guard_no (oj := _) rfl rfl (by decide) (v := .bool true) (congrArg Value.bool g6) (Or.inl rfl) ?_
                        refine WpL_val rfl rfl (by decide) (r_pick (b := decide ((minL row : Int) < (-1))) (v := (.bool true)) rfl (by rw [g6]; rfl)) ?_
                        refine WpL_val rfl rfl (by decide) (r_assign (v := (.bool true)) rfl) ?_
                        refine WpL_nil ?_
                        refine inB_normal ?_
                        refine thn_normal ?_
                        refine Wp_region ?_
                        refine WpL_val rfl rfl (by decide) (r_add (k := .i64) (a := ((q : Nat) : Int)) (b := 1) (c := ((q : Nat) : Int) + 1) rfl rfl (wI64 (by omega))) ?_
                        refine WpL_val rfl rfl (by decide) (r_move (v := (.int .i64 (((q : Nat) : Int) + 1))) rfl) ?_
                        refine WpL_nil ?_
                        refine thn_normal ?_
                        exact ⟨d.next.length - (q + 1), by omega, q + 1, true, Fits.out ⟨rfl, rfl, rfl, rfl, rfl, trivial⟩, E, Br, (by omega), (by rw [hsucc, g5]; unfold badRow; rw [g6]; rfl), rfl⟩
                      · have kg6 := g6
                        replace kg6 := of_decide_eq_false kg6
                        refine WpL_guard_yes (oj := _) rfl rfl (by decide) (congrArg Value.bool g6) ?_
                        refine WpL_val rfl rfl (by decide) (r_move (v := (.slice ra row.length rc)) rfl) ?_
                        refine WpL_guard_yes (oj := _) rfl rfl (by decide) (congrArg Value.bool g6) ?_
                        refine WpL_enter rfl rfl (by decide) (r_callF (vs := [(.slice ra row.length rc)]) Try.func90 nm90 bd90 rfl) (max_c _ _ row (hints.ext E) hrne) ?_
                        rintro _ w29 ⟨rfl, X29⟩
                        replace Br := X29.keep Br
                        replace E := E.ext X29
                        refine WpL_guard_yes (oj := _) rfl rfl (by decide) (congrArg Value.bool g6) ?_
                        refine WpL_val rfl rfl (by decide) (r_move (v := (.int .i64 ((d.next.length : Nat) : Int))) rfl) ?_
                        refine WpL_guard_yes (oj := _) rfl rfl (by decide) (congrArg Value.bool g6) ?_
                        refine WpL_val rfl rfl (by decide) (r_geq (k := .i64) (a := maxL row) (b := ((d.next.length : Nat) : Int)) rfl rfl) ?_
                        refine WpL_val rfl rfl (by decide) (r_pick (b := decide ((minL row : Int) < (-1))) (v := (.bool (decide ((((d.next.length : Nat) : Int) : Int) ≤ maxL row)))) rfl (by rw [g6]; rfl)) ?_
                        refine WpL_val rfl rfl (by decide) (r_assign (v := (.bool (decide ((((d.next.length : Nat) : Int) : Int) ≤ maxL row)))) rfl) ?_
                        refine WpL_nil ?_
                        refine inB_normal ?_
                        refine thn_normal ?_
                        refine Wp_region ?_
                        refine WpL_val rfl rfl (by decide) (r_add (k := .i64) (a := ((q : Nat) : Int)) (b := 1) (c := ((q : Nat) : Int) + 1) rfl rfl (wI64 (by omega))) ?_
                        refine WpL_val rfl rfl (by decide) (r_move (v := (.int .i64 (((q : Nat) : Int) + 1))) rfl) ?_
                        refine WpL_nil ?_
                        refine thn_normal ?_
                        exact ⟨d.next.length - (q + 1), by omega, q + 1, (decide ((((d.next.length : Nat) : Int) : Int) ≤ maxL row)), Fits.out ⟨rfl, rfl, rfl, rfl, rfl, trivial⟩, E, Br, (by omega), (by rw [hsucc, g5]; unfold badRow; rw [g6]; rfl), rfl⟩
                  · have khltq := hltq
                    replace hltq := of_decide_eq_false hltq
                    have hqq : q = d.next.length := by omega
                    rw [hqq, List.take_length] at hbad
                    refine Wp_exit ?_
                    refine thn_exit ?_
                    refine thn_exit ?_
                    refine inB_here ?_
                    refine thn_normal ?_
                    refine Wp_seq ?_
                    refine Wp_seq_region ?_
                    refine WpL_val rfl rfl (by decide) (r_move (v := (.bool bad)) rfl) ?_
                    refine WpL_nil ?_
                    refine Wp_cond (b := bad) rfl (fun hb => ?_) (fun hb => ?_)
                    · have khb := hb
                      refine Wp_seq_region ?_
                      refine WpL_val rfl rfl (by decide) (r_assign (v := (.int .i64 1)) rfl) ?_
                      refine WpL_nil ?_
                      refine Wp_ret ?_
                      refine thn_ret ?_
                      refine fin_tmp Try.results48 (v := (.int .i64 1)) rfl ?_
                      exact ⟨int_eq (by unfold checkD; rw [if_neg (by omega), if_neg h20, if_neg (by omega), if_neg (by rw [hno]; simp), if_pos (by rw [← hbad]; exact hb)]), E⟩
                    · have khb := hb
                      refine Wp_skip ?_
                      refine thn_normal ?_
                      refine Wp_seq_region ?_
                      refine WpL_val rfl rfl (by decide) (r_assign (v := (.int .i64 0)) rfl) ?_
                      refine WpL_nil ?_
                      refine Wp_ret ?_
                      refine fin_tmp Try.results48 (v := (.int .i64 0)) rfl ?_
                      exact ⟨int_eq (by unfold checkD; rw [if_neg (by omega), if_neg h20, if_neg (by omega), if_neg (by rw [hno]; simp), if_neg (by rw [← hbad, hb]; simp)]), E⟩
end Go.Proofs
namespace Go.Proofs
open Go Go.Eng
--BEGIN
def toD (d : Dfa) (s : Int) (x : Nat) : Int := if s < 0 then -1 else (d.next.getD s.toNat []).getD x (-1)
def atD (d : Dfa) (s : Int) : Int := if s < 0 then -1 else d.accept.getD s.toNat (-1)
def beh (d : Dfa) (s : Int) : List Nat → Int
  | [] => atD d s
  | x :: w => beh d (toD d s x) w
structure OkD (n c : Nat) (d : Dfa) : Prop where
  nl : d.next.length = n
  al : d.accept.length = n
  st : 0 ≤ d.start ∧ d.start < n
  acc : ∀ x ∈ d.accept, -1 ≤ x
  row : ∀ r ∈ d.next, r.length = c ∧ ∀ x ∈ r, -1 ≤ x ∧ x < n
end Go.Proofs
namespace Go.Proofs
open Go Go.Eng Go.Sort
--BEGIN
theorem nodup_leN : ∀ {l m : List Nat}, l.Nodup → (∀ x ∈ l, x ∈ m) → l.length ≤ m.length
  | [], _, _, _ => Nat.zero_le _
  | x :: l, m, hd, h => by
    have hd' := List.nodup_cons.1 hd
    have hx := h x List.mem_cons_self
    have h1 := nodup_leN (l := l) (m := m.erase x) hd'.2 fun y hy => (List.mem_erase_of_ne (show y ≠ x from fun e => hd'.1 (by rw [← e]; exact hy))).2 (h y (List.mem_cons_of_mem _ hy))
    rw [List.length_erase_of_mem hx] at h1
    have := List.length_pos_of_mem hx
    simp only [List.length_cons]
    omega
end Go.Proofs
namespace Go.Proofs
open Go Go.Eng
set_option maxRecDepth 100000
--BEGIN
def cntR (rows : List (List Int)) (s : Nat) : Nat := (idxs (rows.getD s [])).length
def ltR (rows : List (List Int)) (u v : Nat) : Prop := cntR rows v < cntR rows u ∨ (cntR rows v = cntR rows u ∧ u < v)
theorem ltR_tr {rows : List (List Int)} {u v w : Nat} (h : ltR rows u v) (k : ltR rows v w) : ltR rows u w := by unfold ltR at *; omega
theorem ltR_ir {rows : List (List Int)} {u : Nat} : ¬ ltR rows u u := by unfold ltR; omega
/-- Two lists in that order with the same members are the same. -/
theorem ltR_uniq {rows : List (List Int)} : ∀ {l m : List Nat}, l.Pairwise (ltR rows) → m.Pairwise (ltR rows) → (∀ x, x ∈ l ↔ x ∈ m) → l = m
  | [], [], _, _, _ => rfl
  | [], y :: m, _, _, h => absurd ((h y).2 List.mem_cons_self) (by simp)
  | x :: l, [], _, _, h => absurd ((h x).1 List.mem_cons_self) (by simp)
  | x :: l, y :: m, hl, hm, h => by
    rw [List.pairwise_cons] at hl hm
    have hxy : x = y := by
      rcases List.mem_cons.1 ((h x).1 List.mem_cons_self) with h1 | h1
      · exact h1
      · rcases List.mem_cons.1 ((h y).2 List.mem_cons_self) with h2 | h2
        · exact h2.symm
        · exact absurd (ltR_tr (hl.1 y h2) (hm.1 x h1)) ltR_ir
    subst hxy
    rw [ltR_uniq hl.2 hm.2 fun z => ?_]
    have h1 := h z
    constructor
    · intro h2
      rcases List.mem_cons.1 (h1.1 (List.mem_cons_of_mem _ h2)) with h3 | h3
      · subst h3; exact absurd (hl.1 z h2) ltR_ir
      · exact h3
    · intro h2
      rcases List.mem_cons.1 (h1.2 (List.mem_cons_of_mem _ h2)) with h3 | h3
      · subst h3; exact absurd (hm.1 z h2) ltR_ir
      · exact h3
/-- The rows that are done: those with more entries, and those with as many before s. -/
structure RefO (rows : List (List Int)) (dn : List Nat) (many s : Nat) : Prop where
  pw : dn.Pairwise (ltR rows)
  mem : ∀ u, u ∈ dn ↔ u < rows.length ∧ (many < cntR rows u ∨ (cntR rows u = many ∧ u < s))
theorem RefO.start {rows : List (List Int)} {c : Nat} (h : ∀ r ∈ rows, r.length = c) : RefO rows [] c 0 := ⟨List.Pairwise.nil, fun u => by
  simp only [List.not_mem_nil, false_iff]
  rintro ⟨h1, h2⟩
  have h3 : cntR rows u ≤ c := by
    unfold cntR
    obtain ⟨r, hr⟩ := get_of_lt h1
    rw [List.getD_eq_getElem?_getD, hr, Option.getD_some]
    have := idxsN_le r r.length
    have := h r (List.mem_of_getElem? hr)
    unfold idxs
    omega
  omega⟩
theorem RefO.skip {rows : List (List Int)} {dn : List Nat} {many s : Nat} (h : RefO rows dn many s) (hs : cntR rows s ≠ many) : RefO rows dn many (s + 1) := ⟨h.pw, fun u => by
  rw [h.mem u]
  constructor
  · rintro ⟨h1, h2⟩; exact ⟨h1, by omega⟩
  · rintro ⟨h1, h2 | ⟨h2, h3⟩⟩
    · exact ⟨h1, .inl h2⟩
    · refine ⟨h1, .inr ⟨h2, ?_⟩⟩
      rcases Nat.lt_or_eq_of_le (Nat.lt_succ_iff.1 h3) with h4 | h4
      · exact h4
      · subst h4; exact absurd h2 hs⟩
theorem RefO.put {rows : List (List Int)} {dn : List Nat} {many s : Nat} (h : RefO rows dn many s) (hl : s < rows.length) (hs : cntR rows s = many) : RefO rows (dn ++ [s]) many (s + 1) := by
  refine ⟨List.pairwise_append.2 ⟨h.pw, List.pairwise_singleton _ _, fun u hu v hv => ?_⟩, fun u => ?_⟩
  · rw [List.mem_singleton] at hv
    subst hv
    have := ((h.mem u).1 hu).2
    unfold ltR
    omega
  · rw [List.mem_append, List.mem_singleton, h.mem u]
    constructor
    · rintro (⟨h1, h2⟩ | rfl)
      · exact ⟨h1, by omega⟩
      · exact ⟨hl, .inr ⟨hs, by omega⟩⟩
    · rintro ⟨h1, h2⟩
      by_cases h3 : u = s
      · exact .inr h3
      · exact .inl ⟨h1, by omega⟩
theorem RefO.next {rows : List (List Int)} {dn : List Nat} {many : Nat} (h : RefO rows dn (many + 1) rows.length) : RefO rows dn many 0 := ⟨h.pw, fun u => by
  rw [h.mem u]
  constructor
  · rintro ⟨h1, h2⟩; exact ⟨h1, by omega⟩
  · rintro ⟨h1, h2⟩; exact ⟨h1, by omega⟩⟩
theorem RefO.len {rows : List (List Int)} {dn : List Nat} {many s : Nat} (h : RefO rows dn many s) : dn.length ≤ rows.length := by
  have hd : dn.Nodup := List.nodup_iff_pairwise_ne.2 (h.pw.imp fun h1 e => by subst e; exact ltR_ir h1)
  have := nodup_leN (m := List.range rows.length) hd fun x hx => List.mem_range.2 ((h.mem x).1 hx).1
  simpa using this
abbrev sl0 : Int × Int := (-1, -1)
def fitB (sl : List (Int × Int)) (row : List Int) : Bool := (idxs row).all fun c => decide ((sl.getD c sl0).1 < 0)
structure RSt (rows : List (List Int)) (dn : List Nat) (sl : List (Int × Int)) (bs : List Nat) : Prop where
  tr : ∃ O X B, PkR rows dn.reverse O X B ∧ (∀ i, sl.getD i sl0 = (O i, X i)) ∧ (∀ t, t < rows.length → bs[t]? = some (B t))
theorem RSt.start (rows : List (List Int)) : RSt rows [] [] (List.replicate rows.length 0) := ⟨⟨_, _, _, PkR.nil, fun i => rfl, fun t ht => by rw [List.getElem?_replicate, if_pos ht]⟩⟩
theorem slD_snoc (l : List (Int × Int)) (i : Nat) : (l ++ [sl0]).getD i sl0 = l.getD i sl0 := by
  rw [List.getD_eq_getElem?_getD, List.getD_eq_getElem?_getD]
  rcases Nat.lt_or_ge i l.length with h | h
  · rw [List.getElem?_append_left h]
  · rw [List.getElem?_append_right h, List.getElem?_eq_none h]
    cases hi : i - l.length with
    | zero => rfl
    | succ j => simp
theorem slD_set {l : List (Int × Int)} {i j : Nat} {x : Int × Int} (h : i < l.length) : (l.set i x).getD j sl0 = if j = i then x else l.getD j sl0 := by
  rw [List.getD_eq_getElem?_getD, List.getElem?_set]
  by_cases h1 : i = j
  · subst h1; rw [if_pos rfl, if_pos h, if_pos rfl]; rfl
  · rw [if_neg h1, if_neg (fun e => h1 e.symm), List.getD_eq_getElem?_getD]
theorem slD_drop (l : List (Int × Int)) (b i : Nat) : (l.drop b).getD i sl0 = l.getD (b + i) sl0 := by
  rw [List.getD_eq_getElem?_getD, List.getD_eq_getElem?_getD, List.getElem?_drop]
theorem RSt.pad {rows : List (List Int)} {dn : List Nat} {sl : List (Int × Int)} {bs : List Nat} (h : RSt rows dn sl bs) : RSt rows dn (sl ++ [sl0]) bs := by
  obtain ⟨O, X, B, h1, h2, h3⟩ := h.tr
  exact ⟨⟨O, X, B, h1, fun i => by rw [slD_snoc]; exact h2 i, h3⟩⟩
/-- Within a row: the symbols below q are placed. -/
structure RQt (rows : List (List Int)) (dn : List Nat) (s m : Nat) (row : List Int) (q : Nat) (sl : List (Int × Int)) (bs : List Nat) : Prop where
  tr : ∃ O X B, PkR rows dn.reverse O X B ∧ fitsO O row m ∧ (∀ b', b' < m → ¬ fitsO O row b') ∧ (∀ i, sl.getD i sl0 = if m ≤ i ∧ i - m < q ∧ i - m ∈ idxs row then (((s : Nat) : Int), row.getD (i - m) (-1)) else (O i, X i)) ∧ (∀ t, t < rows.length → bs[t]? = some (if t = s then m else B t))
  len : m + row.length ≤ sl.length
theorem RQt.start {rows : List (List Int)} {dn : List Nat} {s m : Nat} {row : List Int} {sl : List (Int × Int)} {bs : List Nat} (h : RSt rows dn sl bs) (hsl : s < rows.length) (hbl : bs.length = rows.length) (hlen : m + row.length ≤ sl.length) (hf : fitB (sl.drop m) row = true) (hm : ∀ b', b' < m → fitB (sl.drop b') row = false) : RQt rows dn s m row 0 sl (bs.set s m) := by
  obtain ⟨O, X, B, h1, h2, h3⟩ := h.tr
  have hb : ∀ b, fitB (sl.drop b) row = true ↔ fitsO O row b := fun b => by
    unfold fitB fitsO
    rw [List.all_eq_true]
    constructor
    · intro h4 c hc
      have := of_decide_eq_true (h4 c hc)
      rwa [slD_drop, h2] at this
    · intro h4 c hc
      rw [decide_eq_true_iff, slD_drop, h2]
      exact h4 c hc
  refine ⟨⟨O, X, B, h1, (hb m).1 hf, fun b' hb' h4 => ?_, fun i => by rw [if_neg (by omega)]; exact h2 i, fun t ht => ?_⟩, hlen⟩
  · have := hm b' hb'
    rw [(hb b').2 h4] at this
    cases this
  · rw [List.getElem?_set]
    by_cases e : s = t
    · subst e; rw [if_pos rfl, if_pos (by omega), if_pos rfl]
    · rw [if_neg e, if_neg (fun h => e h.symm)]; exact h3 t ht
theorem RQt.skip {rows : List (List Int)} {dn : List Nat} {s m q : Nat} {row : List Int} {sl : List (Int × Int)} {bs : List Nat} {x : Int} (h : RQt rows dn s m row q sl bs) (hx : row[q]? = some x) (hneg : ¬ 0 ≤ x) : RQt rows dn s m row (q + 1) sl bs := by
  obtain ⟨O, X, B, h1, h2, h3, h4, h5⟩ := h.tr
  refine ⟨⟨O, X, B, h1, h2, h3, fun i => ?_, h5⟩, h.len⟩
  rw [h4 i]
  by_cases e : m ≤ i ∧ i - m < q ∧ i - m ∈ idxs row
  · rw [if_pos e, if_pos ⟨e.1, by omega, e.2.2⟩]
  · rw [if_neg e, if_neg]
    rintro ⟨g1, g2, g3⟩
    by_cases g4 : i - m = q
    · rw [g4] at g3
      obtain ⟨y, hy, h0⟩ := mem_idxs.1 g3
      rw [hx] at hy; cases hy
      exact hneg h0
    · exact e ⟨g1, by omega, g3⟩
theorem RQt.put {rows : List (List Int)} {dn : List Nat} {s m q : Nat} {row : List Int} {sl : List (Int × Int)} {bs : List Nat} {x : Int} (h : RQt rows dn s m row q sl bs) (hx : row[q]? = some x) (h0 : 0 ≤ x) : RQt rows dn s m row (q + 1) (sl.set (m + q) (((s : Nat) : Int), x)) bs := by
  obtain ⟨O, X, B, h1, h2, h3, h4, h5⟩ := h.tr
  have hlt : m + q < sl.length := by have := lt_of_get hx; have := h.len; omega
  refine ⟨⟨O, X, B, h1, h2, h3, fun i => ?_, h5⟩, by rw [List.length_set]; exact h.len⟩
  rw [slD_set hlt]
  by_cases e0 : i = m + q
  · subst e0
    rw [if_pos rfl, if_pos ⟨Nat.le_add_right _ _, by omega, by rw [Nat.add_sub_cancel_left]; exact mem_idxs.2 ⟨x, hx, h0⟩⟩, Nat.add_sub_cancel_left, List.getD_eq_getElem?_getD, hx]; rfl
  · rw [if_neg e0, h4 i]
    by_cases e : m ≤ i ∧ i - m < q ∧ i - m ∈ idxs row
    · rw [if_pos e, if_pos ⟨e.1, by omega, e.2.2⟩]
    · rw [if_neg e, if_neg]
      rintro ⟨g1, g2, g3⟩
      exact e ⟨g1, by omega, g3⟩
theorem RQt.done {rows : List (List Int)} {dn : List Nat} {s m q : Nat} {row : List Int} {sl : List (Int × Int)} {bs : List Nat} (h : RQt rows dn s m row q sl bs) (hr : rows[s]? = some row) (hq : row.length ≤ q) : RSt rows (dn ++ [s]) sl bs := by
  obtain ⟨O, X, B, h1, h2, h3, h4, h5⟩ := h.tr
  refine ⟨⟨putO O s row m, putX X row m, fun t => if t = s then m else B t, ?_, fun i => ?_, h5⟩⟩
  · rw [List.reverse_append]
    exact PkR.cons h1 hr h2 h3
  · rw [h4 i]
    unfold putO putX
    by_cases e : m ≤ i ∧ i - m ∈ idxs row
    · have : i - m < q := by
        obtain ⟨y, hy, _⟩ := mem_idxs.1 e.2
        have := lt_of_get hy
        omega
      rw [if_pos ⟨e.1, this, e.2⟩, if_pos e, if_pos e]
    · rw [if_neg (fun g => e ⟨g.1, g.2.2⟩), if_neg e, if_neg e]
theorem RQt.base {rows : List (List Int)} {dn : List Nat} {s m q : Nat} {row : List Int} {sl : List (Int × Int)} {bs : List Nat} (h : RQt rows dn s m row q sl bs) (hs : s < rows.length) : bs[s]? = some m := by
  obtain ⟨O, X, B, h1, h2, h3, h4, h5⟩ := h.tr
  rw [h5 s hs, if_pos rfl]
/-- A row fits behind all slots. -/
theorem fitB_end {sl : List (Int × Int)} {row : List Int} {b : Nat} {rows : List (List Int)} {dn bs : List Nat} {L : Nat} (h : RSt rows dn sl bs) (hL : ∀ i, L ≤ i → sl.getD i sl0 = sl0) (hb : L ≤ b) : fitB (sl.drop b) row = true := by
  unfold fitB
  rw [List.all_eq_true]
  intro c _
  rw [decide_eq_true_iff, slD_drop, hL (b + c) (by omega)]
  decide
--END
theorem rfits_c (w0 : World) (sa : Option Addr) (sc : Nat) (sl : List (Int × Int)) (n : Nat) (ra : Option Addr) (rc rn : Nat) (row : List Int) (hrn : row.length = rn) (hn : sl.length = n) (h : SlAt w0 2 (.slice sa n sc) (sl.map spanV)) (hr : IntsAt w0 (.slice ra rn rc) row) (hl : rn ≤ n) (hr9 : rn ≤ 1000) :
    Ret Try.prog 59 #[.slice sa n sc, .slice ra rn rc] w0 fun v w => v = .bool (fitB sl row) ∧ Ext w0 w := by
  subst hrn
  refine Ret_of Try.func59 rfl Try.ntmps59 (Nat.le_of_ble_eq_true rfl) ?_
  have E : Chg none1 w0 w0 := Chg.refl _ _
  refine Wp_seq_region ?_
  refine WpL_val rfl rfl (by decide) (r_assign (v := (.bool false)) rfl) ?_
  refine WpL_nil ?_
  refine Wp_seq ?_
  refine Wp_seq_region ?_
  refine WpL_val rfl rfl (by decide) (r_move (v := (.slice ra row.length rc)) rfl) ?_
  refine WpL_val rfl rfl (by decide) (r_lenSlice (ad := ra) (n := row.length) (cap := rc) Try.underlying26 rfl) ?_
  refine WpL_val rfl rfl (by decide) (r_move (v := (.int .i64 0)) rfl) ?_
  refine WpL_nil ?_
  refine Wp_block ?_
  refine Wp_loop (fun nn_ σ W1 => ∃ (k : Nat), (∃ jj_, σ = upds jj_ [(0, (.slice sa n sc)), (7, (.slice ra row.length rc)), (8, (.int .i64 ((row.length : Nat) : Int))), (9, (.int .i64 ((k : Nat) : Int)))]) ∧ Chg none1 w0 W1 ∧ (k ≤ row.length) ∧ (∀ c, c < k → c ∈ idxs row → (sl.getD c sl0).1 < 0) ∧ nn_ = row.length - k) (n := row.length - 0) ?_ ?_
  · exact ⟨0, Fits.out ⟨rfl, rfl, rfl, rfl, trivial⟩, E, Nat.zero_le _, (fun c h => absurd h (Nat.not_lt_zero _)), rfl⟩
  · clear E
    rintro _ _ W1 ⟨k, ⟨j1, rfl⟩, E, hk, hf, rfl⟩
    refine Wp_seq_region ?_
    refine WpL_val rfl rfl (by decide) (r_lss (k := .i64) (a := ((k : Nat) : Int)) (b := ((row.length : Nat) : Int)) rfl rfl) ?_
    refine WpL_nil ?_
    refine Wp_seq ?_
    refine Wp_cond (b := decide ((((k : Nat) : Int) : Int) < ((row.length : Nat) : Int))) rfl (fun hlt => ?_) (fun hlt => ?_)
    · have khlt := hlt
      replace hlt := of_decide_eq_true hlt
      obtain ⟨x, hx⟩ := get_of_lt (l := row) (i := k) (by omega)
      obtain ⟨p, hp⟩ := get_of_lt (l := sl) (i := k) (by omega)
      obtain ⟨rb, ro, rfl, hrc⟩ := ints_cells hr (by omega)
      obtain ⟨gb, go, rfl, hgc⟩ := SlAt.at h (by omega)
      have hpc : w0.cell? ⟨gb, go + k * 2, none⟩ = some (.int .i64 p.1) := by have h9 := hgc k (spanV p) (by rw [List.getElem?_map, hp]; rfl) 0 _ rfl; simpa using h9
      have hpD : sl.getD k sl0 = p := by rw [List.getD_eq_getElem?_getD, hp]; rfl
      refine Wp_skip ?_
      refine thn_normal ?_
      refine Wp_seq ?_
      refine Wp_block ?_
      refine Wp_seq_region ?_
      refine WpL_val rfl rfl (by decide) (r_move (v := (.int .i64 ((k : Nat) : Int))) rfl) ?_
      refine WpL_val rfl rfl (by decide) (r_indexSlice (b := rb) (o := ro) (len := row.length) (cap := rc) (i := k) (o' := ro + k) rfl rfl rfl Try.underlying26 siz3 (by omega) (by omega)) ?_
      refine WpL_val rfl rfl (by decide) (r_load (v := (.int .i64 x)) rfl flat3 (E.cell (fun f => f) (hrc k x hx))) ?_
      refine WpL_val rfl rfl (by decide) (r_assign (v := (.int .i64 ((k : Nat) : Int))) rfl) ?_
      refine WpL_val rfl rfl (by decide) (r_assign (v := (.int .i64 x)) rfl) ?_
      refine WpL_nil ?_
      refine Wp_seq_region ?_
      refine WpL_val rfl rfl (by decide) (r_move (v := (.int .i64 x)) rfl) ?_
      refine WpL_val rfl rfl (by decide) (r_geq (k := .i64) (a := x) (b := 0) rfl rfl) ?_
      refine WpL_val rfl rfl (by decide) (r_move (v := (.bool (decide ((0 : Int) ≤ x)))) rfl) ?_
      rcases Bool.eq_false_or_eq_true (decide ((0 : Int) ≤ x)) with h0 | h0
      · have kh0 := h0
        replace kh0 := of_decide_eq_true kh0
        refine WpL_guard_yes (oj := _) rfl rfl (by decide) (congrArg Value.bool h0) ?_
        refine WpL_val rfl rfl (by decide) (r_move (v := (.slice (some ⟨gb, go, none⟩) n sc)) rfl) ?_
        refine WpL_guard_yes (oj := _) rfl rfl (by decide) (congrArg Value.bool h0) ?_
        refine WpL_val rfl rfl (by decide) (r_move (v := (.int .i64 ((k : Nat) : Int))) rfl) ?_
        refine WpL_guard_yes (oj := _) rfl rfl (by decide) (congrArg Value.bool h0) ?_
        refine WpL_val rfl rfl (by decide) (r_indexSlice (b := gb) (o := go) (len := n) (cap := sc) (i := k) (o' := go + k * 2) rfl rfl rfl Try.underlying27 siz88 (by omega) (by omega)) ?_
        refine WpL_guard_yes (oj := _) rfl rfl (by decide) (congrArg Value.bool h0) ?_
        refine WpL_val rfl rfl (by decide) (r_indexArr (b := gb) (o := go + k * 2) (i := 0) (o' := go + k * 2 + 0) rfl rfl rfl Try.underlying88 siz3 (by omega) (by omega)) ?_
        refine WpL_guard_yes (oj := _) rfl rfl (by decide) (congrArg Value.bool h0) ?_
        refine WpL_val rfl rfl (by decide) (r_load (v := (.int .i64 p.1)) rfl flat3 (E.cell (fun f => f) hpc)) ?_
        refine WpL_guard_yes (oj := _) rfl rfl (by decide) (congrArg Value.bool h0) ?_
        refine WpL_val rfl rfl (by decide) (r_geq (k := .i64) (a := p.1) (b := 0) rfl rfl) ?_
        refine WpL_val rfl rfl (by decide) (r_pick (b := decide ((0 : Int) ≤ x)) (v := (.bool (decide ((0 : Int) ≤ p.1)))) rfl (by rw [h0]; rfl)) ?_
        refine WpL_nil ?_
        refine Wp_cond (b := decide ((0 : Int) ≤ p.1)) rfl (fun h1 => ?_) (fun h1 => ?_)
        · have kh1 := h1
          replace h1 := of_decide_eq_true h1
          refine Wp_seq_region ?_
          refine WpL_val rfl rfl (by decide) (r_assign (v := (.bool false)) rfl) ?_
          refine WpL_nil ?_
          refine Wp_ret ?_
          refine inB_ret ?_
          refine thn_ret ?_
          refine thn_ret ?_
          refine inB_ret ?_
          refine thn_ret ?_
          refine fin_tmp Try.results59 (v := (.bool false)) rfl ?_
          exact ⟨bool_eq (by symm; rw [Bool.eq_false_iff]; intro h9; have h8 := of_decide_eq_true (List.all_eq_true.1 h9 k (mem_idxs.2 ⟨x, hx, kh0⟩)); rw [hpD] at h8; omega), E⟩
        · have kh1 := h1
          replace h1 := of_decide_eq_false h1
          refine Wp_skip ?_
          refine inB_normal ?_
          refine thn_normal ?_
          refine Wp_region ?_
          refine WpL_val rfl rfl (by decide) (r_add (k := .i64) (a := ((k : Nat) : Int)) (b := 1) (c := ((k : Nat) : Int) + 1) rfl rfl (wI64 (by omega))) ?_
          refine WpL_val rfl rfl (by decide) (r_move (v := (.int .i64 (((k : Nat) : Int) + 1))) rfl) ?_
          refine WpL_nil ?_
          refine thn_normal ?_
          exact ⟨row.length - (k + 1), by omega, k + 1, Fits.out ⟨rfl, rfl, rfl, rfl, trivial⟩, E, (by omega), (fun c hc hci => by rcases Nat.lt_or_ge c k with h9 | h9; exact hf c h9 hci; obtain rfl : c = k := (by omega); rw [hpD]; omega), rfl⟩
      · have kh0 := h0
        replace kh0 := of_decide_eq_false kh0
        refine WpL_guard_no (oj := _) rfl rfl (by decide) (v := .bool false) (congrArg Value.bool h0) (Or.inl rfl) ?_
        refine WpL_guard_no (oj := _) rfl rfl (by decide) (v := .bool false) (congrArg Value.bool h0) (Or.inl rfl) ?_
        refine WpL_guard_no (oj := _) rfl rfl (by decide) (v := .bool false) (congrArg Value.bool h0) (Or.inl rfl) ?_
        refine WpL_guard_no (oj := _) rfl rfl (by decide) (v := .bool false) (congrArg Value.bool h0) (Or.inl rfl) ?_
        refine WpL_guard_no (oj := _) rfl rfl (by decide) (v := .bool false) (congrArg Value.bool h0) (Or.inl rfl) ?_
        refine WpL_guard_no (oj := _) rfl rfl (by decide) (v := .bool false) (congrArg Value.bool h0) (Or.inl rfl) ?_
        refine WpL_val rfl rfl (by decide) (r_pick (b := decide ((0 : Int) ≤ x)) (v := (.bool false)) rfl (by rw [h0]; rfl)) ?_
        refine WpL_nil ?_
        refine Wp_cond_false rfl ?_
        refine Wp_skip ?_
        refine inB_normal ?_
        refine thn_normal ?_
        refine Wp_region ?_
        refine WpL_val rfl rfl (by decide) (r_add (k := .i64) (a := ((k : Nat) : Int)) (b := 1) (c := ((k : Nat) : Int) + 1) rfl rfl (wI64 (by omega))) ?_
        refine WpL_val rfl rfl (by decide) (r_move (v := (.int .i64 (((k : Nat) : Int) + 1))) rfl) ?_
        refine WpL_nil ?_
        refine thn_normal ?_
        exact ⟨row.length - (k + 1), by omega, k + 1, Fits.out ⟨rfl, rfl, rfl, rfl, trivial⟩, E, (by omega), (fun c hc hci => by rcases Nat.lt_or_ge c k with h9 | h9; exact hf c h9 hci; obtain rfl : c = k := (by omega); obtain ⟨y, hy, h7⟩ := mem_idxs.1 hci; rw [hx] at hy; cases hy; omega), rfl⟩
    · have khlt := hlt
      replace hlt := of_decide_eq_false hlt
      refine Wp_exit ?_
      refine thn_exit ?_
      refine thn_exit ?_
      refine inB_here ?_
      refine thn_normal ?_
      refine Wp_seq_region ?_
      refine WpL_val rfl rfl (by decide) (r_assign (v := (.bool true)) rfl) ?_
      refine WpL_nil ?_
      refine Wp_ret ?_
      refine fin_tmp Try.results59 (v := (.bool true)) rfl ?_
      exact ⟨bool_eq (by symm; refine List.all_eq_true.2 fun c hc => decide_eq_true (hf c ?_ hc); obtain ⟨y, hy, _⟩ := mem_idxs.1 hc; have := lt_of_get hy; omega), E⟩
end Go.Proofs
namespace Go.Proofs
open Go Go.Eng
set_option maxRecDepth 100000
abbrev TI : Nat := 3
end Go.Proofs
namespace Go.Proofs
open Go Go.Eng
set_option maxRecDepth 100000
theorem swap_perm {l : List Int} {i j : Nat} {x y : Int} (hi : l[i]? = some x) (hj : l[j]? = some y) (hne : i ≠ j) : List.Perm ((l.set i y).set j x) l := by
  have h1 := lt_of_get hi
  have h2 := lt_of_get hj
  have e1 : l[i] = x := by rw [List.getElem?_eq_getElem h1] at hi; simpa using hi
  have e2 : l[j] = y := by rw [List.getElem?_eq_getElem h2] at hj; simpa using hj
  rw [List.perm_iff_count]
  intro b
  have h3 : j < (l.set i y).length := by simpa using h2
  rw [List.count_set h3, List.count_set h1]
  have e3 : (l.set i y)[j] = y := by rw [List.getElem_set_ne hne]; exact e2
  rw [e3, e1]
  have hc : (x == b) = true → 0 < l.count b := fun h => by
    rw [List.count_pos_iff]
    have : x = b := by simpa using h
    rw [← this]; exact List.mem_of_getElem? hi
  cases hx : x == b
  · cases hy : y == b <;> simp
  · have := hc hx
    cases hy : y == b <;> simp <;> omega
end Go.Proofs
namespace Go.Proofs
open Go Go.Eng
set_option maxRecDepth 100000
abbrev TD : Nat := 44
abbrev TT : Nat := 46
theorem fi_idx_c (w0 : World) (v fv : Value) (l : List Int) (p : Int → Bool) (hs : IntsAt w0 v l) (hf : ∀ (w : World) (x : Int), Ext w0 w → x ∈ l → CallV Try.prog fv #[.int .i64 x] w fun r w' => r = .bool (p x) ∧ Ext w w') :
    Ret Try.prog 93 #[v, fv] w0 fun r w => r = .int .i64 (idx p l) ∧ Ext w0 w := by
  obtain ⟨a, c, rfl⟩ := SlAt.form hs
  have hlen : l.length ≤ 9223372036854775807 := by simpa using SlAt.le hs
  simp only [List.length_map] at hs ⊢
  refine Ret_of Try.func93 rfl Try.ntmps93 (Nat.le_of_ble_eq_true rfl) ?_
  have E : Chg none1 w0 w0 := Chg.refl _ _
  refine Wp_seq_region ?_
  refine WpL_val rfl rfl (by decide) (r_assign (v := (.int .i64 0)) rfl) ?_
  refine WpL_nil ?_
  refine Wp_seq ?_
  refine Wp_seq_region ?_
  refine WpL_val rfl rfl (by decide) (r_move (v := (.slice a l.length c)) rfl) ?_
  refine WpL_val rfl rfl (by decide) (r_lenSlice (ad := a) (n := l.length) (cap := c) Try.underlying26 rfl) ?_
  refine WpL_val rfl rfl (by decide) (r_move (v := (.int .i64 0)) rfl) ?_
  refine WpL_nil ?_
  refine Wp_block ?_
  refine Wp_loop (fun nn_ σ W1 => ∃ (k : Nat), (∃ jj_, σ = upds jj_ [(0, (.slice a l.length c)), (1, fv), (7, (.int .i64 ((l.length : Nat) : Int))), (8, (.int .i64 ((k : Nat) : Int)))]) ∧ Chg none1 w0 W1 ∧ (k ≤ l.length) ∧ (∀ (i : Nat) (y : Int), i < k → l[i]? = some y → p y = false) ∧ nn_ = l.length - k) (n := l.length - 0) ?_ ?_
  · exact ⟨0, Fits.out ⟨rfl, rfl, rfl, rfl, trivial⟩, E, Nat.zero_le _, (fun i y h => absurd h (Nat.not_lt_zero _)), rfl⟩
  · clear E
    rintro _ _ W1 ⟨k, ⟨j1, rfl⟩, E, hk, hno, rfl⟩
    refine Wp_seq_region ?_
    refine WpL_val rfl rfl (by decide) (r_lss (k := .i64) (a := ((k : Nat) : Int)) (b := ((l.length : Nat) : Int)) rfl rfl) ?_
    refine WpL_nil ?_
    refine Wp_seq ?_
    refine Wp_cond (b := decide ((((k : Nat) : Int) : Int) < ((l.length : Nat) : Int))) rfl (fun hlt => ?_) (fun hlt => ?_)
    · have khlt := hlt
      replace hlt := of_decide_eq_true hlt
      obtain ⟨x, hx⟩ := get_of_lt (l := l) (i := k) (by omega)
      obtain ⟨b, o, rfl, hcells⟩ := ints_cells hs (by omega)
      refine Wp_skip ?_
      refine thn_normal ?_
      refine Wp_seq ?_
      refine Wp_block ?_
      refine Wp_seq_region ?_
      refine WpL_val rfl rfl (by decide) (r_move (v := (.int .i64 ((k : Nat) : Int))) rfl) ?_
      refine WpL_val rfl rfl (by decide) (r_assign (v := (.int .i64 ((k : Nat) : Int))) rfl) ?_
      refine WpL_nil ?_
      refine Wp_seq_region ?_
      refine WpL_val rfl rfl (by decide) (r_move (v := fv) rfl) ?_
      refine WpL_val rfl rfl (by decide) (r_move (v := (.slice (some ⟨b, o, none⟩) l.length c)) rfl) ?_
      refine WpL_val rfl rfl (by decide) (r_move (v := (.int .i64 ((k : Nat) : Int))) rfl) ?_
      refine WpL_val rfl rfl (by decide) (r_indexSlice (b := b) (o := o) (len := l.length) (cap := c) (i := k) (o' := o + k) rfl rfl rfl Try.underlying26 siz3 (by omega) (by omega)) ?_
      refine WpL_val rfl rfl (by decide) (r_load (v := (.int .i64 x)) rfl flat3 (E.cell (fun f => f) (hcells k x hx))) ?_
      refine WpL_callV (fv := fv) (vs := [(.int .i64 x)]) (by decide) rfl rfl (hf _ x E (List.mem_of_getElem? hx)) ?_
      rintro _ w9 ⟨rfl, X9⟩
      replace E := E.ext X9
      refine WpL_nil ?_
      refine Wp_cond (b := p x) rfl (fun hp => ?_) (fun hp => ?_)
      · have khp := hp
        refine Wp_seq_region ?_
        refine WpL_val rfl rfl (by decide) (r_move (v := (.int .i64 ((k : Nat) : Int))) rfl) ?_
        refine WpL_val rfl rfl (by decide) (r_assign (v := (.int .i64 ((k : Nat) : Int))) rfl) ?_
        refine WpL_nil ?_
        refine Wp_ret ?_
        refine inB_ret ?_
        refine thn_ret ?_
        refine thn_ret ?_
        refine inB_ret ?_
        refine thn_ret ?_
        refine fin_tmp Try.results93 (v := (.int .i64 ((k : Nat) : Int))) rfl ?_
        exact ⟨int_eq (idx_hit hx hp hno).symm, E⟩
      · have khp := hp
        refine Wp_skip ?_
        refine inB_normal ?_
        refine thn_normal ?_
        refine Wp_region ?_
        refine WpL_val rfl rfl (by decide) (r_add (k := .i64) (a := ((k : Nat) : Int)) (b := 1) (c := ((k : Nat) : Int) + 1) rfl rfl (wI64 (by omega))) ?_
        refine WpL_val rfl rfl (by decide) (r_move (v := (.int .i64 (((k : Nat) : Int) + 1))) rfl) ?_
        refine WpL_nil ?_
        refine thn_normal ?_
        exact ⟨l.length - (k + 1), by omega, k + 1, Fits.out ⟨rfl, rfl, rfl, rfl, trivial⟩, E, (by omega), below_next hx hp hno, rfl⟩
    · have khlt := hlt
      replace hlt := of_decide_eq_false hlt
      have hkk : k = l.length := by omega
      refine Wp_exit ?_
      refine thn_exit ?_
      refine thn_exit ?_
      refine inB_here ?_
      refine thn_normal ?_
      refine Wp_seq_region ?_
      refine WpL_val rfl rfl (by decide) (r_assign (v := (.int .i64 (-1))) rfl) ?_
      refine WpL_nil ?_
      refine Wp_ret ?_
      refine fin_tmp Try.results93 (v := (.int .i64 (-1))) rfl ?_
      exact ⟨int_eq (idx_miss fun i y hy => hno i y (by have := lt_of_get hy; omega) hy).symm, E⟩
theorem fi_has_c (w0 : World) (v fv : Value) (l : List Int) (p : Int → Bool) (hs : IntsAt w0 v l) (hf : ∀ (w : World) (x : Int), Ext w0 w → x ∈ l → CallV Try.prog fv #[.int .i64 x] w fun r w' => r = .bool (p x) ∧ Ext w w') :
    Ret Try.prog 54 #[v, fv] w0 fun r w => r = .bool (l.any p) ∧ Ext w0 w := by
  refine Ret_of Try.func54 rfl Try.ntmps54 (Nat.le_of_ble_eq_true rfl) ?_
  have E : Chg none1 w0 w0 := Chg.refl _ _
  refine Wp_seq_region ?_
  refine WpL_val rfl rfl (by decide) (r_assign (v := (.bool false)) rfl) ?_
  refine WpL_nil ?_
  refine Wp_seq_region ?_
  refine WpL_val rfl rfl (by decide) (r_move (v := v) rfl) ?_
  refine WpL_val rfl rfl (by decide) (r_move (v := fv) rfl) ?_
  refine WpL_enter rfl rfl (by decide) (r_callF (vs := [v, fv]) Try.func93 nm93 bd93 rfl) (fi_idx_c _ v fv l p hs hf) ?_
  rintro _ w9 ⟨rfl, X9⟩
  replace E := E.ext X9
  refine WpL_val rfl rfl (by decide) (r_geq (k := .i64) (a := idx p l) (b := 0) rfl rfl) ?_
  refine WpL_val rfl rfl (by decide) (r_assign (v := (.bool (decide ((0 : Int) ≤ idx p l)))) rfl) ?_
  refine WpL_nil ?_
  refine Wp_ret ?_
  refine fin_tmp Try.results54 (v := (.bool (decide ((0 : Int) ≤ idx p l)))) rfl ?_
  exact ⟨bool_eq (idx_any p l), E⟩
set_option maxHeartbeats 1000000 in
theorem entries_c (w0 : World) (b1 : Nat) (d : Dfa) (vs : List Value) (s : Nat) (row : List Int) (hB : Blk w0 b1 vs.toArray TD) (hd : DfaAt w0 d vs) (hs : d.next[s]? = some row) :
    Ret Try.prog 49 #[.int .i64 ((s : Nat) : Int), .pointer (some ⟨b1, 0, none⟩)] w0 fun v w => v = .int .i64 (((idxs row).length : Nat) : Int) ∧ Ext w0 w := by
  obtain ⟨aa, ac, na, nc, rfl, _, hn⟩ := hd
  obtain ⟨_, _, hv, hcap, hle⟩ := hn.form
  simp only [Value.slice.injEq] at hv
  obtain ⟨rfl, _, rfl⟩ := hv
  have hsl := lt_of_get hs
  obtain ⟨nb, no, rfl, hncl⟩ := intss_cells hn (by omega)
  obtain ⟨ra, rc, hcell, hints⟩ := hncl s row hs
  have hrl : row.length ≤ 9223372036854775807 := by simpa using SlAt.le hints
  refine Ret_of Try.func49 rfl Try.ntmps49 (Nat.le_of_ble_eq_true rfl) ?_
  have E : Chg none1 w0 w0 := Chg.refl _ _
  refine Wp_seq_region ?_
  refine WpL_val rfl rfl (by decide) (r_assign (v := (.int .i64 0)) rfl) ?_
  refine WpL_nil ?_
  refine Wp_seq_region ?_
  refine WpL_val rfl rfl (by decide) (r_assign (v := (.int .i64 0)) rfl) ?_
  refine WpL_nil ?_
  refine Wp_seq ?_
  refine Wp_seq_region ?_
  refine WpL_val rfl rfl (by decide) (r_fieldAddr (b := b1) (o := 0) (o' := 2) rfl Try.underlying44 rfl siz42 rfl) ?_
  refine WpL_val rfl rfl (by decide) (r_load (v := (.slice (some ⟨nb, no, none⟩) d.next.length nc)) rfl flat42 (hB.cell rfl)) ?_
  refine WpL_val rfl rfl (by decide) (r_move (v := (.int .i64 ((s : Nat) : Int))) rfl) ?_
  refine WpL_val rfl rfl (by decide) (r_indexSlice (b := nb) (o := no) (len := d.next.length) (cap := nc) (i := s) (o' := no + s) rfl rfl rfl Try.underlying42 siz26 (by omega) (by omega)) ?_
  refine WpL_val rfl rfl (by decide) (r_load (v := (.slice ra row.length rc)) rfl flat26 (E.cell (fun f => f) hcell)) ?_
  refine WpL_val rfl rfl (by decide) (r_lenSlice (ad := ra) (n := row.length) (cap := rc) Try.underlying26 rfl) ?_
  refine WpL_val rfl rfl (by decide) (r_move (v := (.int .i64 0)) rfl) ?_
  refine WpL_nil ?_
  refine Wp_block ?_
  refine Wp_loop (fun nn_ σ W1 => ∃ (k : Nat) (m : Nat), (∃ jj_, σ = upds jj_ [(11, (.slice ra row.length rc)), (12, (.int .i64 ((row.length : Nat) : Int))), (13, (.int .i64 ((k : Nat) : Int))), (4, (.int .i64 ((m : Nat) : Int)))]) ∧ Chg none1 w0 W1 ∧ Blk W1 b1 #[(.int .i64 d.start), (.slice aa d.accept.length ac), (.slice (some ⟨nb, no, none⟩) d.next.length nc)] TD ∧ (k ≤ row.length) ∧ (m = (idxsN row k).length) ∧ nn_ = row.length - k) (n := row.length - 0) ?_ ?_
  · exact ⟨0, 0, Fits.out ⟨rfl, rfl, rfl, rfl, trivial⟩, E, hB, Nat.zero_le _, rfl, rfl⟩
  · clear E hB
    rintro _ _ W1 ⟨k, m, ⟨j1, rfl⟩, E, hB, hk, hm, rfl⟩
    refine Wp_seq_region ?_
    refine WpL_val rfl rfl (by decide) (r_lss (k := .i64) (a := ((k : Nat) : Int)) (b := ((row.length : Nat) : Int)) rfl rfl) ?_
    refine WpL_nil ?_
    refine Wp_seq ?_
    refine Wp_cond (b := decide ((((k : Nat) : Int) : Int) < ((row.length : Nat) : Int))) rfl (fun hlt => ?_) (fun hlt => ?_)
    · have khlt := hlt
      replace hlt := of_decide_eq_true hlt
      obtain ⟨x, hx⟩ := get_of_lt (l := row) (i := k) (by omega)
      obtain ⟨rb, ro, hra, hrc⟩ := ints_cells hints (by omega)
      subst hra
      have hsucc := idxsN_succ hx
      have hmle := idxsN_le row k
      refine Wp_skip ?_
      refine thn_normal ?_
      refine Wp_seq ?_
      refine Wp_block ?_
      refine Wp_seq_region ?_
      refine WpL_val rfl rfl (by decide) (r_indexSlice (b := rb) (o := ro) (len := row.length) (cap := rc) (i := k) (o' := ro + k) rfl rfl rfl Try.underlying26 siz3 (by omega) (by omega)) ?_
      refine WpL_val rfl rfl (by decide) (r_load (v := (.int .i64 x)) rfl flat3 (E.cell (fun f => f) (hrc k x hx))) ?_
      refine WpL_val rfl rfl (by decide) (r_assign (v := (.int .i64 x)) rfl) ?_
      refine WpL_nil ?_
      refine Wp_seq_region ?_
      refine WpL_val rfl rfl (by decide) (r_move (v := (.int .i64 x)) rfl) ?_
      refine WpL_val rfl rfl (by decide) (r_geq (k := .i64) (a := x) (b := 0) rfl rfl) ?_
      refine WpL_nil ?_
      refine Wp_cond (b := decide ((0 : Int) ≤ x)) rfl (fun h0 => ?_) (fun h0 => ?_)
      · have kh0 := h0
        replace h0 := of_decide_eq_true h0
        refine Wp_region ?_
        refine WpL_val rfl rfl (by decide) (r_move (v := (.int .i64 ((m : Nat) : Int))) rfl) ?_
        refine WpL_val rfl rfl (by decide) (r_add (k := .i64) (a := ((m : Nat) : Int)) (b := 1) (c := ((m : Nat) : Int) + 1) rfl rfl (wI64 (by omega))) ?_
        refine WpL_val rfl rfl (by decide) (r_assign (v := (.int .i64 (((m : Nat) : Int) + 1))) rfl) ?_
        refine WpL_nil ?_
        refine inB_normal ?_
        refine thn_normal ?_
        refine Wp_region ?_
        refine WpL_val rfl rfl (by decide) (r_add (k := .i64) (a := ((k : Nat) : Int)) (b := 1) (c := ((k : Nat) : Int) + 1) rfl rfl (wI64 (by omega))) ?_
        refine WpL_val rfl rfl (by decide) (r_move (v := (.int .i64 (((k : Nat) : Int) + 1))) rfl) ?_
        refine WpL_nil ?_
        refine thn_normal ?_
        exact ⟨row.length - (k + 1), by omega, k + 1, m + 1, Fits.out ⟨rfl, rfl, rfl, rfl, trivial⟩, E, hB, (by omega), (by rw [hsucc, if_pos h0, hm]; simp), rfl⟩
      · have kh0 := h0
        replace h0 := of_decide_eq_false h0
        refine Wp_skip ?_
        refine inB_normal ?_
        refine thn_normal ?_
        refine Wp_region ?_
        refine WpL_val rfl rfl (by decide) (r_add (k := .i64) (a := ((k : Nat) : Int)) (b := 1) (c := ((k : Nat) : Int) + 1) rfl rfl (wI64 (by omega))) ?_
        refine WpL_val rfl rfl (by decide) (r_move (v := (.int .i64 (((k : Nat) : Int) + 1))) rfl) ?_
        refine WpL_nil ?_
        refine thn_normal ?_
        exact ⟨row.length - (k + 1), by omega, k + 1, m, Fits.out ⟨rfl, rfl, rfl, rfl, trivial⟩, E, hB, (by omega), (by rw [hsucc, if_neg h0, hm]; simp), rfl⟩
    · have khlt := hlt
      replace hlt := of_decide_eq_false hlt
      have hkk : k = row.length := by omega
      refine Wp_exit ?_
      refine thn_exit ?_
      refine thn_exit ?_
      refine inB_here ?_
      refine thn_normal ?_
      refine Wp_seq_region ?_
      refine WpL_val rfl rfl (by decide) (r_move (v := (.int .i64 ((m : Nat) : Int))) rfl) ?_
      refine WpL_val rfl rfl (by decide) (r_assign (v := (.int .i64 ((m : Nat) : Int))) rfl) ?_
      refine WpL_nil ?_
      refine Wp_ret ?_
      refine fin_tmp Try.results49 (v := (.int .i64 ((m : Nat) : Int))) rfl ?_
      exact ⟨int_eq (by rw [hm, hkk]; rfl), E⟩
def entD (d : Dfa) (s : Int) : Int := (((idxs (d.next.getD s.toNat [])).length : Nat) : Int)
theorem entD_nat {d : Dfa} {s : Nat} {row : List Int} (h : d.next[s]? = some row) : entD d ((s : Nat) : Int) = (((idxs row).length : Nat) : Int) := by
  unfold entD
  rw [Int.toNat_natCast, List.getD_eq_getElem?_getD, h]; rfl
set_option maxHeartbeats 1000000 in
theorem cmp2_c (w0 : World) (b1 b6 : Nat) (d : Dfa) (vs : List Value) (s u : Nat) (hB : Blk w0 b1 vs.toArray TD) (hd : DfaAt w0 d vs) (h6 : Blk w0 b6 #[.func (.func 49) #[] #[.pointer (some ⟨b1, 0, none⟩)]] 97) (hs : s < d.next.length) (hu : u < d.next.length) :
    Ret Try.prog 51 #[.int .i64 ((s : Nat) : Int), .int .i64 ((u : Nat) : Int), .pointer (some ⟨b6, 0, none⟩)] w0 fun v w => v = .int .i64 (cmpI (entD d ((u : Nat) : Int)) (entD d ((s : Nat) : Int))) ∧ Ext w0 w := by
  obtain ⟨rs, hrs⟩ := get_of_lt hs
  obtain ⟨ru, hru⟩ := get_of_lt hu
  rw [entD_nat hrs, entD_nat hru]
  refine Ret_of Try.func51 rfl Try.ntmps51 (Nat.le_of_ble_eq_true rfl) ?_
  have E : Chg none1 w0 w0 := Chg.refl _ _
  refine Wp_seq_region ?_
  refine WpL_val rfl rfl (by decide) (r_assign (v := (.int .i64 0)) rfl) ?_
  refine WpL_nil ?_
  refine Wp_seq ?_
  obtain ⟨Fs1, hFs1⟩ : ∃ Fs : List Fact, Fs = [.eq (.func (.func 49) #[] #[(.pointer (some ⟨b1, 0, none⟩))]), .eq (.int .i64 ((u : Nat) : Int)), .eq (.int .i64 (((idxs ru).length : Nat) : Int)), .eq (.func (.func 49) #[] #[(.pointer (some ⟨b1, 0, none⟩))]), .eq (.int .i64 ((s : Nat) : Int)), .eq (.int .i64 (((idxs rs).length : Nat) : Int)), .eq (.int .i64 (cmpI (((idxs ru).length : Nat) : Int) (((idxs rs).length : Nat) : Int))), .eq (.int .i64 (cmpI (((idxs ru).length : Nat) : Int) (((idxs rs).length : Nat) : Int)))] := ⟨_, rfl⟩
  refine Wp_dag [6, 7, 8, 9, 10, 11, 12, 5] [[], [], [0, 1], [], [], [2, 3, 4], [2, 5], [0, 1, 2, 3, 4, 5, 6]] Fs1 hFs1 mixed (by kernel_rfl) (by kernel_rfl) ?_ ?_
  · intro wd X0
    refine DagSteps.cons (fun s' w' X U H => Or.inl ⟨?_, ?_⟩) ?_
    · exact Guarded_none rfl
    · exact Does_val (r_load (v := (.func (.func 49) #[] #[(.pointer (some ⟨b1, 0, none⟩))])) (U 2 rfl) flat97 (((X0.trans X).keep h6).cell rfl)) (Ext.refl _) rfl
    refine DagSteps.cons (fun s' w' X U H => Or.inl ⟨?_, ?_⟩) ?_
    · exact Guarded_none rfl
    · exact Does_val (r_move (v := (.int .i64 ((u : Nat) : Int))) (U 1 rfl)) (Ext.refl _) rfl
    refine DagSteps.cons (fun s' w' X U H => Or.inl ⟨?_, ?_⟩) ?_
    · exact Guarded_none rfl
    · have e7 : s' 7 = (.int .i64 ((u : Nat) : Int)) := H 1 rfl 7 (.eq (.int .i64 ((u : Nat) : Int))) rfl (by rw [hFs1]; rfl)
      have e6 : s' 6 = (.func (.func 49) #[] #[(.pointer (some ⟨b1, 0, none⟩))]) := H 0 rfl 6 (.eq (.func (.func 49) #[] #[(.pointer (some ⟨b1, 0, none⟩))])) rfl (by rw [hFs1]; rfl)
      exact Does_enter (r_callV (first := #[]) (cap := #[(.pointer (some ⟨b1, 0, none⟩))]) (vs := [(.int .i64 ((u : Nat) : Int))]) (ws := #[(.int .i64 ((u : Nat) : Int)), (.pointer (some ⟨b1, 0, none⟩))]) e6 Try.func49 nm49 bd49 (lst1 e7) rfl) (entries_c _ b1 d vs u ru ((X0.trans X).keep (Ext.keep E hB)) (hd.ext (Ext.trans E (X0.trans X))) hru)
    refine DagSteps.cons (fun s' w' X U H => Or.inl ⟨?_, ?_⟩) ?_
    · exact Guarded_none rfl
    · exact Does_val (r_load (v := (.func (.func 49) #[] #[(.pointer (some ⟨b1, 0, none⟩))])) (U 2 rfl) flat97 (((X0.trans X).keep h6).cell rfl)) (Ext.refl _) rfl
    refine DagSteps.cons (fun s' w' X U H => Or.inl ⟨?_, ?_⟩) ?_
    · exact Guarded_none rfl
    · exact Does_val (r_move (v := (.int .i64 ((s : Nat) : Int))) (U 0 rfl)) (Ext.refl _) rfl
    refine DagSteps.cons (fun s' w' X U H => Or.inl ⟨?_, ?_⟩) ?_
    · exact Guarded_none rfl
    · have e10 : s' 10 = (.int .i64 ((s : Nat) : Int)) := H 4 rfl 10 (.eq (.int .i64 ((s : Nat) : Int))) rfl (by rw [hFs1]; rfl)
      have e9 : s' 9 = (.func (.func 49) #[] #[(.pointer (some ⟨b1, 0, none⟩))]) := H 3 rfl 9 (.eq (.func (.func 49) #[] #[(.pointer (some ⟨b1, 0, none⟩))])) rfl (by rw [hFs1]; rfl)
      exact Does_enter (r_callV (first := #[]) (cap := #[(.pointer (some ⟨b1, 0, none⟩))]) (vs := [(.int .i64 ((s : Nat) : Int))]) (ws := #[(.int .i64 ((s : Nat) : Int)), (.pointer (some ⟨b1, 0, none⟩))]) e9 Try.func49 nm49 bd49 (lst1 e10) rfl) (entries_c _ b1 d vs s rs ((X0.trans X).keep (Ext.keep E hB)) (hd.ext (Ext.trans E (X0.trans X))) hrs)
    refine DagSteps.cons (fun s' w' X U H => Or.inl ⟨?_, ?_⟩) ?_
    · exact Guarded_none rfl
    · have e8 : s' 8 = (.int .i64 (((idxs ru).length : Nat) : Int)) := H 2 rfl 8 (.eq (.int .i64 (((idxs ru).length : Nat) : Int))) rfl (by rw [hFs1]; rfl)
      have e11 : s' 11 = (.int .i64 (((idxs rs).length : Nat) : Int)) := H 5 rfl 11 (.eq (.int .i64 (((idxs rs).length : Nat) : Int))) rfl (by rw [hFs1]; rfl)
      exact Does_enter (r_callF (vs := [(.int .i64 (((idxs ru).length : Nat) : Int)), (.int .i64 (((idxs rs).length : Nat) : Int))]) Try.func52 nm52 bd52 (lst2 e8 e11)) (compare_c _ _ _)
    refine DagSteps.cons (fun s' w' X U H => Or.inl ⟨?_, ?_⟩) ?_
    · exact Guarded_none rfl
    · have e12 : s' 12 = (.int .i64 (cmpI (((idxs ru).length : Nat) : Int) (((idxs rs).length : Nat) : Int))) := H 6 rfl 12 (.eq (.int .i64 (cmpI (((idxs ru).length : Nat) : Int) (((idxs rs).length : Nat) : Int)))) rfl (by rw [hFs1]; rfl)
      exact Does_val (r_assign (v := (.int .i64 (cmpI (((idxs ru).length : Nat) : Int) (((idxs rs).length : Nat) : Int)))) e12) (Ext.refl _) rfl
    exact DagSteps.nil
  · intro s' w1 X1 U H
    obtain ⟨j1, rfl⟩ := Fits.out (σ := s') (l := [(5, (.int .i64 (cmpI (((idxs ru).length : Nat) : Int) (((idxs rs).length : Nat) : Int))))]) ⟨(show s' 5 = (.int .i64 (cmpI (((idxs ru).length : Nat) : Int) (((idxs rs).length : Nat) : Int))) from H 7 5 (.eq (.int .i64 (cmpI (((idxs ru).length : Nat) : Int) (((idxs rs).length : Nat) : Int)))) rfl (by rw [hFs1]; rfl)), trivial⟩
    clear U H
    replace h6 := X1.keep h6
    replace E := E.ext X1
    refine thn_normal ?_
    refine Wp_ret ?_
    refine fin_tmp Try.results51 (v := (.int .i64 (cmpI (((idxs ru).length : Nat) : Int) (((idxs rs).length : Nat) : Int)))) rfl ?_
    exact ⟨rfl, E⟩
def freeB (ow : List Int) (i : Nat) : Bool := decide (((ow.length : Nat) : Int) ≤ ((i : Nat) : Int)) || decide (ow.getD i (-1) < 0)
theorem freeB_iff {ow : List Int} {i : Nat} : freeB ow i = true ↔ ow.length ≤ i ∨ ∃ x, ow[i]? = some x ∧ x < 0 := by
  unfold freeB
  rw [Bool.or_eq_true, decide_eq_true_eq, decide_eq_true_eq]
  constructor
  · rintro (h | h)
    · left; omega
    · rcases Nat.lt_or_ge i ow.length with h1 | h1
      · right
        refine ⟨ow[i], List.getElem?_eq_getElem h1, ?_⟩
        rwa [List.getD_eq_getElem?_getD, List.getElem?_eq_getElem h1, Option.getD_some] at h
      · left; exact h1
  · rintro (h | ⟨x, h1, h2⟩)
    · left; omega
    · right; rw [List.getD_eq_getElem?_getD, h1]; exact h2
theorem free_c (w0 : World) (b5 i : Nat) (ow : List Int) (x0 x1 : Int) (v2 v3 v4 v5 : Value) (hB : Blk w0 b5 #[.int .i64 x0, .int .i64 x1, v2, v3, v4, v5] TT) (ho : IntsAt w0 v4 ow) :
    Ret Try.prog 53 #[.int .i64 ((i : Nat) : Int), .pointer (some ⟨b5, 0, none⟩)] w0 fun v w => v = .bool (freeB ow i) ∧ Ext w0 w := by
  obtain ⟨a, c, rfl⟩ := SlAt.form ho
  have hlen : ow.length ≤ 9223372036854775807 := by simpa using SlAt.le ho
  simp only [List.length_map] at ho hB
  rcases Nat.lt_or_ge i ow.length with hi | hi
  · obtain ⟨ob, oo, rfl, hoc⟩ := ints_cells ho (by omega)
    obtain ⟨x, hx⟩ := get_of_lt hi
    have hg : ow.getD i (-1) = x := by rw [List.getD_eq_getElem?_getD, hx]; rfl
    refine Ret_of Try.func53 rfl Try.ntmps53 (Nat.le_of_ble_eq_true rfl) ?_
    have E : Chg none1 w0 w0 := Chg.refl _ _
    refine Wp_seq_region ?_
    refine WpL_val rfl rfl (by decide) (r_assign (v := (.bool false)) rfl) ?_
    refine WpL_nil ?_
    refine Wp_seq_region ?_
    refine WpL_val rfl rfl (by decide) (r_move (v := (.int .i64 ((i : Nat) : Int))) rfl) ?_
    refine WpL_val rfl rfl (by decide) (r_fieldAddr (b := b5) (o := 0) (o' := 4) rfl Try.underlying46 rfl siz26 rfl) ?_
    refine WpL_val rfl rfl (by decide) (r_load (v := (.slice (some ⟨ob, oo, none⟩) ow.length c)) rfl flat26 (hB.cell rfl)) ?_
    refine WpL_val rfl rfl (by decide) (r_lenSlice (ad := some ⟨ob, oo, none⟩) (n := ow.length) (cap := c) Try.underlying26 rfl) ?_
    obtain ⟨e1, he1⟩ : ∃ e, (decide ((((ow.length : Nat) : Int) : Int) ≤ ((i : Nat) : Int))) = e := ⟨_, rfl⟩
    refine WpL_val rfl rfl (by decide) ((r_geq (k := .i64) (a := ((i : Nat) : Int)) (b := ((ow.length : Nat) : Int)) rfl rfl).trans (by rw [he1]; try rfl)) ?_
    refine WpL_val rfl rfl (by decide) (r_move (v := (.bool e1)) rfl) ?_
    refine WpL_guard_any (oj := _) (gv := (.bool e1)) (u := (bif e1 then undef else (.pointer (some ⟨b5, 4, none⟩)))) rfl rfl (by decide) (by decide) rfl (by cases e1 <;> first | exact Or.inr ⟨Or.inl rfl, rfl⟩ | exact Or.inr ⟨Or.inr rfl, rfl⟩ | exact Or.inl ⟨rfl, r_fieldAddr (b := b5) (o := 0) (o' := 4) rfl Try.underlying46 rfl siz26 rfl⟩) ?_
    refine WpL_guard_any (oj := _) (gv := (.bool e1)) (u := (bif e1 then undef else (.slice (some ⟨ob, oo, none⟩) ow.length c))) rfl rfl (by decide) (by decide) rfl (by cases e1 <;> first | exact Or.inr ⟨Or.inl rfl, rfl⟩ | exact Or.inr ⟨Or.inr rfl, rfl⟩ | exact Or.inl ⟨rfl, r_load (v := (.slice (some ⟨ob, oo, none⟩) ow.length c)) rfl flat26 (hB.cell rfl)⟩) ?_
    refine WpL_guard_any (oj := _) (gv := (.bool e1)) (u := (bif e1 then undef else (.int .i64 ((i : Nat) : Int)))) rfl rfl (by decide) (by decide) rfl (by cases e1 <;> first | exact Or.inr ⟨Or.inl rfl, rfl⟩ | exact Or.inr ⟨Or.inr rfl, rfl⟩ | exact Or.inl ⟨rfl, r_move (v := (.int .i64 ((i : Nat) : Int))) rfl⟩) ?_
    refine WpL_guard_any (oj := _) (gv := (.bool e1)) (u := (bif e1 then undef else (.pointer (some ⟨ob, oo + i, none⟩)))) rfl rfl (by decide) (by decide) rfl (by cases e1 <;> first | exact Or.inr ⟨Or.inl rfl, rfl⟩ | exact Or.inr ⟨Or.inr rfl, rfl⟩ | exact Or.inl ⟨rfl, r_indexSlice (b := ob) (o := oo) (len := ow.length) (cap := c) (i := i) (o' := oo + i) rfl rfl rfl Try.underlying26 siz3 (by have := of_decide_eq_false he1; omega) (by omega)⟩) ?_
    refine WpL_guard_any (oj := _) (gv := (.bool e1)) (u := (bif e1 then undef else (.int .i64 x))) rfl rfl (by decide) (by decide) rfl (by cases e1 <;> first | exact Or.inr ⟨Or.inl rfl, rfl⟩ | exact Or.inr ⟨Or.inr rfl, rfl⟩ | exact Or.inl ⟨rfl, r_load (v := (.int .i64 x)) rfl flat3 (E.cell (fun f => f) (hoc i x hx))⟩) ?_
    obtain ⟨e2, he2⟩ : ∃ e, (decide ((x : Int) < 0)) = e := ⟨_, rfl⟩
    refine WpL_guard_any (oj := _) (gv := (.bool e1)) (u := (bif e1 then undef else (.bool e2))) rfl rfl (by decide) (by decide) rfl (by cases e1 <;> first | exact Or.inr ⟨Or.inl rfl, rfl⟩ | exact Or.inr ⟨Or.inr rfl, rfl⟩ | exact Or.inl ⟨rfl, (r_lss (k := .i64) (a := x) (b := 0) rfl rfl).trans (by rw [he2]; try rfl)⟩) ?_
    obtain ⟨e3, he3⟩ : ∃ e, (e1 || e2) = e := ⟨_, rfl⟩
    refine WpL_val rfl rfl (by decide) (r_pick (b := e1) (v := .bool e3) rfl (by rw [← he3]; cases e1 <;> rfl)) ?_
    refine WpL_val rfl rfl (by decide) (r_assign (v := (.bool e3)) rfl) ?_
    refine WpL_nil ?_
    subst he3
    subst he2
    subst he1
    refine Wp_ret ?_
    refine fin_tmp Try.results53 (v := (.bool ((decide ((((ow.length : Nat) : Int) : Int) ≤ ((i : Nat) : Int))) || (decide ((x : Int) < 0))))) rfl ?_
    exact ⟨bool_eq (by unfold freeB; rw [hg]), E⟩
  · skip
    refine Ret_of Try.func53 rfl Try.ntmps53 (Nat.le_of_ble_eq_true rfl) ?_
    have E : Chg none1 w0 w0 := Chg.refl _ _
    refine Wp_seq_region ?_
    refine WpL_val rfl rfl (by decide) (r_assign (v := (.bool false)) rfl) ?_
    refine WpL_nil ?_
    refine Wp_seq_region ?_
    refine WpL_val rfl rfl (by decide) (r_move (v := (.int .i64 ((i : Nat) : Int))) rfl) ?_
    refine WpL_val rfl rfl (by decide) (r_fieldAddr (b := b5) (o := 0) (o' := 4) rfl Try.underlying46 rfl siz26 rfl) ?_
    refine WpL_val rfl rfl (by decide) (r_load (v := (.slice a ow.length c)) rfl flat26 (hB.cell rfl)) ?_
    refine WpL_val rfl rfl (by decide) (r_lenSlice (ad := a) (n := ow.length) (cap := c) Try.underlying26 rfl) ?_
    refine WpL_val rfl rfl (by decide) (r_geq (k := .i64) (a := ((i : Nat) : Int)) (b := ((ow.length : Nat) : Int)) rfl rfl) ?_
    refine WpL_val rfl rfl (by decide) (r_move (v := (.bool (decide ((((ow.length : Nat) : Int) : Int) ≤ ((i : Nat) : Int))))) rfl) ?_
    have hg1 : (decide ((((ow.length : Nat) : Int) : Int) ≤ ((i : Nat) : Int))) = true := by simp; omega
    refine WpL_guard_no (oj := _) rfl rfl (by decide) (v := .bool true) (congrArg Value.bool hg1) (Or.inl rfl) ?_
    refine WpL_guard_no (oj := _) rfl rfl (by decide) (v := .bool true) (congrArg Value.bool hg1) (Or.inl rfl) ?_
    refine WpL_guard_no (oj := _) rfl rfl (by decide) (v := .bool true) (congrArg Value.bool hg1) (Or.inl rfl) ?_
    refine WpL_guard_no (oj := _) rfl rfl (by decide) (v := .bool true) (congrArg Value.bool hg1) (Or.inl rfl) ?_
    refine WpL_guard_no (oj := _) rfl rfl (by decide) (v := .bool true) (congrArg Value.bool hg1) (Or.inl rfl) ?_
    refine WpL_guard_no (oj := _) rfl rfl (by decide) (v := .bool true) (congrArg Value.bool hg1) (Or.inl rfl) ?_
    refine WpL_val rfl rfl (by decide) (r_pick (b := decide ((((ow.length : Nat) : Int) : Int) ≤ ((i : Nat) : Int))) (v := (.bool true)) rfl (by rw [hg1]; rfl)) ?_
    refine WpL_val rfl rfl (by decide) (r_assign (v := (.bool true)) rfl) ?_
    refine WpL_nil ?_
    refine Wp_ret ?_
    refine fin_tmp Try.results53 (v := (.bool true)) rfl ?_
    exact ⟨bool_eq (by unfold freeB; rw [decide_eq_true (by omega)]; rfl), E⟩
theorem cont_c (w0 : World) (b5 b9 b12 c m : Nat) (ow : List Int) (x0 x1 : Int) (v2 v3 v4 v5 : Value) (hB : Blk w0 b5 #[.int .i64 x0, .int .i64 x1, v2, v3, v4, v5] TT) (ho : IntsAt w0 v4 ow) (h9 : Blk w0 b9 #[.func (.func 53) #[] #[.pointer (some ⟨b5, 0, none⟩)]] 100) (h12 : Blk w0 b12 #[.int .i64 ((m : Nat) : Int)] TI) (hm : m + c ≤ 9223372036854775807) :
    Ret Try.prog 56 #[.int .i64 ((c : Nat) : Int), .pointer (some ⟨b9, 0, none⟩), .pointer (some ⟨b12, 0, none⟩)] w0 fun v w => v = .bool (!freeB ow (m + c)) ∧ Ext w0 w := by
  refine Ret_of Try.func56 rfl Try.ntmps56 (Nat.le_of_ble_eq_true rfl) ?_
  have E : Chg none1 w0 w0 := Chg.refl _ _
  refine Wp_seq_region ?_
  refine WpL_val rfl rfl (by decide) (r_assign (v := (.bool false)) rfl) ?_
  refine WpL_nil ?_
  refine Wp_seq_region ?_
  refine WpL_val rfl rfl (by decide) (r_load (v := (.func (.func 53) #[] #[(.pointer (some ⟨b5, 0, none⟩))])) rfl flat100 (h9.cell rfl)) ?_
  refine WpL_val rfl rfl (by decide) (r_load (v := (.int .i64 ((m : Nat) : Int))) rfl flat3 (h12.cell rfl)) ?_
  refine WpL_val rfl rfl (by decide) (r_move (v := (.int .i64 ((c : Nat) : Int))) rfl) ?_
  refine WpL_val rfl rfl (by decide) (r_add (k := .i64) (a := ((m : Nat) : Int)) (b := ((c : Nat) : Int)) (c := (((m + c : Nat) : Nat) : Int)) rfl rfl ((wI64 (by omega)).trans (by omega))) ?_
  refine WpL_enter rfl rfl (by decide) (r_callV (first := #[]) (cap := #[(.pointer (some ⟨b5, 0, none⟩))]) (vs := [(.int .i64 (((m + c : Nat) : Nat) : Int))]) (ws := #[(.int .i64 (((m + c : Nat) : Nat) : Int)), (.pointer (some ⟨b5, 0, none⟩))]) rfl Try.func53 nm53 bd53 rfl rfl) (free_c _ b5 (m + c) ow x0 x1 v2 v3 v4 v5 (Ext.keep E hB) (ho.ext E)) ?_
  rintro _ w9 ⟨rfl, X9⟩
  replace h9 := X9.keep h9
  replace h12 := X9.keep h12
  replace E := E.ext X9
  refine WpL_val rfl rfl (by decide) (r_not (b := freeB ow (m + c)) rfl) ?_
  refine WpL_val rfl rfl (by decide) (r_assign (v := (.bool (!(freeB ow (m + c))))) rfl) ?_
  refine WpL_nil ?_
  refine Wp_ret ?_
  refine fin_tmp Try.results56 (v := (.bool (!(freeB ow (m + c))))) rfl ?_
  exact ⟨rfl, E⟩
def natV (l : List Nat) : List Int := l.map fun n => ((n : Nat) : Int)
set_option maxHeartbeats 1000000 in
theorem indices_c (w0 : World) (v : Value) (row : List Int) (h : IntsAt w0 v row) (hl : row.length ≤ 1000000) :
    Ret Try.prog 55 #[v] w0 fun r w => (∃ a c, r = .slice a (idxs row).length c ∧ w.ownsRow w0.heap.size TI 1 r (idxs row).length ((natV (idxs row)).map (Value.int .i64))) ∧ Ext w0 w := by
  obtain ⟨a, c, rfl⟩ := SlAt.form h
  simp only [List.length_map] at h ⊢
  obtain ⟨base, hbase⟩ : ∃ base, base = w0.heap.size := ⟨_, rfl⟩
  refine Ret_of Try.func55 rfl Try.ntmps55 (Nat.le_of_ble_eq_true rfl) ?_
  have E : Chg none1 w0 w0 := Chg.refl _ _
  refine Wp_seq_region ?_
  refine WpL_val rfl rfl (by decide) (r_assign (v := (.slice none 0 0)) rfl) ?_
  refine WpL_nil ?_
  refine Wp_seq_region ?_
  refine WpL_val rfl rfl (by decide) (r_assign (v := (.slice none 0 0)) rfl) ?_
  refine WpL_nil ?_
  refine Wp_seq ?_
  refine Wp_seq_region ?_
  refine WpL_val rfl rfl (by decide) (r_move (v := (.slice a row.length c)) rfl) ?_
  refine WpL_val rfl rfl (by decide) (r_lenSlice (ad := a) (n := row.length) (cap := c) Try.underlying26 rfl) ?_
  refine WpL_val rfl rfl (by decide) (r_move (v := (.int .i64 0)) rfl) ?_
  refine WpL_nil ?_
  refine Wp_block ?_
  refine Wp_loop (fun nn_ σ W1 => ∃ (k : Nat) (la : Option Addr) (lc : Nat) (m : Nat), (∃ jj_, σ = upds jj_ [(6, (.slice a row.length c)), (7, (.int .i64 ((row.length : Nat) : Int))), (8, (.int .i64 ((k : Nat) : Int))), (3, (.slice la m lc))]) ∧ Chg none1 w0 W1 ∧ (k ≤ row.length) ∧ (m = (idxsN row k).length) ∧ (W1.ownsRow base TI 1 (.slice la m lc) m ((natV (idxsN row k)).map (Value.int .i64))) ∧ (base ≤ W1.heap.size) ∧ nn_ = row.length - k) (n := row.length - 0) ?_ ?_
  · exact ⟨0, none, 0, 0, Fits.out ⟨rfl, rfl, rfl, rfl, trivial⟩, E, Nat.zero_le _, rfl, World.ownsRow_nil _ _ _ _, (by omega), rfl⟩
  · clear E
    rintro _ _ W1 ⟨k, la, lc, m, ⟨j1, rfl⟩, E, hk, hm, hown, hbs, rfl⟩
    refine Wp_seq_region ?_
    refine WpL_val rfl rfl (by decide) (r_lss (k := .i64) (a := ((k : Nat) : Int)) (b := ((row.length : Nat) : Int)) rfl rfl) ?_
    refine WpL_nil ?_
    refine Wp_seq ?_
    refine Wp_cond (b := decide ((((k : Nat) : Int) : Int) < ((row.length : Nat) : Int))) rfl (fun hlt => ?_) (fun hlt => ?_)
    · have khlt := hlt
      replace hlt := of_decide_eq_true hlt
      obtain ⟨x, hx⟩ := get_of_lt (l := row) (i := k) (by omega)
      obtain ⟨b, o, hab, hcl⟩ := ints_cells h (by omega)
      subst hab
      have hsucc := idxsN_succ hx
      have hmle := idxsN_le row k
      refine Wp_skip ?_
      refine thn_normal ?_
      refine Wp_seq ?_
      refine Wp_block ?_
      refine Wp_seq_region ?_
      refine WpL_val rfl rfl (by decide) (r_move (v := (.int .i64 ((k : Nat) : Int))) rfl) ?_
      refine WpL_val rfl rfl (by decide) (r_indexSlice (b := b) (o := o) (len := row.length) (cap := c) (i := k) (o' := o + k) rfl rfl rfl Try.underlying26 siz3 (by omega) (by omega)) ?_
      refine WpL_val rfl rfl (by decide) (r_load (v := (.int .i64 x)) rfl flat3 (E.cell (fun f => f) (hcl k x hx))) ?_
      refine WpL_val rfl rfl (by decide) (r_assign (v := (.int .i64 ((k : Nat) : Int))) rfl) ?_
      refine WpL_val rfl rfl (by decide) (r_assign (v := (.int .i64 x)) rfl) ?_
      refine WpL_nil ?_
      refine Wp_seq_region ?_
      refine WpL_val rfl rfl (by decide) (r_move (v := (.int .i64 x)) rfl) ?_
      refine WpL_val rfl rfl (by decide) (r_geq (k := .i64) (a := x) (b := 0) rfl rfl) ?_
      refine WpL_nil ?_
      refine Wp_cond (b := decide ((0 : Int) ≤ x)) rfl (fun h0 => ?_) (fun h0 => ?_)
      · have kh0 := h0
        replace h0 := of_decide_eq_true h0
        refine Wp_region ?_
        refine WpL_val rfl rfl (by decide) (r_move (v := (.slice la m lc)) rfl) ?_
        refine WpL_val rfl rfl (by decide) (r_move (v := (.int .i64 ((k : Nat) : Int))) rfl) ?_
        refine s_buildSlice (ps := [(0, (.int .i64 ((k : Nat) : Int)))]) (c := #[(.int .i64 ((k : Nat) : Int))]) (by decide) rfl Try.underlying26 siz3 zer3 (by decide) (by decide) (by kernel_rfl) ?_
        intro bq wq Nq
        have Fq := Nq.ge E
        replace hown := own_ext hown Nq.ext
        replace hbs := Nat.le_trans hbs Nq.ext.size
        replace E := E.ext Nq.ext
        have Bq := Nq.blk
        refine s_append (base := base) (n := m) (m := 1) (xs := (natV (idxsN row k)).map (Value.int .i64)) (news := [(.int .i64 ((k : Nat) : Int))]) (size := 1) (bytes := 8) (v := (.slice la m lc)) (by decide) Try.underlying26 siz3 byt3 zer3 rfl (by decide) rfl hown rfl (rfl) (Bq.cells rfl) (by simp [Value.oneCell']) (by unfold maxLen; omega) (by omega) (hbs) ?_
        intro v9 w29 Ov9 Cv9 Dv9
        replace E := E.step Cv9 (fun x hx h => absurd (hown.lt x h).1 (by omega))
        obtain ⟨la2, lc2, rfl⟩ := own_form Ov9
        refine WpL_val rfl rfl (by decide) (r_assign (v := (.slice la2 (m + 1) lc2)) rfl) ?_
        refine WpL_nil ?_
        refine inB_normal ?_
        refine thn_normal ?_
        refine Wp_region ?_
        refine WpL_val rfl rfl (by decide) (r_add (k := .i64) (a := ((k : Nat) : Int)) (b := 1) (c := ((k : Nat) : Int) + 1) rfl rfl (wI64 (by omega))) ?_
        refine WpL_val rfl rfl (by decide) (r_move (v := (.int .i64 (((k : Nat) : Int) + 1))) rfl) ?_
        refine WpL_nil ?_
        refine thn_normal ?_
        exact ⟨row.length - (k + 1), by omega, k + 1, la2, lc2, m + 1, Fits.out ⟨rfl, rfl, rfl, rfl, trivial⟩, E, (by omega), (by rw [hsucc, if_pos h0, hm]; simp), (by rw [hsucc, if_pos h0]; simpa [natV] using Ov9), Nat.le_trans hbs Cv9.size, rfl⟩
      · have kh0 := h0
        replace h0 := of_decide_eq_false h0
        refine Wp_skip ?_
        refine inB_normal ?_
        refine thn_normal ?_
        refine Wp_region ?_
        refine WpL_val rfl rfl (by decide) (r_add (k := .i64) (a := ((k : Nat) : Int)) (b := 1) (c := ((k : Nat) : Int) + 1) rfl rfl (wI64 (by omega))) ?_
        refine WpL_val rfl rfl (by decide) (r_move (v := (.int .i64 (((k : Nat) : Int) + 1))) rfl) ?_
        refine WpL_nil ?_
        refine thn_normal ?_
        exact ⟨row.length - (k + 1), by omega, k + 1, la, lc, m, Fits.out ⟨rfl, rfl, rfl, rfl, trivial⟩, E, (by omega), (by rw [hsucc, if_neg h0, hm]; simp), (by rw [hsucc, if_neg h0]; simpa using hown), hbs, rfl⟩
    · have khlt := hlt
      replace hlt := of_decide_eq_false hlt
      have hkk : k = row.length := by omega
      refine Wp_exit ?_
      refine thn_exit ?_
      refine thn_exit ?_
      refine inB_here ?_
      refine thn_normal ?_
      refine Wp_seq_region ?_
      refine WpL_val rfl rfl (by decide) (r_move (v := (.slice la m lc)) rfl) ?_
      refine WpL_val rfl rfl (by decide) (r_assign (v := (.slice la m lc)) rfl) ?_
      refine WpL_nil ?_
      refine Wp_ret ?_
      refine fin_tmp Try.results55 (v := (.slice la m lc)) rfl ?_
      have hm2 : m = (idxs row).length := by rw [hm, hkk]; rfl
      subst hm2
      subst hbase
      rw [hkk] at hown
      exact ⟨⟨la, lc, rfl, hown⟩, E⟩
end Go.Proofs
namespace Go.Proofs
open Go Go.Eng
structure PSt (rows : List (List Int)) (order : List Nat) (cols j : Nat) (owner nxt : List Int) (bs : List Nat) : Prop where
  pk : Packed rows (allFp rows (order.take j)) owner nxt bs
  ol : owner.length ≤ j * cols
  bl : bs.length = rows.length
  bm : ∀ b ∈ bs, b = 0 ∨ b + cols ≤ rows.length * cols
  tr : PTr rows order j owner nxt bs
theorem freeB_getD {ow : List Int} {i : Nat} : freeB ow i = true ↔ ow.getD i (-1) < 0 := by
  rw [freeB_iff, List.getD_eq_getElem?_getD]
  constructor
  · rintro (h | ⟨x, h1, h2⟩)
    · rw [List.getElem?_eq_none h]; decide
    · rw [h1]; exact h2
  · intro h
    rcases Nat.lt_or_ge i ow.length with h1 | h1
    · rw [List.getElem?_eq_getElem h1] at h
      exact .inr ⟨_, List.getElem?_eq_getElem h1, h⟩
    · exact .inl h1
theorem PSt.start (rows : List (List Int)) (order : List Nat) (cols : Nat) : PSt rows order cols 0 [] [] (List.replicate rows.length 0) :=
  ⟨by simpa [allFp] using Packed.nil rows _, by simp, by simp, fun b hb => .inl (List.mem_replicate.1 hb).2, PTr.start rows order⟩
theorem getD_of {rows : List (List Int)} {s : Nat} {row : List Int} (h : rows[s]? = some row) : rows.getD s [] = row := by rw [List.getD_eq_getElem?_getD, h]; rfl
theorem PSt.skip {rows : List (List Int)} {order : List Nat} {cols j s : Nat} {owner nxt : List Int} {bs : List Nat} {row : List Int} (h : PSt rows order cols j owner nxt bs) (hs : order[j]? = some s) (hrow : rows[s]? = some row) (h0 : idxs row = []) : PSt rows order cols (j + 1) owner nxt bs := by
  refine ⟨?_, by have := h.ol; rw [Nat.succ_mul]; omega, h.bl, h.bm, h.tr.skip hs hrow h0⟩
  have : rowF rows s = [] := by unfold rowF; rw [getD_of hrow, h0]; rfl
  rw [allF_take hs, this, List.append_nil]
  exact h.pk
structure QSt (rows : List (List Int)) (order : List Nat) (cols j s m : Nat) (row : List Int) (q : Nat) (owner nxt : List Int) (bs : List Nat) : Prop where
  pk : Packed rows (allFp rows (order.take j) ++ (rowF rows s).take q) owner nxt bs
  hb : bs[s]? = some m
  fr : ∀ (i c : Nat), q ≤ i → (idxs row)[i]? = some c → freeB owner (m + c) = true
  mb : m ≤ j * cols
  ol : owner.length ≤ (j + 1) * cols
  bl : bs.length = rows.length
  bm : ∀ b ∈ bs, b = 0 ∨ b + cols ≤ rows.length * cols
  tr : QTr rows order j s m row q owner nxt bs
theorem QSt.start {rows : List (List Int)} {order : List Nat} {cols j s m : Nat} {row owner nxt : List Int} {bs : List Nat} (h : PSt rows order cols j owner nxt bs) (hs : order[j]? = some s) (hnd : order.Nodup) (hsl : s < rows.length) (hm : m ≤ owner.length) (hj : j < rows.length) (hfr : ∀ c ∈ idxs row, freeB owner (m + c) = true) (hmin : ∀ b', b' < m → ∃ c ∈ idxs row, freeB owner (b' + c) = false) : QSt rows order cols j s m row 0 owner nxt (bs.set s m) := by
  have hmj : m ≤ j * cols := Nat.le_trans hm h.ol
  refine ⟨?_, List.getElem?_set_self (by rw [h.bl]; exact hsl), fun i c _ hc => hfr c (List.mem_of_getElem? hc), hmj, by have := h.ol; rw [Nat.succ_mul]; omega, by rw [List.length_set, h.bl], fun b hb => ?_, QTr.start h.tr hsl h.bl (fun c hc => freeB_getD.1 (hfr c hc)) fun b' hb' => by obtain ⟨c, h1, h2⟩ := hmin b' hb'; exact ⟨c, h1, Int.not_lt.1 fun h3 => by rw [freeB_getD.2 h3] at h2; cases h2⟩⟩
  · rw [List.take_zero, List.append_nil]
    refine h.pk.base (fun c hc => ?_) m
    rw [mem_allF] at hc
    obtain ⟨i, hi⟩ := List.getElem?_of_mem hc.1
    have hil : i < j := by have := lt_of_get hi; simp at this; omega
    rw [List.getElem?_take_of_lt hil] at hi
    have := (List.getElem?_inj (lt_of_get hi) hnd).1 (hi.trans hs.symm)
    omega
  · rcases List.mem_or_eq_of_mem_set hb with hb | rfl
    · exact h.bm b hb
    · right
      have : (j + 1) * cols ≤ rows.length * cols := Nat.mul_le_mul_right _ hj
      rw [Nat.succ_mul] at this
      omega
theorem freeB_pad {ow : List Int} {i : Nat} (h : freeB ow i = true) : freeB (ow ++ [-1]) i = true := by
  rw [freeB_iff] at h ⊢
  rcases h with h | ⟨x, h1, h2⟩
  · rcases Nat.lt_or_eq_of_le h with h1 | h1
    · left; simp; omega
    · right
      refine ⟨-1, ?_, by decide⟩
      rw [← h1, List.getElem?_append_right (Nat.le_refl _)]; simp
  · right
    exact ⟨x, by rw [List.getElem?_append_left (lt_of_get h1)]; exact h1, h2⟩
theorem QSt.pad {rows : List (List Int)} {order : List Nat} {cols j s m q c : Nat} {row owner nxt : List Int} {bs : List Nat} (h : QSt rows order cols j s m row q owner nxt bs) (hlen : owner.length ≤ m + c) (hc : c < cols) (hci : c ∈ idxs row) : QSt rows order cols j s m row q (owner ++ [-1]) (nxt ++ [-1]) bs :=
  ⟨h.pk.pad, h.hb, fun i c' hi hc' => freeB_pad (h.fr i c' hi hc'), h.mb, by have := h.mb; simp; rw [Nat.succ_mul]; omega, h.bl, h.bm, h.tr.pad hlen hci⟩
theorem QSt.put {rows : List (List Int)} {order : List Nat} {cols j s m q c : Nat} {row owner nxt : List Int} {bs : List Nat} {x : Int} (h : QSt rows order cols j s m row q owner nxt bs) (hrow : rows[s]? = some row) (hq : (idxs row)[q]? = some c) (hx : row[c]? = some x) (hlen : m + c < owner.length) : QSt rows order cols j s m row (q + 1) (owner.set (m + c) ((s : Nat) : Int)) (nxt.set (m + c) x) bs := by
  have h0 : 0 ≤ x := by
    obtain ⟨y, h1, h2⟩ := mem_idxs.1 (List.mem_of_getElem? hq)
    rw [hx] at h1; cases h1; exact h2
  have hf := freeB_iff.1 (h.fr q c (Nat.le_refl _) hq)
  have hm1 : owner[m + c]? = some (-1) := by
    rcases hf with hf | ⟨y, h1, h2⟩
    · omega
    · rcases h.pk.slot (m + c) hlen with ⟨h3, _⟩ | ⟨s', c', b', x', row', _, _, _, h3, _⟩
      · exact h3
      · rw [h3] at h1; simp at h1; omega
  have hr : (rowF rows s)[q]? = some (s, c) := by unfold rowF; rw [getD_of hrow, List.getElem?_map, hq]; rfl
  refine ⟨?_, h.hb, fun i c' hi hc' => ?_, h.mb, by simpa using h.ol, h.bl, h.bm, h.tr.put hq hx hlen⟩
  · rw [List.take_add_one, hr, ← List.append_assoc]
    exact h.pk.put h.hb hm1 hrow hx h0
  · have hne : c' ≠ c := by
      intro he
      subst he
      have := (List.getElem?_inj (lt_of_get hc') (idxs_nodup row)).1 (hc'.trans hq.symm)
      omega
    have h4 := freeB_iff.1 (h.fr i c' (by omega) hc')
    refine freeB_iff.2 ?_
    rw [List.length_set]
    rcases h4 with h4 | ⟨y, h5, h6⟩
    · exact .inl h4
    · exact .inr ⟨y, by rw [List.getElem?_set_ne (by omega)]; exact h5, h6⟩
theorem QSt.done {rows : List (List Int)} {order : List Nat} {cols j s m : Nat} {row owner nxt : List Int} {bs : List Nat} (h : QSt rows order cols j s m row (idxs row).length owner nxt bs) (hs : order[j]? = some s) (hrow : rows[s]? = some row) (h0 : idxs row ≠ []) : PSt rows order cols (j + 1) owner nxt bs := by
  refine ⟨?_, h.ol, h.bl, h.bm, h.tr.done hs hrow h0⟩
  have := h.pk
  have hl : (rowF rows s).length = (idxs row).length := by unfold rowF; rw [getD_of hrow, List.length_map]
  rw [← hl, List.take_length] at this
  rw [allF_take hs]; exact this
def ApartV (u v : Value) : Prop := ∀ y, u.ownBlock = some y → v.ownBlock ≠ some y
structure OSt (n2 : Nat) (B : Nat → Prop) (w : World) (vo vn : Value) (L : Nat) (owner nxt : List Int) : Prop where
  o : w.ownsRow n2 TI 1 vo L (owner.map (Value.int .i64))
  n : w.ownsRow n2 TI 1 vn L (nxt.map (Value.int .i64))
  ap : ApartV vo vn
  ob : ∀ b, vo.ownBlock = some b → ¬ B b
  nb : ∀ b, vn.ownBlock = some b → ¬ B b
  ol : owner.length = L
  nl : nxt.length = L
theorem OSt.start (n2 : Nat) (B : Nat → Prop) (w : World) : OSt n2 B w (.slice none 0 0) (.slice none 0 0) 0 [] [] :=
  ⟨World.ownsRow_nil _ _ _ _, World.ownsRow_nil _ _ _ _, (fun k h => by cases h), (fun k h => by cases h), (fun k h => by cases h), rfl, rfl⟩
section
variable {n2 L : Nat} {B B' M : Nat → Prop} {w w' : World} {vo vn : Value} {owner nxt : List Int}
theorem OSt.ext (h : OSt n2 B w vo vn L owner nxt) (e : Ext w w') : OSt n2 B w' vo vn L owner nxt := ⟨own_ext h.o e, own_ext h.n e, h.ap, h.ob, h.nb, h.ol, h.nl⟩
theorem OSt.chg (h : OSt n2 B w vo vn L owner nxt) (e : Chg M w w') (hM : ∀ y, M y → y < n2 ∨ B y) : OSt n2 B w' vo vn L owner nxt := by
  refine ⟨own_chg h.o e (fun k hk hm => ?_), own_chg h.n e (fun k hk hm => ?_), h.ap, h.ob, h.nb, h.ol, h.nl⟩
  · rcases hM k hm with h1 | h1
    · have := (h.o.lt k hk).1; omega
    · exact h.ob k hk h1
  · rcases hM k hm with h1 | h1
    · have := (h.n.lt k hk).1; omega
    · exact h.nb k hk h1
theorem OSt.new (h : OSt n2 B w vo vn L owner nxt) : ∀ y, w.heap.size ≤ y → vo.ownBlock ≠ some y ∧ vn.ownBlock ≠ some y := fun y hy => ⟨fun he => by have := h.o.lt y he; omega, fun he => by have := h.n.lt y he; omega⟩
theorem OSt.fresh (h : OSt n2 B w vo vn L owner nxt) (hb : ∀ y, B' y → B y ∨ (vo.ownBlock ≠ some y ∧ vn.ownBlock ≠ some y)) : OSt n2 B' w vo vn L owner nxt :=
  ⟨h.o, h.n, h.ap, fun y hy hB => (hb y hB).elim (h.ob y hy) (fun k => k.1 hy), fun y hy hB => (hb y hB).elim (h.nb y hy) (fun k => k.2 hy), h.ol, h.nl⟩
theorem OSt.pad {wb : World} {vo' vn' : Value} (h : OSt n2 B w vo vn L owner nxt) (O : wb.ownsRow n2 TI 1 vo' (L + 1) (owner.map (Value.int .i64) ++ [.int .i64 (-1)])) (D : ∀ k, vo'.ownBlock = some k → vo.ownBlock = some k ∨ w.heap.size ≤ k)
    (O' : wb.ownsRow n2 TI 1 vn' (L + 1) (nxt.map (Value.int .i64) ++ [.int .i64 (-1)])) (D' : ∀ k, vn'.ownBlock = some k → vn.ownBlock = some k ∨ w.heap.size ≤ k) (ap : ApartV vo' vn') (hB : ∀ y, B y → y < w.heap.size) : OSt n2 B wb vo' vn' (L + 1) (owner ++ [-1]) (nxt ++ [-1]) := by
  refine ⟨by simpa using O, by simpa using O', ap, fun k hk hm => ?_, fun k hk hm => ?_, by simp [h.ol], by simp [h.nl]⟩
  · rcases D k hk with h1 | h1
    · exact h.ob k h1 hm
    · have := hB k hm; omega
  · rcases D' k hk with h1 | h1
    · exact h.nb k h1 hm
    · have := hB k hm; omega
end
theorem own_ints {w : World} {base n : Nat} {v : Value} {l : List Int} (h : w.ownsRow base TI 1 v n (l.map (Value.int .i64))) (hn : l.length = n) : IntsAt w v l := by
  rw [← flat_intV] at h
  exact own_slat h (by intro r hr; simp only [List.mem_map] at hr; obtain ⟨p, _, rfl⟩ := hr; rfl) (by simpa using hn) (by decide)
theorem own_blkL {w : World} {base n c : Nat} {a : Option Addr} {l : List Int} (h : w.ownsRow base TI 1 (.slice a n c) n (l.map (Value.int .i64))) (hn : 0 < n) : ∃ g rest, a = some ⟨g, 0, none⟩ ∧ base ≤ g ∧ n ≤ c ∧ c ≤ maxLen ∧ (l.map (Value.int .i64) ++ rest).length = c ∧ Blk w g (l.map (Value.int .i64) ++ rest).toArray TI := by
  rcases h.2 with ⟨h1, rfl⟩ | ⟨g, cap, cur, hv, hb, hgg, hnc, hcm, hcs, htake⟩
  · omega
  · simp only [Value.slice.injEq] at hv
    obtain ⟨rfl, _, rfl⟩ := hv
    have e1 : l.map (Value.int .i64) ++ cur.toList.drop (n * 1) = cur.toList := by rw [← htake, List.take_append_drop]
    refine ⟨g, cur.toList.drop (n * 1), rfl, hb, hnc, hcm, by rw [e1]; simpa using hcs, ?_⟩
    rw [e1]
    exact hgg
theorem blk_own {w : World} {base g n c : Nat} {l : List Int} {rest : List Value} (h : Blk w g (l.map (Value.int .i64) ++ rest).toArray TI) (hb : base ≤ g) (hn : l.length = n) (hc : n ≤ c) (hm : c ≤ maxLen) (hl : (l.map (Value.int .i64) ++ rest).length = c) : w.ownsRow base TI 1 (.slice (some ⟨g, 0, none⟩) n c) n (l.map (Value.int .i64)) :=
  ⟨by simpa using hn, .inr ⟨g, c, _, rfl, hb, h, hc, hm, by simpa using hl, by simp [← hn]⟩⟩
theorem natV_mem {x : Int} {l : List Nat} (h : x ∈ natV l) : ∃ s, s ∈ l ∧ x = ((s : Nat) : Int) := by
  simp only [natV, List.mem_map] at h
  obtain ⟨s, h1, h2⟩ := h
  exact ⟨s, h1, h2.symm⟩
theorem natV_get {l : List Nat} {i s : Nat} (h : l[i]? = some s) : (natV l)[i]? = some ((s : Nat) : Int) := by simp [natV, h]
theorem natV_set {l : List Nat} {i s : Nat} : (natV l).set i ((s : Nat) : Int) = natV (l.set i s) := by simp [natV, List.map_set]
theorem natV_perm {l' : List Int} {l : List Nat} (h : List.Perm l' (natV l)) : ∃ o : List Nat, l' = natV o ∧ List.Perm o l := by
  have h1 : l' = natV (l'.map Int.toNat) := by
    unfold natV
    rw [List.map_map]
    have : ∀ x ∈ l', ((fun n : Nat => ((n : Nat) : Int)) ∘ Int.toNat) x = x := fun x hx => by
      obtain ⟨s, _, rfl⟩ := natV_mem (h.mem_iff.1 hx)
      simp
    conv => lhs; rw [← List.map_id l']
    exact (List.map_congr_left this).symm
  refine ⟨l'.map Int.toNat, h1, ?_⟩
  have h2 := h.map Int.toNat
  have h3 : (natV l).map Int.toNat = l := by
    unfold natV
    rw [List.map_map]
    conv => rhs; rw [← List.map_id l]
    exact List.map_congr_left fun x _ => by simp
  rwa [h3] at h2
theorem row_free {owner : List Int} {m : Nat} {is : List Nat} (hm : owner.length ≤ m) : (natV is).any (fun x => !freeB owner (m + x.toNat)) = false := by
  rw [List.any_eq_false]
  intro x hx
  obtain ⟨s, _, rfl⟩ := natV_mem hx
  have : freeB owner (m + ((s : Nat) : Int).toNat) = true := freeB_iff.2 (.inl (by simp; omega))
  rw [this]; simp
theorem any_free {owner : List Int} {m : Nat} {is : List Nat} (h : (natV is).any (fun x => !freeB owner (m + x.toNat)) = false) : ∀ c ∈ is, freeB owner (m + c) = true := by
  intro c hc
  rw [List.any_eq_false] at h
  have := h ((c : Nat) : Int) (List.mem_map.2 ⟨c, hc, rfl⟩)
  simpa using this
end Go.Proofs
namespace Go.Proofs
open Go Go.Eng
--BEGIN
/-- l' is l rearranged within [a, b); what is overtaken has a greater key. -/
structure Rar (κ : Int → Int) (a b : Nat) (l l' : List Int) (f : Nat → Nat) : Prop where
  idx : ∀ x, l'[x]? = l[f x]?
  out : ∀ x, x < a ∨ b ≤ x → f x = x
  inn : ∀ x, a ≤ x → x < b → a ≤ f x ∧ f x < b
  inv : ∀ (x y : Nat) (u v : Int), x < y → l'[x]? = some u → l'[y]? = some v → f y < f x → κ u < κ v
theorem Rar.refl (κ : Int → Int) (a b : Nat) (l : List Int) : Rar κ a b l l id := ⟨fun _ => rfl, fun _ _ => rfl, fun _ h1 h2 => ⟨h1, h2⟩, fun x y u v h _ _ h2 => by simp only [id] at h2; omega⟩
theorem Rar.trans {κ : Int → Int} {a b : Nat} {l l' l'' : List Int} {f g : Nat → Nat} (h : Rar κ a b l l' f) (k : Rar κ a b l' l'' g) : Rar κ a b l l'' (fun x => f (g x)) where
  idx := fun x => by rw [k.idx, h.idx]
  out := fun x hx => by show f (g x) = x; rw [k.out x hx, h.out x hx]
  inn := fun x h1 h2 => by
    obtain ⟨h3, h4⟩ := k.inn x h1 h2
    exact h.inn _ h3 h4
  inv := fun x y u v hxy hu hv hlt => by
    rcases Nat.lt_trichotomy (g x) (g y) with h1 | h1 | h1
    · exact h.inv (g x) (g y) u v h1 (by rw [← k.idx]; exact hu) (by rw [← k.idx]; exact hv) hlt
    · simp only [h1] at hlt; omega
    · exact k.inv x y u v hxy hu hv h1
theorem Rar.wide {κ : Int → Int} {a b a' b' : Nat} {l l' : List Int} {f : Nat → Nat} (h : Rar κ a b l l' f) (ha : a' ≤ a) (hb : b ≤ b') : Rar κ a' b' l l' f :=
  ⟨h.idx, fun x hx => h.out x (by omega), fun x h1 h2 => by
    by_cases h3 : a ≤ x ∧ x < b
    · obtain ⟨h4, h5⟩ := h.inn x h3.1 h3.2
      omega
    · rw [h.out x (by omega)]; exact ⟨h1, h2⟩, h.inv⟩
/-- Sorted between two places. -/
def SrtR (κ : Int → Int) (l : List Int) (a b : Nat) : Prop := ∀ (i j : Nat) (x y : Int), a ≤ i → i < j → j < b → l[i]? = some x → l[j]? = some y → κ x ≤ κ y
theorem SrtR.one (κ : Int → Int) (l : List Int) {a b : Nat} (h : b ≤ a + 1) : SrtR κ l a b := fun i j x y h1 h2 h3 => by omega
theorem SrtR.sub {κ : Int → Int} {l : List Int} {a b a' b' : Nat} (h : SrtR κ l a b) (ha : a ≤ a') (hb : b' ≤ b) : SrtR κ l a' b' := fun i j x y h1 h2 h3 => h i j x y (by omega) h2 (by omega)
theorem SrtR.le {κ : Int → Int} {l : List Int} {a b : Nat} (h : SrtR κ l a b) {i j : Nat} {x y : Int} (h1 : a ≤ i) (h2 : i ≤ j) (h3 : j < b) (hx : l[i]? = some x) (hy : l[j]? = some y) : κ x ≤ κ y := by
  rcases Nat.lt_or_eq_of_le h2 with h4 | h4
  · exact h i j x y h1 h4 h3 hx hy
  · subst h4; rw [hx] at hy; cases hy; exact Int.le_refl _
/-- The same list elsewhere. -/
theorem SrtR.move {κ : Int → Int} {l l' : List Int} {a b : Nat} (h : SrtR κ l a b) (g : Nat → Nat) {a' b' : Nat} (hi : ∀ x, a' ≤ x → x < b' → l'[x]? = l[g x]?) (hr : ∀ x, a' ≤ x → x < b' → a ≤ g x ∧ g x < b) (hm : ∀ x y, a' ≤ x → x < y → y < b' → g x < g y) : SrtR κ l' a' b' := fun i j x y h1 h2 h3 hx hy => by
  rw [hi i h1 (by omega)] at hx
  rw [hi j (by omega) h3] at hy
  exact h (g i) (g j) x y (hr i h1 (by omega)).1 (hm i j h1 h2 h3) (hr j (by omega) h3).2 hx hy
theorem SrtR.join {κ : Int → Int} {l : List Int} {a m b : Nat} (h1 : SrtR κ l a m) (h2 : SrtR κ l m b) (h : ∀ (i j : Nat) (x y : Int), a ≤ i → i < m → m ≤ j → j < b → l[i]? = some x → l[j]? = some y → κ x ≤ κ y) : SrtR κ l a b := fun i j x y ha hij hb hx hy => by
  by_cases h3 : j < m
  · exact h1 i j x y ha hij h3 hx hy
  · by_cases h4 : i < m
    · exact h i j x y ha h4 (by omega) hb hx hy
    · exact h2 i j x y (by omega) hij hb hx hy
/-- The swap of two places. -/
theorem swap_get {l : List Int} {i j : Nat} {x y : Int} (hi : l[i]? = some x) (hj : l[j]? = some y) (z : Nat) : ((l.set i y).set j x)[z]? = l[if z = j then i else if z = i then j else z]? := by
  have h1 := lt_of_get hi
  have h2 := lt_of_get hj
  by_cases hz : z = j
  · subst hz
    rw [if_pos rfl, List.getElem?_set_self (by simpa using h2), hi]
  · rw [if_neg hz, List.getElem?_set_ne (fun h => hz h.symm)]
    by_cases hz2 : z = i
    · subst hz2
      rw [if_pos rfl, List.getElem?_set_self h1, hj]
    · rw [if_neg hz2, List.getElem?_set_ne (fun h => hz2 h.symm)]
/-- A list in a stable order is the only one. -/
theorem rar_uniq {κ : Int → Int} {n : Nat} {l' : List Int} {f : Nat → Nat} (h : Rar κ 0 n ((List.range n).map fun s => ((s : Nat) : Int)) l' f) (hs : SrtR κ l' 0 n) (hl : l'.length = n) (hd : l'.Nodup) : l'.Pairwise fun u v => κ u < κ v ∨ (κ u = κ v ∧ u < v) := by
  rw [List.pairwise_iff_getElem]
  intro i j hi hj hij
  have e1 : l'[i]? = some l'[i] := List.getElem?_eq_getElem hi
  have e2 : l'[j]? = some l'[j] := List.getElem?_eq_getElem hj
  have h1 := hs i j _ _ (Nat.zero_le _) hij (by omega) e1 e2
  have key : ∀ (z : Nat) (u : Int), ((List.range n).map fun s => ((s : Nat) : Int))[z]? = some u → u = ((z : Nat) : Int) := fun z u hz => by
    have := lt_of_get hz
    simp at this
    rw [List.getElem?_map, List.getElem?_range this] at hz
    simpa using hz.symm
  have k1 := key _ _ ((h.idx i).symm.trans e1)
  have k2 := key _ _ ((h.idx j).symm.trans e2)
  rcases Int.lt_or_eq_of_le h1 with h2 | h2
  · exact .inl h2
  · refine .inr ⟨h2, ?_⟩
    rcases Nat.lt_trichotomy (f i) (f j) with h3 | h3 | h3
    · rw [k1, k2]; omega
    · exfalso
      have h4 : l'[i] = l'[j] := by rw [k1, k2, h3]
      have := (List.getElem_inj hd).1 h4
      omega
    · have := h.inv i j _ _ hij e1 e2 h3
      omega
--END
end Go.Proofs
namespace Go.Proofs
open Go Go.Eng
set_option maxRecDepth 100000
structure InsR (κ : Int → Int) (cu : List Int) (a i j : Nat) : Prop where
  oth : ∀ (p q : Nat) (x y : Int), a ≤ p → p < q → q ≤ i → p ≠ j → q ≠ j → cu[p]? = some x → cu[q]? = some y → κ x ≤ κ y
  aft : ∀ (q : Nat) (x y : Int), j < q → q ≤ i → cu[j]? = some x → cu[q]? = some y → κ x ≤ κ y
theorem InsR.start {κ : Int → Int} {cu : List Int} {a i : Nat} (h : SrtR κ cu a i) : InsR κ cu a i i := ⟨fun p q x y h1 h2 h3 _ h5 => h p q x y h1 h2 (by omega), fun q x y h1 h2 => by omega⟩
theorem Rar.swap {κ : Int → Int} {l : List Int} {a b j : Nat} {x y : Int} (hx : l[j]? = some x) (hy : l[j - 1]? = some y) (ha : a ≤ j - 1) (hj : 1 ≤ j) (hb : j < b) (hk : κ x < κ y) : Rar κ a b l ((l.set j y).set (j - 1) x) (fun z => if z = j - 1 then j else if z = j then j - 1 else z) where
  idx := swap_get hx hy
  out := fun z hz => by rw [if_neg (by omega), if_neg (by omega)]
  inn := fun z h1 h2 => by split <;> (try split) <;> omega
  inv := fun p q u v hpq hu hv hlt => by
    rw [swap_get hx hy] at hu hv
    have hp : p = j - 1 := by
      repeat' split at hlt
      all_goals omega
    have hq : q = j := by
      repeat' split at hlt
      all_goals omega
    rw [if_pos hp, hx] at hu
    rw [if_neg (by omega), if_pos hq, hy] at hv
    cases hu; cases hv
    exact hk
theorem InsR.step {κ : Int → Int} {cu : List Int} {a i j : Nat} {x y : Int} (h : InsR κ cu a i j) (hx : cu[j]? = some x) (hy : cu[j - 1]? = some y) (hj : a < j) (hk : κ x < κ y) : InsR κ ((cu.set j y).set (j - 1) x) a i (j - 1) where
  oth := fun p q u v h1 h2 h3 h4 h5 hu hv => by
    rw [swap_get hx hy, if_neg h4] at hu
    rw [swap_get hx hy, if_neg h5] at hv
    by_cases hp : p = j
    · rw [if_pos hp] at hu
      rw [if_neg (by omega)] at hv
      exact h.oth (j - 1) q u v (by omega) (by omega) h3 (by omega) (by omega) hu hv
    · rw [if_neg hp] at hu
      by_cases hq : q = j
      · rw [if_pos hq] at hv
        exact h.oth p (j - 1) u v h1 (by omega) (by omega) hp (by omega) hu hv
      · rw [if_neg hq] at hv
        exact h.oth p q u v h1 h2 h3 hp hq hu hv
  aft := fun q u v h1 h2 hu hv => by
    rw [swap_get hx hy, if_pos rfl, hx] at hu
    cases hu
    rw [swap_get hx hy, if_neg (by omega)] at hv
    by_cases hq : q = j
    · rw [if_pos hq, hy] at hv
      cases hv; omega
    · rw [if_neg hq] at hv
      exact h.aft q x v (by omega) h2 hx hv
theorem InsR.done {κ : Int → Int} {cu : List Int} {a i j : Nat} (h : InsR κ cu a i j) (hj : j ≤ i) (hd : j ≤ a ∨ ∃ x y, cu[j]? = some x ∧ cu[j - 1]? = some y ∧ κ y ≤ κ x) : SrtR κ cu a (i + 1) := fun p q u v h1 h2 h3 hu hv => by
  by_cases hp : p = j
  · subst hp
    exact h.aft q u v h2 (by omega) hu hv
  · by_cases hq : q = j
    · subst hq
      rcases hd with hd | ⟨x, y, hx, hy, hk⟩
      · omega
      · rw [hx] at hv; cases hv
        by_cases hp1 : p = q - 1
        · subst hp1; rw [hy] at hu; cases hu; exact hk
        · have := h.oth p (q - 1) u y h1 (by omega) (by omega) hp (by omega) hu hy
          omega
    · exact h.oth p q u v h1 h2 (by omega) hp hq hu hv
set_option maxHeartbeats 4000000 in
theorem isortX_c (w0 : World) (g c n T : Nat) (l : List Int) (rest : List Value) (fv : Value) (cf : Int → Int → Int) (κ : Int → Int) (hk : ∀ x y, cf x y < 0 ↔ κ x < κ y) (a b : Nat) (hB : Blk w0 g (l.map (Value.int .i64) ++ rest).toArray T) (hn : l.length = n) (hab : a ≤ b) (hbn : b ≤ n) (hsz : n ≤ 1000000)
    (hf : ∀ (w : World) (x y : Int), Chg (fun q => q = g) w0 w → x ∈ l → y ∈ l → CallV Try.prog fv #[.int .i64 x, .int .i64 y] w fun r w' => r = .int .i64 (cf x y) ∧ Ext w w') :
    Ret Try.prog 116 #[.slice (some ⟨g, 0, none⟩) n c, .int .i64 ((a : Nat) : Int), .int .i64 ((b : Nat) : Int), fv] w0 fun _ w => ∃ l' f, List.Perm l' l ∧ Rar κ a b l l' f ∧ SrtR κ l' a b ∧ Blk w g (l'.map (Value.int .i64) ++ rest).toArray T ∧ Chg (fun q => q = g) w0 w := by
  refine Ret_of Try.func116 rfl Try.ntmps116 (Nat.le_of_ble_eq_true rfl) ?_
  have E : Chg (fun q => q = g) w0 w0 := Chg.refl _ _
  refine Wp_seq_region ?_
  refine WpL_val rfl rfl (by decide) (r_move (v := (.int .i64 ((a : Nat) : Int))) rfl) ?_
  refine WpL_val rfl rfl (by decide) (r_add (k := .i64) (a := ((a : Nat) : Int)) (b := 1) (c := ((a : Nat) : Int) + 1) rfl rfl (wI64 (by omega))) ?_
  refine WpL_val rfl rfl (by decide) (r_assign (v := (.int .i64 (((a : Nat) : Int) + 1))) rfl) ?_
  refine WpL_nil ?_
  refine Wp_block ?_
  refine Wp_loop (fun nn_ σ W1 => ∃ (i : Nat) (cur : List Int) (f : Nat → Nat), (∃ jj_, σ = upds jj_ [(0, (.slice (some ⟨g, 0, none⟩) n c)), (1, (.int .i64 ((a : Nat) : Int))), (2, (.int .i64 ((b : Nat) : Int))), (3, fv), (8, (.int .i64 ((i : Nat) : Int)))]) ∧ Chg (fun q => q = g) w0 W1 ∧ Blk W1 g ((cur.map (Value.int .i64) ++ rest).toArray) T ∧ (a + 1 ≤ i ∧ i ≤ b + 1) ∧ (List.Perm cur l) ∧ (Rar κ a b l cur f) ∧ (SrtR κ cur a i) ∧ nn_ = b + 1 - i) (n := b + 1 - (a + 1)) ?_ ?_
  · exact ⟨a + 1, l, id, Fits.out ⟨rfl, rfl, rfl, rfl, rfl, trivial⟩, E, hB, ⟨by omega, by omega⟩, List.Perm.refl _, Rar.refl _ _ _ _, SrtR.one _ _ (by omega), rfl⟩
  · clear E hB
    rintro _ _ W1 ⟨i, cur, f, ⟨j1, rfl⟩, E, hB, hi, hp, hR, hS, rfl⟩
    refine Wp_seq ?_
    refine Wp_seq_region ?_
    refine WpL_val rfl rfl (by decide) (r_move (v := (.int .i64 ((i : Nat) : Int))) rfl) ?_
    refine WpL_val rfl rfl (by decide) (r_move (v := (.int .i64 ((b : Nat) : Int))) rfl) ?_
    refine WpL_val rfl rfl (by decide) (r_lss (k := .i64) (a := ((i : Nat) : Int)) (b := ((b : Nat) : Int)) rfl rfl) ?_
    refine WpL_nil ?_
    refine Wp_cond (b := decide ((((i : Nat) : Int) : Int) < ((b : Nat) : Int))) rfl (fun hlt => ?_) (fun hlt => ?_)
    · have khlt := hlt
      replace hlt := of_decide_eq_true hlt
      refine Wp_skip ?_
      refine thn_normal ?_
      refine Wp_seq ?_
      refine Wp_block ?_
      refine Wp_seq_region ?_
      refine WpL_val rfl rfl (by decide) (r_move (v := (.int .i64 ((i : Nat) : Int))) rfl) ?_
      refine WpL_val rfl rfl (by decide) (r_assign (v := (.int .i64 ((i : Nat) : Int))) rfl) ?_
      refine WpL_nil ?_
      refine Wp_block ?_
      refine Wp_loop (fun nn_ σ W3 => ∃ (j : Nat) (cu : List Int) (f : Nat → Nat), (∃ jj_, σ = upds jj_ [(0, (.slice (some ⟨g, 0, none⟩) n c)), (1, (.int .i64 ((a : Nat) : Int))), (2, (.int .i64 ((b : Nat) : Int))), (3, fv), (8, (.int .i64 ((i : Nat) : Int))), (9, (.int .i64 ((j : Nat) : Int)))]) ∧ Chg (fun q => q = g) w0 W3 ∧ Blk W3 g ((cu.map (Value.int .i64) ++ rest).toArray) T ∧ (a ≤ j ∧ j ≤ i) ∧ (List.Perm cu l) ∧ (Rar κ a b l cu f) ∧ (InsR κ cu a i j) ∧ nn_ = j + 1) (n := i + 1) ?_ ?_
      · exact ⟨i, cur, f, Fits.out ⟨rfl, rfl, rfl, rfl, rfl, rfl, trivial⟩, E, hB, ⟨by omega, by omega⟩, hp, hR, InsR.start hS, rfl⟩
      · clear E hB
        rintro _ _ W3 ⟨j, cu, f, ⟨j3, rfl⟩, E, hB, hj, hq, hR, hI, rfl⟩
        have hcl : cu.length = n := by rw [hq.length_eq, hn]
        rcases Bool.eq_false_or_eq_true (decide (((a : Nat) : Int) < ((j : Nat) : Int))) with hgt | hgt
        · have khgt := hgt
          replace khgt := of_decide_eq_true khgt
          obtain ⟨x, hx⟩ := get_of_lt (l := cu) (i := j) (by omega)
          obtain ⟨y, hy⟩ := get_of_lt (l := cu) (i := j - 1) (by omega)
          have hj1 : (((j : Nat) : Int) - 1) = (((j - 1 : Nat) : Nat) : Int) := by omega
          refine Wp_seq ?_
          refine Wp_seq ?_
          obtain ⟨Fs4, hFs4⟩ : ∃ Fs : List Fact, Fs = [.eq (.int .i64 ((j : Nat) : Int)), .eq (.int .i64 ((a : Nat) : Int)), .eq (.bool true), .eq (.bool true), .eq fv, .eq (.slice (some ⟨g, 0, none⟩) n c), .eq (.int .i64 ((j : Nat) : Int)), .eq (.pointer (some ⟨g, 0 + j, none⟩)), .eq (.int .i64 x), .eq (.slice (some ⟨g, 0, none⟩) n c), .eq (.int .i64 ((j : Nat) : Int)), .eq (.int .i64 (((j : Nat) : Int) - 1)), .eq (.pointer (some ⟨g, 0 + (j - 1), none⟩)), .eq (.int .i64 y), .eq (.int .i64 (cf x y)), .eq (.bool (decide (cf x y < 0))), .eq (.bool (decide (cf x y < 0)))] := ⟨_, rfl⟩
          refine Wp_dag [18, 19, 20, 21, 22, 23, 24, 25, 26, 27, 28, 29, 30, 31, 32, 33, 34] [[], [], [0, 1], [2], [3], [3], [3], [3, 5, 6], [3, 7], [3], [3], [3, 10], [3, 9, 11], [3, 12], [3, 4, 8, 13], [3, 14], [3, 15]] Fs4 hFs4 mixed (by kernel_rfl) (by kernel_rfl) ?_ ?_
          · intro wd X0
            refine DagSteps.cons (fun s' w' X U H => Or.inl ⟨?_, ?_⟩) ?_
            · exact Guarded_none rfl
            · exact Does_val (r_move (v := (.int .i64 ((j : Nat) : Int))) (U 9 rfl)) (Ext.refl _) rfl
            refine DagSteps.cons (fun s' w' X U H => Or.inl ⟨?_, ?_⟩) ?_
            · exact Guarded_none rfl
            · exact Does_val (r_move (v := (.int .i64 ((a : Nat) : Int))) (U 1 rfl)) (Ext.refl _) rfl
            refine DagSteps.cons (fun s' w' X U H => Or.inl ⟨?_, ?_⟩) ?_
            · exact Guarded_none rfl
            · have e18 : s' 18 = (.int .i64 ((j : Nat) : Int)) := H 0 rfl 18 (.eq (.int .i64 ((j : Nat) : Int))) rfl (by rw [hFs4]; rfl)
              have e19 : s' 19 = (.int .i64 ((a : Nat) : Int)) := H 1 rfl 19 (.eq (.int .i64 ((a : Nat) : Int))) rfl (by rw [hFs4]; rfl)
              exact Does_val (Eq.trans (r_gtr (k := .i64) (a := ((j : Nat) : Int)) (b := ((a : Nat) : Int)) e18 e19) (by rw [hgt])) (Ext.refl _) rfl
            refine DagSteps.cons (fun s' w' X U H => Or.inl ⟨?_, ?_⟩) ?_
            · exact Guarded_none rfl
            · have e20 : s' 20 = (.bool true) := H 2 rfl 20 (.eq (.bool true)) rfl (by rw [hFs4]; rfl)
              exact Does_val (r_move (v := (.bool true)) e20) (Ext.refl _) rfl
            refine DagSteps.cons (fun s' w' X U H => Or.inl ⟨?_, ?_⟩) ?_
            · exact Guarded_some rfl rfl (d := 21) (H 3 rfl 21 (.eq (.bool true)) rfl (by rw [hFs4]; rfl))
            · exact Does_val (r_move (v := fv) (U 3 rfl)) (Ext.refl _) rfl
            refine DagSteps.cons (fun s' w' X U H => Or.inl ⟨?_, ?_⟩) ?_
            · exact Guarded_some rfl rfl (d := 21) (H 3 rfl 21 (.eq (.bool true)) rfl (by rw [hFs4]; rfl))
            · exact Does_val (r_move (v := (.slice (some ⟨g, 0, none⟩) n c)) (U 0 rfl)) (Ext.refl _) rfl
            refine DagSteps.cons (fun s' w' X U H => Or.inl ⟨?_, ?_⟩) ?_
            · exact Guarded_some rfl rfl (d := 21) (H 3 rfl 21 (.eq (.bool true)) rfl (by rw [hFs4]; rfl))
            · exact Does_val (r_move (v := (.int .i64 ((j : Nat) : Int))) (U 9 rfl)) (Ext.refl _) rfl
            refine DagSteps.cons (fun s' w' X U H => Or.inl ⟨?_, ?_⟩) ?_
            · exact Guarded_some rfl rfl (d := 21) (H 3 rfl 21 (.eq (.bool true)) rfl (by rw [hFs4]; rfl))
            · have e23 : s' 23 = (.slice (some ⟨g, 0, none⟩) n c) := H 5 rfl 23 (.eq (.slice (some ⟨g, 0, none⟩) n c)) rfl (by rw [hFs4]; rfl)
              have e24 : s' 24 = (.int .i64 ((j : Nat) : Int)) := H 6 rfl 24 (.eq (.int .i64 ((j : Nat) : Int))) rfl (by rw [hFs4]; rfl)
              exact Does_val (r_indexSlice (b := g) (o := 0) (len := n) (cap := c) (i := j) (o' := 0 + j) e23 e24 (by omega) Try.underlying26 siz3 (by omega) (by omega)) (Ext.refl _) rfl
            refine DagSteps.cons (fun s' w' X U H => Or.inl ⟨?_, ?_⟩) ?_
            · exact Guarded_some rfl rfl (d := 21) (H 3 rfl 21 (.eq (.bool true)) rfl (by rw [hFs4]; rfl))
            · have e25 : s' 25 = (.pointer (some ⟨g, 0 + j, none⟩)) := H 7 rfl 25 (.eq (.pointer (some ⟨g, 0 + j, none⟩))) rfl (by rw [hFs4]; rfl)
              exact Does_val (r_load (v := (.int .i64 x)) e25 flat3 ((by rw [Nat.zero_add]; exact ints_get ((X0.trans X).keep hB) hx))) (Ext.refl _) rfl
            refine DagSteps.cons (fun s' w' X U H => Or.inl ⟨?_, ?_⟩) ?_
            · exact Guarded_some rfl rfl (d := 21) (H 3 rfl 21 (.eq (.bool true)) rfl (by rw [hFs4]; rfl))
            · exact Does_val (r_move (v := (.slice (some ⟨g, 0, none⟩) n c)) (U 0 rfl)) (Ext.refl _) rfl
            refine DagSteps.cons (fun s' w' X U H => Or.inl ⟨?_, ?_⟩) ?_
            · exact Guarded_some rfl rfl (d := 21) (H 3 rfl 21 (.eq (.bool true)) rfl (by rw [hFs4]; rfl))
            · exact Does_val (r_move (v := (.int .i64 ((j : Nat) : Int))) (U 9 rfl)) (Ext.refl _) rfl
            refine DagSteps.cons (fun s' w' X U H => Or.inl ⟨?_, ?_⟩) ?_
            · exact Guarded_some rfl rfl (d := 21) (H 3 rfl 21 (.eq (.bool true)) rfl (by rw [hFs4]; rfl))
            · have e28 : s' 28 = (.int .i64 ((j : Nat) : Int)) := H 10 rfl 28 (.eq (.int .i64 ((j : Nat) : Int))) rfl (by rw [hFs4]; rfl)
              exact Does_val (r_sub (k := .i64) (a := ((j : Nat) : Int)) (b := 1) (c := ((j : Nat) : Int) - 1) e28 rfl (wI64 (by omega))) (Ext.refl _) rfl
            refine DagSteps.cons (fun s' w' X U H => Or.inl ⟨?_, ?_⟩) ?_
            · exact Guarded_some rfl rfl (d := 21) (H 3 rfl 21 (.eq (.bool true)) rfl (by rw [hFs4]; rfl))
            · have e27 : s' 27 = (.slice (some ⟨g, 0, none⟩) n c) := H 9 rfl 27 (.eq (.slice (some ⟨g, 0, none⟩) n c)) rfl (by rw [hFs4]; rfl)
              have e29 : s' 29 = (.int .i64 (((j : Nat) : Int) - 1)) := H 11 rfl 29 (.eq (.int .i64 (((j : Nat) : Int) - 1))) rfl (by rw [hFs4]; rfl)
              exact Does_val (r_indexSlice (b := g) (o := 0) (len := n) (cap := c) (i := j - 1) (o' := 0 + (j - 1)) e27 e29 (by omega) Try.underlying26 siz3 (by omega) (by omega)) (Ext.refl _) rfl
            refine DagSteps.cons (fun s' w' X U H => Or.inl ⟨?_, ?_⟩) ?_
            · exact Guarded_some rfl rfl (d := 21) (H 3 rfl 21 (.eq (.bool true)) rfl (by rw [hFs4]; rfl))
            · have e30 : s' 30 = (.pointer (some ⟨g, 0 + (j - 1), none⟩)) := H 12 rfl 30 (.eq (.pointer (some ⟨g, 0 + (j - 1), none⟩))) rfl (by rw [hFs4]; rfl)
              exact Does_val (r_load (v := (.int .i64 y)) e30 flat3 ((by rw [Nat.zero_add]; exact ints_get ((X0.trans X).keep hB) hy))) (Ext.refl _) rfl
            refine DagSteps.cons (fun s' w' X U H => Or.inl ⟨?_, ?_⟩) ?_
            · exact Guarded_some rfl rfl (d := 21) (H 3 rfl 21 (.eq (.bool true)) rfl (by rw [hFs4]; rfl))
            · have e26 : s' 26 = (.int .i64 x) := H 8 rfl 26 (.eq (.int .i64 x)) rfl (by rw [hFs4]; rfl)
              have e31 : s' 31 = (.int .i64 y) := H 13 rfl 31 (.eq (.int .i64 y)) rfl (by rw [hFs4]; rfl)
              have e22 : s' 22 = fv := H 4 rfl 22 (.eq fv) rfl (by rw [hFs4]; rfl)
              exact Does_callV e22 (lst2 e26 e31) (hf _ x y (E.ext (X0.trans X)) (hq.mem_iff.1 (List.mem_of_getElem? hx)) (hq.mem_iff.1 (List.mem_of_getElem? hy)))
            refine DagSteps.cons (fun s' w' X U H => Or.inl ⟨?_, ?_⟩) ?_
            · exact Guarded_some rfl rfl (d := 21) (H 3 rfl 21 (.eq (.bool true)) rfl (by rw [hFs4]; rfl))
            · have e32 : s' 32 = (.int .i64 (cf x y)) := H 14 rfl 32 (.eq (.int .i64 (cf x y))) rfl (by rw [hFs4]; rfl)
              exact Does_val (r_lss (k := .i64) (a := cf x y) (b := 0) e32 rfl) (Ext.refl _) rfl
            refine DagSteps.cons (fun s' w' X U H => Or.inl ⟨?_, ?_⟩) ?_
            · exact Guarded_none rfl
            · have e21 : s' 21 = (.bool true) := H 3 rfl 21 (.eq (.bool true)) rfl (by rw [hFs4]; rfl)
              have e33 : s' 33 = (.bool (decide (cf x y < 0))) := H 15 rfl 33 (.eq (.bool (decide (cf x y < 0)))) rfl (by rw [hFs4]; rfl)
              exact Does_val (r_pick (b := true) (v := (.bool (decide (cf x y < 0)))) e21 e33) (Ext.refl _) rfl
            exact DagSteps.nil
          · intro s' w4 X4 U H
            obtain ⟨j4, rfl⟩ := Fits.out (σ := s') (l := [(0, (.slice (some ⟨g, 0, none⟩) n c)), (1, (.int .i64 ((a : Nat) : Int))), (2, (.int .i64 ((b : Nat) : Int))), (3, fv), (8, (.int .i64 ((i : Nat) : Int))), (9, (.int .i64 ((j : Nat) : Int))), (34, (.bool (decide (cf x y < 0))))]) ⟨U 0 rfl, U 1 rfl, U 2 rfl, U 3 rfl, U 8 rfl, U 9 rfl, (show s' 34 = (.bool (decide (cf x y < 0))) from H 16 34 (.eq (.bool (decide (cf x y < 0)))) rfl (by rw [hFs4]; rfl)), trivial⟩
            clear U H
            replace hB := X4.keep hB
            replace E := E.ext X4
            refine thn_normal ?_
            refine Wp_cond (b := decide (cf x y < 0)) rfl (fun hc => ?_) (fun hc => ?_)
            · have khc := hc
              replace hc := of_decide_eq_true hc
              refine Wp_skip ?_
              refine thn_normal ?_
              refine Wp_seq ?_
              refine Wp_block ?_
              obtain ⟨Fs6, hFs6⟩ : ∃ Fs : List (FactT ((fun q => q = g))), Fs = [.eq (.slice (some ⟨g, 0, none⟩) n c), .eq (.int .i64 ((j : Nat) : Int)), .eq (.slice (some ⟨g, 0, none⟩) n c), .eq (.int .i64 ((j : Nat) : Int)), .eq (.int .i64 (((j : Nat) : Int) - 1)), .eq (.slice (some ⟨g, 0, none⟩) n c), .eq (.int .i64 ((j : Nat) : Int)), .eq (.int .i64 (((j : Nat) : Int) - 1)), .eq (.pointer (some ⟨g, 0 + (j - 1), none⟩)), .eq (.int .i64 y), .eq (.slice (some ⟨g, 0, none⟩) n c), .eq (.int .i64 ((j : Nat) : Int)), .eq (.pointer (some ⟨g, 0 + j, none⟩)), .eq (.int .i64 x), .eq (.pointer (some ⟨g, 0 + j, none⟩)), .own (fun _ w => Blk w g ((cu.set j y).map (Value.int .i64) ++ rest).toArray T) (fun _ _ _ e h => Ext.keep e h)] := ⟨_, rfl⟩
              refine Wp_dagT ((fun q => q = g)) 16 15 [37, 38, 39, 40, 41, 42, 43, 44, 45, 46, 47, 48, 49, 50, 51, 68] [[], [], [], [], [3], [], [], [6], [5, 7], [8], [], [], [10, 11], [12], [0, 1, 5, 6, 7, 8, 9, 13], [0, 1, 5, 6, 7, 8, 9, 13, 14]] Fs6 hFs6 rfl mixed (by kernel_rfl) (by kernel_rfl) (by kernel_rfl) ?_ ?_
              · intro wd X0
                refine DagStepsT.cons (fun s' w' X U H => ?_) ?_
                · exact DoesT_val (r_move (v := (.slice (some ⟨g, 0, none⟩) n c)) (U 0 rfl)) (Chg.refl _ _) rfl
                refine DagStepsT.cons (fun s' w' X U H => ?_) ?_
                · exact DoesT_val (r_move (v := (.int .i64 ((j : Nat) : Int))) (U 9 rfl)) (Chg.refl _ _) rfl
                refine DagStepsT.cons (fun s' w' X U H => ?_) ?_
                · exact DoesT_val (r_move (v := (.slice (some ⟨g, 0, none⟩) n c)) (U 0 rfl)) (Chg.refl _ _) rfl
                refine DagStepsT.cons (fun s' w' X U H => ?_) ?_
                · exact DoesT_val (r_move (v := (.int .i64 ((j : Nat) : Int))) (U 9 rfl)) (Chg.refl _ _) rfl
                refine DagStepsT.cons (fun s' w' X U H => ?_) ?_
                · have e40 : s' 40 = (.int .i64 ((j : Nat) : Int)) := H 3 rfl 40 (.eq (.int .i64 ((j : Nat) : Int))) rfl (by rw [hFs6]; rfl)
                  exact DoesT_val (r_sub (k := .i64) (a := ((j : Nat) : Int)) (b := 1) (c := ((j : Nat) : Int) - 1) e40 rfl (wI64 (by omega))) (Chg.refl _ _) rfl
                refine DagStepsT.cons (fun s' w' X U H => ?_) ?_
                · exact DoesT_val (r_move (v := (.slice (some ⟨g, 0, none⟩) n c)) (U 0 rfl)) (Chg.refl _ _) rfl
                refine DagStepsT.cons (fun s' w' X U H => ?_) ?_
                · exact DoesT_val (r_move (v := (.int .i64 ((j : Nat) : Int))) (U 9 rfl)) (Chg.refl _ _) rfl
                refine DagStepsT.cons (fun s' w' X U H => ?_) ?_
                · have e43 : s' 43 = (.int .i64 ((j : Nat) : Int)) := H 6 rfl 43 (.eq (.int .i64 ((j : Nat) : Int))) rfl (by rw [hFs6]; rfl)
                  exact DoesT_val (r_sub (k := .i64) (a := ((j : Nat) : Int)) (b := 1) (c := ((j : Nat) : Int) - 1) e43 rfl (wI64 (by omega))) (Chg.refl _ _) rfl
                refine DagStepsT.cons (fun s' w' X U H => ?_) ?_
                · have e42 : s' 42 = (.slice (some ⟨g, 0, none⟩) n c) := H 5 rfl 42 (.eq (.slice (some ⟨g, 0, none⟩) n c)) rfl (by rw [hFs6]; rfl)
                  have e44 : s' 44 = (.int .i64 (((j : Nat) : Int) - 1)) := H 7 rfl 44 (.eq (.int .i64 (((j : Nat) : Int) - 1))) rfl (by rw [hFs6]; rfl)
                  exact DoesT_val (r_indexSlice (b := g) (o := 0) (len := n) (cap := c) (i := j - 1) (o' := 0 + (j - 1)) e42 e44 (by omega) Try.underlying26 siz3 (by omega) (by omega)) (Chg.refl _ _) rfl
                refine DagStepsT.cons (fun s' w' X U H => ?_) ?_
                · have e45 : s' 45 = (.pointer (some ⟨g, 0 + (j - 1), none⟩)) := H 8 rfl 45 (.eq (.pointer (some ⟨g, 0 + (j - 1), none⟩))) rfl (by rw [hFs6]; rfl)
                  exact DoesT_val (r_load (v := (.int .i64 y)) e45 flat3 (by rw [Nat.zero_add]; exact (Chg.keep X (fun f => f) (X0.keep hB) |> fun h => ints_get h hy))) (Chg.refl _ _) rfl
                refine DagStepsT.cons (fun s' w' X U H => ?_) ?_
                · exact DoesT_val (r_move (v := (.slice (some ⟨g, 0, none⟩) n c)) (U 0 rfl)) (Chg.refl _ _) rfl
                refine DagStepsT.cons (fun s' w' X U H => ?_) ?_
                · exact DoesT_val (r_move (v := (.int .i64 ((j : Nat) : Int))) (U 9 rfl)) (Chg.refl _ _) rfl
                refine DagStepsT.cons (fun s' w' X U H => ?_) ?_
                · have e47 : s' 47 = (.slice (some ⟨g, 0, none⟩) n c) := H 10 rfl 47 (.eq (.slice (some ⟨g, 0, none⟩) n c)) rfl (by rw [hFs6]; rfl)
                  have e48 : s' 48 = (.int .i64 ((j : Nat) : Int)) := H 11 rfl 48 (.eq (.int .i64 ((j : Nat) : Int))) rfl (by rw [hFs6]; rfl)
                  exact DoesT_val (r_indexSlice (b := g) (o := 0) (len := n) (cap := c) (i := j) (o' := 0 + j) e47 e48 (by omega) Try.underlying26 siz3 (by omega) (by omega)) (Chg.refl _ _) rfl
                refine DagStepsT.cons (fun s' w' X U H => ?_) ?_
                · have e49 : s' 49 = (.pointer (some ⟨g, 0 + j, none⟩)) := H 12 rfl 49 (.eq (.pointer (some ⟨g, 0 + j, none⟩))) rfl (by rw [hFs6]; rfl)
                  exact DoesT_val (r_load (v := (.int .i64 x)) e49 flat3 (by rw [Nat.zero_add]; exact (Chg.keep X (fun f => f) (X0.keep hB) |> fun h => ints_get h hx))) (Chg.refl _ _) rfl
                refine DagStepsT.cons (fun s' w' X U H => ?_) ?_
                · have e37 : s' 37 = (.slice (some ⟨g, 0, none⟩) n c) := H 0 rfl 37 (.eq (.slice (some ⟨g, 0, none⟩) n c)) rfl (by rw [hFs6]; rfl)
                  have e38 : s' 38 = (.int .i64 ((j : Nat) : Int)) := H 1 rfl 38 (.eq (.int .i64 ((j : Nat) : Int))) rfl (by rw [hFs6]; rfl)
                  exact DoesT_val (r_indexSlice (b := g) (o := 0) (len := n) (cap := c) (i := j) (o' := 0 + j) e37 e38 (by omega) Try.underlying26 siz3 (by omega) (by omega)) (Chg.refl _ _) rfl
                refine DagStepsT.cons (fun s' w' X U H => ?_) ?_
                · have e51 : s' 51 = (.pointer (some ⟨g, 0 + j, none⟩)) := H 14 rfl 51 (.eq (.pointer (some ⟨g, 0 + j, none⟩))) rfl (by rw [hFs6]; rfl)
                  have e46 : s' 46 = (.int .i64 y) := H 9 rfl 46 (.eq (.int .i64 y)) rfl (by rw [hFs6]; rfl)
                  exact DoesT_store e51 e46 rfl siz3 (Chg.keep X (fun f => f) (X0.keep hB)) (by simp; omega) rfl (fun w9 h => by have h2 := h.blk; rw [Nat.zero_add, ints_set (by omega) y] at h2; exact h2)
                exact DagStepsT.nil
              · intro s' wd6 w6 X0 X6 U H
                have e39 : s' 39 = (.slice (some ⟨g, 0, none⟩) n c) := H 2 39 (.eq (.slice (some ⟨g, 0, none⟩) n c)) rfl (by rw [hFs6]; rfl)
                have e41 : s' 41 = (.int .i64 (((j : Nat) : Int) - 1)) := H 4 41 (.eq (.int .i64 (((j : Nat) : Int) - 1))) rfl (by rw [hFs6]; rfl)
                have e50 : s' 50 = (.int .i64 x) := H 13 50 (.eq (.int .i64 x)) rfl (by rw [hFs6]; rfl)
                obtain hB := (show (.own (fun _ w => Blk w g ((cu.set j y).map (Value.int .i64) ++ rest).toArray T) (fun _ _ _ e h => Ext.keep e h) : FactT ((fun q => q = g))).In (s' 68) w6 from H 15 68 (.own (fun _ w => Blk w g ((cu.set j y).map (Value.int .i64) ++ rest).toArray T) (fun _ _ _ e h => Ext.keep e h)) rfl (by rw [hFs6]; rfl))
                obtain ⟨j6, rfl⟩ := Fits.out (σ := s') (l := [(0, (.slice (some ⟨g, 0, none⟩) n c)), (1, (.int .i64 ((a : Nat) : Int))), (2, (.int .i64 ((b : Nat) : Int))), (3, fv), (8, (.int .i64 ((i : Nat) : Int))), (9, (.int .i64 ((j : Nat) : Int))), (39, (.slice (some ⟨g, 0, none⟩) n c)), (41, (.int .i64 (((j : Nat) : Int) - 1))), (50, (.int .i64 x))]) ⟨U 0 rfl, U 1 rfl, U 2 rfl, U 3 rfl, U 8 rfl, U 9 rfl, e39, e41, e50, trivial⟩
                clear U H
                replace E := (E.ext X0).step X6 (fun q _ h => h)
                refine WpL_val rfl rfl (by decide) (r_indexSlice (b := g) (o := 0) (len := n) (cap := c) (i := j - 1) (o' := 0 + (j - 1)) rfl rfl (by omega) Try.underlying26 siz3 (by omega) (by omega)) ?_
                refine s_store (b := g) (o := 0 + (j - 1)) (c' := (((cu.set j y).set (j - 1) x).map (Value.int .i64) ++ rest).toArray) (v := (.int .i64 x)) rfl rfl rfl siz3 hB (by simp; omega) (by rw [Nat.zero_add]; exact ints_set (by simp; omega) x) ?_
                intro w7 S7
                replace E := S7.step E (by first | exact Or.inl (by omega) | exact Or.inr rfl | exact Or.inr (by assumption) | exact Or.inr (by simp) | exact Or.inr (by omega) | exact Or.inr (by dsimp only; omega))
                replace hB := S7.blk
                refine WpL_nil ?_
                refine inB_normal ?_
                refine thn_normal ?_
                refine Wp_region ?_
                refine WpL_val rfl rfl (by decide) (r_move (v := (.int .i64 ((j : Nat) : Int))) rfl) ?_
                refine WpL_val rfl rfl (by decide) (r_sub (k := .i64) (a := ((j : Nat) : Int)) (b := 1) (c := (((j - 1 : Nat) : Nat) : Int)) rfl rfl ((wI64 (by omega)).trans (by omega))) ?_
                refine WpL_val rfl rfl (by decide) (r_assign (v := (.int .i64 (((j - 1 : Nat) : Nat) : Int))) rfl) ?_
                refine WpL_nil ?_
                refine thn_normal ?_
                exact ⟨(j - 1) + 1, by omega, j - 1, (cu.set j y).set (j - 1) x, _, Fits.out ⟨rfl, rfl, rfl, rfl, rfl, rfl, trivial⟩, E, hB, ⟨by omega, by omega⟩, (swap_perm hx hy (by omega)).trans hq, hR.trans (Rar.swap hx hy (by omega) (by omega) (by omega) ((hk x y).1 hc)), hI.step hx hy (by omega) ((hk x y).1 hc), rfl⟩
            · have khc := hc
              replace hc := of_decide_eq_false hc
              refine Wp_exit ?_
              refine thn_exit ?_
              refine thn_exit ?_
              refine inB_here ?_
              refine inB_normal ?_
              refine thn_normal ?_
              refine Wp_region ?_
              refine WpL_val rfl rfl (by decide) (r_move (v := (.int .i64 ((i : Nat) : Int))) rfl) ?_
              refine WpL_val rfl rfl (by decide) (r_add (k := .i64) (a := ((i : Nat) : Int)) (b := 1) (c := ((i : Nat) : Int) + 1) rfl rfl (wI64 (by omega))) ?_
              refine WpL_val rfl rfl (by decide) (r_assign (v := (.int .i64 (((i : Nat) : Int) + 1))) rfl) ?_
              refine WpL_nil ?_
              refine thn_normal ?_
              exact ⟨b + 1 - (i + 1), by omega, i + 1, cu, f, Fits.out ⟨rfl, rfl, rfl, rfl, rfl, trivial⟩, E, hB, ⟨by omega, by omega⟩, hq, hR, hI.done hj.2 (.inr ⟨x, y, hx, hy, Int.not_lt.1 fun h9 => hc ((hk x y).2 h9)⟩), rfl⟩
        · have khgt := hgt
          replace khgt := of_decide_eq_false khgt
          refine Wp_seq ?_
          refine Wp_seq ?_
          obtain ⟨Fs8, hFs8⟩ : ∃ Fs : List Fact, Fs = [.eq (.int .i64 ((j : Nat) : Int)), .eq (.int .i64 ((a : Nat) : Int)), .eq (.bool false), .eq (.bool false), .eq undef, .eq undef, .eq undef, .eq undef, .eq undef, .eq undef, .eq undef, .eq undef, .eq undef, .eq undef, .eq undef, .eq undef, .eq (.bool false)] := ⟨_, rfl⟩
          refine Wp_dag [18, 19, 20, 21, 22, 23, 24, 25, 26, 27, 28, 29, 30, 31, 32, 33, 34] [[], [], [0, 1], [2], [3], [3], [3], [3, 5, 6], [3, 7], [3], [3], [3, 10], [3, 9, 11], [3, 12], [3, 4, 8, 13], [3, 14], [3, 15]] Fs8 hFs8 mixed (by kernel_rfl) (by kernel_rfl) ?_ ?_
          · intro wd X0
            refine DagSteps.cons (fun s' w' X U H => Or.inl ⟨?_, ?_⟩) ?_
            · exact Guarded_none rfl
            · exact Does_val (r_move (v := (.int .i64 ((j : Nat) : Int))) (U 9 rfl)) (Ext.refl _) rfl
            refine DagSteps.cons (fun s' w' X U H => Or.inl ⟨?_, ?_⟩) ?_
            · exact Guarded_none rfl
            · exact Does_val (r_move (v := (.int .i64 ((a : Nat) : Int))) (U 1 rfl)) (Ext.refl _) rfl
            refine DagSteps.cons (fun s' w' X U H => Or.inl ⟨?_, ?_⟩) ?_
            · exact Guarded_none rfl
            · have e18 : s' 18 = (.int .i64 ((j : Nat) : Int)) := H 0 rfl 18 (.eq (.int .i64 ((j : Nat) : Int))) rfl (by rw [hFs8]; rfl)
              have e19 : s' 19 = (.int .i64 ((a : Nat) : Int)) := H 1 rfl 19 (.eq (.int .i64 ((a : Nat) : Int))) rfl (by rw [hFs8]; rfl)
              exact Does_val (Eq.trans (r_gtr (k := .i64) (a := ((j : Nat) : Int)) (b := ((a : Nat) : Int)) e18 e19) (by rw [hgt])) (Ext.refl _) rfl
            refine DagSteps.cons (fun s' w' X U H => Or.inl ⟨?_, ?_⟩) ?_
            · exact Guarded_none rfl
            · have e20 : s' 20 = (.bool false) := H 2 rfl 20 (.eq (.bool false)) rfl (by rw [hFs8]; rfl)
              exact Does_val (r_move (v := (.bool false)) e20) (Ext.refl _) rfl
            refine DagSteps.cons (fun s' w' X U H => Or.inr ⟨?_, rfl⟩) ?_
            · exact Unmet_mk rfl rfl (d := 21) (Or.inl (H 3 rfl 21 (.eq (.bool false)) rfl (by rw [hFs8]; rfl)))
            refine DagSteps.cons (fun s' w' X U H => Or.inr ⟨?_, rfl⟩) ?_
            · exact Unmet_mk rfl rfl (d := 21) (Or.inl (H 3 rfl 21 (.eq (.bool false)) rfl (by rw [hFs8]; rfl)))
            refine DagSteps.cons (fun s' w' X U H => Or.inr ⟨?_, rfl⟩) ?_
            · exact Unmet_mk rfl rfl (d := 21) (Or.inl (H 3 rfl 21 (.eq (.bool false)) rfl (by rw [hFs8]; rfl)))
            refine DagSteps.cons (fun s' w' X U H => Or.inr ⟨?_, rfl⟩) ?_
            · exact Unmet_mk rfl rfl (d := 21) (Or.inl (H 3 rfl 21 (.eq (.bool false)) rfl (by rw [hFs8]; rfl)))
            refine DagSteps.cons (fun s' w' X U H => Or.inr ⟨?_, rfl⟩) ?_
            · exact Unmet_mk rfl rfl (d := 21) (Or.inl (H 3 rfl 21 (.eq (.bool false)) rfl (by rw [hFs8]; rfl)))
            refine DagSteps.cons (fun s' w' X U H => Or.inr ⟨?_, rfl⟩) ?_
            · exact Unmet_mk rfl rfl (d := 21) (Or.inl (H 3 rfl 21 (.eq (.bool false)) rfl (by rw [hFs8]; rfl)))
            refine DagSteps.cons (fun s' w' X U H => Or.inr ⟨?_, rfl⟩) ?_
            · exact Unmet_mk rfl rfl (d := 21) (Or.inl (H 3 rfl 21 (.eq (.bool false)) rfl (by rw [hFs8]; rfl)))
            refine DagSteps.cons (fun s' w' X U H => Or.inr ⟨?_, rfl⟩) ?_
            · exact Unmet_mk rfl rfl (d := 21) (Or.inl (H 3 rfl 21 (.eq (.bool false)) rfl (by rw [hFs8]; rfl)))
            refine DagSteps.cons (fun s' w' X U H => Or.inr ⟨?_, rfl⟩) ?_
            · exact Unmet_mk rfl rfl (d := 21) (Or.inl (H 3 rfl 21 (.eq (.bool false)) rfl (by rw [hFs8]; rfl)))
            refine DagSteps.cons (fun s' w' X U H => Or.inr ⟨?_, rfl⟩) ?_
            · exact Unmet_mk rfl rfl (d := 21) (Or.inl (H 3 rfl 21 (.eq (.bool false)) rfl (by rw [hFs8]; rfl)))
            refine DagSteps.cons (fun s' w' X U H => Or.inr ⟨?_, rfl⟩) ?_
            · exact Unmet_mk rfl rfl (d := 21) (Or.inl (H 3 rfl 21 (.eq (.bool false)) rfl (by rw [hFs8]; rfl)))
            refine DagSteps.cons (fun s' w' X U H => Or.inr ⟨?_, rfl⟩) ?_
            · exact Unmet_mk rfl rfl (d := 21) (Or.inl (H 3 rfl 21 (.eq (.bool false)) rfl (by rw [hFs8]; rfl)))
            refine DagSteps.cons (fun s' w' X U H => Or.inl ⟨?_, ?_⟩) ?_
            · exact Guarded_none rfl
            · have e21 : s' 21 = (.bool false) := H 3 rfl 21 (.eq (.bool false)) rfl (by rw [hFs8]; rfl)
              exact Does_val (r_pick (b := false) (v := (.bool false)) e21 rfl) (Ext.refl _) rfl
            exact DagSteps.nil
          · intro s' w8 X8 U H
            obtain ⟨j8, rfl⟩ := Fits.out (σ := s') (l := [(0, (.slice (some ⟨g, 0, none⟩) n c)), (1, (.int .i64 ((a : Nat) : Int))), (2, (.int .i64 ((b : Nat) : Int))), (3, fv), (8, (.int .i64 ((i : Nat) : Int))), (9, (.int .i64 ((j : Nat) : Int))), (34, (.bool false))]) ⟨U 0 rfl, U 1 rfl, U 2 rfl, U 3 rfl, U 8 rfl, U 9 rfl, (show s' 34 = (.bool false) from H 16 34 (.eq (.bool false)) rfl (by rw [hFs8]; rfl)), trivial⟩
            clear U H
            replace hB := X8.keep hB
            replace E := E.ext X8
            refine thn_normal ?_
            refine Wp_cond_false rfl ?_
            refine Wp_exit ?_
            refine thn_exit ?_
            refine thn_exit ?_
            refine inB_here ?_
            refine inB_normal ?_
            refine thn_normal ?_
            refine Wp_region ?_
            refine WpL_val rfl rfl (by decide) (r_move (v := (.int .i64 ((i : Nat) : Int))) rfl) ?_
            refine WpL_val rfl rfl (by decide) (r_add (k := .i64) (a := ((i : Nat) : Int)) (b := 1) (c := ((i : Nat) : Int) + 1) rfl rfl (wI64 (by omega))) ?_
            refine WpL_val rfl rfl (by decide) (r_assign (v := (.int .i64 (((i : Nat) : Int) + 1))) rfl) ?_
            refine WpL_nil ?_
            refine thn_normal ?_
            exact ⟨b + 1 - (i + 1), by omega, i + 1, cu, f, Fits.out ⟨rfl, rfl, rfl, rfl, rfl, trivial⟩, E, hB, ⟨by omega, by omega⟩, hq, hR, hI.done hj.2 (.inl (by have := of_decide_eq_false hgt; omega)), rfl⟩
    · have khlt := hlt
      replace hlt := of_decide_eq_false hlt
      refine Wp_exit ?_
      refine thn_exit ?_
      refine thn_exit ?_
      refine inB_here ?_
      refine fin_none Try.results116 ?_
      exact ⟨cur, f, hp, hR, hS.sub (Nat.le_refl _) (by omega), hB, E⟩
/-- Two ranges of k places change places. -/
def swI (a b k z : Nat) : Nat := if a ≤ z ∧ z < a + k then z + (b - a) else if b ≤ z ∧ z < b + k then z - (b - a) else z
theorem swI_zero (a b z : Nat) : swI a b 0 z = z := by unfold swI; rw [if_neg (by omega), if_neg (by omega)]
theorem swI_succ {a b k i : Nat} (hab : a + k ≤ b) {z : Nat} (hi : i < k := by omega) : swI a b i (if z = b + i then a + i else if z = a + i then b + i else z) = swI a b (i + 1) z := by
  unfold swI
  by_cases h1 : z = b + i
  · subst h1
    rw [if_pos rfl, if_neg (by omega), if_neg (by omega), if_neg (by omega), if_pos (by omega)]; omega
  · rw [if_neg h1]
    by_cases h2 : z = a + i
    · subst h2
      rw [if_pos rfl, if_neg (by omega), if_neg (by omega), if_pos (by omega)]; omega
    · rw [if_neg h2]
      by_cases h3 : a ≤ z ∧ z < a + i
      · rw [if_pos h3, if_pos (by omega)]
      · rw [if_neg h3, if_neg (show ¬ (a ≤ z ∧ z < a + (i + 1)) by omega)]
        by_cases h4 : b ≤ z ∧ z < b + i
        · rw [if_pos h4, if_pos (by omega)]
        · rw [if_neg h4, if_neg (by omega)]
/-- The ranges [a, m) and [m, b) change places. -/
def roI (a m b z : Nat) : Nat := if a ≤ z ∧ z < a + (b - m) then z + (m - a) else if a + (b - m) ≤ z ∧ z < b then z - (b - m) else z
theorem ro_left {m i j : Nat} (hi : 0 < i) (hj : 0 < j) (hm : i ≤ m) (h : j < i) (z : Nat) : swI (m - i) m j (roI (m - (i - j)) m (m + j) z) = roI (m - i) m (m + j) z := by
  unfold roI swI
  repeat' split
  all_goals omega
theorem ro_right {m i j : Nat} (hi : 0 < i) (hj : 0 < j) (hm : i ≤ m) (h : i < j) (z : Nat) : swI (m - i) (m + j - i) i (roI (m - i) m (m + (j - i)) z) = roI (m - i) m (m + j) z := by
  unfold roI swI
  repeat' split
  all_goals omega
theorem ro_end {m i : Nat} (hi : 0 < i) (hm : i ≤ m) (z : Nat) : swI (m - i) m i z = roI (m - i) m (m + i) z := by
  unfold roI swI
  repeat' split
  all_goals omega
set_option maxHeartbeats 4000000 in
theorem swapRangeX_c (w0 : World) (g c n T : Nat) (l : List Int) (rest : List Value) (fv : Value) (a b k : Nat) (hB : Blk w0 g (l.map (Value.int .i64) ++ rest).toArray T) (hn : l.length = n) (hab : a + k ≤ b) (hbn : b + k ≤ n) (hsz : n ≤ 1000000) :
    Ret Try.prog 128 #[.slice (some ⟨g, 0, none⟩) n c, .int .i64 ((a : Nat) : Int), .int .i64 ((b : Nat) : Int), .int .i64 ((k : Nat) : Int), fv] w0 fun _ w => ∃ l', List.Perm l' l ∧ (∀ z, l'[z]? = l[swI a b k z]?) ∧ Blk w g (l'.map (Value.int .i64) ++ rest).toArray T ∧ Chg (fun q => q = g) w0 w := by
  refine Ret_of Try.func128 rfl Try.ntmps128 (Nat.le_of_ble_eq_true rfl) ?_
  have E : Chg (fun q => q = g) w0 w0 := Chg.refl _ _
  refine Wp_seq_region ?_
  refine WpL_val rfl rfl (by decide) (r_assign (v := (.int .i64 0)) rfl) ?_
  refine WpL_nil ?_
  refine Wp_block ?_
  refine Wp_loop (fun nn_ σ W1 => ∃ (i : Nat) (cu : List Int), (∃ jj_, σ = upds jj_ [(0, (.slice (some ⟨g, 0, none⟩) n c)), (1, (.int .i64 ((a : Nat) : Int))), (2, (.int .i64 ((b : Nat) : Int))), (3, (.int .i64 ((k : Nat) : Int))), (10, (.int .i64 ((i : Nat) : Int)))]) ∧ Chg (fun q => q = g) w0 W1 ∧ Blk W1 g ((cu.map (Value.int .i64) ++ rest).toArray) T ∧ (i ≤ k) ∧ (List.Perm cu l) ∧ (∀ z, cu[z]? = l[swI a b i z]?) ∧ nn_ = k - i) (n := k - 0) ?_ ?_
  · exact ⟨0, l, Fits.out ⟨rfl, rfl, rfl, rfl, rfl, trivial⟩, E, hB, Nat.zero_le _, List.Perm.refl _, (fun z => by rw [swI_zero]), rfl⟩
  · clear E hB
    rintro _ _ W1 ⟨i, cu, ⟨j1, rfl⟩, E, hB, hi, hp, hz, rfl⟩
    refine Wp_seq ?_
    refine Wp_seq_region ?_
    refine WpL_val rfl rfl (by decide) (r_move (v := (.int .i64 ((i : Nat) : Int))) rfl) ?_
    refine WpL_val rfl rfl (by decide) (r_move (v := (.int .i64 ((k : Nat) : Int))) rfl) ?_
    refine WpL_val rfl rfl (by decide) (r_lss (k := .i64) (a := ((i : Nat) : Int)) (b := ((k : Nat) : Int)) rfl rfl) ?_
    refine WpL_nil ?_
    refine Wp_cond (b := decide ((((i : Nat) : Int) : Int) < ((k : Nat) : Int))) rfl (fun hlt => ?_) (fun hlt => ?_)
    · have khlt := hlt
      replace hlt := of_decide_eq_true hlt
      have hcl : cu.length = n := by rw [hp.length_eq, hn]
      obtain ⟨x, hx⟩ := get_of_lt (l := cu) (i := a + i) (by omega)
      obtain ⟨y, hy⟩ := get_of_lt (l := cu) (i := b + i) (by omega)
      refine Wp_skip ?_
      refine thn_normal ?_
      refine Wp_seq ?_
      refine Wp_block ?_
      obtain ⟨Fs3, hFs3⟩ : ∃ Fs : List (FactT ((fun q => q = g))), Fs = [.eq (.slice (some ⟨g, 0, none⟩) n c), .eq (.int .i64 ((a : Nat) : Int)), .eq (.int .i64 ((i : Nat) : Int)), .eq (.int .i64 (((a : Nat) : Int) + ((i : Nat) : Int))), .eq (.slice (some ⟨g, 0, none⟩) n c), .eq (.int .i64 ((b : Nat) : Int)), .eq (.int .i64 ((i : Nat) : Int)), .eq (.int .i64 (((b : Nat) : Int) + ((i : Nat) : Int))), .eq (.slice (some ⟨g, 0, none⟩) n c), .eq (.int .i64 ((b : Nat) : Int)), .eq (.int .i64 ((i : Nat) : Int)), .eq (.int .i64 (((b : Nat) : Int) + ((i : Nat) : Int))), .eq (.pointer (some ⟨g, 0 + (b + i), none⟩)), .eq (.int .i64 y), .eq (.slice (some ⟨g, 0, none⟩) n c), .eq (.int .i64 ((a : Nat) : Int)), .eq (.int .i64 ((i : Nat) : Int)), .eq (.int .i64 (((a : Nat) : Int) + ((i : Nat) : Int))), .eq (.pointer (some ⟨g, 0 + (a + i), none⟩)), .eq (.int .i64 x), .eq (.pointer (some ⟨g, 0 + (a + i), none⟩)), .own (fun _ w => Blk w g ((cu.set (a + i) y).map (Value.int .i64) ++ rest).toArray T) (fun _ _ _ e h => Ext.keep e h)] := ⟨_, rfl⟩
      refine Wp_dagT ((fun q => q = g)) 22 21 [16, 17, 18, 19, 20, 21, 22, 23, 24, 25, 26, 27, 28, 29, 30, 31, 32, 33, 34, 35, 36, 59] [[], [], [], [1, 2], [], [], [], [5, 6], [], [], [], [9, 10], [8, 11], [12], [], [], [], [15, 16], [14, 17], [18], [0, 1, 2, 3, 8, 9, 10, 11, 12, 13, 19], [0, 1, 2, 3, 8, 9, 10, 11, 12, 13, 19, 20]] Fs3 hFs3 rfl mixed (by kernel_rfl) (by kernel_rfl) (by kernel_rfl) ?_ ?_
      · intro wd X0
        refine DagStepsT.cons (fun s' w' X U H => ?_) ?_
        · exact DoesT_val (r_move (v := (.slice (some ⟨g, 0, none⟩) n c)) (U 0 rfl)) (Chg.refl _ _) rfl
        refine DagStepsT.cons (fun s' w' X U H => ?_) ?_
        · exact DoesT_val (r_move (v := (.int .i64 ((a : Nat) : Int))) (U 1 rfl)) (Chg.refl _ _) rfl
        refine DagStepsT.cons (fun s' w' X U H => ?_) ?_
        · exact DoesT_val (r_move (v := (.int .i64 ((i : Nat) : Int))) (U 10 rfl)) (Chg.refl _ _) rfl
        refine DagStepsT.cons (fun s' w' X U H => ?_) ?_
        · have e17 : s' 17 = (.int .i64 ((a : Nat) : Int)) := H 1 rfl 17 (.eq (.int .i64 ((a : Nat) : Int))) rfl (by rw [hFs3]; rfl)
          have e18 : s' 18 = (.int .i64 ((i : Nat) : Int)) := H 2 rfl 18 (.eq (.int .i64 ((i : Nat) : Int))) rfl (by rw [hFs3]; rfl)
          exact DoesT_val (r_add (k := .i64) (a := ((a : Nat) : Int)) (b := ((i : Nat) : Int)) (c := ((a : Nat) : Int) + ((i : Nat) : Int)) e17 e18 (wI64 (by omega))) (Chg.refl _ _) rfl
        refine DagStepsT.cons (fun s' w' X U H => ?_) ?_
        · exact DoesT_val (r_move (v := (.slice (some ⟨g, 0, none⟩) n c)) (U 0 rfl)) (Chg.refl _ _) rfl
        refine DagStepsT.cons (fun s' w' X U H => ?_) ?_
        · exact DoesT_val (r_move (v := (.int .i64 ((b : Nat) : Int))) (U 2 rfl)) (Chg.refl _ _) rfl
        refine DagStepsT.cons (fun s' w' X U H => ?_) ?_
        · exact DoesT_val (r_move (v := (.int .i64 ((i : Nat) : Int))) (U 10 rfl)) (Chg.refl _ _) rfl
        refine DagStepsT.cons (fun s' w' X U H => ?_) ?_
        · have e21 : s' 21 = (.int .i64 ((b : Nat) : Int)) := H 5 rfl 21 (.eq (.int .i64 ((b : Nat) : Int))) rfl (by rw [hFs3]; rfl)
          have e22 : s' 22 = (.int .i64 ((i : Nat) : Int)) := H 6 rfl 22 (.eq (.int .i64 ((i : Nat) : Int))) rfl (by rw [hFs3]; rfl)
          exact DoesT_val (r_add (k := .i64) (a := ((b : Nat) : Int)) (b := ((i : Nat) : Int)) (c := ((b : Nat) : Int) + ((i : Nat) : Int)) e21 e22 (wI64 (by omega))) (Chg.refl _ _) rfl
        refine DagStepsT.cons (fun s' w' X U H => ?_) ?_
        · exact DoesT_val (r_move (v := (.slice (some ⟨g, 0, none⟩) n c)) (U 0 rfl)) (Chg.refl _ _) rfl
        refine DagStepsT.cons (fun s' w' X U H => ?_) ?_
        · exact DoesT_val (r_move (v := (.int .i64 ((b : Nat) : Int))) (U 2 rfl)) (Chg.refl _ _) rfl
        refine DagStepsT.cons (fun s' w' X U H => ?_) ?_
        · exact DoesT_val (r_move (v := (.int .i64 ((i : Nat) : Int))) (U 10 rfl)) (Chg.refl _ _) rfl
        refine DagStepsT.cons (fun s' w' X U H => ?_) ?_
        · have e25 : s' 25 = (.int .i64 ((b : Nat) : Int)) := H 9 rfl 25 (.eq (.int .i64 ((b : Nat) : Int))) rfl (by rw [hFs3]; rfl)
          have e26 : s' 26 = (.int .i64 ((i : Nat) : Int)) := H 10 rfl 26 (.eq (.int .i64 ((i : Nat) : Int))) rfl (by rw [hFs3]; rfl)
          exact DoesT_val (r_add (k := .i64) (a := ((b : Nat) : Int)) (b := ((i : Nat) : Int)) (c := ((b : Nat) : Int) + ((i : Nat) : Int)) e25 e26 (wI64 (by omega))) (Chg.refl _ _) rfl
        refine DagStepsT.cons (fun s' w' X U H => ?_) ?_
        · have e24 : s' 24 = (.slice (some ⟨g, 0, none⟩) n c) := H 8 rfl 24 (.eq (.slice (some ⟨g, 0, none⟩) n c)) rfl (by rw [hFs3]; rfl)
          have e27 : s' 27 = (.int .i64 (((b : Nat) : Int) + ((i : Nat) : Int))) := H 11 rfl 27 (.eq (.int .i64 (((b : Nat) : Int) + ((i : Nat) : Int)))) rfl (by rw [hFs3]; rfl)
          exact DoesT_val (r_indexSlice (b := g) (o := 0) (len := n) (cap := c) (i := b + i) (o' := 0 + (b + i)) e24 e27 (by omega) Try.underlying26 siz3 (by omega) (by omega)) (Chg.refl _ _) rfl
        refine DagStepsT.cons (fun s' w' X U H => ?_) ?_
        · have e28 : s' 28 = (.pointer (some ⟨g, 0 + (b + i), none⟩)) := H 12 rfl 28 (.eq (.pointer (some ⟨g, 0 + (b + i), none⟩))) rfl (by rw [hFs3]; rfl)
          exact DoesT_val (r_load (v := (.int .i64 y)) e28 flat3 (by rw [Nat.zero_add]; exact (Chg.keep X (fun f => f) (X0.keep hB) |> fun h => ints_get h hy))) (Chg.refl _ _) rfl
        refine DagStepsT.cons (fun s' w' X U H => ?_) ?_
        · exact DoesT_val (r_move (v := (.slice (some ⟨g, 0, none⟩) n c)) (U 0 rfl)) (Chg.refl _ _) rfl
        refine DagStepsT.cons (fun s' w' X U H => ?_) ?_
        · exact DoesT_val (r_move (v := (.int .i64 ((a : Nat) : Int))) (U 1 rfl)) (Chg.refl _ _) rfl
        refine DagStepsT.cons (fun s' w' X U H => ?_) ?_
        · exact DoesT_val (r_move (v := (.int .i64 ((i : Nat) : Int))) (U 10 rfl)) (Chg.refl _ _) rfl
        refine DagStepsT.cons (fun s' w' X U H => ?_) ?_
        · have e31 : s' 31 = (.int .i64 ((a : Nat) : Int)) := H 15 rfl 31 (.eq (.int .i64 ((a : Nat) : Int))) rfl (by rw [hFs3]; rfl)
          have e32 : s' 32 = (.int .i64 ((i : Nat) : Int)) := H 16 rfl 32 (.eq (.int .i64 ((i : Nat) : Int))) rfl (by rw [hFs3]; rfl)
          exact DoesT_val (r_add (k := .i64) (a := ((a : Nat) : Int)) (b := ((i : Nat) : Int)) (c := ((a : Nat) : Int) + ((i : Nat) : Int)) e31 e32 (wI64 (by omega))) (Chg.refl _ _) rfl
        refine DagStepsT.cons (fun s' w' X U H => ?_) ?_
        · have e30 : s' 30 = (.slice (some ⟨g, 0, none⟩) n c) := H 14 rfl 30 (.eq (.slice (some ⟨g, 0, none⟩) n c)) rfl (by rw [hFs3]; rfl)
          have e33 : s' 33 = (.int .i64 (((a : Nat) : Int) + ((i : Nat) : Int))) := H 17 rfl 33 (.eq (.int .i64 (((a : Nat) : Int) + ((i : Nat) : Int)))) rfl (by rw [hFs3]; rfl)
          exact DoesT_val (r_indexSlice (b := g) (o := 0) (len := n) (cap := c) (i := a + i) (o' := 0 + (a + i)) e30 e33 (by omega) Try.underlying26 siz3 (by omega) (by omega)) (Chg.refl _ _) rfl
        refine DagStepsT.cons (fun s' w' X U H => ?_) ?_
        · have e34 : s' 34 = (.pointer (some ⟨g, 0 + (a + i), none⟩)) := H 18 rfl 34 (.eq (.pointer (some ⟨g, 0 + (a + i), none⟩))) rfl (by rw [hFs3]; rfl)
          exact DoesT_val (r_load (v := (.int .i64 x)) e34 flat3 (by rw [Nat.zero_add]; exact (Chg.keep X (fun f => f) (X0.keep hB) |> fun h => ints_get h hx))) (Chg.refl _ _) rfl
        refine DagStepsT.cons (fun s' w' X U H => ?_) ?_
        · have e16 : s' 16 = (.slice (some ⟨g, 0, none⟩) n c) := H 0 rfl 16 (.eq (.slice (some ⟨g, 0, none⟩) n c)) rfl (by rw [hFs3]; rfl)
          have e19 : s' 19 = (.int .i64 (((a : Nat) : Int) + ((i : Nat) : Int))) := H 3 rfl 19 (.eq (.int .i64 (((a : Nat) : Int) + ((i : Nat) : Int)))) rfl (by rw [hFs3]; rfl)
          exact DoesT_val (r_indexSlice (b := g) (o := 0) (len := n) (cap := c) (i := a + i) (o' := 0 + (a + i)) e16 e19 (by omega) Try.underlying26 siz3 (by omega) (by omega)) (Chg.refl _ _) rfl
        refine DagStepsT.cons (fun s' w' X U H => ?_) ?_
        · have e36 : s' 36 = (.pointer (some ⟨g, 0 + (a + i), none⟩)) := H 20 rfl 36 (.eq (.pointer (some ⟨g, 0 + (a + i), none⟩))) rfl (by rw [hFs3]; rfl)
          have e29 : s' 29 = (.int .i64 y) := H 13 rfl 29 (.eq (.int .i64 y)) rfl (by rw [hFs3]; rfl)
          exact DoesT_store e36 e29 rfl siz3 (Chg.keep X (fun f => f) (X0.keep hB)) (by simp; omega) rfl (fun w9 h => by have h2 := h.blk; rw [Nat.zero_add, ints_set (by omega) y] at h2; exact h2)
        exact DagStepsT.nil
      · intro s' wd3 w3 X0 X3 U H
        have e20 : s' 20 = (.slice (some ⟨g, 0, none⟩) n c) := H 4 20 (.eq (.slice (some ⟨g, 0, none⟩) n c)) rfl (by rw [hFs3]; rfl)
        have e23 : s' 23 = (.int .i64 (((b : Nat) : Int) + ((i : Nat) : Int))) := H 7 23 (.eq (.int .i64 (((b : Nat) : Int) + ((i : Nat) : Int)))) rfl (by rw [hFs3]; rfl)
        have e35 : s' 35 = (.int .i64 x) := H 19 35 (.eq (.int .i64 x)) rfl (by rw [hFs3]; rfl)
        obtain hB := (show (.own (fun _ w => Blk w g ((cu.set (a + i) y).map (Value.int .i64) ++ rest).toArray T) (fun _ _ _ e h => Ext.keep e h) : FactT ((fun q => q = g))).In (s' 59) w3 from H 21 59 (.own (fun _ w => Blk w g ((cu.set (a + i) y).map (Value.int .i64) ++ rest).toArray T) (fun _ _ _ e h => Ext.keep e h)) rfl (by rw [hFs3]; rfl))
        obtain ⟨j3, rfl⟩ := Fits.out (σ := s') (l := [(0, (.slice (some ⟨g, 0, none⟩) n c)), (1, (.int .i64 ((a : Nat) : Int))), (2, (.int .i64 ((b : Nat) : Int))), (3, (.int .i64 ((k : Nat) : Int))), (10, (.int .i64 ((i : Nat) : Int))), (20, (.slice (some ⟨g, 0, none⟩) n c)), (23, (.int .i64 (((b : Nat) : Int) + ((i : Nat) : Int)))), (35, (.int .i64 x))]) ⟨U 0 rfl, U 1 rfl, U 2 rfl, U 3 rfl, U 10 rfl, e20, e23, e35, trivial⟩
        clear U H
        replace E := (E.ext X0).step X3 (fun q _ h => h)
        refine WpL_val rfl rfl (by decide) (r_indexSlice (b := g) (o := 0) (len := n) (cap := c) (i := b + i) (o' := 0 + (b + i)) rfl rfl (by omega) Try.underlying26 siz3 (by omega) (by omega)) ?_
        refine s_store (b := g) (o := 0 + (b + i)) (c' := (((cu.set (a + i) y).set (b + i) x).map (Value.int .i64) ++ rest).toArray) (v := (.int .i64 x)) rfl rfl rfl siz3 hB (by simp; omega) (by rw [Nat.zero_add]; exact ints_set (by simp; omega) x) ?_
        intro w4 S4
        replace E := S4.step E (by first | exact Or.inl (by omega) | exact Or.inr rfl | exact Or.inr (by assumption) | exact Or.inr (by simp) | exact Or.inr (by omega) | exact Or.inr (by dsimp only; omega))
        replace hB := S4.blk
        refine WpL_nil ?_
        refine inB_normal ?_
        refine thn_normal ?_
        refine Wp_region ?_
        refine WpL_val rfl rfl (by decide) (r_move (v := (.int .i64 ((i : Nat) : Int))) rfl) ?_
        refine WpL_val rfl rfl (by decide) (r_add (k := .i64) (a := ((i : Nat) : Int)) (b := 1) (c := ((i : Nat) : Int) + 1) rfl rfl (wI64 (by omega))) ?_
        refine WpL_val rfl rfl (by decide) (r_assign (v := (.int .i64 (((i : Nat) : Int) + 1))) rfl) ?_
        refine WpL_nil ?_
        refine thn_normal ?_
        exact ⟨k - (i + 1), by omega, i + 1, (cu.set (a + i) y).set (b + i) x, Fits.out ⟨rfl, rfl, rfl, rfl, rfl, trivial⟩, E, hB, (by omega), (swap_perm hx hy (by omega)).trans hp, (fun z => by rw [swap_get hx hy, hz, swI_succ hab]), rfl⟩
    · have khlt := hlt
      replace hlt := of_decide_eq_false hlt
      have hik : i = k := by omega
      subst hik
      refine Wp_exit ?_
      refine thn_exit ?_
      refine thn_exit ?_
      refine inB_here ?_
      refine fin_none Try.results128 ?_
      exact ⟨cu, hp, hz, hB, E⟩
set_option maxHeartbeats 4000000 in
theorem rotateX_c (w0 : World) (g c n T : Nat) (l : List Int) (rest : List Value) (fv : Value) (a m b : Nat) (hB : Blk w0 g (l.map (Value.int .i64) ++ rest).toArray T) (hn : l.length = n) (ham : a < m) (hmb : m < b) (hbn : b ≤ n) (hsz : n ≤ 1000000) :
    Ret Try.prog 126 #[.slice (some ⟨g, 0, none⟩) n c, .int .i64 ((a : Nat) : Int), .int .i64 ((m : Nat) : Int), .int .i64 ((b : Nat) : Int), fv] w0 fun _ w => ∃ l', List.Perm l' l ∧ (∀ z, l'[z]? = l[roI a m b z]?) ∧ Blk w g (l'.map (Value.int .i64) ++ rest).toArray T ∧ Chg (fun q => q = g) w0 w := by
  refine Ret_of Try.func126 rfl Try.ntmps126 (Nat.le_of_ble_eq_true rfl) ?_
  have E : Chg (fun q => q = g) w0 w0 := Chg.refl _ _
  refine Wp_seq_region ?_
  refine WpL_val rfl rfl (by decide) (r_move (v := (.int .i64 ((m : Nat) : Int))) rfl) ?_
  refine WpL_val rfl rfl (by decide) (r_move (v := (.int .i64 ((a : Nat) : Int))) rfl) ?_
  refine WpL_val rfl rfl (by decide) (r_sub (k := .i64) (a := ((m : Nat) : Int)) (b := ((a : Nat) : Int)) (c := (((m - a : Nat) : Nat) : Int)) rfl rfl ((wI64 (by omega)).trans (by omega))) ?_
  refine WpL_val rfl rfl (by decide) (r_assign (v := (.int .i64 (((m - a : Nat) : Nat) : Int))) rfl) ?_
  refine WpL_nil ?_
  refine Wp_seq_region ?_
  refine WpL_val rfl rfl (by decide) (r_move (v := (.int .i64 ((b : Nat) : Int))) rfl) ?_
  refine WpL_val rfl rfl (by decide) (r_move (v := (.int .i64 ((m : Nat) : Int))) rfl) ?_
  refine WpL_val rfl rfl (by decide) (r_sub (k := .i64) (a := ((b : Nat) : Int)) (b := ((m : Nat) : Int)) (c := (((b - m : Nat) : Nat) : Int)) rfl rfl ((wI64 (by omega)).trans (by omega))) ?_
  refine WpL_val rfl rfl (by decide) (r_assign (v := (.int .i64 (((b - m : Nat) : Nat) : Int))) rfl) ?_
  refine WpL_nil ?_
  refine Wp_seq ?_
  refine Wp_block ?_
  refine Wp_loop (fun nn_ σ W1 => ∃ (i j : Nat) (cu : List Int), (∃ jj_, σ = upds jj_ [(0, (.slice (some ⟨g, 0, none⟩) n c)), (2, (.int .i64 ((m : Nat) : Int))), (4, fv), (10, (.int .i64 ((i : Nat) : Int))), (11, (.int .i64 ((j : Nat) : Int)))]) ∧ Chg (fun q => q = g) w0 W1 ∧ (0 < i ∧ i ≤ m - a) ∧ (0 < j ∧ j ≤ b - m) ∧ (List.Perm cu l) ∧ (∀ z, cu[roI (m - i) m (m + j) z]? = l[roI a m b z]?) ∧ (Blk W1 g (cu.map (Value.int .i64) ++ rest).toArray T) ∧ nn_ = i + j) (n := (m - a) + (b - m)) ?_ ?_
  · exact ⟨m - a, b - m, l, Fits.out ⟨rfl, rfl, rfl, rfl, rfl, trivial⟩, E, ⟨by omega, by omega⟩, ⟨by omega, by omega⟩, List.Perm.refl _, (fun z => by rw [show m - (m - a) = a by omega, show m + (b - m) = b by omega]), hB, rfl⟩
  · clear E
    rintro _ _ W1 ⟨i, j, cu, ⟨j1, rfl⟩, E, hi, hj, hp, hz, hG, rfl⟩
    refine Wp_seq ?_
    refine Wp_seq_region ?_
    refine WpL_val rfl rfl (by decide) (r_move (v := (.int .i64 ((i : Nat) : Int))) rfl) ?_
    refine WpL_val rfl rfl (by decide) (r_move (v := (.int .i64 ((j : Nat) : Int))) rfl) ?_
    refine WpL_val rfl rfl (by decide) (r_neq (k := .i64) (a := ((i : Nat) : Int)) (b := ((j : Nat) : Int)) rfl rfl) ?_
    refine WpL_nil ?_
    refine Wp_cond (b := decide ((((i : Nat) : Int) : Int) ≠ ((j : Nat) : Int))) rfl (fun hne => ?_) (fun hne => ?_)
    · have khne := hne
      replace hne := of_decide_eq_true hne
      refine Wp_skip ?_
      refine thn_normal ?_
      refine Wp_block ?_
      refine Wp_seq_region ?_
      refine WpL_val rfl rfl (by decide) (r_move (v := (.int .i64 ((i : Nat) : Int))) rfl) ?_
      refine WpL_val rfl rfl (by decide) (r_move (v := (.int .i64 ((j : Nat) : Int))) rfl) ?_
      refine WpL_val rfl rfl (by decide) (r_gtr (k := .i64) (a := ((i : Nat) : Int)) (b := ((j : Nat) : Int)) rfl rfl) ?_
      refine WpL_nil ?_
      refine Wp_cond (b := decide ((((j : Nat) : Int) : Int) < ((i : Nat) : Int))) rfl (fun hgt => ?_) (fun hgt => ?_)
      · have khgt := hgt
        replace hgt := of_decide_eq_true hgt
        refine Wp_seq_region ?_
        refine WpL_val rfl rfl (by decide) (r_move (v := (.slice (some ⟨g, 0, none⟩) n c)) rfl) ?_
        refine WpL_val rfl rfl (by decide) (r_move (v := (.int .i64 ((m : Nat) : Int))) rfl) ?_
        refine WpL_val rfl rfl (by decide) (r_move (v := (.int .i64 ((i : Nat) : Int))) rfl) ?_
        refine WpL_val rfl rfl (by decide) (r_sub (k := .i64) (a := ((m : Nat) : Int)) (b := ((i : Nat) : Int)) (c := (((m - i : Nat) : Nat) : Int)) rfl rfl ((wI64 (by omega)).trans (by omega))) ?_
        refine WpL_val rfl rfl (by decide) (r_move (v := (.int .i64 ((m : Nat) : Int))) rfl) ?_
        refine WpL_val rfl rfl (by decide) (r_move (v := (.int .i64 ((j : Nat) : Int))) rfl) ?_
        refine WpL_val rfl rfl (by decide) (r_move (v := fv) rfl) ?_
        refine WpL_enter rfl rfl (by decide) (r_callF (vs := [(.slice (some ⟨g, 0, none⟩) n c), (.int .i64 (((m - i : Nat) : Nat) : Int)), (.int .i64 ((m : Nat) : Int)), (.int .i64 ((j : Nat) : Int)), fv]) Try.func128 nm128 bd128 rfl) (swapRangeX_c _ g c n T cu rest fv (m - i) m j hG (by rw [hp.length_eq, hn]) (by omega) (by omega) hsz) ?_
        rintro _ w9 ⟨l', hp', hz', hG', C9⟩
        replace E := E.step C9 (fun q _ h => h)
        refine WpL_nil ?_
        refine Wp_region ?_
        refine WpL_val rfl rfl (by decide) (r_move (v := (.int .i64 ((i : Nat) : Int))) rfl) ?_
        refine WpL_val rfl rfl (by decide) (r_move (v := (.int .i64 ((j : Nat) : Int))) rfl) ?_
        refine WpL_val rfl rfl (by decide) (r_sub (k := .i64) (a := ((i : Nat) : Int)) (b := ((j : Nat) : Int)) (c := (((i - j : Nat) : Nat) : Int)) rfl rfl ((wI64 (by omega)).trans (by omega))) ?_
        refine WpL_val rfl rfl (by decide) (r_assign (v := (.int .i64 (((i - j : Nat) : Nat) : Int))) rfl) ?_
        refine WpL_nil ?_
        refine inB_normal ?_
        refine thn_normal ?_
        exact ⟨(i - j) + j, by omega, i - j, j, l', Fits.out ⟨rfl, rfl, rfl, rfl, rfl, trivial⟩, E, ⟨by omega, by omega⟩, hj, hp'.trans hp, (fun z => by rw [hz', ← hz]; congr 1; exact ro_left hi.1 hj.1 (by omega) (by omega) z), hG', rfl⟩
      · have khgt := hgt
        replace hgt := of_decide_eq_false hgt
        refine Wp_seq_region ?_
        refine WpL_val rfl rfl (by decide) (r_move (v := (.slice (some ⟨g, 0, none⟩) n c)) rfl) ?_
        refine WpL_val rfl rfl (by decide) (r_move (v := (.int .i64 ((m : Nat) : Int))) rfl) ?_
        refine WpL_val rfl rfl (by decide) (r_move (v := (.int .i64 ((i : Nat) : Int))) rfl) ?_
        refine WpL_val rfl rfl (by decide) (r_sub (k := .i64) (a := ((m : Nat) : Int)) (b := ((i : Nat) : Int)) (c := (((m - i : Nat) : Nat) : Int)) rfl rfl ((wI64 (by omega)).trans (by omega))) ?_
        refine WpL_val rfl rfl (by decide) (r_move (v := (.int .i64 ((m : Nat) : Int))) rfl) ?_
        refine WpL_val rfl rfl (by decide) (r_move (v := (.int .i64 ((j : Nat) : Int))) rfl) ?_
        refine WpL_val rfl rfl (by decide) (r_add (k := .i64) (a := ((m : Nat) : Int)) (b := ((j : Nat) : Int)) (c := (((m + j : Nat) : Nat) : Int)) rfl rfl ((wI64 (by omega)).trans (by omega))) ?_
        refine WpL_val rfl rfl (by decide) (r_move (v := (.int .i64 ((i : Nat) : Int))) rfl) ?_
        refine WpL_val rfl rfl (by decide) (r_sub (k := .i64) (a := (((m + j : Nat) : Nat) : Int)) (b := ((i : Nat) : Int)) (c := (((m + j - i : Nat) : Nat) : Int)) rfl rfl ((wI64 (by omega)).trans (by omega))) ?_
        refine WpL_val rfl rfl (by decide) (r_move (v := (.int .i64 ((i : Nat) : Int))) rfl) ?_
        refine WpL_val rfl rfl (by decide) (r_move (v := fv) rfl) ?_
        refine WpL_enter rfl rfl (by decide) (r_callF (vs := [(.slice (some ⟨g, 0, none⟩) n c), (.int .i64 (((m - i : Nat) : Nat) : Int)), (.int .i64 (((m + j - i : Nat) : Nat) : Int)), (.int .i64 ((i : Nat) : Int)), fv]) Try.func128 nm128 bd128 rfl) (swapRangeX_c _ g c n T cu rest fv (m - i) (m + j - i) i hG (by rw [hp.length_eq, hn]) (by omega) (by omega) hsz) ?_
        rintro _ w19 ⟨l', hp', hz', hG', C19⟩
        replace E := E.step C19 (fun q _ h => h)
        refine WpL_nil ?_
        refine Wp_region ?_
        refine WpL_val rfl rfl (by decide) (r_move (v := (.int .i64 ((j : Nat) : Int))) rfl) ?_
        refine WpL_val rfl rfl (by decide) (r_move (v := (.int .i64 ((i : Nat) : Int))) rfl) ?_
        refine WpL_val rfl rfl (by decide) (r_sub (k := .i64) (a := ((j : Nat) : Int)) (b := ((i : Nat) : Int)) (c := (((j - i : Nat) : Nat) : Int)) rfl rfl ((wI64 (by omega)).trans (by omega))) ?_
        refine WpL_val rfl rfl (by decide) (r_assign (v := (.int .i64 (((j - i : Nat) : Nat) : Int))) rfl) ?_
        refine WpL_nil ?_
        refine inB_normal ?_
        refine thn_normal ?_
        exact ⟨i + (j - i), by omega, i, j - i, l', Fits.out ⟨rfl, rfl, rfl, rfl, rfl, trivial⟩, E, hi, ⟨by omega, by omega⟩, hp'.trans hp, (fun z => by rw [hz', ← hz]; congr 1; exact ro_right hi.1 hj.1 (by omega) (by omega) z), hG', rfl⟩
    · have khne := hne
      replace hne := of_decide_eq_false hne
      have hij : i = j := by omega
      refine Wp_exit ?_
      refine thn_exit ?_
      refine thn_exit ?_
      refine inB_here ?_
      refine thn_normal ?_
      refine Wp_region ?_
      refine WpL_val rfl rfl (by decide) (r_move (v := (.slice (some ⟨g, 0, none⟩) n c)) rfl) ?_
      refine WpL_val rfl rfl (by decide) (r_move (v := (.int .i64 ((m : Nat) : Int))) rfl) ?_
      refine WpL_val rfl rfl (by decide) (r_move (v := (.int .i64 ((i : Nat) : Int))) rfl) ?_
      refine WpL_val rfl rfl (by decide) (r_sub (k := .i64) (a := ((m : Nat) : Int)) (b := ((i : Nat) : Int)) (c := (((m - i : Nat) : Nat) : Int)) rfl rfl ((wI64 (by omega)).trans (by omega))) ?_
      refine WpL_val rfl rfl (by decide) (r_move (v := (.int .i64 ((m : Nat) : Int))) rfl) ?_
      refine WpL_val rfl rfl (by decide) (r_move (v := (.int .i64 ((i : Nat) : Int))) rfl) ?_
      refine WpL_val rfl rfl (by decide) (r_move (v := fv) rfl) ?_
      refine WpL_enter rfl rfl (by decide) (r_callF (vs := [(.slice (some ⟨g, 0, none⟩) n c), (.int .i64 (((m - i : Nat) : Nat) : Int)), (.int .i64 ((m : Nat) : Int)), (.int .i64 ((i : Nat) : Int)), fv]) Try.func128 nm128 bd128 rfl) (swapRangeX_c _ g c n T cu rest fv (m - i) m i hG (by rw [hp.length_eq, hn]) (by omega) (by omega) hsz) ?_
      rintro _ w29 ⟨l', hp', hz', hG', C29⟩
      replace E := E.step C29 (fun q _ h => h)
      subst hij
      refine WpL_nil ?_
      refine fin_none Try.results126 ?_
      exact ⟨l', hp'.trans hp, fun z => by rw [hz', ← hz]; congr 1; exact ro_end hi.1 (by omega) z, hG', E⟩
end Go.Proofs
