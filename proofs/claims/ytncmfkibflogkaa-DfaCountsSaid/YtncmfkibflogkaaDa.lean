/- Automata in memory; least and greatest numbers of a list; the check of an automaton. -/
import Derived.Test.YtncmfkibflogkaaLp
import Derived.Test.YtncmfkibflogkaaSl
import Derived.Test.YtncmfkibflogkaaSb
namespace Go.Proofs
open Go Go.Eng
set_option maxRecDepth 100000

def IntssAt (w : World) (v : Value) (ll : List (List Int)) : Prop := ∃ vs : List Value, SlAt w 1 v (vs.map fun x => [x]) ∧ vs.length = ll.length ∧ ∀ (i : Nat) (u : Value) (l : List Int), vs[i]? = some u → ll[i]? = some l → IntsAt w u l
theorem IntssAt.ext {w w' : World} {v : Value} {ll : List (List Int)} (h : IntssAt w v ll) (e : Ext w w') : IntssAt w' v ll := by
  obtain ⟨vs, h1, h2, h3⟩ := h
  exact ⟨vs, h1.ext e, h2, fun i u l hu hl => (h3 i u l hu hl).ext e⟩
theorem IntssAt.form {w : World} {v : Value} {ll : List (List Int)} (h : IntssAt w v ll) : ∃ a c, v = .slice a ll.length c ∧ ll.length ≤ c ∧ ll.length ≤ 9223372036854775807 := by
  obtain ⟨vs, h1, h2, _⟩ := h
  obtain ⟨a, c, rfl⟩ := h1.form
  have := h1.cap
  have := h1.le
  simp only [List.length_map] at *
  rw [h2] at *
  exact ⟨a, c, rfl, by omega, by omega⟩
theorem intss_cells {w : World} {a : Option Addr} {n c : Nat} {ll : List (List Int)} (h : IntssAt w (.slice a n c) ll) (hn : 0 < n) :
    ∃ b o, a = some ⟨b, o, none⟩ ∧ ∀ i l, ll[i]? = some l → ∃ ra rc, w.cell? ⟨b, o + i, none⟩ = some (.slice ra l.length rc) ∧ IntsAt w (.slice ra l.length rc) l := by
  obtain ⟨vs, h1, h2, h3⟩ := h
  obtain ⟨b, o, ha, hc⟩ := SlAt.at h1 hn
  refine ⟨b, o, ha, fun i l hl => ?_⟩
  have hi : i < vs.length := by have := lt_of_get hl; omega
  have hu : vs[i]? = some vs[i] := List.getElem?_eq_getElem hi
  have h4 := h3 i vs[i] l hu hl
  obtain ⟨ra, rc, hf⟩ := SlAt.form h4
  simp only [List.length_map] at hf
  have h5 := hc i [vs[i]] (by simp [hu]) 0 _ rfl
  rw [Nat.mul_one, Nat.add_zero, hf] at h5
  rw [hf] at h4
  exact ⟨ra, rc, h5, h4⟩
def DfaAt (w : World) (d : Dfa) (vs : List Value) : Prop := ∃ aa ac na nc, vs = [.int .i64 d.start, .slice aa d.accept.length ac, .slice na d.next.length nc] ∧ IntsAt w (.slice aa d.accept.length ac) d.accept ∧ IntssAt w (.slice na d.next.length nc) d.next
theorem DfaAt.ext {w w' : World} {d : Dfa} {vs : List Value} (h : DfaAt w d vs) (e : Ext w w') : DfaAt w' d vs := by
  obtain ⟨aa, ac, na, nc, h1, h2, h3⟩ := h
  exact ⟨aa, ac, na, nc, h1, h2.ext e, h3.ext e⟩

def minL (l : List Int) : Int := l.foldl min (l.headD 0)
def maxL (l : List Int) : Int := l.foldl max (l.headD 0)
theorem fold_take (f : Int → Int → Int) {l : List Int} {k : Nat} {x z : Int} (hx : l[k]? = some x) : (l.take (k + 1)).foldl f z = f ((l.take k).foldl f z) x := by
  rw [List.take_add_one, hx]; simp [List.foldl_append]
theorem minL_le_aux : ∀ (l : List Int) (z : Int), l.foldl min z ≤ z ∧ ∀ x ∈ l, l.foldl min z ≤ x
  | [], z => ⟨Int.le_refl _, fun x h => by simp at h⟩
  | y :: l, z => by
    obtain ⟨h1, h2⟩ := minL_le_aux l (min z y)
    refine ⟨by simp only [List.foldl_cons]; omega, fun x hx => ?_⟩
    simp only [List.foldl_cons]
    rcases List.mem_cons.1 hx with rfl | hx
    · omega
    · exact h2 x hx
theorem minL_mem_aux : ∀ (l : List Int) (z : Int), l.foldl min z = z ∨ l.foldl min z ∈ l
  | [], z => .inl rfl
  | y :: l, z => by
    simp only [List.foldl_cons]
    rcases minL_mem_aux l (min z y) with h | h
    · rw [h]
      by_cases hc : z ≤ y
      · left; omega
      · right; rw [show min z y = y from by omega]; simp
    · right; simp [h]
theorem maxL_le_aux : ∀ (l : List Int) (z : Int), z ≤ l.foldl max z ∧ ∀ x ∈ l, x ≤ l.foldl max z
  | [], z => ⟨Int.le_refl _, fun x h => by simp at h⟩
  | y :: l, z => by
    obtain ⟨h1, h2⟩ := maxL_le_aux l (max z y)
    refine ⟨by simp only [List.foldl_cons]; omega, fun x hx => ?_⟩
    simp only [List.foldl_cons]
    rcases List.mem_cons.1 hx with rfl | hx
    · omega
    · exact h2 x hx
theorem maxL_mem_aux : ∀ (l : List Int) (z : Int), l.foldl max z = z ∨ l.foldl max z ∈ l
  | [], z => .inl rfl
  | y :: l, z => by
    simp only [List.foldl_cons]
    rcases maxL_mem_aux l (max z y) with h | h
    · rw [h]
      by_cases hc : y ≤ z
      · left; omega
      · right; rw [show max z y = y from by omega]; simp
    · right; simp [h]
theorem head_mem {l : List Int} (h : l ≠ []) : l.headD 0 ∈ l := by cases l with | nil => exact absurd rfl h | cons x l => simp
theorem minL_lt {l : List Int} (h : l ≠ []) {z : Int} : z ≤ minL l ↔ ∀ x ∈ l, z ≤ x := by
  constructor
  · intro h1 x hx; have := (minL_le_aux l (l.headD 0)).2 x hx; unfold minL at h1; omega
  · intro h1
    unfold minL
    rcases minL_mem_aux l (l.headD 0) with h2 | h2
    · rw [h2]; exact h1 _ (head_mem h)
    · exact h1 _ h2
theorem maxL_lt {l : List Int} (h : l ≠ []) {z : Int} : maxL l < z ↔ ∀ x ∈ l, x < z := by
  constructor
  · intro h1 x hx; have := (maxL_le_aux l (l.headD 0)).2 x hx; unfold maxL at h1; omega
  · intro h1
    unfold maxL
    rcases maxL_mem_aux l (l.headD 0) with h2 | h2
    · rw [h2]; exact h1 _ (head_mem h)
    · exact h1 _ h2

theorem min_c (w0 : World) (v : Value) (l : List Int) (h : IntsAt w0 v l) (hl : l ≠ []) : Ret Try.prog 85 #[v] w0 fun r w => r = .int .i64 (minL l) ∧ Ext w0 w := by
  obtain ⟨a, c, rfl⟩ := SlAt.form h
  have hlen : l.length ≤ 9223372036854775807 := by simpa using SlAt.le h
  simp only [List.length_map] at h ⊢
  have hpos : 0 < l.length := List.length_pos_iff.2 hl
  obtain ⟨b, o, rfl, hcl⟩ := ints_cells h hpos
  obtain ⟨x0, hx0⟩ := get_of_lt (l := l) (i := 0) hpos
  have hh : l.headD 0 = x0 := by cases l with | nil => simp at hx0 | cons y l => simpa using hx0
  refine Ret_of Try.func85 rfl Try.ntmps85 (Nat.le_of_ble_eq_true rfl) ?_
  have E : Chg none1 w0 w0 := Chg.refl _ _
  refine Wp_seq_region ?_
  refine WpL_val rfl rfl (by decide) (r_assign (v := (.int .i64 0)) rfl) ?_
  refine WpL_nil ?_
  refine Wp_seq ?_
  refine Wp_seq_region ?_
  refine WpL_val rfl rfl (by decide) (r_move (v := (.slice (some ⟨b, o, none⟩) l.length c)) rfl) ?_
  refine WpL_val rfl rfl (by decide) (r_lenSlice (ad := some ⟨b, o, none⟩) (n := l.length) (cap := c) Try.underlying22 rfl) ?_
  refine WpL_val rfl rfl (by decide) (r_lss (k := .i64) (a := ((l.length : Nat) : Int)) (b := 1) rfl rfl) ?_
  refine WpL_nil ?_
  have hc1 : (decide ((((l.length : Nat) : Int) : Int) < 1)) = false := by simp; omega
  refine Wp_cond_false (congrArg Value.bool hc1) ?_
  refine Wp_skip ?_
  refine thn_normal ?_
  refine Wp_seq_region ?_
  refine WpL_val rfl rfl (by decide) (r_move (v := (.slice (some ⟨b, o, none⟩) l.length c)) rfl) ?_
  refine WpL_val rfl rfl (by decide) (r_indexSlice (b := b) (o := o) (len := l.length) (cap := c) (i := 0) (o' := o + 0) rfl rfl rfl Try.underlying22 siz3 (by omega) (by omega)) ?_
  refine WpL_val rfl rfl (by decide) (r_load (v := (.int .i64 x0)) rfl flat3 (E.cell (fun f => f) (hcl 0 x0 hx0))) ?_
  refine WpL_val rfl rfl (by decide) (r_assign (v := (.int .i64 x0)) rfl) ?_
  refine WpL_nil ?_
  refine Wp_seq ?_
  refine Wp_seq_region ?_
  refine WpL_val rfl rfl (by decide) (r_assign (v := (.int .i64 1)) rfl) ?_
  refine WpL_nil ?_
  refine Wp_block ?_
  refine Wp_loop (fun nn_ σ W2 => ∃ (k : Nat) (m : Int), (∃ jj_, σ = upds jj_ [(0, (.slice (some ⟨b, o, none⟩) l.length c)), (4, (.int .i64 ((k : Nat) : Int))), (3, (.int .i64 m))]) ∧ Chg none1 w0 W2 ∧ (1 ≤ k ∧ k ≤ l.length) ∧ (m = (l.take k).foldl min (l.headD 0)) ∧ nn_ = l.length - k) (n := l.length - 1) ?_ ?_
  · exact ⟨1, x0, Fits.out ⟨rfl, rfl, rfl, trivial⟩, E, ⟨Nat.le_refl _, by omega⟩, (by rw [fold_take _ hx0, hh]; simp), rfl⟩
  · clear E
    rintro _ _ W2 ⟨k, m, ⟨j2, rfl⟩, E, hk, hm, rfl⟩
    refine Wp_seq ?_
    refine Wp_seq_region ?_
    refine WpL_val rfl rfl (by decide) (r_move (v := (.int .i64 ((k : Nat) : Int))) rfl) ?_
    refine WpL_val rfl rfl (by decide) (r_move (v := (.slice (some ⟨b, o, none⟩) l.length c)) rfl) ?_
    refine WpL_val rfl rfl (by decide) (r_lenSlice (ad := some ⟨b, o, none⟩) (n := l.length) (cap := c) Try.underlying22 rfl) ?_
    refine WpL_val rfl rfl (by decide) (r_lss (k := .i64) (a := ((k : Nat) : Int)) (b := ((l.length : Nat) : Int)) rfl rfl) ?_
    refine WpL_nil ?_
    refine Wp_cond (b := decide ((((k : Nat) : Int) : Int) < ((l.length : Nat) : Int))) rfl (fun hlt => ?_) (fun hlt => ?_)
    · have khlt := hlt
      replace hlt := of_decide_eq_true hlt
      obtain ⟨x, hx⟩ := get_of_lt (l := l) (i := k) (by omega)
      refine Wp_skip ?_
      refine thn_normal ?_
      refine Wp_seq ?_
      refine Wp_block ?_
      refine Wp_region ?_
      refine WpL_val rfl rfl (by decide) (r_move (v := (.int .i64 m)) rfl) ?_
      refine WpL_val rfl rfl (by decide) (r_move (v := (.slice (some ⟨b, o, none⟩) l.length c)) rfl) ?_
      refine WpL_val rfl rfl (by decide) (r_move (v := (.int .i64 ((k : Nat) : Int))) rfl) ?_
      refine WpL_val rfl rfl (by decide) (r_indexSlice (b := b) (o := o) (len := l.length) (cap := c) (i := k) (o' := o + k) rfl rfl rfl Try.underlying22 siz3 (by omega) (by omega)) ?_
      refine WpL_val rfl rfl (by decide) (r_load (v := (.int .i64 x)) rfl flat3 (E.cell (fun f => f) (hcl k x hx))) ?_
      refine WpL_val rfl rfl (by decide) (r_minI rfl rfl rfl) ?_
      refine WpL_val rfl rfl (by decide) (r_assign (v := (.int .i64 (min m x))) rfl) ?_
      refine WpL_nil ?_
      refine inB_normal ?_
      refine thn_normal ?_
      refine Wp_region ?_
      refine WpL_val rfl rfl (by decide) (r_move (v := (.int .i64 ((k : Nat) : Int))) rfl) ?_
      refine WpL_val rfl rfl (by decide) (r_add (k := .i64) (a := ((k : Nat) : Int)) (b := 1) (c := ((k : Nat) : Int) + 1) rfl rfl (wI64 (by omega))) ?_
      refine WpL_val rfl rfl (by decide) (r_assign (v := (.int .i64 (((k : Nat) : Int) + 1))) rfl) ?_
      refine WpL_nil ?_
      refine thn_normal ?_
      exact ⟨l.length - (k + 1), by omega, k + 1, (min m x), Fits.out ⟨rfl, rfl, rfl, trivial⟩, E, ⟨by omega, by omega⟩, (by rw [fold_take _ hx, hm]), rfl⟩
    · have khlt := hlt
      replace hlt := of_decide_eq_false hlt
      have hkk : k = l.length := by omega
      refine Wp_exit ?_
      refine thn_exit ?_
      refine thn_exit ?_
      refine inB_here ?_
      refine thn_normal ?_
      refine Wp_seq_region ?_
      refine WpL_val rfl rfl (by decide) (r_move (v := (.int .i64 m)) rfl) ?_
      refine WpL_val rfl rfl (by decide) (r_assign (v := (.int .i64 m)) rfl) ?_
      refine WpL_nil ?_
      refine Wp_ret ?_
      refine fin_tmp Try.results85 (v := (.int .i64 m)) rfl ?_
      refine ⟨int_eq ?_, E⟩
      rw [hm, hkk, List.take_length]; rfl
theorem max_c (w0 : World) (v : Value) (l : List Int) (h : IntsAt w0 v l) (hl : l ≠ []) : Ret Try.prog 86 #[v] w0 fun r w => r = .int .i64 (maxL l) ∧ Ext w0 w := by
  obtain ⟨a, c, rfl⟩ := SlAt.form h
  have hlen : l.length ≤ 9223372036854775807 := by simpa using SlAt.le h
  simp only [List.length_map] at h ⊢
  have hpos : 0 < l.length := List.length_pos_iff.2 hl
  obtain ⟨b, o, rfl, hcl⟩ := ints_cells h hpos
  obtain ⟨x0, hx0⟩ := get_of_lt (l := l) (i := 0) hpos
  have hh : l.headD 0 = x0 := by cases l with | nil => simp at hx0 | cons y l => simpa using hx0
  refine Ret_of Try.func86 rfl Try.ntmps86 (Nat.le_of_ble_eq_true rfl) ?_
  have E : Chg none1 w0 w0 := Chg.refl _ _
  refine Wp_seq_region ?_
  refine WpL_val rfl rfl (by decide) (r_assign (v := (.int .i64 0)) rfl) ?_
  refine WpL_nil ?_
  refine Wp_seq ?_
  refine Wp_seq_region ?_
  refine WpL_val rfl rfl (by decide) (r_move (v := (.slice (some ⟨b, o, none⟩) l.length c)) rfl) ?_
  refine WpL_val rfl rfl (by decide) (r_lenSlice (ad := some ⟨b, o, none⟩) (n := l.length) (cap := c) Try.underlying22 rfl) ?_
  refine WpL_val rfl rfl (by decide) (r_lss (k := .i64) (a := ((l.length : Nat) : Int)) (b := 1) rfl rfl) ?_
  refine WpL_nil ?_
  have hc1 : (decide ((((l.length : Nat) : Int) : Int) < 1)) = false := by simp; omega
  refine Wp_cond_false (congrArg Value.bool hc1) ?_
  refine Wp_skip ?_
  refine thn_normal ?_
  refine Wp_seq_region ?_
  refine WpL_val rfl rfl (by decide) (r_move (v := (.slice (some ⟨b, o, none⟩) l.length c)) rfl) ?_
  refine WpL_val rfl rfl (by decide) (r_indexSlice (b := b) (o := o) (len := l.length) (cap := c) (i := 0) (o' := o + 0) rfl rfl rfl Try.underlying22 siz3 (by omega) (by omega)) ?_
  refine WpL_val rfl rfl (by decide) (r_load (v := (.int .i64 x0)) rfl flat3 (E.cell (fun f => f) (hcl 0 x0 hx0))) ?_
  refine WpL_val rfl rfl (by decide) (r_assign (v := (.int .i64 x0)) rfl) ?_
  refine WpL_nil ?_
  refine Wp_seq ?_
  refine Wp_seq_region ?_
  refine WpL_val rfl rfl (by decide) (r_assign (v := (.int .i64 1)) rfl) ?_
  refine WpL_nil ?_
  refine Wp_block ?_
  refine Wp_loop (fun nn_ σ W2 => ∃ (k : Nat) (m : Int), (∃ jj_, σ = upds jj_ [(0, (.slice (some ⟨b, o, none⟩) l.length c)), (4, (.int .i64 ((k : Nat) : Int))), (3, (.int .i64 m))]) ∧ Chg none1 w0 W2 ∧ (1 ≤ k ∧ k ≤ l.length) ∧ (m = (l.take k).foldl max (l.headD 0)) ∧ nn_ = l.length - k) (n := l.length - 1) ?_ ?_
  · exact ⟨1, x0, Fits.out ⟨rfl, rfl, rfl, trivial⟩, E, ⟨Nat.le_refl _, by omega⟩, (by rw [fold_take _ hx0, hh]; simp), rfl⟩
  · clear E
    rintro _ _ W2 ⟨k, m, ⟨j2, rfl⟩, E, hk, hm, rfl⟩
    refine Wp_seq ?_
    refine Wp_seq_region ?_
    refine WpL_val rfl rfl (by decide) (r_move (v := (.int .i64 ((k : Nat) : Int))) rfl) ?_
    refine WpL_val rfl rfl (by decide) (r_move (v := (.slice (some ⟨b, o, none⟩) l.length c)) rfl) ?_
    refine WpL_val rfl rfl (by decide) (r_lenSlice (ad := some ⟨b, o, none⟩) (n := l.length) (cap := c) Try.underlying22 rfl) ?_
    refine WpL_val rfl rfl (by decide) (r_lss (k := .i64) (a := ((k : Nat) : Int)) (b := ((l.length : Nat) : Int)) rfl rfl) ?_
    refine WpL_nil ?_
    refine Wp_cond (b := decide ((((k : Nat) : Int) : Int) < ((l.length : Nat) : Int))) rfl (fun hlt => ?_) (fun hlt => ?_)
    · have khlt := hlt
      replace hlt := of_decide_eq_true hlt
      obtain ⟨x, hx⟩ := get_of_lt (l := l) (i := k) (by omega)
      refine Wp_skip ?_
      refine thn_normal ?_
      refine Wp_seq ?_
      refine Wp_block ?_
      refine Wp_region ?_
      refine WpL_val rfl rfl (by decide) (r_move (v := (.int .i64 m)) rfl) ?_
      refine WpL_val rfl rfl (by decide) (r_move (v := (.slice (some ⟨b, o, none⟩) l.length c)) rfl) ?_
      refine WpL_val rfl rfl (by decide) (r_move (v := (.int .i64 ((k : Nat) : Int))) rfl) ?_
      refine WpL_val rfl rfl (by decide) (r_indexSlice (b := b) (o := o) (len := l.length) (cap := c) (i := k) (o' := o + k) rfl rfl rfl Try.underlying22 siz3 (by omega) (by omega)) ?_
      refine WpL_val rfl rfl (by decide) (r_load (v := (.int .i64 x)) rfl flat3 (E.cell (fun f => f) (hcl k x hx))) ?_
      refine WpL_val rfl rfl (by decide) (r_maxI rfl rfl rfl) ?_
      refine WpL_val rfl rfl (by decide) (r_assign (v := (.int .i64 (max m x))) rfl) ?_
      refine WpL_nil ?_
      refine inB_normal ?_
      refine thn_normal ?_
      refine Wp_region ?_
      refine WpL_val rfl rfl (by decide) (r_move (v := (.int .i64 ((k : Nat) : Int))) rfl) ?_
      refine WpL_val rfl rfl (by decide) (r_add (k := .i64) (a := ((k : Nat) : Int)) (b := 1) (c := ((k : Nat) : Int) + 1) rfl rfl (wI64 (by omega))) ?_
      refine WpL_val rfl rfl (by decide) (r_assign (v := (.int .i64 (((k : Nat) : Int) + 1))) rfl) ?_
      refine WpL_nil ?_
      refine thn_normal ?_
      exact ⟨l.length - (k + 1), by omega, k + 1, (max m x), Fits.out ⟨rfl, rfl, rfl, trivial⟩, E, ⟨by omega, by omega⟩, (by rw [fold_take _ hx, hm]), rfl⟩
    · have khlt := hlt
      replace hlt := of_decide_eq_false hlt
      have hkk : k = l.length := by omega
      refine Wp_exit ?_
      refine thn_exit ?_
      refine thn_exit ?_
      refine inB_here ?_
      refine thn_normal ?_
      refine Wp_seq_region ?_
      refine WpL_val rfl rfl (by decide) (r_move (v := (.int .i64 m)) rfl) ?_
      refine WpL_val rfl rfl (by decide) (r_assign (v := (.int .i64 m)) rfl) ?_
      refine WpL_nil ?_
      refine Wp_ret ?_
      refine fin_tmp Try.results86 (v := (.int .i64 m)) rfl ?_
      refine ⟨int_eq ?_, E⟩
      rw [hm, hkk, List.take_length]; rfl

def badRow (n : Int) (r : List Int) : Bool := decide (minL r < -1) || decide (n ≤ maxL r)
def bad0 (d : Dfa) : Bool := (decide (d.start < 0) || decide ((d.next.length : Int) ≤ d.start)) || decide (minL d.accept < -1)
def formRow (c : Nat) (r : List Int) : Bool := decide ((r.length : Int) = 0) || decide ((r.length : Int) ≠ (c : Int))
def colsD (d : Dfa) : Nat := (d.next.headD []).length
def checkD (d : Dfa) : Int :=
  if 200 < d.next.length then 2 else if d.next.length = 0 ∨ d.accept.length ≠ d.next.length then 3 else if 16 < colsD d then 2
  else if d.next.any (formRow (colsD d)) = true then 3
  else if (bad0 d || d.next.any (badRow d.next.length)) = true then 1 else 0

set_option maxHeartbeats 4000000 in
theorem dcheck_c (w0 : World) (d : Dfa) (vs : List Value) (hd : DfaAt w0 d vs) : Ret Try.prog 50 #[.agg vs.toArray] w0 fun r w => r = .int .i64 (checkD d) ∧ Ext w0 w := by
  obtain ⟨aa, ac, na, nc, rfl, ha, hn⟩ := hd
  have hal : d.accept.length ≤ 9223372036854775807 := by simpa using SlAt.le ha
  obtain ⟨_, _, hv, hcap, hle⟩ := hn.form
  simp only [Value.slice.injEq] at hv
  obtain ⟨rfl, _, rfl⟩ := hv
  refine Ret_of Try.func50 rfl Try.ntmps50 (Nat.le_of_ble_eq_true rfl) ?_
  have E : Chg none1 w0 w0 := Chg.refl _ _
  refine Wp_seq_region ?_
  refine s_box (v := (.agg #[(.int .i64 d.start), (.slice aa d.accept.length ac), (.slice na d.next.length nc)])) (c := #[(.int .i64 d.start), (.slice aa d.accept.length ac), (.slice na d.next.length nc)]) (by decide) rfl rfl ?_
  intro br wr Nr
  have Fr := Nr.ge E
  replace E := E.ext Nr.ext
  have Br := Nr.blk
  refine WpL_val rfl rfl (by decide) (r_assign (v := (.int .i64 0)) rfl) ?_
  refine WpL_nil ?_
  refine Wp_seq_region ?_
  refine WpL_val rfl rfl (by decide) (r_fieldAddr (b := br) (o := 0) (o' := 2) rfl Try.underlying25 rfl siz23 rfl) ?_
  refine WpL_val rfl rfl (by decide) (r_load (v := (.slice na d.next.length nc)) rfl flat23 (Br.cell rfl)) ?_
  refine WpL_val rfl rfl (by decide) (r_lenSlice (ad := na) (n := d.next.length) (cap := nc) Try.underlying23 rfl) ?_
  refine WpL_val rfl rfl (by decide) (r_assign (v := (.int .i64 ((d.next.length : Nat) : Int))) rfl) ?_
  refine WpL_nil ?_
  refine Wp_seq ?_
  refine Wp_block ?_
  refine Wp_seq_region ?_
  refine WpL_val rfl rfl (by decide) (r_move (v := (.int .i64 ((d.next.length : Nat) : Int))) rfl) ?_
  refine WpL_val rfl rfl (by decide) (r_gtr (k := .i64) (a := ((d.next.length : Nat) : Int)) (b := 200) rfl rfl) ?_
  refine WpL_val rfl rfl (by decide) (r_assign (v := (.bool (decide ((200 : Int) < ((d.next.length : Nat) : Int))))) rfl) ?_
  refine WpL_nil ?_
  refine Wp_cond (b := decide ((200 : Int) < ((d.next.length : Nat) : Int))) rfl (fun h1 => ?_) (fun h1 => ?_)
  · have kh1 := h1
    replace h1 := of_decide_eq_true h1
    refine Wp_seq_region ?_
    refine WpL_val rfl rfl (by decide) (r_assign (v := (.int .i64 2)) rfl) ?_
    refine WpL_nil ?_
    refine Wp_ret ?_
    refine inB_ret ?_
    refine thn_ret ?_
    refine fin_tmp Try.results50 (v := (.int .i64 2)) rfl ?_
    exact ⟨int_eq (by unfold checkD; rw [if_pos (by omega)]), E⟩
  · have kh1 := h1
    replace h1 := of_decide_eq_false h1
    refine Wp_seq_region ?_
    refine WpL_val rfl rfl (by decide) (r_move (v := (.int .i64 ((d.next.length : Nat) : Int))) rfl) ?_
    obtain ⟨e2, he2⟩ : ∃ e, (decide ((((d.next.length : Nat) : Int) : Int) = 0)) = e := ⟨_, rfl⟩
    refine WpL_val rfl rfl (by decide) ((r_eql (k := .i64) (a := ((d.next.length : Nat) : Int)) (b := 0) rfl rfl).trans (by rw [he2]; try rfl)) ?_
    refine WpL_val rfl rfl (by decide) (r_move (v := (.bool e2)) rfl) ?_
    refine WpL_guard_any (oj := _) (gv := (.bool e2)) (u := (bif e2 then undef else (.pointer (some ⟨br, 1, none⟩)))) rfl rfl (by decide) (by decide) rfl (by cases e2 <;> first | exact Or.inr ⟨Or.inl rfl, rfl⟩ | exact Or.inr ⟨Or.inr rfl, rfl⟩ | exact Or.inl ⟨rfl, r_fieldAddr (b := br) (o := 0) (o' := 1) rfl Try.underlying25 rfl siz22 rfl⟩) ?_
    refine WpL_guard_any (oj := _) (gv := (.bool e2)) (u := (bif e2 then undef else (.slice aa d.accept.length ac))) rfl rfl (by decide) (by decide) rfl (by cases e2 <;> first | exact Or.inr ⟨Or.inl rfl, rfl⟩ | exact Or.inr ⟨Or.inr rfl, rfl⟩ | exact Or.inl ⟨rfl, r_load (v := (.slice aa d.accept.length ac)) rfl flat22 (Br.cell rfl)⟩) ?_
    refine WpL_guard_any (oj := _) (gv := (.bool e2)) (u := (bif e2 then undef else (.int .i64 ((d.accept.length : Nat) : Int)))) rfl rfl (by decide) (by decide) rfl (by cases e2 <;> first | exact Or.inr ⟨Or.inl rfl, rfl⟩ | exact Or.inr ⟨Or.inr rfl, rfl⟩ | exact Or.inl ⟨rfl, r_lenSlice (ad := aa) (n := d.accept.length) (cap := ac) Try.underlying22 rfl⟩) ?_
    refine WpL_guard_any (oj := _) (gv := (.bool e2)) (u := (bif e2 then undef else (.int .i64 ((d.next.length : Nat) : Int)))) rfl rfl (by decide) (by decide) rfl (by cases e2 <;> first | exact Or.inr ⟨Or.inl rfl, rfl⟩ | exact Or.inr ⟨Or.inr rfl, rfl⟩ | exact Or.inl ⟨rfl, r_move (v := (.int .i64 ((d.next.length : Nat) : Int))) rfl⟩) ?_
    obtain ⟨e3, he3⟩ : ∃ e, (decide ((((d.accept.length : Nat) : Int) : Int) ≠ ((d.next.length : Nat) : Int))) = e := ⟨_, rfl⟩
    refine WpL_guard_any (oj := _) (gv := (.bool e2)) (u := (bif e2 then undef else (.bool e3))) rfl rfl (by decide) (by decide) rfl (by cases e2 <;> first | exact Or.inr ⟨Or.inl rfl, rfl⟩ | exact Or.inr ⟨Or.inr rfl, rfl⟩ | exact Or.inl ⟨rfl, (r_neq (k := .i64) (a := ((d.accept.length : Nat) : Int)) (b := ((d.next.length : Nat) : Int)) rfl rfl).trans (by rw [he3]; try rfl)⟩) ?_
    obtain ⟨e4, he4⟩ : ∃ e, (e2 || e3) = e := ⟨_, rfl⟩
    refine WpL_val rfl rfl (by decide) (r_pick (b := e2) (v := .bool e4) rfl (by rw [← he4]; cases e2 <;> rfl)) ?_
    refine WpL_val rfl rfl (by decide) (r_assign (v := (.bool e4)) rfl) ?_
    refine WpL_nil ?_
    subst he4
    subst he3
    subst he2
    refine Wp_cond (b := ((decide ((((d.next.length : Nat) : Int) : Int) = 0)) || (decide ((((d.accept.length : Nat) : Int) : Int) ≠ ((d.next.length : Nat) : Int))))) rfl (fun h2 => ?_) (fun h2 => ?_)
    · have kh2 := h2
      refine Wp_seq_region ?_
      refine WpL_val rfl rfl (by decide) (r_assign (v := (.int .i64 3)) rfl) ?_
      refine WpL_nil ?_
      refine Wp_ret ?_
      refine inB_ret ?_
      refine thn_ret ?_
      refine fin_tmp Try.results50 (v := (.int .i64 3)) rfl ?_
      exact ⟨int_eq (by unfold checkD; rw [if_neg (by omega), if_pos (by simp only [Bool.or_eq_true, decide_eq_true_eq] at h2; omega)]), E⟩
    · have kh2 := h2
      simp only [Bool.or_eq_false_iff, decide_eq_false_iff_not] at h2
      have h20 : ¬ (d.next.length = 0 ∨ d.accept.length ≠ d.next.length) := by omega
      obtain ⟨row0, hrow0⟩ := get_of_lt (l := d.next) (i := 0) (by omega)
      have hc0 : colsD d = row0.length := by unfold colsD; cases hq : d.next with | nil => rw [hq] at hrow0; simp at hrow0 | cons y l => rw [hq] at hrow0; simp at hrow0; simp [hrow0]
      obtain ⟨nb, no, hna, hncl⟩ := intss_cells hn (by omega)
      subst hna
      obtain ⟨ra0, rc0, hcell0, hints0⟩ := hncl 0 row0 hrow0
      refine Wp_seq_region ?_
      refine WpL_val rfl rfl (by decide) (r_fieldAddr (b := br) (o := 0) (o' := 2) rfl Try.underlying25 rfl siz23 rfl) ?_
      refine WpL_val rfl rfl (by decide) (r_load (v := (.slice (some ⟨nb, no, none⟩) d.next.length nc)) rfl flat23 (Br.cell rfl)) ?_
      refine WpL_val rfl rfl (by decide) (r_indexSlice (b := nb) (o := no) (len := d.next.length) (cap := nc) (i := 0) (o' := no + 0) rfl rfl rfl Try.underlying23 siz22 (by omega) (by omega)) ?_
      refine WpL_val rfl rfl (by decide) (r_load (v := (.slice ra0 row0.length rc0)) rfl flat22 (E.cell (fun f => f) hcell0)) ?_
      refine WpL_val rfl rfl (by decide) (r_lenSlice (ad := ra0) (n := row0.length) (cap := rc0) Try.underlying22 rfl) ?_
      refine WpL_val rfl rfl (by decide) (r_gtr (k := .i64) (a := ((row0.length : Nat) : Int)) (b := 16) rfl rfl) ?_
      refine WpL_val rfl rfl (by decide) (r_assign (v := (.bool (decide ((16 : Int) < ((row0.length : Nat) : Int))))) rfl) ?_
      refine WpL_nil ?_
      refine Wp_cond (b := decide ((16 : Int) < ((row0.length : Nat) : Int))) rfl (fun h3 => ?_) (fun h3 => ?_)
      · have kh3 := h3
        replace h3 := of_decide_eq_true h3
        refine Wp_seq_region ?_
        refine WpL_val rfl rfl (by decide) (r_assign (v := (.int .i64 2)) rfl) ?_
        refine WpL_nil ?_
        refine Wp_ret ?_
        refine inB_ret ?_
        refine thn_ret ?_
        refine fin_tmp Try.results50 (v := (.int .i64 2)) rfl ?_
        exact ⟨int_eq (by unfold checkD; rw [if_neg (by omega), if_neg h20, if_pos (by omega)]), E⟩
      · have kh3 := h3
        replace h3 := of_decide_eq_false h3
        refine Wp_skip ?_
        refine inB_normal ?_
        refine thn_normal ?_
        refine Wp_seq ?_
        refine Wp_seq_region ?_
        refine WpL_val rfl rfl (by decide) (r_fieldAddr (b := br) (o := 0) (o' := 2) rfl Try.underlying25 rfl siz23 rfl) ?_
        refine WpL_val rfl rfl (by decide) (r_load (v := (.slice (some ⟨nb, no, none⟩) d.next.length nc)) rfl flat23 (Br.cell rfl)) ?_
        refine WpL_val rfl rfl (by decide) (r_lenSlice (ad := some ⟨nb, no, none⟩) (n := d.next.length) (cap := nc) Try.underlying23 rfl) ?_
        refine WpL_val rfl rfl (by decide) (r_move (v := (.int .i64 0)) rfl) ?_
        refine WpL_nil ?_
        refine Wp_block ?_
        refine Wp_loop (fun nn_ σ W7 => ∃ (k : Nat), (∃ jj_, σ = upds jj_ [(1, (.pointer (some ⟨br, 0, none⟩))), (3, (.int .i64 ((d.next.length : Nat) : Int))), (33, (.slice (some ⟨nb, no, none⟩) d.next.length nc)), (34, (.int .i64 ((d.next.length : Nat) : Int))), (35, (.int .i64 ((k : Nat) : Int)))]) ∧ Chg none1 w0 W7 ∧ Blk W7 br #[(.int .i64 d.start), (.slice aa d.accept.length ac), (.slice (some ⟨nb, no, none⟩) d.next.length nc)] 25 ∧ (k ≤ d.next.length) ∧ ((d.next.take k).any (formRow (colsD d)) = false) ∧ nn_ = d.next.length - k) (n := d.next.length - 0) ?_ ?_
        · exact ⟨0, Fits.out ⟨rfl, rfl, rfl, rfl, rfl, trivial⟩, E, Br, Nat.zero_le _, rfl, rfl⟩
        · clear E Br
          rintro _ _ W7 ⟨k, ⟨j7, rfl⟩, E, Br, hk, hno, rfl⟩
          refine Wp_seq_region ?_
          refine WpL_val rfl rfl (by decide) (r_lss (k := .i64) (a := ((k : Nat) : Int)) (b := ((d.next.length : Nat) : Int)) rfl rfl) ?_
          refine WpL_nil ?_
          refine Wp_seq ?_
          refine Wp_cond (b := decide ((((k : Nat) : Int) : Int) < ((d.next.length : Nat) : Int))) rfl (fun hlt => ?_) (fun hlt => ?_)
          · have khlt := hlt
            replace hlt := of_decide_eq_true hlt
            obtain ⟨row, hrow⟩ := get_of_lt (l := d.next) (i := k) (by omega)
            obtain ⟨ra, rc, hcell, hints⟩ := hncl k row hrow
            have hrl : row.length ≤ 9223372036854775807 := by simpa using SlAt.le hints
            refine Wp_skip ?_
            refine thn_normal ?_
            refine Wp_seq ?_
            refine Wp_block ?_
            refine Wp_seq_region ?_
            refine WpL_val rfl rfl (by decide) (r_indexSlice (b := nb) (o := no) (len := d.next.length) (cap := nc) (i := k) (o' := no + k) rfl rfl rfl Try.underlying23 siz22 (by omega) (by omega)) ?_
            refine WpL_val rfl rfl (by decide) (r_load (v := (.slice ra row.length rc)) rfl flat22 (E.cell (fun f => f) hcell)) ?_
            refine WpL_val rfl rfl (by decide) (r_assign (v := (.slice ra row.length rc)) rfl) ?_
            refine WpL_nil ?_
            refine Wp_seq_region ?_
            refine WpL_val rfl rfl (by decide) (r_move (v := (.slice ra row.length rc)) rfl) ?_
            refine WpL_val rfl rfl (by decide) (r_lenSlice (ad := ra) (n := row.length) (cap := rc) Try.underlying22 rfl) ?_
            obtain ⟨e9, he9⟩ : ∃ e, (decide ((((row.length : Nat) : Int) : Int) = 0)) = e := ⟨_, rfl⟩
            refine WpL_val rfl rfl (by decide) ((r_eql (k := .i64) (a := ((row.length : Nat) : Int)) (b := 0) rfl rfl).trans (by rw [he9]; try rfl)) ?_
            refine WpL_val rfl rfl (by decide) (r_move (v := (.bool e9)) rfl) ?_
            refine WpL_guard_any (oj := _) (gv := (.bool e9)) (u := (bif e9 then undef else (.slice ra row.length rc))) rfl rfl (by decide) (by decide) rfl (by cases e9 <;> first | exact Or.inr ⟨Or.inl rfl, rfl⟩ | exact Or.inr ⟨Or.inr rfl, rfl⟩ | exact Or.inl ⟨rfl, r_move (v := (.slice ra row.length rc)) rfl⟩) ?_
            refine WpL_guard_any (oj := _) (gv := (.bool e9)) (u := (bif e9 then undef else (.int .i64 ((row.length : Nat) : Int)))) rfl rfl (by decide) (by decide) rfl (by cases e9 <;> first | exact Or.inr ⟨Or.inl rfl, rfl⟩ | exact Or.inr ⟨Or.inr rfl, rfl⟩ | exact Or.inl ⟨rfl, r_lenSlice (ad := ra) (n := row.length) (cap := rc) Try.underlying22 rfl⟩) ?_
            refine WpL_guard_any (oj := _) (gv := (.bool e9)) (u := (bif e9 then undef else (.pointer (some ⟨br, 2, none⟩)))) rfl rfl (by decide) (by decide) rfl (by cases e9 <;> first | exact Or.inr ⟨Or.inl rfl, rfl⟩ | exact Or.inr ⟨Or.inr rfl, rfl⟩ | exact Or.inl ⟨rfl, r_fieldAddr (b := br) (o := 0) (o' := 2) rfl Try.underlying25 rfl siz23 rfl⟩) ?_
            refine WpL_guard_any (oj := _) (gv := (.bool e9)) (u := (bif e9 then undef else (.slice (some ⟨nb, no, none⟩) d.next.length nc))) rfl rfl (by decide) (by decide) rfl (by cases e9 <;> first | exact Or.inr ⟨Or.inl rfl, rfl⟩ | exact Or.inr ⟨Or.inr rfl, rfl⟩ | exact Or.inl ⟨rfl, r_load (v := (.slice (some ⟨nb, no, none⟩) d.next.length nc)) rfl flat23 (Br.cell rfl)⟩) ?_
            refine WpL_guard_any (oj := _) (gv := (.bool e9)) (u := (bif e9 then undef else (.pointer (some ⟨nb, no + 0, none⟩)))) rfl rfl (by decide) (by decide) rfl (by cases e9 <;> first | exact Or.inr ⟨Or.inl rfl, rfl⟩ | exact Or.inr ⟨Or.inr rfl, rfl⟩ | exact Or.inl ⟨rfl, r_indexSlice (b := nb) (o := no) (len := d.next.length) (cap := nc) (i := 0) (o' := no + 0) rfl rfl rfl Try.underlying23 siz22 (by have := of_decide_eq_false he9; omega) (by omega)⟩) ?_
            refine WpL_guard_any (oj := _) (gv := (.bool e9)) (u := (bif e9 then undef else (.slice ra0 row0.length rc0))) rfl rfl (by decide) (by decide) rfl (by cases e9 <;> first | exact Or.inr ⟨Or.inl rfl, rfl⟩ | exact Or.inr ⟨Or.inr rfl, rfl⟩ | exact Or.inl ⟨rfl, r_load (v := (.slice ra0 row0.length rc0)) rfl flat22 (E.cell (fun f => f) hcell0)⟩) ?_
            refine WpL_guard_any (oj := _) (gv := (.bool e9)) (u := (bif e9 then undef else (.int .i64 ((row0.length : Nat) : Int)))) rfl rfl (by decide) (by decide) rfl (by cases e9 <;> first | exact Or.inr ⟨Or.inl rfl, rfl⟩ | exact Or.inr ⟨Or.inr rfl, rfl⟩ | exact Or.inl ⟨rfl, r_lenSlice (ad := ra0) (n := row0.length) (cap := rc0) Try.underlying22 rfl⟩) ?_
            obtain ⟨e10, he10⟩ : ∃ e, (decide ((((row.length : Nat) : Int) : Int) ≠ ((row0.length : Nat) : Int))) = e := ⟨_, rfl⟩
            refine WpL_guard_any (oj := _) (gv := (.bool e9)) (u := (bif e9 then undef else (.bool e10))) rfl rfl (by decide) (by decide) rfl (by cases e9 <;> first | exact Or.inr ⟨Or.inl rfl, rfl⟩ | exact Or.inr ⟨Or.inr rfl, rfl⟩ | exact Or.inl ⟨rfl, (r_neq (k := .i64) (a := ((row.length : Nat) : Int)) (b := ((row0.length : Nat) : Int)) rfl rfl).trans (by rw [he10]; try rfl)⟩) ?_
            obtain ⟨e11, he11⟩ : ∃ e, (e9 || e10) = e := ⟨_, rfl⟩
            refine WpL_val rfl rfl (by decide) (r_pick (b := e9) (v := .bool e11) rfl (by rw [← he11]; cases e9 <;> rfl)) ?_
            refine WpL_nil ?_
            subst he11
            subst he10
            subst he9
            refine Wp_cond (b := ((decide ((((row.length : Nat) : Int) : Int) = 0)) || (decide ((((row.length : Nat) : Int) : Int) ≠ ((row0.length : Nat) : Int))))) rfl (fun hf => ?_) (fun hf => ?_)
            · have khf := hf
              refine Wp_seq_region ?_
              refine WpL_val rfl rfl (by decide) (r_assign (v := (.int .i64 3)) rfl) ?_
              refine WpL_nil ?_
              refine Wp_ret ?_
              refine inB_ret ?_
              refine thn_ret ?_
              refine thn_ret ?_
              refine inB_ret ?_
              refine thn_ret ?_
              refine fin_tmp Try.results50 (v := (.int .i64 3)) rfl ?_
              refine ⟨int_eq ?_, E⟩
              unfold checkD
              rw [if_neg (by omega), if_neg h20, if_neg (by omega), if_pos]
              exact List.any_eq_true.2 ⟨row, List.mem_of_getElem? hrow, by unfold formRow; rw [hc0]; simpa using hf⟩
            · have khf := hf
              refine Wp_skip ?_
              refine inB_normal ?_
              refine thn_normal ?_
              refine Wp_region ?_
              refine WpL_val rfl rfl (by decide) (r_add (k := .i64) (a := ((k : Nat) : Int)) (b := 1) (c := ((k : Nat) : Int) + 1) rfl rfl (wI64 (by omega))) ?_
              refine WpL_val rfl rfl (by decide) (r_move (v := (.int .i64 (((k : Nat) : Int) + 1))) rfl) ?_
              refine WpL_nil ?_
              refine thn_normal ?_
              exact ⟨d.next.length - (k + 1), by omega, k + 1, Fits.out ⟨rfl, rfl, rfl, rfl, rfl, trivial⟩, E, Br, (by omega), (by rw [List.take_add_one, hrow, List.any_append, hno]; simp only [Option.toList_some, List.any_cons, List.any_nil, Bool.or_false, Bool.false_or]; unfold formRow; rw [hc0]; simpa using hf), rfl⟩
          · have khlt := hlt
            replace hlt := of_decide_eq_false hlt
            have hkk : k = d.next.length := by omega
            rw [hkk, List.take_length] at hno
            have hrows : ∀ row ∈ d.next, row ≠ [] := fun row hr he => by have := (List.any_eq_false.1 hno) row hr; simp [formRow, he] at this
            have hane : d.accept ≠ [] := fun he => by rw [he] at h20; simp at h20; omega
            refine Wp_exit ?_
            refine thn_exit ?_
            refine thn_exit ?_
            refine inB_here ?_
            refine thn_normal ?_
            refine Wp_seq_region ?_
            refine WpL_val rfl rfl (by decide) (r_fieldAddr (b := br) (o := 0) (o' := 0) rfl Try.underlying25 rfl siz3 rfl) ?_
            refine WpL_val rfl rfl (by decide) (r_load (v := (.int .i64 d.start)) rfl flat3 (Br.cell rfl)) ?_
            refine WpL_val rfl rfl (by decide) (r_lss (k := .i64) (a := d.start) (b := 0) rfl rfl) ?_
            refine WpL_val rfl rfl (by decide) (r_move (v := (.bool (decide ((d.start : Int) < 0)))) rfl) ?_
            rcases Bool.eq_false_or_eq_true (decide ((d.start : Int) < 0)) with g1 | g1
            · have kg1 := g1
              replace kg1 := of_decide_eq_true kg1
              refine WpL_guard_no (oj := _) rfl rfl (by decide) (v := .bool true) (congrArg Value.bool g1) (Or.inl rfl) ?_
              refine WpL_guard_no (oj := _) rfl rfl (by decide) (v := .bool true) (congrArg Value.bool g1) (Or.inl rfl) ?_
              refine WpL_guard_no (oj := _) rfl rfl (by decide) (v := .bool true) (congrArg Value.bool g1) (Or.inl rfl) ?_
              refine WpL_guard_no (oj := _) rfl rfl (by decide) (v := .bool true) (congrArg Value.bool g1) (Or.inl rfl) ?_
              refine WpL_val rfl rfl (by decide) (r_pick (b := decide ((d.start : Int) < 0)) (v := (.bool true)) rfl (by rw [g1]; rfl)) ?_
              refine WpL_val rfl rfl (by decide) (r_move (v := (.bool true)) rfl) ?_
              refine WpL_guard_no (oj := _) rfl rfl (by decide) (v := .bool true) rfl (Or.inl rfl) ?_
              refine WpL_guard_no (oj := _) rfl rfl (by decide) (v := .bool true) rfl (Or.inl rfl) ?_
              refine WpL_guard_no (oj := _) rfl rfl (by decide) (v := .bool true) rfl (Or.inl rfl) ?_
              refine WpL_guard_no (oj := _) rfl rfl (by decide) (v := .bool true) rfl (Or.inl rfl) ?_
              refine WpL_val rfl rfl (by decide) (r_pick (b := true) (v := (.bool true)) rfl rfl) ?_
              refine WpL_val rfl rfl (by decide) (r_assign (v := (.bool true)) rfl) ?_
              refine WpL_nil ?_
              refine Wp_seq ?_
              refine Wp_seq_region ?_
              refine WpL_val rfl rfl (by decide) (r_fieldAddr (b := br) (o := 0) (o' := 2) rfl Try.underlying25 rfl siz23 rfl) ?_
              refine WpL_val rfl rfl (by decide) (r_load (v := (.slice (some ⟨nb, no, none⟩) d.next.length nc)) rfl flat23 (Br.cell rfl)) ?_
              refine WpL_val rfl rfl (by decide) (r_lenSlice (ad := some ⟨nb, no, none⟩) (n := d.next.length) (cap := nc) Try.underlying23 rfl) ?_
              refine WpL_val rfl rfl (by decide) (r_move (v := (.int .i64 0)) rfl) ?_
              refine WpL_nil ?_
              refine Wp_block ?_
              refine Wp_loop (fun nn_ σ W14 => ∃ (q : Nat) (bad : Bool), (∃ jj_, σ = upds jj_ [(3, (.int .i64 ((d.next.length : Nat) : Int))), (69, (.slice (some ⟨nb, no, none⟩) d.next.length nc)), (70, (.int .i64 ((d.next.length : Nat) : Int))), (71, (.int .i64 ((q : Nat) : Int))), (6, (.bool bad))]) ∧ Chg none1 w0 W14 ∧ Blk W14 br #[(.int .i64 d.start), (.slice aa d.accept.length ac), (.slice (some ⟨nb, no, none⟩) d.next.length nc)] 25 ∧ (q ≤ d.next.length) ∧ (bad = (bad0 d || (d.next.take q).any (badRow d.next.length))) ∧ nn_ = d.next.length - q) (n := d.next.length - 0) ?_ ?_
              · exact ⟨0, true, Fits.out ⟨rfl, rfl, rfl, rfl, rfl, trivial⟩, E, Br, Nat.zero_le _, (by simp only [List.take_zero, List.any_nil, Bool.or_false]; unfold bad0; rw [g1]; rfl), rfl⟩
              · clear E Br
                rintro _ _ W14 ⟨q, bad, ⟨j14, rfl⟩, E, Br, hq, hbad, rfl⟩
                refine Wp_seq_region ?_
                refine WpL_val rfl rfl (by decide) (r_lss (k := .i64) (a := ((q : Nat) : Int)) (b := ((d.next.length : Nat) : Int)) rfl rfl) ?_
                refine WpL_nil ?_
                refine Wp_seq ?_
                refine Wp_cond (b := decide ((((q : Nat) : Int) : Int) < ((d.next.length : Nat) : Int))) rfl (fun hltq => ?_) (fun hltq => ?_)
                · have khltq := hltq
                  replace hltq := of_decide_eq_true hltq
                  obtain ⟨row, hrow⟩ := get_of_lt (l := d.next) (i := q) (by omega)
                  obtain ⟨ra, rc, hcell, hints⟩ := hncl q row hrow
                  have hrne : row ≠ [] := hrows row (List.mem_of_getElem? hrow)
                  have hsucc : (bad0 d || (d.next.take (q + 1)).any (badRow d.next.length)) = (bad || badRow d.next.length row) := by rw [List.take_add_one, hrow, List.any_append, hbad]; simp [Bool.or_assoc]
                  refine Wp_skip ?_
                  refine thn_normal ?_
                  refine Wp_seq ?_
                  refine Wp_block ?_
                  refine Wp_seq_region ?_
                  refine WpL_val rfl rfl (by decide) (r_indexSlice (b := nb) (o := no) (len := d.next.length) (cap := nc) (i := q) (o' := no + q) rfl rfl rfl Try.underlying23 siz22 (by omega) (by omega)) ?_
                  refine WpL_val rfl rfl (by decide) (r_load (v := (.slice ra row.length rc)) rfl flat22 (E.cell (fun f => f) hcell)) ?_
                  refine WpL_val rfl rfl (by decide) (r_assign (v := (.slice ra row.length rc)) rfl) ?_
                  refine WpL_nil ?_
                  refine Wp_region ?_
                  refine WpL_val rfl rfl (by decide) (r_move (v := (.bool bad)) rfl) ?_
                  refine WpL_val rfl rfl (by decide) (r_move (v := (.bool bad)) rfl) ?_
                  rcases Bool.eq_false_or_eq_true (bad) with g5 | g5
                  · have kg5 := g5
                    refine WpL_guard_no (oj := _) rfl rfl (by decide) (v := .bool true) (congrArg Value.bool g5) (Or.inl rfl) ?_
                    refine WpL_guard_no (oj := _) rfl rfl (by decide) (v := .bool true) (congrArg Value.bool g5) (Or.inl rfl) ?_
                    refine WpL_guard_no (oj := _) rfl rfl (by decide) (v := .bool true) (congrArg Value.bool g5) (Or.inl rfl) ?_
                    refine WpL_val rfl rfl (by decide) (r_pick (b := bad) (v := (.bool true)) rfl (by rw [g5]; rfl)) ?_
                    refine WpL_val rfl rfl (by decide) (r_move (v := (.bool true)) rfl) ?_
                    refine WpL_guard_no (oj := _) rfl rfl (by decide) (v := .bool true) rfl (Or.inl rfl) ?_
                    refine WpL_guard_no (oj := _) rfl rfl (by decide) (v := .bool true) rfl (Or.inl rfl) ?_
                    refine WpL_guard_no (oj := _) rfl rfl (by decide) (v := .bool true) rfl (Or.inl rfl) ?_
                    refine WpL_guard_no (oj := _) rfl rfl (by decide) (v := .bool true) rfl (Or.inl rfl) ?_
                    refine WpL_val rfl rfl (by decide) (r_pick (b := true) (v := (.bool true)) rfl rfl) ?_
                    refine WpL_val rfl rfl (by decide) (r_assign (v := (.bool true)) rfl) ?_
                    refine WpL_nil ?_
                    refine inB_normal ?_
                    refine thn_normal ?_
                    refine Wp_region ?_
                    refine WpL_val rfl rfl (by decide) (r_add (k := .i64) (a := ((q : Nat) : Int)) (b := 1) (c := ((q : Nat) : Int) + 1) rfl rfl (wI64 (by omega))) ?_
                    refine WpL_val rfl rfl (by decide) (r_move (v := (.int .i64 (((q : Nat) : Int) + 1))) rfl) ?_
                    refine WpL_nil ?_
                    refine thn_normal ?_
                    exact ⟨d.next.length - (q + 1), by omega, q + 1, true, Fits.out ⟨rfl, rfl, rfl, rfl, rfl, trivial⟩, E, Br, (by omega), (by rw [hsucc, g5]; rfl), rfl⟩
                  · have kg5 := g5
                    refine WpL_guard_yes (oj := _) rfl rfl (by decide) (congrArg Value.bool g5) ?_
                    refine WpL_val rfl rfl (by decide) (r_move (v := (.slice ra row.length rc)) rfl) ?_
                    refine WpL_guard_yes (oj := _) rfl rfl (by decide) (congrArg Value.bool g5) ?_
                    refine WpL_enter rfl rfl (by decide) (r_callF (vs := [(.slice ra row.length rc)]) Try.func85 nm85 bd85 rfl) (min_c _ _ row (hints.ext E) hrne) ?_
                    rintro _ w19 ⟨rfl, X19⟩
                    replace Br := X19.keep Br
                    replace E := E.ext X19
                    refine WpL_guard_yes (oj := _) rfl rfl (by decide) (congrArg Value.bool g5) ?_
                    refine WpL_val rfl rfl (by decide) (r_lss (k := .i64) (a := minL row) (b := (-1)) rfl rfl) ?_
                    refine WpL_val rfl rfl (by decide) (r_pick (b := bad) (v := (.bool (decide ((minL row : Int) < (-1))))) rfl (by rw [g5]; rfl)) ?_
                    refine WpL_val rfl rfl (by decide) (r_move (v := (.bool (decide ((minL row : Int) < (-1))))) rfl) ?_
                    rcases Bool.eq_false_or_eq_true (decide ((minL row : Int) < (-1))) with g6 | g6
                    · have kg6 := g6
                      replace kg6 := of_decide_eq_true kg6
                      refine WpL_guard_no (oj := _) rfl rfl (by decide) (v := .bool true) (congrArg Value.bool g6) (Or.inl rfl) ?_
                      refine WpL_guard_no (oj := _) rfl rfl (by decide) (v := .bool true) (congrArg Value.bool g6) (Or.inl rfl) ?_
                      refine WpL_guard_no (oj := _) rfl rfl (by decide) (v := .bool true) (congrArg Value.bool g6) (Or.inl rfl) ?_
                      refine WpL_guard_no (oj := _) rfl rfl (by decide) (v := .bool true) (congrArg Value.bool g6) (Or.inl rfl) ?_
                      refine WpL_val rfl rfl (by decide) (r_pick (b := decide ((minL row : Int) < (-1))) (v := (.bool true)) rfl (by rw [g6]; rfl)) ?_
                      refine WpL_val rfl rfl (by decide) (r_assign (v := (.bool true)) rfl) ?_
                      refine WpL_nil ?_
                      refine inB_normal ?_
                      refine thn_normal ?_
                      refine Wp_region ?_
                      refine WpL_val rfl rfl (by decide) (r_add (k := .i64) (a := ((q : Nat) : Int)) (b := 1) (c := ((q : Nat) : Int) + 1) rfl rfl (wI64 (by omega))) ?_
                      refine WpL_val rfl rfl (by decide) (r_move (v := (.int .i64 (((q : Nat) : Int) + 1))) rfl) ?_
                      refine WpL_nil ?_
                      refine thn_normal ?_
                      exact ⟨d.next.length - (q + 1), by omega, q + 1, true, Fits.out ⟨rfl, rfl, rfl, rfl, rfl, trivial⟩, E, Br, (by omega), (by rw [hsucc, g5]; unfold badRow; rw [g6]; rfl), rfl⟩
                    · have kg6 := g6
                      replace kg6 := of_decide_eq_false kg6
                      refine WpL_guard_yes (oj := _) rfl rfl (by decide) (congrArg Value.bool g6) ?_
                      refine WpL_val rfl rfl (by decide) (r_move (v := (.slice ra row.length rc)) rfl) ?_
                      refine WpL_guard_yes (oj := _) rfl rfl (by decide) (congrArg Value.bool g6) ?_
                      refine WpL_enter rfl rfl (by decide) (r_callF (vs := [(.slice ra row.length rc)]) Try.func86 nm86 bd86 rfl) (max_c _ _ row (hints.ext E) hrne) ?_
                      rintro _ w29 ⟨rfl, X29⟩
                      replace Br := X29.keep Br
                      replace E := E.ext X29
                      refine WpL_guard_yes (oj := _) rfl rfl (by decide) (congrArg Value.bool g6) ?_
                      refine WpL_val rfl rfl (by decide) (r_move (v := (.int .i64 ((d.next.length : Nat) : Int))) rfl) ?_
                      refine WpL_guard_yes (oj := _) rfl rfl (by decide) (congrArg Value.bool g6) ?_
                      refine WpL_val rfl rfl (by decide) (r_geq (k := .i64) (a := maxL row) (b := ((d.next.length : Nat) : Int)) rfl rfl) ?_
                      refine WpL_val rfl rfl (by decide) (r_pick (b := decide ((minL row : Int) < (-1))) (v := (.bool (decide ((((d.next.length : Nat) : Int) : Int) ≤ maxL row)))) rfl (by rw [g6]; rfl)) ?_
                      refine WpL_val rfl rfl (by decide) (r_assign (v := (.bool (decide ((((d.next.length : Nat) : Int) : Int) ≤ maxL row)))) rfl) ?_
                      refine WpL_nil ?_
                      refine inB_normal ?_
                      refine thn_normal ?_
                      refine Wp_region ?_
                      refine WpL_val rfl rfl (by decide) (r_add (k := .i64) (a := ((q : Nat) : Int)) (b := 1) (c := ((q : Nat) : Int) + 1) rfl rfl (wI64 (by omega))) ?_
                      refine WpL_val rfl rfl (by decide) (r_move (v := (.int .i64 (((q : Nat) : Int) + 1))) rfl) ?_
                      refine WpL_nil ?_
                      refine thn_normal ?_
                      exact ⟨d.next.length - (q + 1), by omega, q + 1, (decide ((((d.next.length : Nat) : Int) : Int) ≤ maxL row)), Fits.out ⟨rfl, rfl, rfl, rfl, rfl, trivial⟩, E, Br, (by omega), (by rw [hsucc, g5]; unfold badRow; rw [g6]; rfl), rfl⟩
                · have khltq := hltq
                  replace hltq := of_decide_eq_false hltq
                  have hqq : q = d.next.length := by omega
                  rw [hqq, List.take_length] at hbad
                  refine Wp_exit ?_
                  refine thn_exit ?_
                  refine thn_exit ?_
                  refine inB_here ?_
                  refine thn_normal ?_
                  refine Wp_seq ?_
                  refine Wp_seq_region ?_
                  refine WpL_val rfl rfl (by decide) (r_move (v := (.bool bad)) rfl) ?_
                  refine WpL_nil ?_
                  refine Wp_cond (b := bad) rfl (fun hb => ?_) (fun hb => ?_)
                  · have khb := hb
                    refine Wp_seq_region ?_
                    refine WpL_val rfl rfl (by decide) (r_assign (v := (.int .i64 1)) rfl) ?_
                    refine WpL_nil ?_
                    refine Wp_ret ?_
                    refine thn_ret ?_
                    refine fin_tmp Try.results50 (v := (.int .i64 1)) rfl ?_
                    exact ⟨int_eq (by unfold checkD; rw [if_neg (by omega), if_neg h20, if_neg (by omega), if_neg (by rw [hno]; simp), if_pos (by rw [← hbad]; exact hb)]), E⟩
                  · have khb := hb
                    refine Wp_skip ?_
                    refine thn_normal ?_
                    refine Wp_seq_region ?_
                    refine WpL_val rfl rfl (by decide) (r_assign (v := (.int .i64 0)) rfl) ?_
                    refine WpL_nil ?_
                    refine Wp_ret ?_
                    refine fin_tmp Try.results50 (v := (.int .i64 0)) rfl ?_
                    exact ⟨int_eq (by unfold checkD; rw [if_neg (by omega), if_neg h20, if_neg (by omega), if_neg (by rw [hno]; simp), if_neg (by rw [← hbad, hb]; simp)]), E⟩
            · have kg1 := g1
              replace kg1 := of_decide_eq_false kg1
              refine WpL_guard_yes (oj := _) rfl rfl (by decide) (congrArg Value.bool g1) ?_
              refine WpL_val rfl rfl (by decide) (r_fieldAddr (b := br) (o := 0) (o' := 0) rfl Try.underlying25 rfl siz3 rfl) ?_
              refine WpL_guard_yes (oj := _) rfl rfl (by decide) (congrArg Value.bool g1) ?_
              refine WpL_val rfl rfl (by decide) (r_load (v := (.int .i64 d.start)) rfl flat3 (Br.cell rfl)) ?_
              refine WpL_guard_yes (oj := _) rfl rfl (by decide) (congrArg Value.bool g1) ?_
              refine WpL_val rfl rfl (by decide) (r_move (v := (.int .i64 ((d.next.length : Nat) : Int))) rfl) ?_
              refine WpL_guard_yes (oj := _) rfl rfl (by decide) (congrArg Value.bool g1) ?_
              refine WpL_val rfl rfl (by decide) (r_geq (k := .i64) (a := d.start) (b := ((d.next.length : Nat) : Int)) rfl rfl) ?_
              refine WpL_val rfl rfl (by decide) (r_pick (b := decide ((d.start : Int) < 0)) (v := (.bool (decide ((((d.next.length : Nat) : Int) : Int) ≤ d.start)))) rfl (by rw [g1]; rfl)) ?_
              refine WpL_val rfl rfl (by decide) (r_move (v := (.bool (decide ((((d.next.length : Nat) : Int) : Int) ≤ d.start)))) rfl) ?_
              rcases Bool.eq_false_or_eq_true (decide ((((d.next.length : Nat) : Int) : Int) ≤ d.start)) with g2 | g2
              · have kg2 := g2
                replace kg2 := of_decide_eq_true kg2
                refine WpL_guard_no (oj := _) rfl rfl (by decide) (v := .bool true) (congrArg Value.bool g2) (Or.inl rfl) ?_
                refine WpL_guard_no (oj := _) rfl rfl (by decide) (v := .bool true) (congrArg Value.bool g2) (Or.inl rfl) ?_
                refine WpL_guard_no (oj := _) rfl rfl (by decide) (v := .bool true) (congrArg Value.bool g2) (Or.inl rfl) ?_
                refine WpL_guard_no (oj := _) rfl rfl (by decide) (v := .bool true) (congrArg Value.bool g2) (Or.inl rfl) ?_
                refine WpL_val rfl rfl (by decide) (r_pick (b := decide ((((d.next.length : Nat) : Int) : Int) ≤ d.start)) (v := (.bool true)) rfl (by rw [g2]; rfl)) ?_
                refine WpL_val rfl rfl (by decide) (r_assign (v := (.bool true)) rfl) ?_
                refine WpL_nil ?_
                refine Wp_seq ?_
                refine Wp_seq_region ?_
                refine WpL_val rfl rfl (by decide) (r_fieldAddr (b := br) (o := 0) (o' := 2) rfl Try.underlying25 rfl siz23 rfl) ?_
                refine WpL_val rfl rfl (by decide) (r_load (v := (.slice (some ⟨nb, no, none⟩) d.next.length nc)) rfl flat23 (Br.cell rfl)) ?_
                refine WpL_val rfl rfl (by decide) (r_lenSlice (ad := some ⟨nb, no, none⟩) (n := d.next.length) (cap := nc) Try.underlying23 rfl) ?_
                refine WpL_val rfl rfl (by decide) (r_move (v := (.int .i64 0)) rfl) ?_
                refine WpL_nil ?_
                refine Wp_block ?_
                refine Wp_loop (fun nn_ σ W20 => ∃ (q : Nat) (bad : Bool), (∃ jj_, σ = upds jj_ [(3, (.int .i64 ((d.next.length : Nat) : Int))), (69, (.slice (some ⟨nb, no, none⟩) d.next.length nc)), (70, (.int .i64 ((d.next.length : Nat) : Int))), (71, (.int .i64 ((q : Nat) : Int))), (6, (.bool bad))]) ∧ Chg none1 w0 W20 ∧ Blk W20 br #[(.int .i64 d.start), (.slice aa d.accept.length ac), (.slice (some ⟨nb, no, none⟩) d.next.length nc)] 25 ∧ (q ≤ d.next.length) ∧ (bad = (bad0 d || (d.next.take q).any (badRow d.next.length))) ∧ nn_ = d.next.length - q) (n := d.next.length - 0) ?_ ?_
                · exact ⟨0, true, Fits.out ⟨rfl, rfl, rfl, rfl, rfl, trivial⟩, E, Br, Nat.zero_le _, (by simp only [List.take_zero, List.any_nil, Bool.or_false]; unfold bad0; rw [g1, g2]; rfl), rfl⟩
                · clear E Br
                  rintro _ _ W20 ⟨q, bad, ⟨j20, rfl⟩, E, Br, hq, hbad, rfl⟩
                  refine Wp_seq_region ?_
                  refine WpL_val rfl rfl (by decide) (r_lss (k := .i64) (a := ((q : Nat) : Int)) (b := ((d.next.length : Nat) : Int)) rfl rfl) ?_
                  refine WpL_nil ?_
                  refine Wp_seq ?_
                  refine Wp_cond (b := decide ((((q : Nat) : Int) : Int) < ((d.next.length : Nat) : Int))) rfl (fun hltq => ?_) (fun hltq => ?_)
                  · have khltq := hltq
                    replace hltq := of_decide_eq_true hltq
                    obtain ⟨row, hrow⟩ := get_of_lt (l := d.next) (i := q) (by omega)
                    obtain ⟨ra, rc, hcell, hints⟩ := hncl q row hrow
                    have hrne : row ≠ [] := hrows row (List.mem_of_getElem? hrow)
                    have hsucc : (bad0 d || (d.next.take (q + 1)).any (badRow d.next.length)) = (bad || badRow d.next.length row) := by rw [List.take_add_one, hrow, List.any_append, hbad]; simp [Bool.or_assoc]
                    refine Wp_skip ?_
                    refine thn_normal ?_
                    refine Wp_seq ?_
                    refine Wp_block ?_
                    refine Wp_seq_region ?_
                    refine WpL_val rfl rfl (by decide) (r_indexSlice (b := nb) (o := no) (len := d.next.length) (cap := nc) (i := q) (o' := no + q) rfl rfl rfl Try.underlying23 siz22 (by omega) (by omega)) ?_
                    refine WpL_val rfl rfl (by decide) (r_load (v := (.slice ra row.length rc)) rfl flat22 (E.cell (fun f => f) hcell)) ?_
                    refine WpL_val rfl rfl (by decide) (r_assign (v := (.slice ra row.length rc)) rfl) ?_
                    refine WpL_nil ?_
                    refine Wp_region ?_
                    refine WpL_val rfl rfl (by decide) (r_move (v := (.bool bad)) rfl) ?_
                    refine WpL_val rfl rfl (by decide) (r_move (v := (.bool bad)) rfl) ?_
                    rcases Bool.eq_false_or_eq_true (bad) with g5 | g5
                    · have kg5 := g5
                      refine WpL_guard_no (oj := _) rfl rfl (by decide) (v := .bool true) (congrArg Value.bool g5) (Or.inl rfl) ?_
                      refine WpL_guard_no (oj := _) rfl rfl (by decide) (v := .bool true) (congrArg Value.bool g5) (Or.inl rfl) ?_
                      refine WpL_guard_no (oj := _) rfl rfl (by decide) (v := .bool true) (congrArg Value.bool g5) (Or.inl rfl) ?_
                      refine WpL_val rfl rfl (by decide) (r_pick (b := bad) (v := (.bool true)) rfl (by rw [g5]; rfl)) ?_
                      refine WpL_val rfl rfl (by decide) (r_move (v := (.bool true)) rfl) ?_
                      refine WpL_guard_no (oj := _) rfl rfl (by decide) (v := .bool true) rfl (Or.inl rfl) ?_
                      refine WpL_guard_no (oj := _) rfl rfl (by decide) (v := .bool true) rfl (Or.inl rfl) ?_
                      refine WpL_guard_no (oj := _) rfl rfl (by decide) (v := .bool true) rfl (Or.inl rfl) ?_
                      refine WpL_guard_no (oj := _) rfl rfl (by decide) (v := .bool true) rfl (Or.inl rfl) ?_
                      refine WpL_val rfl rfl (by decide) (r_pick (b := true) (v := (.bool true)) rfl rfl) ?_
                      refine WpL_val rfl rfl (by decide) (r_assign (v := (.bool true)) rfl) ?_
                      refine WpL_nil ?_
                      refine inB_normal ?_
                      refine thn_normal ?_
                      refine Wp_region ?_
                      refine WpL_val rfl rfl (by decide) (r_add (k := .i64) (a := ((q : Nat) : Int)) (b := 1) (c := ((q : Nat) : Int) + 1) rfl rfl (wI64 (by omega))) ?_
                      refine WpL_val rfl rfl (by decide) (r_move (v := (.int .i64 (((q : Nat) : Int) + 1))) rfl) ?_
                      refine WpL_nil ?_
                      refine thn_normal ?_
                      exact ⟨d.next.length - (q + 1), by omega, q + 1, true, Fits.out ⟨rfl, rfl, rfl, rfl, rfl, trivial⟩, E, Br, (by omega), (by rw [hsucc, g5]; rfl), rfl⟩
                    · have kg5 := g5
                      refine WpL_guard_yes (oj := _) rfl rfl (by decide) (congrArg Value.bool g5) ?_
                      refine WpL_val rfl rfl (by decide) (r_move (v := (.slice ra row.length rc)) rfl) ?_
                      refine WpL_guard_yes (oj := _) rfl rfl (by decide) (congrArg Value.bool g5) ?_
                      refine WpL_enter rfl rfl (by decide) (r_callF (vs := [(.slice ra row.length rc)]) Try.func85 nm85 bd85 rfl) (min_c _ _ row (hints.ext E) hrne) ?_
                      rintro _ w19 ⟨rfl, X19⟩
                      replace Br := X19.keep Br
                      replace E := E.ext X19
                      refine WpL_guard_yes (oj := _) rfl rfl (by decide) (congrArg Value.bool g5) ?_
                      refine WpL_val rfl rfl (by decide) (r_lss (k := .i64) (a := minL row) (b := (-1)) rfl rfl) ?_
                      refine WpL_val rfl rfl (by decide) (r_pick (b := bad) (v := (.bool (decide ((minL row : Int) < (-1))))) rfl (by rw [g5]; rfl)) ?_
                      refine WpL_val rfl rfl (by decide) (r_move (v := (.bool (decide ((minL row : Int) < (-1))))) rfl) ?_
                      rcases Bool.eq_false_or_eq_true (decide ((minL row : Int) < (-1))) with g6 | g6
                      · have kg6 := g6
                        replace kg6 := of_decide_eq_true kg6
                        refine WpL_guard_no (oj := _) rfl rfl (by decide) (v := .bool true) (congrArg Value.bool g6) (Or.inl rfl) ?_
                        refine WpL_guard_no (oj := _) rfl rfl (by decide) (v := .bool true) (congrArg Value.bool g6) (Or.inl rfl) ?_
                        refine WpL_guard_no (oj := _) rfl rfl (by decide) (v := .bool true) (congrArg Value.bool g6) (Or.inl rfl) ?_
                        refine WpL_guard_no (oj := _) rfl rfl (by decide) (v := .bool true) (congrArg Value.bool g6) (Or.inl rfl) ?_
                        refine WpL_val rfl rfl (by decide) (r_pick (b := decide ((minL row : Int) < (-1))) (v := (.bool true)) rfl (by rw [g6]; rfl)) ?_
                        refine WpL_val rfl rfl (by decide) (r_assign (v := (.bool true)) rfl) ?_
                        refine WpL_nil ?_
                        refine inB_normal ?_
                        refine thn_normal ?_
                        refine Wp_region ?_
                        refine WpL_val rfl rfl (by decide) (r_add (k := .i64) (a := ((q : Nat) : Int)) (b := 1) (c := ((q : Nat) : Int) + 1) rfl rfl (wI64 (by omega))) ?_
                        refine WpL_val rfl rfl (by decide) (r_move (v := (.int .i64 (((q : Nat) : Int) + 1))) rfl) ?_
                        refine WpL_nil ?_
                        refine thn_normal ?_
                        exact ⟨d.next.length - (q + 1), by omega, q + 1, true, Fits.out ⟨rfl, rfl, rfl, rfl, rfl, trivial⟩, E, Br, (by omega), (by rw [hsucc, g5]; unfold badRow; rw [g6]; rfl), rfl⟩
                      · have kg6 := g6
                        replace kg6 := of_decide_eq_false kg6
                        refine WpL_guard_yes (oj := _) rfl rfl (by decide) (congrArg Value.bool g6) ?_
                        refine WpL_val rfl rfl (by decide) (r_move (v := (.slice ra row.length rc)) rfl) ?_
                        refine WpL_guard_yes (oj := _) rfl rfl (by decide) (congrArg Value.bool g6) ?_
                        refine WpL_enter rfl rfl (by decide) (r_callF (vs := [(.slice ra row.length rc)]) Try.func86 nm86 bd86 rfl) (max_c _ _ row (hints.ext E) hrne) ?_
                        rintro _ w29 ⟨rfl, X29⟩
                        replace Br := X29.keep Br
                        replace E := E.ext X29
                        refine WpL_guard_yes (oj := _) rfl rfl (by decide) (congrArg Value.bool g6) ?_
                        refine WpL_val rfl rfl (by decide) (r_move (v := (.int .i64 ((d.next.length : Nat) : Int))) rfl) ?_
                        refine WpL_guard_yes (oj := _) rfl rfl (by decide) (congrArg Value.bool g6) ?_
                        refine WpL_val rfl rfl (by decide) (r_geq (k := .i64) (a := maxL row) (b := ((d.next.length : Nat) : Int)) rfl rfl) ?_
                        refine WpL_val rfl rfl (by decide) (r_pick (b := decide ((minL row : Int) < (-1))) (v := (.bool (decide ((((d.next.length : Nat) : Int) : Int) ≤ maxL row)))) rfl (by rw [g6]; rfl)) ?_
                        refine WpL_val rfl rfl (by decide) (r_assign (v := (.bool (decide ((((d.next.length : Nat) : Int) : Int) ≤ maxL row)))) rfl) ?_
                        refine WpL_nil ?_
                        refine inB_normal ?_
                        refine thn_normal ?_
                        refine Wp_region ?_
                        refine WpL_val rfl rfl (by decide) (r_add (k := .i64) (a := ((q : Nat) : Int)) (b := 1) (c := ((q : Nat) : Int) + 1) rfl rfl (wI64 (by omega))) ?_
                        refine WpL_val rfl rfl (by decide) (r_move (v := (.int .i64 (((q : Nat) : Int) + 1))) rfl) ?_
                        refine WpL_nil ?_
                        refine thn_normal ?_
                        exact ⟨d.next.length - (q + 1), by omega, q + 1, (decide ((((d.next.length : Nat) : Int) : Int) ≤ maxL row)), Fits.out ⟨rfl, rfl, rfl, rfl, rfl, trivial⟩, E, Br, (by omega), (by rw [hsucc, g5]; unfold badRow; rw [g6]; rfl), rfl⟩
                  · have khltq := hltq
                    replace hltq := of_decide_eq_false hltq
                    have hqq : q = d.next.length := by omega
                    rw [hqq, List.take_length] at hbad
                    refine Wp_exit ?_
                    refine thn_exit ?_
                    refine thn_exit ?_
                    refine inB_here ?_
                    refine thn_normal ?_
                    refine Wp_seq ?_
                    refine Wp_seq_region ?_
                    refine WpL_val rfl rfl (by decide) (r_move (v := (.bool bad)) rfl) ?_
                    refine WpL_nil ?_
                    refine Wp_cond (b := bad) rfl (fun hb => ?_) (fun hb => ?_)
                    · have khb := hb
                      refine Wp_seq_region ?_
                      refine WpL_val rfl rfl (by decide) (r_assign (v := (.int .i64 1)) rfl) ?_
                      refine WpL_nil ?_
                      refine Wp_ret ?_
                      refine thn_ret ?_
                      refine fin_tmp Try.results50 (v := (.int .i64 1)) rfl ?_
                      exact ⟨int_eq (by unfold checkD; rw [if_neg (by omega), if_neg h20, if_neg (by omega), if_neg (by rw [hno]; simp), if_pos (by rw [← hbad]; exact hb)]), E⟩
                    · have khb := hb
                      refine Wp_skip ?_
                      refine thn_normal ?_
                      refine Wp_seq_region ?_
                      refine WpL_val rfl rfl (by decide) (r_assign (v := (.int .i64 0)) rfl) ?_
                      refine WpL_nil ?_
                      refine Wp_ret ?_
                      refine fin_tmp Try.results50 (v := (.int .i64 0)) rfl ?_
                      exact ⟨int_eq (by unfold checkD; rw [if_neg (by omega), if_neg h20, if_neg (by omega), if_neg (by rw [hno]; simp), if_neg (by rw [← hbad, hb]; simp)]), E⟩
              · have kg2 := g2
                replace kg2 := of_decide_eq_false kg2
                refine WpL_guard_yes (oj := _) rfl rfl (by decide) (congrArg Value.bool g2) ?_
                refine WpL_val rfl rfl (by decide) (r_fieldAddr (b := br) (o := 0) (o' := 1) rfl Try.underlying25 rfl siz22 rfl) ?_
                refine WpL_guard_yes (oj := _) rfl rfl (by decide) (congrArg Value.bool g2) ?_
                refine WpL_val rfl rfl (by decide) (r_load (v := (.slice aa d.accept.length ac)) rfl flat22 (Br.cell rfl)) ?_
                refine WpL_guard_yes (oj := _) rfl rfl (by decide) (congrArg Value.bool g2) ?_
                refine WpL_enter rfl rfl (by decide) (r_callF (vs := [(.slice aa d.accept.length ac)]) Try.func85 nm85 bd85 rfl) (min_c _ _ d.accept (ha.ext E) hane) ?_
                rintro _ w9 ⟨rfl, X9⟩
                replace Br := X9.keep Br
                replace E := E.ext X9
                refine WpL_guard_yes (oj := _) rfl rfl (by decide) (congrArg Value.bool g2) ?_
                refine WpL_val rfl rfl (by decide) (r_lss (k := .i64) (a := minL d.accept) (b := (-1)) rfl rfl) ?_
                refine WpL_val rfl rfl (by decide) (r_pick (b := decide ((((d.next.length : Nat) : Int) : Int) ≤ d.start)) (v := (.bool (decide ((minL d.accept : Int) < (-1))))) rfl (by rw [g2]; rfl)) ?_
                refine WpL_val rfl rfl (by decide) (r_assign (v := (.bool (decide ((minL d.accept : Int) < (-1))))) rfl) ?_
                refine WpL_nil ?_
                refine Wp_seq ?_
                refine Wp_seq_region ?_
                refine WpL_val rfl rfl (by decide) (r_fieldAddr (b := br) (o := 0) (o' := 2) rfl Try.underlying25 rfl siz23 rfl) ?_
                refine WpL_val rfl rfl (by decide) (r_load (v := (.slice (some ⟨nb, no, none⟩) d.next.length nc)) rfl flat23 (Br.cell rfl)) ?_
                refine WpL_val rfl rfl (by decide) (r_lenSlice (ad := some ⟨nb, no, none⟩) (n := d.next.length) (cap := nc) Try.underlying23 rfl) ?_
                refine WpL_val rfl rfl (by decide) (r_move (v := (.int .i64 0)) rfl) ?_
                refine WpL_nil ?_
                refine Wp_block ?_
                refine Wp_loop (fun nn_ σ W25 => ∃ (q : Nat) (bad : Bool), (∃ jj_, σ = upds jj_ [(3, (.int .i64 ((d.next.length : Nat) : Int))), (69, (.slice (some ⟨nb, no, none⟩) d.next.length nc)), (70, (.int .i64 ((d.next.length : Nat) : Int))), (71, (.int .i64 ((q : Nat) : Int))), (6, (.bool bad))]) ∧ Chg none1 w0 W25 ∧ Blk W25 br #[(.int .i64 d.start), (.slice aa d.accept.length ac), (.slice (some ⟨nb, no, none⟩) d.next.length nc)] 25 ∧ (q ≤ d.next.length) ∧ (bad = (bad0 d || (d.next.take q).any (badRow d.next.length))) ∧ nn_ = d.next.length - q) (n := d.next.length - 0) ?_ ?_
                · exact ⟨0, (decide ((minL d.accept : Int) < (-1))), Fits.out ⟨rfl, rfl, rfl, rfl, rfl, trivial⟩, E, Br, Nat.zero_le _, (by simp only [List.take_zero, List.any_nil, Bool.or_false]; unfold bad0; rw [g1, g2]; rfl), rfl⟩
                · clear E Br
                  rintro _ _ W25 ⟨q, bad, ⟨j25, rfl⟩, E, Br, hq, hbad, rfl⟩
                  refine Wp_seq_region ?_
                  refine WpL_val rfl rfl (by decide) (r_lss (k := .i64) (a := ((q : Nat) : Int)) (b := ((d.next.length : Nat) : Int)) rfl rfl) ?_
                  refine WpL_nil ?_
                  refine Wp_seq ?_
                  refine Wp_cond (b := decide ((((q : Nat) : Int) : Int) < ((d.next.length : Nat) : Int))) rfl (fun hltq => ?_) (fun hltq => ?_)
                  · have khltq := hltq
                    replace hltq := of_decide_eq_true hltq
                    obtain ⟨row, hrow⟩ := get_of_lt (l := d.next) (i := q) (by omega)
                    obtain ⟨ra, rc, hcell, hints⟩ := hncl q row hrow
                    have hrne : row ≠ [] := hrows row (List.mem_of_getElem? hrow)
                    have hsucc : (bad0 d || (d.next.take (q + 1)).any (badRow d.next.length)) = (bad || badRow d.next.length row) := by rw [List.take_add_one, hrow, List.any_append, hbad]; simp [Bool.or_assoc]
                    refine Wp_skip ?_
                    refine thn_normal ?_
                    refine Wp_seq ?_
                    refine Wp_block ?_
                    refine Wp_seq_region ?_
                    refine WpL_val rfl rfl (by decide) (r_indexSlice (b := nb) (o := no) (len := d.next.length) (cap := nc) (i := q) (o' := no + q) rfl rfl rfl Try.underlying23 siz22 (by omega) (by omega)) ?_
                    refine WpL_val rfl rfl (by decide) (r_load (v := (.slice ra row.length rc)) rfl flat22 (E.cell (fun f => f) hcell)) ?_
                    refine WpL_val rfl rfl (by decide) (r_assign (v := (.slice ra row.length rc)) rfl) ?_
                    refine WpL_nil ?_
                    refine Wp_region ?_
                    refine WpL_val rfl rfl (by decide) (r_move (v := (.bool bad)) rfl) ?_
                    refine WpL_val rfl rfl (by decide) (r_move (v := (.bool bad)) rfl) ?_
                    rcases Bool.eq_false_or_eq_true (bad) with g5 | g5
                    · have kg5 := g5
                      refine WpL_guard_no (oj := _) rfl rfl (by decide) (v := .bool true) (congrArg Value.bool g5) (Or.inl rfl) ?_
                      refine WpL_guard_no (oj := _) rfl rfl (by decide) (v := .bool true) (congrArg Value.bool g5) (Or.inl rfl) ?_
                      refine WpL_guard_no (oj := _) rfl rfl (by decide) (v := .bool true) (congrArg Value.bool g5) (Or.inl rfl) ?_
                      refine WpL_val rfl rfl (by decide) (r_pick (b := bad) (v := (.bool true)) rfl (by rw [g5]; rfl)) ?_
                      refine WpL_val rfl rfl (by decide) (r_move (v := (.bool true)) rfl) ?_
                      refine WpL_guard_no (oj := _) rfl rfl (by decide) (v := .bool true) rfl (Or.inl rfl) ?_
                      refine WpL_guard_no (oj := _) rfl rfl (by decide) (v := .bool true) rfl (Or.inl rfl) ?_
                      refine WpL_guard_no (oj := _) rfl rfl (by decide) (v := .bool true) rfl (Or.inl rfl) ?_
                      refine WpL_guard_no (oj := _) rfl rfl (by decide) (v := .bool true) rfl (Or.inl rfl) ?_
                      refine WpL_val rfl rfl (by decide) (r_pick (b := true) (v := (.bool true)) rfl rfl) ?_
                      refine WpL_val rfl rfl (by decide) (r_assign (v := (.bool true)) rfl) ?_
                      refine WpL_nil ?_
                      refine inB_normal ?_
                      refine thn_normal ?_
                      refine Wp_region ?_
                      refine WpL_val rfl rfl (by decide) (r_add (k := .i64) (a := ((q : Nat) : Int)) (b := 1) (c := ((q : Nat) : Int) + 1) rfl rfl (wI64 (by omega))) ?_
                      refine WpL_val rfl rfl (by decide) (r_move (v := (.int .i64 (((q : Nat) : Int) + 1))) rfl) ?_
                      refine WpL_nil ?_
                      refine thn_normal ?_
                      exact ⟨d.next.length - (q + 1), by omega, q + 1, true, Fits.out ⟨rfl, rfl, rfl, rfl, rfl, trivial⟩, E, Br, (by omega), (by rw [hsucc, g5]; rfl), rfl⟩
                    · have kg5 := g5
                      refine WpL_guard_yes (oj := _) rfl rfl (by decide) (congrArg Value.bool g5) ?_
                      refine WpL_val rfl rfl (by decide) (r_move (v := (.slice ra row.length rc)) rfl) ?_
                      refine WpL_guard_yes (oj := _) rfl rfl (by decide) (congrArg Value.bool g5) ?_
                      refine WpL_enter rfl rfl (by decide) (r_callF (vs := [(.slice ra row.length rc)]) Try.func85 nm85 bd85 rfl) (min_c _ _ row (hints.ext E) hrne) ?_
                      rintro _ w19 ⟨rfl, X19⟩
                      replace Br := X19.keep Br
                      replace E := E.ext X19
                      refine WpL_guard_yes (oj := _) rfl rfl (by decide) (congrArg Value.bool g5) ?_
                      refine WpL_val rfl rfl (by decide) (r_lss (k := .i64) (a := minL row) (b := (-1)) rfl rfl) ?_
                      refine WpL_val rfl rfl (by decide) (r_pick (b := bad) (v := (.bool (decide ((minL row : Int) < (-1))))) rfl (by rw [g5]; rfl)) ?_
                      refine WpL_val rfl rfl (by decide) (r_move (v := (.bool (decide ((minL row : Int) < (-1))))) rfl) ?_
                      rcases Bool.eq_false_or_eq_true (decide ((minL row : Int) < (-1))) with g6 | g6
                      · have kg6 := g6
                        replace kg6 := of_decide_eq_true kg6
                        refine WpL_guard_no (oj := _) rfl rfl (by decide) (v := .bool true) (congrArg Value.bool g6) (Or.inl rfl) ?_
                        refine WpL_guard_no (oj := _) rfl rfl (by decide) (v := .bool true) (congrArg Value.bool g6) (Or.inl rfl) ?_
                        refine WpL_guard_no (oj := _) rfl rfl (by decide) (v := .bool true) (congrArg Value.bool g6) (Or.inl rfl) ?_
                        refine WpL_guard_no (oj := _) rfl rfl (by decide) (v := .bool true) (congrArg Value.bool g6) (Or.inl rfl) ?_
                        refine WpL_val rfl rfl (by decide) (r_pick (b := decide ((minL row : Int) < (-1))) (v := (.bool true)) rfl (by rw [g6]; rfl)) ?_
                        refine WpL_val rfl rfl (by decide) (r_assign (v := (.bool true)) rfl) ?_
                        refine WpL_nil ?_
                        refine inB_normal ?_
                        refine thn_normal ?_
                        refine Wp_region ?_
                        refine WpL_val rfl rfl (by decide) (r_add (k := .i64) (a := ((q : Nat) : Int)) (b := 1) (c := ((q : Nat) : Int) + 1) rfl rfl (wI64 (by omega))) ?_
                        refine WpL_val rfl rfl (by decide) (r_move (v := (.int .i64 (((q : Nat) : Int) + 1))) rfl) ?_
                        refine WpL_nil ?_
                        refine thn_normal ?_
                        exact ⟨d.next.length - (q + 1), by omega, q + 1, true, Fits.out ⟨rfl, rfl, rfl, rfl, rfl, trivial⟩, E, Br, (by omega), (by rw [hsucc, g5]; unfold badRow; rw [g6]; rfl), rfl⟩
                      · have kg6 := g6
                        replace kg6 := of_decide_eq_false kg6
                        refine WpL_guard_yes (oj := _) rfl rfl (by decide) (congrArg Value.bool g6) ?_
                        refine WpL_val rfl rfl (by decide) (r_move (v := (.slice ra row.length rc)) rfl) ?_
                        refine WpL_guard_yes (oj := _) rfl rfl (by decide) (congrArg Value.bool g6) ?_
                        refine WpL_enter rfl rfl (by decide) (r_callF (vs := [(.slice ra row.length rc)]) Try.func86 nm86 bd86 rfl) (max_c _ _ row (hints.ext E) hrne) ?_
                        rintro _ w29 ⟨rfl, X29⟩
                        replace Br := X29.keep Br
                        replace E := E.ext X29
                        refine WpL_guard_yes (oj := _) rfl rfl (by decide) (congrArg Value.bool g6) ?_
                        refine WpL_val rfl rfl (by decide) (r_move (v := (.int .i64 ((d.next.length : Nat) : Int))) rfl) ?_
                        refine WpL_guard_yes (oj := _) rfl rfl (by decide) (congrArg Value.bool g6) ?_
                        refine WpL_val rfl rfl (by decide) (r_geq (k := .i64) (a := maxL row) (b := ((d.next.length : Nat) : Int)) rfl rfl) ?_
                        refine WpL_val rfl rfl (by decide) (r_pick (b := decide ((minL row : Int) < (-1))) (v := (.bool (decide ((((d.next.length : Nat) : Int) : Int) ≤ maxL row)))) rfl (by rw [g6]; rfl)) ?_
                        refine WpL_val rfl rfl (by decide) (r_assign (v := (.bool (decide ((((d.next.length : Nat) : Int) : Int) ≤ maxL row)))) rfl) ?_
                        refine WpL_nil ?_
                        refine inB_normal ?_
                        refine thn_normal ?_
                        refine Wp_region ?_
                        refine WpL_val rfl rfl (by decide) (r_add (k := .i64) (a := ((q : Nat) : Int)) (b := 1) (c := ((q : Nat) : Int) + 1) rfl rfl (wI64 (by omega))) ?_
                        refine WpL_val rfl rfl (by decide) (r_move (v := (.int .i64 (((q : Nat) : Int) + 1))) rfl) ?_
                        refine WpL_nil ?_
                        refine thn_normal ?_
                        exact ⟨d.next.length - (q + 1), by omega, q + 1, (decide ((((d.next.length : Nat) : Int) : Int) ≤ maxL row)), Fits.out ⟨rfl, rfl, rfl, rfl, rfl, trivial⟩, E, Br, (by omega), (by rw [hsucc, g5]; unfold badRow; rw [g6]; rfl), rfl⟩
                  · have khltq := hltq
                    replace hltq := of_decide_eq_false hltq
                    have hqq : q = d.next.length := by omega
                    rw [hqq, List.take_length] at hbad
                    refine Wp_exit ?_
                    refine thn_exit ?_
                    refine thn_exit ?_
                    refine inB_here ?_
                    refine thn_normal ?_
                    refine Wp_seq ?_
                    refine Wp_seq_region ?_
                    refine WpL_val rfl rfl (by decide) (r_move (v := (.bool bad)) rfl) ?_
                    refine WpL_nil ?_
                    refine Wp_cond (b := bad) rfl (fun hb => ?_) (fun hb => ?_)
                    · have khb := hb
                      refine Wp_seq_region ?_
                      refine WpL_val rfl rfl (by decide) (r_assign (v := (.int .i64 1)) rfl) ?_
                      refine WpL_nil ?_
                      refine Wp_ret ?_
                      refine thn_ret ?_
                      refine fin_tmp Try.results50 (v := (.int .i64 1)) rfl ?_
                      exact ⟨int_eq (by unfold checkD; rw [if_neg (by omega), if_neg h20, if_neg (by omega), if_neg (by rw [hno]; simp), if_pos (by rw [← hbad]; exact hb)]), E⟩
                    · have khb := hb
                      refine Wp_skip ?_
                      refine thn_normal ?_
                      refine Wp_seq_region ?_
                      refine WpL_val rfl rfl (by decide) (r_assign (v := (.int .i64 0)) rfl) ?_
                      refine WpL_nil ?_
                      refine Wp_ret ?_
                      refine fin_tmp Try.results50 (v := (.int .i64 0)) rfl ?_
                      exact ⟨int_eq (by unfold checkD; rw [if_neg (by omega), if_neg h20, if_neg (by omega), if_neg (by rw [hno]; simp), if_neg (by rw [← hbad, hb]; simp)]), E⟩
end Go.Proofs
