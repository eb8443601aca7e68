/- Contracts: what the reference chooses of pieces; its sets. -/
import Derived.Test.YtpjamnekclkhhaaSk
import Derived.Test.YtpjamnekclkhhaaCs
namespace Go.Proofs
open Go Go.Eng Go.Sort
set_option maxRecDepth 100000

def nx (p : List Int) (k : Nat) : Int := (p[k]?).getD 1114112
def Const (f : Int → Bool) (p : List Int) : Prop := ∀ a r, a ∈ p → a ≤ r → r ≤ 1114111 → (∀ k ∈ p, k ≤ a ∨ r < k) → f r = f a
structure CInv (p : List Int) (f : Int → Bool) (ou : List Sp) (k : Nat) : Prop where
  can : Canon ou
  low : ∀ s ∈ ou, s.2 < nx p k
  mem : ∀ r, 0 ≤ r → r < nx p k → inS ou r = f r
theorem pcs_range {l : List Sp} {p : List Int} (h : PcsOf l p) (hok : ∀ s ∈ l, vSp s) {k : Int} (hk : k ∈ p) : 0 ≤ k ∧ k ≤ 1114111 := by
  rcases (h.2 k).1 hk with h1 | ⟨s, hs, h1⟩
  · omega
  · have := hok s hs; unfold vSp at this; omega
theorem nx_mono {p : List Int} (h : p.Pairwise (· < ·)) {k : Nat} {x : Int} (hx : p[k]? = some x) (hb : ∀ q ∈ p, q ≤ 1114111) : x < nx p (k + 1) := by
  unfold nx
  cases hy : p[k + 1]? with
  | none => have := hb x (List.mem_of_getElem? hx); simp; omega
  | some y =>
    have h1 := lt_of_get hy
    have h2 := List.pairwise_iff_getElem.1 h k (k + 1) (by omega) h1 (by omega)
    rw [List.getElem?_eq_getElem (by omega)] at hx hy
    simp at hx hy
    simp; omega
theorem nx_between {p : List Int} (h : p.Pairwise (· < ·)) {k : Nat} {x r : Int} (hx : p[k]? = some x) (hr : r < nx p (k + 1)) : ∀ q ∈ p, q ≤ x ∨ r < q := by
  intro q hq
  obtain ⟨j, hj⟩ := List.mem_iff_getElem?.1 hq
  have hjl := lt_of_get hj
  have hkl := lt_of_get hx
  rw [List.getElem?_eq_getElem hjl] at hj
  rw [List.getElem?_eq_getElem hkl] at hx
  simp at hj hx
  rcases Nat.lt_trichotomy j k with h1 | h1 | h1
  · have := List.pairwise_iff_getElem.1 h j k hjl hkl h1; omega
  · subst h1; omega
  · right
    unfold nx at hr
    rw [List.getElem?_eq_getElem (show k + 1 < p.length by omega)] at hr
    simp at hr
    rcases Nat.eq_or_lt_of_le (show k + 1 ≤ j by omega) with h2 | h2
    · subst h2; omega
    · have := List.pairwise_iff_getElem.1 h (k + 1) j (by omega) hjl h2; omega
theorem pcs_first {l : List Sp} {p : List Int} (h : PcsOf l p) (hok : ∀ s ∈ l, vSp s) : nx p 0 = 0 := by
  have h0 : (0 : Int) ∈ p := (h.2 0).2 (.inl rfl)
  cases p with
  | nil => cases h0
  | cons x r =>
    unfold nx
    simp
    rcases List.mem_cons.1 h0 with h1 | h1
    · omega
    · have h2 := (List.pairwise_cons.1 h.1).1 0 h1
      have h3 := pcs_range h hok (k := x) List.mem_cons_self
      omega
theorem CInv.start {l : List Sp} {p : List Int} {f : Int → Bool} (h : PcsOf l p) (hok : ∀ s ∈ l, vSp s) : CInv p f [] 0 :=
  ⟨Canon.nil, fun _ h => absurd h List.not_mem_nil, fun r h0 h1 => by rw [pcs_first h hok] at h1; omega⟩
theorem CInv.same {l : List Sp} {p : List Int} {f : Int → Bool} (h : PcsOf l p) (hok : ∀ s ∈ l, vSp s) (hc : Const f p) {k : Nat} {lo r : Int} (hlo : p[k]? = some lo) (h0 : lo ≤ r) (h1 : r < nx p (k + 1)) : f r = f lo := by
  have hb : nx p (k + 1) ≤ 1114112 := by
    unfold nx
    cases hy : p[k + 1]? with
    | none => simp
    | some y => have := pcs_range h hok (List.mem_of_getElem? hy); simp; omega
  exact hc lo r (List.mem_of_getElem? hlo) h0 (by omega) (nx_between h.1 hlo h1)
theorem nx_at {p : List Int} {k : Nat} {x : Int} (h : p[k]? = some x) : nx p k = x := by unfold nx; rw [h]; rfl
theorem CInv.high {p : List Int} {f : Int → Bool} {ou : List Sp} {k : Nat} (h : CInv p f ou k) {r : Int} (hr : nx p k ≤ r) : inS ou r = false := by
  cases e : inS ou r with
  | false => rfl
  | true => obtain ⟨s, hs, _, h2⟩ := inS_iff.1 e; have := h.low s hs; omega
theorem CInv.skip {l : List Sp} {p : List Int} {f : Int → Bool} {ou : List Sp} {k : Nat} {lo : Int} (h : CInv p f ou k) (hP : PcsOf l p) (hok : ∀ s ∈ l, vSp s) (hc : Const f p) (hlo : p[k]? = some lo) (hf : f lo = false) : CInv p f ou (k + 1) := by
  have hm := nx_mono hP.1 hlo fun q hq => (pcs_range hP hok hq).2
  have he := nx_at hlo
  refine ⟨h.can, fun s hs => by have := h.low s hs; omega, fun r h0 h1 => ?_⟩
  rcases ltLe r lo with h2 | h2
  · exact h.mem r h0 (by omega)
  · rw [h.high (by omega), CInv.same hP hok hc hlo h2 h1, hf]
def cstep (ou : List Sp) (lo hi : Int) : List Sp := match ou.getLast? with
  | some c => if c.2 = lo - 1 then ou.dropLast ++ [(c.1, hi)] else ou ++ [(lo, hi)]
  | none => [(lo, hi)]
theorem cstep_snoc (o : List Sp) (c : Sp) (lo hi : Int) : cstep (o ++ [c]) lo hi = if c.2 = lo - 1 then o ++ [(c.1, hi)] else o ++ [c] ++ [(lo, hi)] := by unfold cstep; simp
theorem CInv.take {l : List Sp} {p : List Int} {f : Int → Bool} {ou : List Sp} {k : Nat} {lo : Int} (h : CInv p f ou k) (hP : PcsOf l p) (hok : ∀ s ∈ l, vSp s) (hc : Const f p) (hlo : p[k]? = some lo) (hf : f lo = true) : CInv p f (cstep ou lo (nx p (k + 1) - 1)) (k + 1) := by
  have hm := nx_mono hP.1 hlo fun q hq => (pcs_range hP hok hq).2
  have he := nx_at hlo
  have hlr := pcs_range hP hok (List.mem_of_getElem? hlo)
  have hb : nx p (k + 1) ≤ 1114112 := by
    unfold nx
    cases hy : p[k + 1]? with
    | none => simp
    | some y => have := pcs_range hP hok (List.mem_of_getElem? hy); simp; omega
  obtain ⟨hi, hhi⟩ : ∃ hi, hi = nx p (k + 1) - 1 := ⟨_, rfl⟩
  rw [← hhi]
  have hmem : ∀ {ou' : List Sp}, (∀ r, 0 ≤ r → inS ou' r = (inS ou r || (decide (lo ≤ r) && decide (r ≤ hi)))) → ∀ r, 0 ≤ r → r < nx p (k + 1) → inS ou' r = f r := fun hh r h0 h1 => by
    rw [hh r h0]
    rcases ltLe r lo with h2 | h2
    · rw [h.mem r h0 (by omega), decide_eq_false (p := lo ≤ r) (by omega)]; simp
    · rw [CInv.same hP hok hc hlo h2 h1, hf, decide_eq_true h2, decide_eq_true (by omega)]; simp
  rcases snoc_cases ou with rfl | ⟨o, c, rfl⟩
  · refine ⟨Canon.one ⟨hlr.1, by simp only; omega, by simp only; omega⟩, fun s hs => ?_, hmem fun r h0 => ?_⟩
    · simp [cstep] at hs; subst hs; simp only; omega
    · show inS [(lo, hi)] r = _
      rw [inS_cons, inS_nil, Bool.or_false, Bool.false_or]
  · obtain ⟨h1, h2, h3⟩ := canon_snoc.1 h.can
    have hcl := h.low c (by simp)
    unfold vSp at h2
    rw [cstep_snoc]
    split
    · rename_i h4
      refine ⟨canon_snoc.2 ⟨h1, ⟨h2.1, by simp only; omega, by simp only; omega⟩, h3⟩, fun s hs => ?_, hmem fun r h0 => ?_⟩
      · rcases List.mem_append.1 hs with hs | hs
        · have := h.low s (by simp [hs]); omega
        · rw [List.mem_singleton] at hs; subst hs; simp only; omega
      · rw [inS_append, inS_append, Bool.or_assoc]
        congr 1
        rw [Bool.eq_iff_iff]
        simp only [inS_cons, inS_nil, Bool.or_false, Bool.or_eq_true, Bool.and_eq_true, decide_eq_true_eq]
        omega
    · rename_i h4
      refine ⟨canon_snoc.2 ⟨h.can, ⟨hlr.1, by simp only; omega, by simp only; omega⟩, fun t ht => ?_⟩, fun s hs => ?_, hmem fun r h0 => ?_⟩
      · rcases List.mem_append.1 ht with ht | ht
        · have := h3 t ht; simp only; omega
        · rw [List.mem_singleton] at ht; subst ht; simp only; omega
      · rcases List.mem_append.1 hs with hs | hs
        · have := h.low s hs; omega
        · rw [List.mem_singleton] at hs; subst hs; simp only; omega
      · rw [inS_append _ [(lo, hi)]]
        congr 1
        rw [inS_cons, inS_nil, Bool.or_false]
theorem CInv.done {p : List Int} {f : Int → Bool} {ou : List Sp} (h : CInv p f ou p.length) : IsSet ou f :=
  ⟨h.can, fun r h0 h1 => h.mem r h0 (by unfold nx; rw [List.getElem?_eq_none (Nat.le_refl _)]; simp; omega)⟩
theorem inS_const {l : List Sp} {p : List Int} (h1 : ∀ s ∈ l, s.1 ∈ p) (h2 : ∀ s ∈ l, s.2 < 1114111 → s.2 + 1 ∈ p) : Const (inS l) p := by
  intro a r ha har hr hno
  rw [Bool.eq_iff_iff, inS_iff, inS_iff]
  have key : ∀ s ∈ l, (s.1 ≤ r ∧ r ≤ s.2) ↔ (s.1 ≤ a ∧ a ≤ s.2) := fun s hs => by
    have q1 := hno s.1 (h1 s hs)
    by_cases h3 : s.2 < 1114111
    · have q2 := hno (s.2 + 1) (h2 s hs h3); omega
    · omega
  constructor
  · rintro ⟨s, hs, h⟩; exact ⟨s, hs, (key s hs).1 h⟩
  · rintro ⟨s, hs, h⟩; exact ⟨s, hs, (key s hs).2 h⟩
theorem pcs_const {ll : List (List Sp)} {p : List Int} (h : PcsOf ll.flatten p) {l : List Sp} (hl : l ∈ ll) : Const (inS l) p :=
  inS_const (fun s hs => (h.2 _).2 (.inr ⟨s, List.mem_flatten.2 ⟨l, hl, hs⟩, .inl rfl⟩)) (fun s hs hm => (h.2 _).2 (.inr ⟨s, List.mem_flatten.2 ⟨l, hl, hs⟩, .inr ⟨hm, rfl⟩⟩))
theorem lt_seq : ∀ {p : List Int} {lo hi : Int}, p.Pairwise (· < ·) → (∀ q ∈ p, lo ≤ q ∧ q ≤ hi) → lo ≤ hi + 1 → ((p.length : Nat) : Int) ≤ hi - lo + 1
  | [], _, _, _, _, h => by simp; omega
  | x :: r, lo, hi, hp, hb, h => by
    have h1 := hb x List.mem_cons_self
    have h2 := lt_seq (lo := x + 1) (hi := hi) (List.pairwise_cons.1 hp).2 (fun q hq => ⟨by have := (List.pairwise_cons.1 hp).1 q hq; omega, (hb q (List.mem_cons_of_mem _ hq)).2⟩) (by omega)
    simp only [List.length_cons]; omega
theorem pcs_len {p : List Int} (hp : p.Pairwise (· < ·)) (hb : ∀ q ∈ p, 0 ≤ q ∧ q ≤ 1114111) : p.length ≤ 1114112 := by
  have := lt_seq (lo := 0) (hi := 1114111) hp hb (by omega)
  omega
set_option maxHeartbeats 4000000 in
theorem chosen_c (w0 : World) (fv v : Value) (f : Int → Bool) (ll : List (List Sp)) (h : SpssAt w0 v ll) (hl : ll.flatten.length ≤ 8796093022200) (hok : ∀ s ∈ ll.flatten, vSp s) (hc : ∀ p, PcsOf ll.flatten p → Const f p)
    (hf : ∀ (w : World) (x : Int), Ext w0 w → CallV Try.prog fv #[.int .i64 x] w fun r w' => r = .bool (f x) ∧ Ext w w') :
    Ret Try.prog 78 #[fv, v] w0 fun r w => (∃ out, IsSet out f ∧ OwnS w w0.heap.size r out) ∧ Ext w0 w := by
  refine Ret_of Try.func78 rfl Try.ntmps78 (Nat.le_of_ble_eq_true rfl) ?_
  have E : Chg none1 w0 w0 := Chg.refl _ _
  refine Wp_seq_region ?_
  refine WpL_val rfl rfl (by decide) (r_assign (v := (.slice none 0 0)) rfl) ?_
  refine WpL_nil ?_
  refine Wp_seq_region ?_
  refine WpL_val rfl rfl (by decide) (r_assign (v := (.slice none 0 0)) rfl) ?_
  refine WpL_nil ?_
  refine Wp_seq_region ?_
  refine WpL_val rfl rfl (by decide) (r_move (v := v) rfl) ?_
  refine WpL_enter rfl rfl (by decide) (r_callF (vs := [v]) Try.func84 nm84 bd84 rfl) (pieces_c _ v ll h (by omega) hok) ?_
  rintro _ w9 ⟨⟨p, hP, ⟨pa, pc, rfl⟩, hp⟩, X9⟩
  replace E := E.ext X9
  have hpb : ∀ q ∈ p, 0 ≤ q ∧ q ≤ 1114111 := fun q hq => pcs_range hP hok hq
  have hcp := hc p hP
  have hs0 := E.size
  have hpl : p.length ≤ 1114112 := pcs_len hP.1 hpb
  obtain ⟨base, hbase⟩ : ∃ base, base = w9.heap.size := ⟨_, rfl⟩
  have E2 : Chg none1 w9 w9 := Chg.refl _ _
  refine WpL_val rfl rfl (by decide) (r_assign (v := (.slice pa p.length pc)) rfl) ?_
  refine WpL_nil ?_
  refine Wp_seq ?_
  refine Wp_seq_region ?_
  refine WpL_val rfl rfl (by decide) (r_move (v := (.slice pa p.length pc)) rfl) ?_
  refine WpL_val rfl rfl (by decide) (r_lenSlice (ad := pa) (n := p.length) (cap := pc) Try.underlying22 rfl) ?_
  refine WpL_val rfl rfl (by decide) (r_move (v := (.int .i64 0)) rfl) ?_
  refine WpL_nil ?_
  refine Wp_block ?_
  refine Wp_loop (fun nn_ σ W1 => ∃ (k : Nat) (la : Option Addr) (lc : Nat) (m : Nat) (ou : List Sp), (∃ jj_, σ = upds jj_ [(0, fv), (6, (.slice pa p.length pc)), (13, (.slice pa p.length pc)), (14, (.int .i64 ((p.length : Nat) : Int))), (15, (.int .i64 ((k : Nat) : Int))), (5, (.slice la m lc))]) ∧ Chg none1 w0 W1 ∧ Chg none1 w9 W1 ∧ (k ≤ p.length) ∧ (m = ou.length) ∧ (m ≤ k) ∧ (CInv p f ou k) ∧ (W1.ownsRow base TSp 2 (.slice la m lc) m (ou.map spanV).flatten) ∧ (base ≤ W1.heap.size) ∧ nn_ = p.length - k) (n := p.length - 0) ?_ ?_
  · exact ⟨0, none, 0, 0, [], Fits.out ⟨rfl, rfl, rfl, rfl, rfl, rfl, trivial⟩, E, E2, Nat.zero_le _, rfl, Nat.le_refl _, CInv.start hP hok, World.ownsRow_nil _ _ _ _, (by omega), rfl⟩
  · clear E E2
    rintro _ _ W1 ⟨k, la, lc, m, ou, ⟨j1, rfl⟩, E, E2, hk, hm, hmk, hI, hown, hbs, rfl⟩
    refine Wp_seq_region ?_
    refine WpL_val rfl rfl (by decide) (r_lss (k := .i64) (a := ((k : Nat) : Int)) (b := ((p.length : Nat) : Int)) rfl rfl) ?_
    refine WpL_nil ?_
    refine Wp_seq ?_
    refine Wp_cond (b := decide ((((k : Nat) : Int) : Int) < ((p.length : Nat) : Int))) rfl (fun hlt => ?_) (fun hlt => ?_)
    · have khlt := hlt
      replace hlt := of_decide_eq_true hlt
      obtain ⟨lo, hlo⟩ := get_of_lt (l := p) (i := k) (by omega)
      have hlb := hpb lo (List.mem_of_getElem? hlo)
      obtain ⟨b, o, hab, hcl⟩ := ints_cells hp (by omega)
      subst hab
      refine Wp_skip ?_
      refine thn_normal ?_
      refine Wp_seq ?_
      refine Wp_block ?_
      refine Wp_seq_region ?_
      refine WpL_val rfl rfl (by decide) (r_move (v := (.int .i64 ((k : Nat) : Int))) rfl) ?_
      refine WpL_val rfl rfl (by decide) (r_indexSlice (b := b) (o := o) (len := p.length) (cap := pc) (i := k) (o' := o + k) rfl rfl rfl Try.underlying22 siz3 (by omega) (by omega)) ?_
      refine WpL_val rfl rfl (by decide) (r_load (v := (.int .i64 lo)) rfl flat3 (E2.cell (fun f => f) (hcl k lo hlo))) ?_
      refine WpL_val rfl rfl (by decide) (r_assign (v := (.int .i64 ((k : Nat) : Int))) rfl) ?_
      refine WpL_val rfl rfl (by decide) (r_assign (v := (.int .i64 lo)) rfl) ?_
      refine WpL_nil ?_
      refine Wp_seq_region ?_
      refine WpL_val rfl rfl (by decide) (r_assign (v := (.int .i64 1114111)) rfl) ?_
      refine WpL_nil ?_
      refine Wp_cut (fun σ W3 => ∃ (hi : Int), (∃ jj_, σ = upds jj_ [(0, fv), (5, (.slice la m lc)), (6, (.slice (some ⟨b, o, none⟩) p.length pc)), (8, (.int .i64 lo)), (13, (.slice (some ⟨b, o, none⟩) p.length pc)), (14, (.int .i64 ((p.length : Nat) : Int))), (15, (.int .i64 ((k : Nat) : Int))), (9, (.int .i64 hi))]) ∧ Chg none1 w0 W3 ∧ Chg none1 w9 W3 ∧ (hi = nx p (k + 1) - 1) ∧ (W3.ownsRow base TSp 2 (.slice la m lc) m (ou.map spanV).flatten) ∧ (base ≤ W3.heap.size)) ?_ ?_
      · skip
        refine Wp_seq_region ?_
        refine WpL_val rfl rfl (by decide) (r_move (v := (.int .i64 ((k : Nat) : Int))) rfl) ?_
        refine WpL_val rfl rfl (by decide) (r_move (v := (.slice (some ⟨b, o, none⟩) p.length pc)) rfl) ?_
        refine WpL_val rfl rfl (by decide) (r_lenSlice (ad := some ⟨b, o, none⟩) (n := p.length) (cap := pc) Try.underlying22 rfl) ?_
        refine WpL_val rfl rfl (by decide) (r_sub (k := .i64) (a := ((p.length : Nat) : Int)) (b := 1) (c := ((p.length : Nat) : Int) - 1) rfl rfl (wI64 (by omega))) ?_
        refine WpL_val rfl rfl (by decide) (r_lss (k := .i64) (a := ((k : Nat) : Int)) (b := ((p.length : Nat) : Int) - 1) rfl rfl) ?_
        refine WpL_nil ?_
        refine Wp_cond (b := decide ((((k : Nat) : Int) : Int) < ((p.length : Nat) : Int) - 1)) rfl (fun hk1 => ?_) (fun hk1 => ?_)
        · have khk1 := hk1
          replace hk1 := of_decide_eq_true hk1
          obtain ⟨y, hy⟩ := get_of_lt (l := p) (i := k + 1) (by omega)
          have hyb := hpb y (List.mem_of_getElem? hy)
          refine Wp_region ?_
          refine WpL_val rfl rfl (by decide) (r_move (v := (.slice (some ⟨b, o, none⟩) p.length pc)) rfl) ?_
          refine WpL_val rfl rfl (by decide) (r_move (v := (.int .i64 ((k : Nat) : Int))) rfl) ?_
          refine WpL_val rfl rfl (by decide) (r_add (k := .i64) (a := ((k : Nat) : Int)) (b := 1) (c := ((k : Nat) : Int) + 1) rfl rfl (wI64 (by omega))) ?_
          refine WpL_val rfl rfl (by decide) (r_indexSlice (b := b) (o := o) (len := p.length) (cap := pc) (i := k + 1) (o' := o + (k + 1)) rfl rfl (by omega) Try.underlying22 siz3 (by omega) (by omega)) ?_
          refine WpL_val rfl rfl (by decide) (r_load (v := (.int .i64 y)) rfl flat3 (E2.cell (fun f => f) (hcl (k + 1) y hy))) ?_
          refine WpL_val rfl rfl (by decide) (r_sub (k := .i64) (a := y) (b := 1) (c := y - 1) rfl rfl (wI64 (by omega))) ?_
          refine WpL_val rfl rfl (by decide) (r_assign (v := (.int .i64 (y - 1))) rfl) ?_
          refine WpL_nil ?_
          refine thn_normal ?_
          exact ⟨(y - 1), Fits.out ⟨rfl, rfl, rfl, rfl, rfl, rfl, rfl, rfl, trivial⟩, E, E2, (by rw [nx_at hy]), hown, hbs⟩
        · have khk1 := hk1
          replace hk1 := of_decide_eq_false hk1
          refine Wp_skip ?_
          refine thn_normal ?_
          exact ⟨1114111, Fits.out ⟨rfl, rfl, rfl, rfl, rfl, rfl, rfl, rfl, trivial⟩, E, E2, (by unfold nx; rw [List.getElem?_eq_none (by omega)]; rfl), hown, hbs⟩
      · clear E E2
        rintro _ W3 ⟨hi, ⟨j3, rfl⟩, E, E2, hhi, hown, hbs⟩
        refine Wp_seq ?_
        refine Wp_seq_region ?_
        refine WpL_val rfl rfl (by decide) (r_move (v := fv) rfl) ?_
        refine WpL_val rfl rfl (by decide) (r_move (v := (.int .i64 lo)) rfl) ?_
        refine WpL_callV (fv := fv) (vs := [(.int .i64 lo)]) (by decide) rfl rfl (hf _ lo E) ?_
        rintro _ w8 ⟨rfl, X8⟩
        replace hown := own_ext hown X8
        replace hbs := Nat.le_trans hbs X8.size
        replace E := E.ext X8
        replace E2 := E2.ext X8
        refine WpL_val rfl rfl (by decide) (r_not (b := f lo) rfl) ?_
        refine WpL_nil ?_
        refine Wp_cond (b := !(f lo)) rfl (fun hfl => ?_) (fun hfl => ?_)
        · have khfl := hfl
          replace hfl := by simpa using hfl
          refine Wp_exit ?_
          refine thn_exit ?_
          refine inB_here ?_
          refine thn_normal ?_
          refine Wp_region ?_
          refine WpL_val rfl rfl (by decide) (r_add (k := .i64) (a := ((k : Nat) : Int)) (b := 1) (c := ((k : Nat) : Int) + 1) rfl rfl (wI64 (by omega))) ?_
          refine WpL_val rfl rfl (by decide) (r_move (v := (.int .i64 (((k : Nat) : Int) + 1))) rfl) ?_
          refine WpL_nil ?_
          refine thn_normal ?_
          exact ⟨p.length - (k + 1), by omega, k + 1, la, lc, m, ou, Fits.out ⟨rfl, rfl, rfl, rfl, rfl, rfl, trivial⟩, E, E2, (by omega), hm, (by omega), hI.skip hP hok hcp hlo hfl, hown, hbs, rfl⟩
        · have khfl := hfl
          replace hfl := by simpa using hfl
          have hT := hI.take hP hok hcp hlo hfl
          rw [← hhi] at hT
          rcases Bool.eq_false_or_eq_true (decide ((0 : Int) ≤ ((m : Nat) : Int) - 1)) with hm0 | hm0
          · have khm0 := hm0
            replace khm0 := of_decide_eq_true khm0
            obtain ⟨oo, cc, hoc⟩ : ∃ oo cc, ou = oo ++ [cc] := by rcases snoc_cases ou with rfl | h1; simp at hm; omega; exact h1
            subst hoc
            have hmo : m = oo.length + 1 := by simpa using hm
            rw [cstep_snoc] at hT
            obtain ⟨g, rfl, hgb, hgc⟩ := own_cells hown (by omega)
            refine Wp_skip ?_
            refine thn_normal ?_
            refine Wp_seq_region ?_
            refine WpL_val rfl rfl (by decide) (r_move (v := (.slice (some ⟨g, 0, none⟩) m lc)) rfl) ?_
            refine WpL_val rfl rfl (by decide) (r_lenSlice (ad := some ⟨g, 0, none⟩) (n := m) (cap := lc) Try.underlying23 rfl) ?_
            refine WpL_val rfl rfl (by decide) (r_sub (k := .i64) (a := ((m : Nat) : Int)) (b := 1) (c := ((m : Nat) : Int) - 1) rfl rfl (wI64 (by omega))) ?_
            refine WpL_val rfl rfl (by decide) (r_assign (v := (.int .i64 (((m : Nat) : Int) - 1))) rfl) ?_
            refine WpL_nil ?_
            refine Wp_seq_region ?_
            refine WpL_val rfl rfl (by decide) (r_move (v := (.int .i64 (((m : Nat) : Int) - 1))) rfl) ?_
            refine WpL_val rfl rfl (by decide) (r_geq (k := .i64) (a := ((m : Nat) : Int) - 1) (b := 0) rfl rfl) ?_
            refine WpL_val rfl rfl (by decide) (r_move (v := (.bool (decide ((0 : Int) ≤ ((m : Nat) : Int) - 1)))) rfl) ?_
            refine WpL_guard_yes (oj := _) rfl rfl (by decide) (congrArg Value.bool hm0) ?_
            refine WpL_val rfl rfl (by decide) (r_move (v := (.slice (some ⟨g, 0, none⟩) m lc)) rfl) ?_
            refine WpL_guard_yes (oj := _) rfl rfl (by decide) (congrArg Value.bool hm0) ?_
            refine WpL_val rfl rfl (by decide) (r_move (v := (.int .i64 (((m : Nat) : Int) - 1))) rfl) ?_
            refine WpL_guard_yes (oj := _) rfl rfl (by decide) (congrArg Value.bool hm0) ?_
            refine WpL_val rfl rfl (by decide) (r_indexSlice (b := g) (o := 0) (len := m) (cap := lc) (i := m - 1) (o' := 0 + (m - 1) * 2) rfl rfl (by omega) Try.underlying23 siz37 (by omega) (by omega)) ?_
            refine WpL_guard_yes (oj := _) rfl rfl (by decide) (congrArg Value.bool hm0) ?_
            refine WpL_val rfl rfl (by decide) (r_fieldAddr (b := g) (o := 0 + (m - 1) * 2) (o' := 0 + (m - 1) * 2 + 1) rfl Try.underlying37 rfl siz3 rfl) ?_
            refine WpL_guard_yes (oj := _) rfl rfl (by decide) (congrArg Value.bool hm0) ?_
            refine WpL_val rfl rfl (by decide) (r_load (v := (.int .i64 cc.2)) rfl flat3 ((by have h1 := (hown.cells (g := g) rfl) (oo.length * 2 + 1) _ (span_last oo cc); rwa [Addr.add_lit, show 0 + (oo.length * 2 + 1) = 0 + (m - 1) * 2 + 1 from by omega] at h1))) ?_
            refine WpL_guard_yes (oj := _) rfl rfl (by decide) (congrArg Value.bool hm0) ?_
            refine WpL_val rfl rfl (by decide) (r_move (v := (.int .i64 lo)) rfl) ?_
            refine WpL_guard_yes (oj := _) rfl rfl (by decide) (congrArg Value.bool hm0) ?_
            refine WpL_val rfl rfl (by decide) (r_sub (k := .i64) (a := lo) (b := 1) (c := lo - 1) rfl rfl (wI64 (by omega))) ?_
            refine WpL_guard_yes (oj := _) rfl rfl (by decide) (congrArg Value.bool hm0) ?_
            refine WpL_val rfl rfl (by decide) (r_eql (k := .i64) (a := cc.2) (b := lo - 1) rfl rfl) ?_
            refine WpL_val rfl rfl (by decide) (r_pick (b := decide ((0 : Int) ≤ ((m : Nat) : Int) - 1)) (v := (.bool (decide ((cc.2 : Int) = lo - 1)))) rfl (by rw [hm0]; rfl)) ?_
            refine WpL_nil ?_
            refine Wp_cond (b := decide ((cc.2 : Int) = lo - 1)) rfl (fun hj => ?_) (fun hj => ?_)
            · have khj := hj
              replace hj := of_decide_eq_true hj
              rw [if_pos hj] at hT
              obtain ⟨cur, hB, hcs⟩ := own_blk hown
              refine Wp_region ?_
              refine WpL_val rfl rfl (by decide) (r_move (v := (.slice (some ⟨g, 0, none⟩) m lc)) rfl) ?_
              refine WpL_val rfl rfl (by decide) (r_move (v := (.int .i64 (((m : Nat) : Int) - 1))) rfl) ?_
              refine WpL_val rfl rfl (by decide) (r_move (v := (.int .i64 hi)) rfl) ?_
              refine WpL_val rfl rfl (by decide) (r_indexSlice (b := g) (o := 0) (len := m) (cap := lc) (i := m - 1) (o' := 0 + (m - 1) * 2) rfl rfl (by omega) Try.underlying23 siz37 (by omega) (by omega)) ?_
              refine WpL_val rfl rfl (by decide) (r_fieldAddr (b := g) (o := 0 + (m - 1) * 2) (o' := 0 + (m - 1) * 2 + 1) rfl Try.underlying37 rfl siz3 rfl) ?_
              have hB0 := hB
              refine s_store (b := g) (o := 0 + (m - 1) * 2 + 1) (c' := cur.setIfInBounds (0 + (m - 1) * 2 + 1) (.int .i64 hi)) (v := (.int .i64 hi)) rfl rfl rfl siz3 hB (by omega) (rfl) ?_
              intro w7 S7
              replace E := S7.step E (by first | exact Or.inl (by omega) | exact Or.inr rfl | exact Or.inr (by assumption) | exact Or.inr (by simp) | exact Or.inr (by omega) | exact Or.inr (by dsimp only; omega))
              replace E2 := S7.step E2 (Or.inl (by omega))
              replace hB := S7.blk
              have hown1 := own_write hown hB0 (i := 0 + (m - 1) * 2 + 1) (by omega) hB
              refine WpL_nil ?_
              refine inB_normal ?_
              refine thn_normal ?_
              refine Wp_region ?_
              refine WpL_val rfl rfl (by decide) (r_add (k := .i64) (a := ((k : Nat) : Int)) (b := 1) (c := ((k : Nat) : Int) + 1) rfl rfl (wI64 (by omega))) ?_
              refine WpL_val rfl rfl (by decide) (r_move (v := (.int .i64 (((k : Nat) : Int) + 1))) rfl) ?_
              refine WpL_nil ?_
              refine thn_normal ?_
              exact ⟨p.length - (k + 1), by omega, k + 1, some ⟨g, 0, none⟩, lc, m, oo ++ [(cc.1, hi)], Fits.out ⟨rfl, rfl, rfl, rfl, rfl, rfl, trivial⟩, E, E2, (by omega), (by simp [hmo]), (by omega), hT, (by rw [show 0 + (m - 1) * 2 + 1 = oo.length * 2 + 1 from by omega, span_set] at hown1; exact hown1), (by have := hown1.lt g rfl; omega), rfl⟩
            · have khj := hj
              replace hj := of_decide_eq_false hj
              rw [if_neg hj] at hT
              refine Wp_region ?_
              refine WpL_val rfl rfl (by decide) (r_move (v := (.slice (some ⟨g, 0, none⟩) m lc)) rfl) ?_
              refine WpL_val rfl rfl (by decide) (r_move (v := (.int .i64 lo)) rfl) ?_
              refine WpL_val rfl rfl (by decide) (r_move (v := (.int .i64 hi)) rfl) ?_
              refine WpL_val rfl rfl (by decide) (r_build (ps := [(0, (.int .i64 lo)), (1, (.int .i64 hi))]) (v := (.agg #[(.int .i64 lo), (.int .i64 hi)])) rfl (by kernel_rfl)) ?_
              refine s_buildSlice (ps := [(0, (.agg #[(.int .i64 lo), (.int .i64 hi)]))]) (c := #[(.int .i64 lo), (.int .i64 hi)]) (by decide) rfl Try.underlying23 siz37 zer37 (by decide) (by decide) (by kernel_rfl) ?_
              intro br wr Nr
              have Fr := Nr.ge E
              have Fr_E2 := Nr.ge E2
              replace hown := own_ext hown Nr.ext
              replace hbs := Nat.le_trans hbs Nr.ext.size
              replace E := E.ext Nr.ext
              have Br := Nr.blk
              replace E2 := E2.ext Nr.ext
              refine s_append (base := base) (n := m) (m := 1) (xs := ((oo ++ [cc]).map spanV).flatten) (news := [(.int .i64 lo), (.int .i64 hi)]) (size := 2) (bytes := 16) (v := (.slice (some ⟨g, 0, none⟩) m lc)) (by decide) Try.underlying23 siz37 byt37 zer37 rfl (by decide) rfl hown rfl (rfl) (Br.cells rfl) (by simp [Value.oneCell']) (by unfold maxLen; omega) (by omega) (hbs) ?_
              intro v9 w29 Ov9 Cv9 Dv9
              replace E := E.step Cv9 (fun x hx h => absurd (hown.lt x h).1 (by omega))
              replace E2 := E2.step Cv9 (fun x hx h => absurd (hown.lt x h).1 (by omega))
              obtain ⟨la2, lc2, rfl⟩ := own_form Ov9
              refine WpL_val rfl rfl (by decide) (r_assign (v := (.slice la2 (m + 1) lc2)) rfl) ?_
              refine WpL_nil ?_
              refine inB_normal ?_
              refine thn_normal ?_
              refine Wp_region ?_
              refine WpL_val rfl rfl (by decide) (r_add (k := .i64) (a := ((k : Nat) : Int)) (b := 1) (c := ((k : Nat) : Int) + 1) rfl rfl (wI64 (by omega))) ?_
              refine WpL_val rfl rfl (by decide) (r_move (v := (.int .i64 (((k : Nat) : Int) + 1))) rfl) ?_
              refine WpL_nil ?_
              refine thn_normal ?_
              exact ⟨p.length - (k + 1), by omega, k + 1, la2, lc2, m + 1, oo ++ [cc] ++ [(lo, hi)], Fits.out ⟨rfl, rfl, rfl, rfl, rfl, rfl, trivial⟩, E, E2, (by omega), (by simp [hmo]), (by omega), hT, (by rw [spanV_snoc]; exact Ov9), Nat.le_trans hbs Cv9.size, rfl⟩
          · have khm0 := hm0
            replace khm0 := of_decide_eq_false khm0
            have hm1 : m = 0 := by omega
            have hou0 : ou = [] := List.eq_nil_of_length_eq_zero (by omega)
            subst hou0
            refine Wp_skip ?_
            refine thn_normal ?_
            refine Wp_seq_region ?_
            refine WpL_val rfl rfl (by decide) (r_move (v := (.slice la m lc)) rfl) ?_
            refine WpL_val rfl rfl (by decide) (r_lenSlice (ad := la) (n := m) (cap := lc) Try.underlying23 rfl) ?_
            refine WpL_val rfl rfl (by decide) (r_sub (k := .i64) (a := ((m : Nat) : Int)) (b := 1) (c := ((m : Nat) : Int) - 1) rfl rfl (wI64 (by omega))) ?_
            refine WpL_val rfl rfl (by decide) (r_assign (v := (.int .i64 (((m : Nat) : Int) - 1))) rfl) ?_
            refine WpL_nil ?_
            refine Wp_seq_region ?_
            refine WpL_val rfl rfl (by decide) (r_move (v := (.int .i64 (((m : Nat) : Int) - 1))) rfl) ?_
            refine WpL_val rfl rfl (by decide) (r_geq (k := .i64) (a := ((m : Nat) : Int) - 1) (b := 0) rfl rfl) ?_
            refine WpL_val rfl rfl (by decide) (r_move (v := (.bool (decide ((0 : Int) ≤ ((m : Nat) : Int) - 1)))) rfl) ?_
            refine WpL_guard_no (oj := _) rfl rfl (by decide) (v := .bool false) (congrArg Value.bool hm0) (Or.inl rfl) ?_
            refine WpL_guard_no (oj := _) rfl rfl (by decide) (v := .bool false) (congrArg Value.bool hm0) (Or.inl rfl) ?_
            refine WpL_guard_no (oj := _) rfl rfl (by decide) (v := .bool false) (congrArg Value.bool hm0) (Or.inl rfl) ?_
            refine WpL_guard_no (oj := _) rfl rfl (by decide) (v := .bool false) (congrArg Value.bool hm0) (Or.inl rfl) ?_
            refine WpL_guard_no (oj := _) rfl rfl (by decide) (v := .bool false) (congrArg Value.bool hm0) (Or.inl rfl) ?_
            refine WpL_guard_no (oj := _) rfl rfl (by decide) (v := .bool false) (congrArg Value.bool hm0) (Or.inl rfl) ?_
            refine WpL_guard_no (oj := _) rfl rfl (by decide) (v := .bool false) (congrArg Value.bool hm0) (Or.inl rfl) ?_
            refine WpL_guard_no (oj := _) rfl rfl (by decide) (v := .bool false) (congrArg Value.bool hm0) (Or.inl rfl) ?_
            refine WpL_val rfl rfl (by decide) (r_pick (b := decide ((0 : Int) ≤ ((m : Nat) : Int) - 1)) (v := (.bool false)) rfl (by rw [hm0]; rfl)) ?_
            refine WpL_nil ?_
            refine Wp_cond_false rfl ?_
            refine Wp_region ?_
            refine WpL_val rfl rfl (by decide) (r_move (v := (.slice la m lc)) rfl) ?_
            refine WpL_val rfl rfl (by decide) (r_move (v := (.int .i64 lo)) rfl) ?_
            refine WpL_val rfl rfl (by decide) (r_move (v := (.int .i64 hi)) rfl) ?_
            refine WpL_val rfl rfl (by decide) (r_build (ps := [(0, (.int .i64 lo)), (1, (.int .i64 hi))]) (v := (.agg #[(.int .i64 lo), (.int .i64 hi)])) rfl (by kernel_rfl)) ?_
            refine s_buildSlice (ps := [(0, (.agg #[(.int .i64 lo), (.int .i64 hi)]))]) (c := #[(.int .i64 lo), (.int .i64 hi)]) (by decide) rfl Try.underlying23 siz37 zer37 (by decide) (by decide) (by kernel_rfl) ?_
            intro b8 w8 N8
            have F8 := N8.ge E
            have F8_E2 := N8.ge E2
            replace hown := own_ext hown N8.ext
            replace hbs := Nat.le_trans hbs N8.ext.size
            replace E := E.ext N8.ext
            have B8 := N8.blk
            replace E2 := E2.ext N8.ext
            refine s_append (base := base) (n := m) (m := 1) (xs := []) (news := [(.int .i64 lo), (.int .i64 hi)]) (size := 2) (bytes := 16) (v := (.slice la m lc)) (by decide) Try.underlying23 siz37 byt37 zer37 rfl (by decide) rfl hown rfl (rfl) (B8.cells rfl) (by simp [Value.oneCell']) (by unfold maxLen; omega) (by omega) (hbs) ?_
            intro v9 w29 Ov9 Cv9 Dv9
            replace E := E.step Cv9 (fun x hx h => absurd (hown.lt x h).1 (by omega))
            replace E2 := E2.step Cv9 (fun x hx h => absurd (hown.lt x h).1 (by omega))
            obtain ⟨la2, lc2, rfl⟩ := own_form Ov9
            refine WpL_val rfl rfl (by decide) (r_assign (v := (.slice la2 (m + 1) lc2)) rfl) ?_
            refine WpL_nil ?_
            refine inB_normal ?_
            refine thn_normal ?_
            refine Wp_region ?_
            refine WpL_val rfl rfl (by decide) (r_add (k := .i64) (a := ((k : Nat) : Int)) (b := 1) (c := ((k : Nat) : Int) + 1) rfl rfl (wI64 (by omega))) ?_
            refine WpL_val rfl rfl (by decide) (r_move (v := (.int .i64 (((k : Nat) : Int) + 1))) rfl) ?_
            refine WpL_nil ?_
            refine thn_normal ?_
            exact ⟨p.length - (k + 1), by omega, k + 1, la2, lc2, m + 1, [(lo, hi)], Fits.out ⟨rfl, rfl, rfl, rfl, rfl, rfl, trivial⟩, E, E2, (by omega), (by simp [hm1]), (by omega), hT, (by simpa [spanV] using Ov9), Nat.le_trans hbs Cv9.size, rfl⟩
    · have khlt := hlt
      replace hlt := of_decide_eq_false hlt
      have hkk : k = p.length := by omega
      refine Wp_exit ?_
      refine thn_exit ?_
      refine thn_exit ?_
      refine inB_here ?_
      refine thn_normal ?_
      refine Wp_seq_region ?_
      refine WpL_val rfl rfl (by decide) (r_move (v := (.slice la m lc)) rfl) ?_
      refine WpL_val rfl rfl (by decide) (r_assign (v := (.slice la m lc)) rfl) ?_
      refine WpL_nil ?_
      refine Wp_ret ?_
      refine fin_tmp Try.results78 (v := (.slice la m lc)) rfl ?_
      subst hkk; subst hm
      exact ⟨⟨ou, hI.done, ⟨la, lc, rfl⟩, own_low hown (by omega)⟩, E⟩
theorem limited_c (w0 : World) (v : Value) (j : List Sp) (h : SetAt w0 v j) : Ret Try.prog 77 #[v] w0 fun r w => (∃ out e, fitsP j out e ∧ SetRes w r out e) ∧ Ext w0 w := by
  obtain ⟨⟨a, c, rfl⟩, h⟩ := h
  refine Ret_of Try.func77 rfl Try.ntmps77 (Nat.le_of_ble_eq_true rfl) ?_
  have E : Chg none1 w0 w0 := Chg.refl _ _
  refine Wp_seq_region ?_
  refine WpL_val rfl rfl (by decide) (r_assign (v := (.slice none 0 0)) rfl) ?_
  refine WpL_val rfl rfl (by decide) (r_assign (v := (.int .i64 0)) rfl) ?_
  refine WpL_nil ?_
  refine Wp_seq ?_
  refine Wp_seq_region ?_
  refine WpL_val rfl rfl (by decide) (r_move (v := (.slice a j.length c)) rfl) ?_
  refine WpL_val rfl rfl (by decide) (r_lenSlice (ad := a) (n := j.length) (cap := c) Try.underlying23 rfl) ?_
  refine WpL_val rfl rfl (by decide) (r_gtr (k := .i64) (a := ((j.length : Nat) : Int)) (b := 16) rfl rfl) ?_
  refine WpL_nil ?_
  refine Wp_cond (b := decide ((16 : Int) < ((j.length : Nat) : Int))) rfl (fun hl => ?_) (fun hl => ?_)
  · have khl := hl
    replace hl := of_decide_eq_true hl
    refine Wp_seq_region ?_
    refine WpL_val rfl rfl (by decide) (r_assign (v := (.slice none 0 0)) rfl) ?_
    refine WpL_val rfl rfl (by decide) (r_assign (v := (.int .i64 2)) rfl) ?_
    refine WpL_nil ?_
    refine Wp_ret ?_
    refine thn_ret ?_
    refine fin_tmp2 Try.results77 (v := (.slice none 0 0)) (v' := (.int .i64 2)) rfl rfl ?_
    exact ⟨⟨[], 2, by unfold fitsP; rw [if_pos (by omega)]; exact ⟨rfl, rfl⟩, none, 0, rfl, SlAt.nil _ _ _ _⟩, E⟩
  · have khl := hl
    replace hl := of_decide_eq_false hl
    refine Wp_skip ?_
    refine thn_normal ?_
    refine Wp_seq_region ?_
    refine WpL_val rfl rfl (by decide) (r_move (v := (.slice a j.length c)) rfl) ?_
    refine WpL_val rfl rfl (by decide) (r_assign (v := (.slice a j.length c)) rfl) ?_
    refine WpL_val rfl rfl (by decide) (r_assign (v := (.int .i64 0)) rfl) ?_
    refine WpL_nil ?_
    refine Wp_ret ?_
    refine fin_tmp2 Try.results77 (v := (.slice a j.length c)) (v' := (.int .i64 0)) rfl rfl ?_
    exact ⟨⟨j, 0, by unfold fitsP; rw [if_neg (by omega)]; exact ⟨rfl, rfl⟩, a, c, rfl, h⟩, E⟩
theorem fitsP_uniq {j o o' : List Sp} {e e' : Int} (h : fitsP j o e) (h' : fitsP j o' e') : e = e' ∧ o = o' := by
  unfold fitsP at h h'
  split at h
  · rename_i hl; rw [if_pos hl] at h'; exact ⟨by omega, by rw [h.2, h'.2]⟩
  · rename_i hl; rw [if_neg hl] at h'; exact ⟨by omega, by rw [h.2, h'.2]⟩
theorem spss_one {w : World} {b : Nat} {x : Value} {l : List Sp} {T : Nat} (hB : Blk w b #[x] T) (hx : SpansAt w x l) : SpssAt w (.slice (some ⟨b, 0, none⟩) 1 1) [l] := by
  refine ⟨[x], ⟨_, 1, rfl, by simp, by simp, .inr ⟨b, 0, rfl, fun i r hr j u hu => ?_⟩⟩, rfl, fun i u l' hu hl => ?_⟩
  · match i, hr with
    | 0, hr => simp at hr; subst hr; match j, hu with | 0, hu => simp at hu; subst hu; exact hB.cell rfl
  · match i, hu with
    | 0, hu => simp at hu hl; subst hu; subst hl; exact hx
def norm2P (a out : List Sp) (e : Int) : Prop := ((∃ s ∈ a, ¬ vSp s) ∧ e = 1 ∧ out = []) ∨ ((∀ s ∈ a, vSp s) ∧ ∃ j, IsSet j (inS a) ∧ fitsP j out e)
theorem normP.two {a out : List Sp} {e : Int} (h : normP a out e) : norm2P a out e := h.imp id fun ⟨h1, j, h2, _, h3⟩ => ⟨h1, j, h2, h3⟩
theorem norm2P.uniq {a o o' : List Sp} {e e' : Int} (h : norm2P a o e) (h' : norm2P a o' e') : e = e' ∧ o = o' := by
  rcases h with ⟨⟨s, hs, hv⟩, rfl, rfl⟩ | ⟨hv, j, hj, hf⟩ <;> rcases h' with ⟨⟨t, ht, hu⟩, rfl, rfl⟩ | ⟨hu, k, hk, hg⟩
  · exact ⟨rfl, rfl⟩
  · exact absurd (hu s hs) hv
  · exact absurd (hv t ht) hu
  · obtain rfl := IsSet.eq hj hk fun _ _ _ => rfl
    exact fitsP_uniq hf hg
theorem nset1_c (w0 : World) (b : Nat) (x : Value) (a : List Sp) (r : Int) (hB : Blk w0 b #[x] 23) (h : SpansAt w0 x a) : Ret Try.prog 79 #[.int .i64 r, .pointer (some ⟨b, 0, none⟩)] w0 fun v w => v = .bool (inS a r) ∧ Ext w0 w := by
  refine Ret_of Try.func79 rfl Try.ntmps79 (Nat.le_of_ble_eq_true rfl) ?_
  have E : Chg none1 w0 w0 := Chg.refl _ _
  refine Wp_seq_region ?_
  refine WpL_val rfl rfl (by decide) (r_assign (v := (.bool false)) rfl) ?_
  refine WpL_nil ?_
  refine Wp_seq_region ?_
  refine WpL_val rfl rfl (by decide) (r_load (v := x) rfl flat23 (hB.cell rfl)) ?_
  refine WpL_val rfl rfl (by decide) (r_move (v := (.int .i64 r)) rfl) ?_
  refine WpL_enter rfl rfl (by decide) (r_callF (vs := [x, (.int .i64 r)]) Try.func39 nm39 bd39 rfl) (inset_c _ x a r h) ?_
  rintro _ w9 ⟨rfl, X9⟩
  replace hB := X9.keep hB
  replace E := E.ext X9
  refine WpL_val rfl rfl (by decide) (r_assign (v := (.bool (inS a r))) rfl) ?_
  refine WpL_nil ?_
  refine Wp_ret ?_
  refine fin_tmp Try.results79 (v := (.bool (inS a r))) rfl ?_
  exact ⟨rfl, E⟩
set_option maxHeartbeats 1000000 in
theorem nset_c (w0 : World) (v : Value) (a : List Sp) (h : SpansAt w0 v a) (hl : a.length ≤ 8796093022200) : Ret Try.prog 36 #[v] w0 fun r w => (∃ out e, norm2P a out e ∧ SetRes w r out e) ∧ Ext w0 w := by
  obtain ⟨aa, ac, rfl⟩ := SlAt.form h
  simp only [List.length_map] at h ⊢
  refine Ret_of Try.func36 rfl Try.ntmps36 (Nat.le_of_ble_eq_true rfl) ?_
  have E : Chg none1 w0 w0 := Chg.refl _ _
  refine Wp_seq_region ?_
  refine s_box (v := (.slice aa a.length ac)) (c := #[(.slice aa a.length ac)]) (by decide) rfl rfl ?_
  intro bq wq Nq
  have Fq := Nq.ge E
  replace E := E.ext Nq.ext
  have Bq := Nq.blk
  refine WpL_val rfl rfl (by decide) (r_assign (v := (.slice none 0 0)) rfl) ?_
  refine WpL_val rfl rfl (by decide) (r_assign (v := (.int .i64 0)) rfl) ?_
  refine WpL_nil ?_
  refine Wp_seq ?_
  refine Wp_seq_region ?_
  refine WpL_val rfl rfl (by decide) (r_load (v := (.slice aa a.length ac)) rfl flat23 (Bq.cell rfl)) ?_
  refine WpL_val rfl rfl (by decide) (r_lenSlice (ad := aa) (n := a.length) (cap := ac) Try.underlying23 rfl) ?_
  refine WpL_val rfl rfl (by decide) (r_move (v := (.int .i64 0)) rfl) ?_
  refine WpL_nil ?_
  refine Wp_block ?_
  refine Wp_loop (fun nn_ σ W1 => ∃ (k : Nat), (∃ jj_, σ = upds jj_ [(1, (.pointer (some ⟨bq, 0, none⟩))), (6, (.slice aa a.length ac)), (7, (.int .i64 ((a.length : Nat) : Int))), (8, (.int .i64 ((k : Nat) : Int)))]) ∧ Chg none1 w0 W1 ∧ Blk W1 bq #[(.slice aa a.length ac)] 23 ∧ (k ≤ a.length) ∧ (∀ s ∈ a.take k, vSp s) ∧ nn_ = a.length - k) (n := a.length - 0) ?_ ?_
  · exact ⟨0, Fits.out ⟨rfl, rfl, rfl, rfl, trivial⟩, E, Bq, Nat.zero_le _, (fun s hs => by simp at hs), rfl⟩
  · clear E Bq
    rintro _ _ W1 ⟨k, ⟨j1, rfl⟩, E, Bq, hk, hv, rfl⟩
    refine Wp_seq_region ?_
    refine WpL_val rfl rfl (by decide) (r_lss (k := .i64) (a := ((k : Nat) : Int)) (b := ((a.length : Nat) : Int)) rfl rfl) ?_
    refine WpL_nil ?_
    refine Wp_seq ?_
    refine Wp_cond (b := decide ((((k : Nat) : Int) : Int) < ((a.length : Nat) : Int))) rfl (fun hlt => ?_) (fun hlt => ?_)
    · have khlt := hlt
      replace hlt := of_decide_eq_true hlt
      obtain ⟨s, hs⟩ := get_of_lt (l := a) (i := k) (by omega)
      obtain ⟨b, o, hab, hcl⟩ := spans_cells h (by omega)
      subst hab
      refine Wp_skip ?_
      refine thn_normal ?_
      refine Wp_seq ?_
      refine Wp_block ?_
      refine Wp_seq_region ?_
      refine WpL_val rfl rfl (by decide) (r_indexSlice (b := b) (o := o) (len := a.length) (cap := ac) (i := k) (o' := o + k * 2) rfl rfl rfl Try.underlying23 siz37 (by omega) (by omega)) ?_
      refine WpL_val rfl rfl (by decide) (r_loadAgg (vs := [(.int .i64 s.1), (.int .i64 s.2)]) rfl agg37 siz37 rfl ((hcl k s hs).ext E)) ?_
      refine s_allocStore (v := (.agg #[(.int .i64 s.1), (.int .i64 s.2)])) (c := #[(.int .i64 s.1), (.int .i64 s.2)]) (n := 2) (by decide) zer37 rfl siz37 rfl rfl rfl (by simp [Value.oneCell']) ?_
      intro b3 w3 N3
      have F3 := N3.ge E
      have O3_bq := N3.lt Bq
      replace Bq := N3.keep Bq
      replace E := E.ext N3.ext
      have B3 := N3.blk
      refine WpL_nil ?_
      refine Wp_seq_region ?_
      refine WpL_val rfl rfl (by decide) (r_loadAgg (vs := [(.int .i64 s.1), (.int .i64 s.2)]) rfl agg37 siz37 rfl (B3.cells rfl)) ?_
      refine WpL_enter rfl rfl (by decide) (r_callF (vs := [(.agg #[(.int .i64 s.1), (.int .i64 s.2)])]) Try.func74 nm74 bd74 rfl) (gspan_c s _) ?_
      rintro _ w9 ⟨rfl, X9⟩
      replace Bq := X9.keep Bq
      replace B3 := X9.keep B3
      replace E := E.ext X9
      refine WpL_val rfl rfl (by decide) (r_not (b := validB s) rfl) ?_
      refine WpL_nil ?_
      refine Wp_cond (b := !(validB s)) rfl (fun hvs => ?_) (fun hvs => ?_)
      · have khvs := hvs
        replace hvs := by simpa using hvs
        refine Wp_seq_region ?_
        refine WpL_val rfl rfl (by decide) (r_assign (v := (.slice none 0 0)) rfl) ?_
        refine WpL_val rfl rfl (by decide) (r_assign (v := (.int .i64 1)) rfl) ?_
        refine WpL_nil ?_
        refine Wp_ret ?_
        refine inB_ret ?_
        refine thn_ret ?_
        refine thn_ret ?_
        refine inB_ret ?_
        refine thn_ret ?_
        refine fin_tmp2 Try.results36 (v := (.slice none 0 0)) (v' := (.int .i64 1)) rfl rfl ?_
        exact ⟨⟨[], 1, .inl ⟨⟨s, List.mem_of_getElem? hs, fun h9 => by rw [validB_iff.2 h9] at hvs; cases hvs⟩, rfl, rfl⟩, none, 0, rfl, SlAt.nil _ _ _ _⟩, E⟩
      · have khvs := hvs
        replace hvs := by simpa using hvs
        refine Wp_skip ?_
        refine inB_normal ?_
        refine thn_normal ?_
        refine Wp_region ?_
        refine WpL_val rfl rfl (by decide) (r_add (k := .i64) (a := ((k : Nat) : Int)) (b := 1) (c := ((k : Nat) : Int) + 1) rfl rfl (wI64 (by omega))) ?_
        refine WpL_val rfl rfl (by decide) (r_move (v := (.int .i64 (((k : Nat) : Int) + 1))) rfl) ?_
        refine WpL_nil ?_
        refine thn_normal ?_
        exact ⟨a.length - (k + 1), by omega, k + 1, Fits.out ⟨rfl, rfl, rfl, rfl, trivial⟩, E, Bq, (by omega), (fun t ht => by rw [take_snoc hs] at ht; rcases List.mem_append.1 ht with ht | ht; exact hv t ht; rw [List.mem_singleton] at ht; subst ht; exact validB_iff.1 hvs), rfl⟩
    · have khlt := hlt
      replace hlt := of_decide_eq_false hlt
      have hkk : k = a.length := by omega
      rw [hkk, List.take_length] at hv
      refine Wp_exit ?_
      refine thn_exit ?_
      refine thn_exit ?_
      refine inB_here ?_
      refine thn_normal ?_
      refine Wp_seq_region ?_
      refine WpL_val rfl rfl (by decide) (r_makeFunc (vs := []) (us := [(.pointer (some ⟨bq, 0, none⟩))]) rfl rfl) ?_
      refine WpL_val rfl rfl (by decide) (r_load (v := (.slice aa a.length ac)) rfl flat23 (Bq.cell rfl)) ?_
      refine s_buildSlice (ps := [(0, (.slice aa a.length ac))]) (c := #[(.slice aa a.length ac)]) (by decide) rfl Try.underlying53 siz23 zer23 (by decide) (by decide) (by kernel_rfl) ?_
      intro bt wt Nt
      have Ft := Nt.ge E
      have Ot_bq := Nt.lt Bq
      replace Bq := Nt.keep Bq
      replace E := E.ext Nt.ext
      have Bt := Nt.blk
      refine WpL_enter rfl rfl (by decide) (r_callF (vs := [(.func (.func 79) #[] #[(.pointer (some ⟨bq, 0, none⟩))]), (.slice (some ⟨bt, 0, none⟩) 1 1)]) Try.func78 nm78 bd78 rfl) (chosen_c _ _ _ (inS a) [a] (spss_one Bt (h.ext E)) (by simpa using hl) (by simpa using hv) (fun p hp => pcs_const hp (by simp)) (fun w x hE => CallV.mk (first := #[]) (cap := #[.pointer (some ⟨bq, 0, none⟩)]) Try.func79 nm79 bd79 rfl (nset1_c w bq _ a x (hE.keep Bq) ((h.ext E).ext hE)))) ?_
      rintro _ w8 ⟨⟨j, hj, ⟨⟨ja, jc, rfl⟩, O8⟩⟩, X8⟩
      replace Bq := X8.keep Bq
      replace Bt := X8.keep Bt
      replace E := E.ext X8
      have hJ : OwnS w8 _ (.slice ja j.length jc) j := ⟨⟨_, _, rfl⟩, O8⟩
      refine WpL_enter rfl rfl (by decide) (r_callF (vs := [(.slice ja j.length jc)]) Try.func77 nm77 bd77 rfl) (limited_c _ _ j hJ.set) ?_
      rintro _ w6 ⟨⟨out, e, hf, fa, fc, rfl, hsp⟩, X6⟩
      replace Bq := X6.keep Bq
      replace Bt := X6.keep Bt
      replace E := E.ext X6
      refine WpL_val rfl rfl (by decide) (r_extract (vs := #[(.slice fa out.length fc), (.int .i64 e)]) (v := (.slice fa out.length fc)) rfl rfl) ?_
      refine WpL_val rfl rfl (by decide) (r_extract (vs := #[(.slice fa out.length fc), (.int .i64 e)]) (v := (.int .i64 e)) rfl rfl) ?_
      refine WpL_val rfl rfl (by decide) (r_assign (v := (.slice fa out.length fc)) rfl) ?_
      refine WpL_val rfl rfl (by decide) (r_assign (v := (.int .i64 e)) rfl) ?_
      refine WpL_nil ?_
      refine Wp_ret ?_
      refine fin_tmp2 Try.results36 (v := (.slice fa out.length fc)) (v' := (.int .i64 e)) rfl rfl ?_
      exact ⟨⟨out, e, .inr ⟨hv, j, hj, hf⟩, fa, fc, rfl, hsp⟩, E⟩
def combF (kd : Int) (x y : Bool) : Bool := ((decide (kd = 1) && (x || y)) || ((decide (kd = 2) && x) && y)) || ((decide (kd = 3) && x) && !y)
theorem comb1_c (w0 : World) (b1 b2 b3 : Nat) (x y : Value) (a b : List Sp) (kd r : Int) (h1 : Blk w0 b1 #[x] 23) (h2 : Blk w0 b2 #[y] 23) (h3 : Blk w0 b3 #[.int .i64 kd] 3) (hx : SpansAt w0 x a) (hy : SpansAt w0 y b) :
    Ret Try.prog 80 #[.int .i64 r, .pointer (some ⟨b1, 0, none⟩), .pointer (some ⟨b2, 0, none⟩), .pointer (some ⟨b3, 0, none⟩)] w0 fun v w => v = .bool (combF kd (inS a r) (inS b r)) ∧ Ext w0 w := by
  refine Ret_of Try.func80 rfl Try.ntmps80 (Nat.le_of_ble_eq_true rfl) ?_
  have E : Chg none1 w0 w0 := Chg.refl _ _
  refine Wp_seq_region ?_
  refine WpL_val rfl rfl (by decide) (r_assign (v := (.bool false)) rfl) ?_
  refine WpL_nil ?_
  refine Wp_seq ?_
  obtain ⟨Fs1, hFs1⟩ : ∃ Fs : List Fact, Fs = [.eq x, .eq (.int .i64 r), .eq (.bool (inS a r)), .eq y, .eq (.int .i64 r), .eq (.bool (inS b r)), .eq (.bool (inS a r)), .eq (.bool (inS b r))] := ⟨_, rfl⟩
  refine Wp_dag [8, 9, 10, 11, 12, 13, 6, 7] [[], [], [0, 1], [], [], [2, 3, 4], [0, 1, 2, 5], [0, 1, 2, 3, 4, 5, 6]] Fs1 hFs1 mixed (by kernel_rfl) (by kernel_rfl) ?_ ?_
  · intro wd X0
    refine DagSteps.cons (fun s' w' X U H => Or.inl ⟨?_, ?_⟩) ?_
    · exact Guarded_none rfl
    · exact Does_val (r_load (v := x) (U 1 rfl) flat23 (((X0.trans X).keep h1).cell rfl)) (Ext.refl _) rfl
    refine DagSteps.cons (fun s' w' X U H => Or.inl ⟨?_, ?_⟩) ?_
    · exact Guarded_none rfl
    · exact Does_val (r_move (v := (.int .i64 r)) (U 0 rfl)) (Ext.refl _) rfl
    refine DagSteps.cons (fun s' w' X U H => Or.inl ⟨?_, ?_⟩) ?_
    · exact Guarded_none rfl
    · have e8 : s' 8 = x := H 0 rfl 8 (.eq x) rfl (by rw [hFs1]; rfl)
      have e9 : s' 9 = (.int .i64 r) := H 1 rfl 9 (.eq (.int .i64 r)) rfl (by rw [hFs1]; rfl)
      exact Does_enter (r_callF (vs := [x, (.int .i64 r)]) Try.func39 nm39 bd39 (lst2 e8 e9)) (inset_c _ x a r (hx.ext (X0.trans X)))
    refine DagSteps.cons (fun s' w' X U H => Or.inl ⟨?_, ?_⟩) ?_
    · exact Guarded_none rfl
    · exact Does_val (r_load (v := y) (U 2 rfl) flat23 (((X0.trans X).keep h2).cell rfl)) (Ext.refl _) rfl
    refine DagSteps.cons (fun s' w' X U H => Or.inl ⟨?_, ?_⟩) ?_
    · exact Guarded_none rfl
    · exact Does_val (r_move (v := (.int .i64 r)) (U 0 rfl)) (Ext.refl _) rfl
    refine DagSteps.cons (fun s' w' X U H => Or.inl ⟨?_, ?_⟩) ?_
    · exact Guarded_none rfl
    · have e11 : s' 11 = y := H 3 rfl 11 (.eq y) rfl (by rw [hFs1]; rfl)
      have e12 : s' 12 = (.int .i64 r) := H 4 rfl 12 (.eq (.int .i64 r)) rfl (by rw [hFs1]; rfl)
      exact Does_enter (r_callF (vs := [y, (.int .i64 r)]) Try.func39 nm39 bd39 (lst2 e11 e12)) (inset_c _ y b r (hy.ext (X0.trans X)))
    refine DagSteps.cons (fun s' w' X U H => Or.inl ⟨?_, ?_⟩) ?_
    · exact Guarded_none rfl
    · have e10 : s' 10 = (.bool (inS a r)) := H 2 rfl 10 (.eq (.bool (inS a r))) rfl (by rw [hFs1]; rfl)
      exact Does_val (r_assign (v := (.bool (inS a r))) e10) (Ext.refl _) rfl
    refine DagSteps.cons (fun s' w' X U H => Or.inl ⟨?_, ?_⟩) ?_
    · exact Guarded_none rfl
    · have e13 : s' 13 = (.bool (inS b r)) := H 5 rfl 13 (.eq (.bool (inS b r))) rfl (by rw [hFs1]; rfl)
      exact Does_val (r_assign (v := (.bool (inS b r))) e13) (Ext.refl _) rfl
    exact DagSteps.nil
  · intro s' w1 X1 U H
    obtain ⟨j1, rfl⟩ := Fits.out (σ := s') (l := [(3, (.pointer (some ⟨b3, 0, none⟩))), (5, (.bool false)), (6, (.bool (inS a r))), (7, (.bool (inS b r)))]) ⟨U 3 rfl, U 5 rfl, (show s' 6 = (.bool (inS a r)) from H 6 6 (.eq (.bool (inS a r))) rfl (by rw [hFs1]; rfl)), (show s' 7 = (.bool (inS b r)) from H 7 7 (.eq (.bool (inS b r))) rfl (by rw [hFs1]; rfl)), trivial⟩
    clear U H
    replace h1 := X1.keep h1
    replace h2 := X1.keep h2
    replace h3 := X1.keep h3
    replace E := E.ext X1
    refine thn_normal ?_
    refine Wp_seq_region ?_
    refine WpL_val rfl rfl (by decide) (r_load (v := (.int .i64 kd)) rfl flat3 (h3.cell rfl)) ?_
    obtain ⟨e2, he2⟩ : ∃ e, (decide ((kd : Int) = 1)) = e := ⟨_, rfl⟩
    refine WpL_val rfl rfl (by decide) ((r_eql (k := .i64) (a := kd) (b := 1) rfl rfl).trans (by rw [he2]; try rfl)) ?_
    refine WpL_val rfl rfl (by decide) (r_move (v := (.bool e2)) rfl) ?_
    obtain ⟨e3, he3⟩ : ∃ e, (inS a r) = e := ⟨_, rfl⟩
    refine WpL_guard_any (oj := _) (gv := (.bool e2)) (u := (bif e2 then (.bool e3) else undef)) rfl rfl (by decide) (by decide) rfl (by cases e2 <;> first | exact Or.inr ⟨Or.inl rfl, rfl⟩ | exact Or.inr ⟨Or.inr rfl, rfl⟩ | exact Or.inl ⟨rfl, r_move (v := .bool e3) (congrArg Value.bool he3)⟩) ?_
    refine WpL_guard_any (oj := _) (gv := (.bool e2)) (u := (bif e2 then (.bool e3) else undef)) rfl rfl (by decide) (by decide) rfl (by cases e2 <;> first | exact Or.inr ⟨Or.inl rfl, rfl⟩ | exact Or.inr ⟨Or.inr rfl, rfl⟩ | exact Or.inl ⟨rfl, r_move (v := (.bool e3)) rfl⟩) ?_
    obtain ⟨e4, he4⟩ : ∃ e, (inS b r) = e := ⟨_, rfl⟩
    refine WpL_guard_any (oj := _) (gv := (bif e2 then (.bool e3) else undef)) (u := (bif e2 then (bif e3 then undef else (.bool e4)) else undef)) rfl rfl (by decide) (by decide) rfl (by cases e2 <;> cases e3 <;> first | exact Or.inr ⟨Or.inl rfl, rfl⟩ | exact Or.inr ⟨Or.inr rfl, rfl⟩ | exact Or.inl ⟨rfl, r_move (v := .bool e4) (congrArg Value.bool he4)⟩) ?_
    obtain ⟨e5, he5⟩ : ∃ e, (e3 || e4) = e := ⟨_, rfl⟩
    refine WpL_guard_any (oj := _) (gv := (.bool e2)) (u := (bif e2 then (.bool e5) else undef)) rfl rfl (by decide) (by decide) rfl (by cases e2 <;> first | exact Or.inr ⟨Or.inl rfl, rfl⟩ | exact Or.inr ⟨Or.inr rfl, rfl⟩ | exact Or.inl ⟨rfl, r_pick (b := e3) (v := .bool e5) rfl (by rw [← he5]; cases e3 <;> rfl)⟩) ?_
    obtain ⟨e6, he6⟩ : ∃ e, (e2 && e5) = e := ⟨_, rfl⟩
    refine WpL_val rfl rfl (by decide) (r_pick (b := e2) (v := .bool e6) rfl (by rw [← he6]; cases e2 <;> rfl)) ?_
    refine WpL_val rfl rfl (by decide) (r_move (v := (.bool e6)) rfl) ?_
    refine WpL_guard_any (oj := _) (gv := (.bool e6)) (u := (bif e6 then undef else (.int .i64 kd))) rfl rfl (by decide) (by decide) rfl (by cases e6 <;> first | exact Or.inr ⟨Or.inl rfl, rfl⟩ | exact Or.inr ⟨Or.inr rfl, rfl⟩ | exact Or.inl ⟨rfl, r_load (v := (.int .i64 kd)) rfl flat3 (h3.cell rfl)⟩) ?_
    obtain ⟨e7, he7⟩ : ∃ e, (decide ((kd : Int) = 2)) = e := ⟨_, rfl⟩
    refine WpL_guard_any (oj := _) (gv := (.bool e6)) (u := (bif e6 then undef else (.bool e7))) rfl rfl (by decide) (by decide) rfl (by cases e6 <;> first | exact Or.inr ⟨Or.inl rfl, rfl⟩ | exact Or.inr ⟨Or.inr rfl, rfl⟩ | exact Or.inl ⟨rfl, (r_eql (k := .i64) (a := kd) (b := 2) rfl rfl).trans (by rw [he7]; try rfl)⟩) ?_
    refine WpL_guard_any (oj := _) (gv := (.bool e6)) (u := (bif e6 then undef else (.bool e7))) rfl rfl (by decide) (by decide) rfl (by cases e6 <;> first | exact Or.inr ⟨Or.inl rfl, rfl⟩ | exact Or.inr ⟨Or.inr rfl, rfl⟩ | exact Or.inl ⟨rfl, r_move (v := (.bool e7)) rfl⟩) ?_
    obtain ⟨e8, he8⟩ : ∃ e, (inS a r) = e := ⟨_, rfl⟩
    refine WpL_guard_any (oj := _) (gv := (bif e6 then undef else (.bool e7))) (u := (bif e6 then undef else (bif e7 then (.bool e8) else undef))) rfl rfl (by decide) (by decide) rfl (by cases e6 <;> cases e7 <;> first | exact Or.inr ⟨Or.inl rfl, rfl⟩ | exact Or.inr ⟨Or.inr rfl, rfl⟩ | exact Or.inl ⟨rfl, r_move (v := .bool e8) (congrArg Value.bool he8)⟩) ?_
    obtain ⟨e9, he9⟩ : ∃ e, (e7 && e8) = e := ⟨_, rfl⟩
    refine WpL_guard_any (oj := _) (gv := (.bool e6)) (u := (bif e6 then undef else (.bool e9))) rfl rfl (by decide) (by decide) rfl (by cases e6 <;> first | exact Or.inr ⟨Or.inl rfl, rfl⟩ | exact Or.inr ⟨Or.inr rfl, rfl⟩ | exact Or.inl ⟨rfl, r_pick (b := e7) (v := .bool e9) rfl (by rw [← he9]; cases e7 <;> rfl)⟩) ?_
    refine WpL_guard_any (oj := _) (gv := (.bool e6)) (u := (bif e6 then undef else (.bool e9))) rfl rfl (by decide) (by decide) rfl (by cases e6 <;> first | exact Or.inr ⟨Or.inl rfl, rfl⟩ | exact Or.inr ⟨Or.inr rfl, rfl⟩ | exact Or.inl ⟨rfl, r_move (v := (.bool e9)) rfl⟩) ?_
    obtain ⟨e10, he10⟩ : ∃ e, (inS b r) = e := ⟨_, rfl⟩
    refine WpL_guard_any (oj := _) (gv := (bif e6 then undef else (.bool e9))) (u := (bif e6 then undef else (bif e9 then (.bool e10) else undef))) rfl rfl (by decide) (by decide) rfl (by cases e6 <;> cases e9 <;> first | exact Or.inr ⟨Or.inl rfl, rfl⟩ | exact Or.inr ⟨Or.inr rfl, rfl⟩ | exact Or.inl ⟨rfl, r_move (v := .bool e10) (congrArg Value.bool he10)⟩) ?_
    obtain ⟨e11, he11⟩ : ∃ e, (e9 && e10) = e := ⟨_, rfl⟩
    refine WpL_guard_any (oj := _) (gv := (.bool e6)) (u := (bif e6 then undef else (.bool e11))) rfl rfl (by decide) (by decide) rfl (by cases e6 <;> first | exact Or.inr ⟨Or.inl rfl, rfl⟩ | exact Or.inr ⟨Or.inr rfl, rfl⟩ | exact Or.inl ⟨rfl, r_pick (b := e9) (v := .bool e11) rfl (by rw [← he11]; cases e9 <;> rfl)⟩) ?_
    obtain ⟨e12, he12⟩ : ∃ e, (e6 || e11) = e := ⟨_, rfl⟩
    refine WpL_val rfl rfl (by decide) (r_pick (b := e6) (v := .bool e12) rfl (by rw [← he12]; cases e6 <;> rfl)) ?_
    refine WpL_val rfl rfl (by decide) (r_move (v := (.bool e12)) rfl) ?_
    refine WpL_guard_any (oj := _) (gv := (.bool e12)) (u := (bif e12 then undef else (.int .i64 kd))) rfl rfl (by decide) (by decide) rfl (by cases e12 <;> first | exact Or.inr ⟨Or.inl rfl, rfl⟩ | exact Or.inr ⟨Or.inr rfl, rfl⟩ | exact Or.inl ⟨rfl, r_load (v := (.int .i64 kd)) rfl flat3 (h3.cell rfl)⟩) ?_
    obtain ⟨e13, he13⟩ : ∃ e, (decide ((kd : Int) = 3)) = e := ⟨_, rfl⟩
    refine WpL_guard_any (oj := _) (gv := (.bool e12)) (u := (bif e12 then undef else (.bool e13))) rfl rfl (by decide) (by decide) rfl (by cases e12 <;> first | exact Or.inr ⟨Or.inl rfl, rfl⟩ | exact Or.inr ⟨Or.inr rfl, rfl⟩ | exact Or.inl ⟨rfl, (r_eql (k := .i64) (a := kd) (b := 3) rfl rfl).trans (by rw [he13]; try rfl)⟩) ?_
    refine WpL_guard_any (oj := _) (gv := (.bool e12)) (u := (bif e12 then undef else (.bool e13))) rfl rfl (by decide) (by decide) rfl (by cases e12 <;> first | exact Or.inr ⟨Or.inl rfl, rfl⟩ | exact Or.inr ⟨Or.inr rfl, rfl⟩ | exact Or.inl ⟨rfl, r_move (v := (.bool e13)) rfl⟩) ?_
    obtain ⟨e14, he14⟩ : ∃ e, (inS a r) = e := ⟨_, rfl⟩
    refine WpL_guard_any (oj := _) (gv := (bif e12 then undef else (.bool e13))) (u := (bif e12 then undef else (bif e13 then (.bool e14) else undef))) rfl rfl (by decide) (by decide) rfl (by cases e12 <;> cases e13 <;> first | exact Or.inr ⟨Or.inl rfl, rfl⟩ | exact Or.inr ⟨Or.inr rfl, rfl⟩ | exact Or.inl ⟨rfl, r_move (v := .bool e14) (congrArg Value.bool he14)⟩) ?_
    obtain ⟨e15, he15⟩ : ∃ e, (e13 && e14) = e := ⟨_, rfl⟩
    refine WpL_guard_any (oj := _) (gv := (.bool e12)) (u := (bif e12 then undef else (.bool e15))) rfl rfl (by decide) (by decide) rfl (by cases e12 <;> first | exact Or.inr ⟨Or.inl rfl, rfl⟩ | exact Or.inr ⟨Or.inr rfl, rfl⟩ | exact Or.inl ⟨rfl, r_pick (b := e13) (v := .bool e15) rfl (by rw [← he15]; cases e13 <;> rfl)⟩) ?_
    refine WpL_guard_any (oj := _) (gv := (.bool e12)) (u := (bif e12 then undef else (.bool e15))) rfl rfl (by decide) (by decide) rfl (by cases e12 <;> first | exact Or.inr ⟨Or.inl rfl, rfl⟩ | exact Or.inr ⟨Or.inr rfl, rfl⟩ | exact Or.inl ⟨rfl, r_move (v := (.bool e15)) rfl⟩) ?_
    obtain ⟨e16, he16⟩ : ∃ e, (inS b r) = e := ⟨_, rfl⟩
    refine WpL_guard_any (oj := _) (gv := (bif e12 then undef else (.bool e15))) (u := (bif e12 then undef else (bif e15 then (.bool e16) else undef))) rfl rfl (by decide) (by decide) rfl (by cases e12 <;> cases e15 <;> first | exact Or.inr ⟨Or.inl rfl, rfl⟩ | exact Or.inr ⟨Or.inr rfl, rfl⟩ | exact Or.inl ⟨rfl, r_move (v := .bool e16) (congrArg Value.bool he16)⟩) ?_
    obtain ⟨e17, he17⟩ : ∃ e, (!e16) = e := ⟨_, rfl⟩
    refine WpL_guard_any (oj := _) (gv := (bif e12 then undef else (.bool e15))) (u := (bif e12 then undef else (bif e15 then (.bool e17) else undef))) rfl rfl (by decide) (by decide) rfl (by cases e12 <;> cases e15 <;> first | exact Or.inr ⟨Or.inl rfl, rfl⟩ | exact Or.inr ⟨Or.inr rfl, rfl⟩ | exact Or.inl ⟨rfl, (r_not (b := e16) rfl).trans (by rw [he17]; try rfl)⟩) ?_
    obtain ⟨e18, he18⟩ : ∃ e, (e15 && e17) = e := ⟨_, rfl⟩
    refine WpL_guard_any (oj := _) (gv := (.bool e12)) (u := (bif e12 then undef else (.bool e18))) rfl rfl (by decide) (by decide) rfl (by cases e12 <;> first | exact Or.inr ⟨Or.inl rfl, rfl⟩ | exact Or.inr ⟨Or.inr rfl, rfl⟩ | exact Or.inl ⟨rfl, r_pick (b := e15) (v := .bool e18) rfl (by rw [← he18]; cases e15 <;> rfl)⟩) ?_
    obtain ⟨e19, he19⟩ : ∃ e, (e12 || e18) = e := ⟨_, rfl⟩
    refine WpL_val rfl rfl (by decide) (r_pick (b := e12) (v := .bool e19) rfl (by rw [← he19]; cases e12 <;> rfl)) ?_
    refine WpL_val rfl rfl (by decide) (r_assign (v := (.bool e19)) rfl) ?_
    refine WpL_nil ?_
    subst he19
    subst he18
    subst he17
    subst he16
    subst he15
    subst he14
    subst he13
    subst he12
    subst he11
    subst he10
    subst he9
    subst he8
    subst he7
    subst he6
    subst he5
    subst he4
    subst he3
    subst he2
    refine Wp_ret ?_
    refine fin_tmp Try.results80 (v := (.bool ((((decide ((kd : Int) = 1)) && ((inS a r) || (inS b r))) || (((decide ((kd : Int) = 2)) && (inS a r)) && (inS b r))) || (((decide ((kd : Int) = 3)) && (inS a r)) && (!(inS b r)))))) rfl ?_
    exact ⟨bool_eq (by unfold combF; cases inS a r <;> cases inS b r <;> cases decide (kd = 1) <;> cases decide (kd = 2) <;> cases decide (kd = 3) <;> rfl), E⟩
theorem const_comb {f g : Int → Bool} {p : List Int} (hf : Const f p) (hg : Const g p) (F : Bool → Bool → Bool) : Const (fun r => F (f r) (g r)) p := fun a r h1 h2 h3 h4 => by
  show F (f r) (g r) = F (f a) (g a)
  rw [hf a r h1 h2 h3 h4, hg a r h1 h2 h3 h4]
def comb2P (f : Int → Bool) (a b out : List Sp) (e : Int) : Prop := (twoE a b ≠ 0 ∧ e = twoE a b ∧ out = []) ∨ (twoE a b = 0 ∧ ∃ j, IsSet j f ∧ fitsP j out e)
theorem comb2P.uniq {f g : Int → Bool} {a b o o' : List Sp} {e e' : Int} (h : comb2P f a b o e) (h' : comb2P g a b o' e') (hfg : ∀ r, f r = g r) : e = e' ∧ o = o' := by
  rcases h with ⟨h1, rfl, rfl⟩ | ⟨h1, j, hj, hf⟩ <;> rcases h' with ⟨h2, rfl, rfl⟩ | ⟨h2, k, hk, hg⟩
  · exact ⟨rfl, rfl⟩
  · exact absurd h2 h1
  · exact absurd h1 h2
  · obtain rfl := IsSet.eq hj hk fun r _ _ => hfg r
    exact fitsP_uniq hf hg
set_option maxHeartbeats 2000000 in
theorem combine_c (w0 : World) (kd : Int) (u v : Value) (a b : List Sp) (ha : SpansAt w0 u a) (hb : SpansAt w0 v b) : Ret Try.prog 37 #[.int .i64 kd, u, v] w0 fun r w => (∃ out e, comb2P (fun r => combF kd (inS a r) (inS b r)) a b out e ∧ SetRes w r out e) ∧ Ext w0 w := by
  obtain ⟨aa, ac, rfl⟩ := SlAt.form ha
  obtain ⟨ba, bc, rfl⟩ := SlAt.form hb
  simp only [List.length_map] at ha hb ⊢
  refine Ret_of Try.func37 rfl Try.ntmps37 (Nat.le_of_ble_eq_true rfl) ?_
  have E : Chg none1 w0 w0 := Chg.refl _ _
  refine Wp_seq_region ?_
  refine s_box (v := (.int .i64 kd)) (c := #[(.int .i64 kd)]) (by decide) rfl rfl ?_
  intro bx wx Nx
  have Fx := Nx.ge E
  replace E := E.ext Nx.ext
  have Bx := Nx.blk
  refine s_box (v := (.slice aa a.length ac)) (c := #[(.slice aa a.length ac)]) (by decide) rfl rfl ?_
  intro by_ wy_ Ny_
  have Fy_ := Ny_.ge E
  have Oy__bx := Ny_.lt Bx
  replace Bx := Ny_.keep Bx
  replace E := E.ext Ny_.ext
  have By_ := Ny_.blk
  refine s_box (v := (.slice ba b.length bc)) (c := #[(.slice ba b.length bc)]) (by decide) rfl rfl ?_
  intro bz wz Nz
  have Fz := Nz.ge E
  have Oz_bx := Nz.lt Bx
  have Oz_by_ := Nz.lt By_
  replace Bx := Nz.keep Bx
  replace By_ := Nz.keep By_
  replace E := E.ext Nz.ext
  have Bz := Nz.blk
  refine WpL_val rfl rfl (by decide) (r_assign (v := (.slice none 0 0)) rfl) ?_
  refine WpL_val rfl rfl (by decide) (r_assign (v := (.int .i64 0)) rfl) ?_
  refine WpL_nil ?_
  refine Wp_seq ?_
  refine Wp_seq_region ?_
  refine WpL_val rfl rfl (by decide) (r_load (v := (.slice aa a.length ac)) rfl flat23 (By_.cell rfl)) ?_
  refine WpL_val rfl rfl (by decide) (r_load (v := (.slice ba b.length bc)) rfl flat23 (Bz.cell rfl)) ?_
  refine s_buildSlice (ps := [(0, (.slice aa a.length ac)), (1, (.slice ba b.length bc))]) (c := #[(.slice aa a.length ac), (.slice ba b.length bc)]) (by decide) rfl Try.underlying53 siz23 zer23 (by decide) (by decide) (by kernel_rfl) ?_
  intro bl wl Nl
  have Fl := Nl.ge E
  have Ol_bx := Nl.lt Bx
  have Ol_by_ := Nl.lt By_
  have Ol_bz := Nl.lt Bz
  replace Bx := Nl.keep Bx
  replace By_ := Nl.keep By_
  replace Bz := Nl.keep Bz
  replace E := E.ext Nl.ext
  have Bl := Nl.blk
  refine WpL_val rfl rfl (by decide) (r_lenSlice (ad := some ⟨bl, 0, none⟩) (n := 2) (cap := 2) Try.underlying53 rfl) ?_
  refine WpL_val rfl rfl (by decide) (r_move (v := (.int .i64 0)) rfl) ?_
  refine WpL_nil ?_
  refine Wp_block ?_
  refine Wp_loop (fun nn_ σ W1 => ∃ (k : Nat), (∃ jj_, σ = upds jj_ [(3, (.pointer (some ⟨bx, 0, none⟩))), (4, (.pointer (some ⟨by_, 0, none⟩))), (5, (.pointer (some ⟨bz, 0, none⟩))), (13, (.slice (some ⟨bl, 0, none⟩) 2 2)), (14, (.int .i64 2)), (15, (.int .i64 ((k : Nat) : Int)))]) ∧ Chg none1 w0 W1 ∧ Blk W1 bx #[(.int .i64 kd)] 3 ∧ Blk W1 by_ #[(.slice aa a.length ac)] 23 ∧ Blk W1 bz #[(.slice ba b.length bc)] 23 ∧ Blk W1 bl #[(.slice aa a.length ac), (.slice ba b.length bc)] 23 ∧ (k ≤ 2) ∧ (0 < k → checkE a = 0) ∧ (1 < k → checkE b = 0) ∧ nn_ = 2 - k) (n := 2 - 0) ?_ ?_
  · exact ⟨0, Fits.out ⟨rfl, rfl, rfl, rfl, rfl, rfl, trivial⟩, E, Bx, By_, Bz, Bl, (by omega), (fun h => absurd h (by omega)), (fun h => absurd h (by omega)), rfl⟩
  · clear E Bx By_ Bz Bl
    rintro _ _ W1 ⟨k, ⟨j1, rfl⟩, E, Bx, By_, Bz, Bl, hk, h1, h2, rfl⟩
    refine Wp_seq_region ?_
    refine WpL_val rfl rfl (by decide) (r_lss (k := .i64) (a := ((k : Nat) : Int)) (b := 2) rfl rfl) ?_
    refine WpL_nil ?_
    refine Wp_seq ?_
    refine Wp_cond (b := decide ((((k : Nat) : Int) : Int) < 2)) rfl (fun hlt => ?_) (fun hlt => ?_)
    · have khlt := hlt
      replace hlt := of_decide_eq_true hlt
      rcases Bool.eq_false_or_eq_true (decide (k = 0)) with hz | hz
      · have khz := hz
        replace khz := of_decide_eq_true khz
        refine Wp_skip ?_
        refine thn_normal ?_
        refine Wp_seq ?_
        refine Wp_block ?_
        refine Wp_seq_region ?_
        refine WpL_val rfl rfl (by decide) (r_indexSlice (b := bl) (o := 0) (len := 2) (cap := 2) (i := k) (o' := 0 + k) rfl rfl rfl Try.underlying53 siz23 (by omega) (by omega)) ?_
        refine WpL_val rfl rfl (by decide) (r_load (v := (.slice aa a.length ac)) rfl flat23 (Bl.cell (by rw [khz]; rfl))) ?_
        refine WpL_val rfl rfl (by decide) (r_assign (v := (.slice aa a.length ac)) rfl) ?_
        refine WpL_nil ?_
        refine Wp_seq_region ?_
        refine WpL_val rfl rfl (by decide) (r_move (v := (.slice aa a.length ac)) rfl) ?_
        refine WpL_enter rfl rfl (by decide) (r_callF (vs := [(.slice aa a.length ac)]) Try.func34 nm34 bd34 rfl) (cset_c _ _ a (ha.ext E)) ?_
        rintro _ w9 ⟨rfl, X9⟩
        replace Bx := X9.keep Bx
        replace By_ := X9.keep By_
        replace Bz := X9.keep Bz
        replace Bl := X9.keep Bl
        replace E := E.ext X9
        refine WpL_val rfl rfl (by decide) (r_assign (v := (.int .i64 (checkE a))) rfl) ?_
        refine WpL_nil ?_
        refine Wp_seq_region ?_
        refine WpL_val rfl rfl (by decide) (r_move (v := (.int .i64 (checkE a))) rfl) ?_
        refine WpL_val rfl rfl (by decide) (r_neq (k := .i64) (a := checkE a) (b := 0) rfl rfl) ?_
        refine WpL_nil ?_
        refine Wp_cond (b := decide ((checkE a : Int) ≠ 0)) rfl (fun h0 => ?_) (fun h0 => ?_)
        · have kh0 := h0
          replace h0 := of_decide_eq_true h0
          refine Wp_seq_region ?_
          refine WpL_val rfl rfl (by decide) (r_move (v := (.int .i64 (checkE a))) rfl) ?_
          refine WpL_val rfl rfl (by decide) (r_assign (v := (.slice none 0 0)) rfl) ?_
          refine WpL_val rfl rfl (by decide) (r_assign (v := (.int .i64 (checkE a))) rfl) ?_
          refine WpL_nil ?_
          refine Wp_ret ?_
          refine inB_ret ?_
          refine thn_ret ?_
          refine thn_ret ?_
          refine inB_ret ?_
          refine thn_ret ?_
          refine fin_tmp2 Try.results37 (v := (.slice none 0 0)) (v' := (.int .i64 (checkE a))) rfl rfl ?_
          exact ⟨⟨[], _, .inl ⟨by unfold twoE; rw [if_pos h0]; exact h0, by unfold twoE; rw [if_pos h0], rfl⟩, none, 0, rfl, SlAt.nil _ _ _ _⟩, E⟩
        · have kh0 := h0
          replace h0 := of_decide_eq_false h0
          refine Wp_skip ?_
          refine inB_normal ?_
          refine thn_normal ?_
          refine Wp_region ?_
          refine WpL_val rfl rfl (by decide) (r_add (k := .i64) (a := ((k : Nat) : Int)) (b := 1) (c := ((k : Nat) : Int) + 1) rfl rfl (wI64 (by omega))) ?_
          refine WpL_val rfl rfl (by decide) (r_move (v := (.int .i64 (((k : Nat) : Int) + 1))) rfl) ?_
          refine WpL_nil ?_
          refine thn_normal ?_
          exact ⟨2 - (k + 1), by omega, k + 1, Fits.out ⟨rfl, rfl, rfl, rfl, rfl, rfl, trivial⟩, E, Bx, By_, Bz, Bl, (by omega), (fun _ => by omega), (fun h => absurd h (by omega)), rfl⟩
      · have khz := hz
        replace khz := of_decide_eq_false khz
        refine Wp_skip ?_
        refine thn_normal ?_
        refine Wp_seq ?_
        refine Wp_block ?_
        refine Wp_seq_region ?_
        refine WpL_val rfl rfl (by decide) (r_indexSlice (b := bl) (o := 0) (len := 2) (cap := 2) (i := k) (o' := 0 + k) rfl rfl rfl Try.underlying53 siz23 (by omega) (by omega)) ?_
        refine WpL_val rfl rfl (by decide) (r_load (v := (.slice ba b.length bc)) rfl flat23 (Bl.cell (by rw [show k = 1 by omega]; rfl))) ?_
        refine WpL_val rfl rfl (by decide) (r_assign (v := (.slice ba b.length bc)) rfl) ?_
        refine WpL_nil ?_
        refine Wp_seq_region ?_
        refine WpL_val rfl rfl (by decide) (r_move (v := (.slice ba b.length bc)) rfl) ?_
        refine WpL_enter rfl rfl (by decide) (r_callF (vs := [(.slice ba b.length bc)]) Try.func34 nm34 bd34 rfl) (cset_c _ _ b (hb.ext E)) ?_
        rintro _ w9 ⟨rfl, X9⟩
        replace Bx := X9.keep Bx
        replace By_ := X9.keep By_
        replace Bz := X9.keep Bz
        replace Bl := X9.keep Bl
        replace E := E.ext X9
        refine WpL_val rfl rfl (by decide) (r_assign (v := (.int .i64 (checkE b))) rfl) ?_
        refine WpL_nil ?_
        refine Wp_seq_region ?_
        refine WpL_val rfl rfl (by decide) (r_move (v := (.int .i64 (checkE b))) rfl) ?_
        refine WpL_val rfl rfl (by decide) (r_neq (k := .i64) (a := checkE b) (b := 0) rfl rfl) ?_
        refine WpL_nil ?_
        refine Wp_cond (b := decide ((checkE b : Int) ≠ 0)) rfl (fun h0 => ?_) (fun h0 => ?_)
        · have kh0 := h0
          replace h0 := of_decide_eq_true h0
          have h1' := h1 (by omega)
          refine Wp_seq_region ?_
          refine WpL_val rfl rfl (by decide) (r_move (v := (.int .i64 (checkE b))) rfl) ?_
          refine WpL_val rfl rfl (by decide) (r_assign (v := (.slice none 0 0)) rfl) ?_
          refine WpL_val rfl rfl (by decide) (r_assign (v := (.int .i64 (checkE b))) rfl) ?_
          refine WpL_nil ?_
          refine Wp_ret ?_
          refine inB_ret ?_
          refine thn_ret ?_
          refine thn_ret ?_
          refine inB_ret ?_
          refine thn_ret ?_
          refine fin_tmp2 Try.results37 (v := (.slice none 0 0)) (v' := (.int .i64 (checkE b))) rfl rfl ?_
          exact ⟨⟨[], _, .inl ⟨by unfold twoE; rw [if_neg (by omega)]; exact h0, by unfold twoE; rw [if_neg (by omega)], rfl⟩, none, 0, rfl, SlAt.nil _ _ _ _⟩, E⟩
        · have kh0 := h0
          replace h0 := of_decide_eq_false h0
          refine Wp_skip ?_
          refine inB_normal ?_
          refine thn_normal ?_
          refine Wp_region ?_
          refine WpL_val rfl rfl (by decide) (r_add (k := .i64) (a := ((k : Nat) : Int)) (b := 1) (c := ((k : Nat) : Int) + 1) rfl rfl (wI64 (by omega))) ?_
          refine WpL_val rfl rfl (by decide) (r_move (v := (.int .i64 (((k : Nat) : Int) + 1))) rfl) ?_
          refine WpL_nil ?_
          refine thn_normal ?_
          exact ⟨2 - (k + 1), by omega, k + 1, Fits.out ⟨rfl, rfl, rfl, rfl, rfl, rfl, trivial⟩, E, Bx, By_, Bz, Bl, (by omega), (fun _ => h1 (by omega)), (fun _ => by omega), rfl⟩
    · have khlt := hlt
      replace hlt := of_decide_eq_false hlt
      have h1' := h1 (by omega)
      have h2' := h2 (by omega)
      obtain ⟨ca, la⟩ := checkE_canon h1'
      obtain ⟨cb, lb⟩ := checkE_canon h2'
      have hv : ∀ s ∈ [a, b].flatten, vSp s := fun s hs => by simp at hs; rcases hs with hs | hs; exact ca.ok s hs; exact cb.ok s hs
      refine Wp_exit ?_
      refine thn_exit ?_
      refine thn_exit ?_
      refine inB_here ?_
      refine thn_normal ?_
      refine Wp_seq_region ?_
      refine WpL_val rfl rfl (by decide) (r_makeFunc (vs := []) (us := [(.pointer (some ⟨by_, 0, none⟩)), (.pointer (some ⟨bz, 0, none⟩)), (.pointer (some ⟨bx, 0, none⟩))]) rfl rfl) ?_
      refine WpL_val rfl rfl (by decide) (r_load (v := (.slice aa a.length ac)) rfl flat23 (By_.cell rfl)) ?_
      refine WpL_val rfl rfl (by decide) (r_load (v := (.slice ba b.length bc)) rfl flat23 (Bz.cell rfl)) ?_
      refine s_buildSlice (ps := [(0, (.slice aa a.length ac)), (1, (.slice ba b.length bc))]) (c := #[(.slice aa a.length ac), (.slice ba b.length bc)]) (by decide) rfl Try.underlying53 siz23 zer23 (by decide) (by decide) (by kernel_rfl) ?_
      intro bt wt Nt
      have Ft := Nt.ge E
      have Ot_bx := Nt.lt Bx
      have Ot_by_ := Nt.lt By_
      have Ot_bz := Nt.lt Bz
      have Ot_bl := Nt.lt Bl
      replace Bx := Nt.keep Bx
      replace By_ := Nt.keep By_
      replace Bz := Nt.keep Bz
      replace Bl := Nt.keep Bl
      replace E := E.ext Nt.ext
      have Bt := Nt.blk
      refine WpL_enter rfl rfl (by decide) (r_callF (vs := [(.func (.func 80) #[] #[(.pointer (some ⟨by_, 0, none⟩)), (.pointer (some ⟨bz, 0, none⟩)), (.pointer (some ⟨bx, 0, none⟩))]), (.slice (some ⟨bt, 0, none⟩) 2 2)]) Try.func78 nm78 bd78 rfl) (chosen_c _ _ _ (fun r => combF kd (inS a r) (inS b r)) [a, b] (spss_two Bt (ha.ext E) (hb.ext E)) (by simp; omega) hv (fun p hp => const_comb (pcs_const hp (by simp)) (pcs_const hp (by simp)) (combF kd)) (fun w x hE => CallV.mk (first := #[]) (cap := #[.pointer (some ⟨by_, 0, none⟩), .pointer (some ⟨bz, 0, none⟩), .pointer (some ⟨bx, 0, none⟩)]) Try.func80 nm80 bd80 rfl (comb1_c w by_ bz bx _ _ a b kd x (hE.keep By_) (hE.keep Bz) (hE.keep Bx) ((ha.ext E).ext hE) ((hb.ext E).ext hE)))) ?_
      rintro _ w8 ⟨⟨j, hj, ⟨⟨ja, jc, rfl⟩, O8⟩⟩, X8⟩
      replace Bx := X8.keep Bx
      replace By_ := X8.keep By_
      replace Bz := X8.keep Bz
      replace Bl := X8.keep Bl
      replace Bt := X8.keep Bt
      replace E := E.ext X8
      have hJ : OwnS w8 _ (.slice ja j.length jc) j := ⟨⟨_, _, rfl⟩, O8⟩
      refine WpL_enter rfl rfl (by decide) (r_callF (vs := [(.slice ja j.length jc)]) Try.func77 nm77 bd77 rfl) (limited_c _ _ j hJ.set) ?_
      rintro _ w6 ⟨⟨out, e, hf, fa, fc, rfl, hsp⟩, X6⟩
      replace Bx := X6.keep Bx
      replace By_ := X6.keep By_
      replace Bz := X6.keep Bz
      replace Bl := X6.keep Bl
      replace Bt := X6.keep Bt
      replace E := E.ext X6
      refine WpL_val rfl rfl (by decide) (r_extract (vs := #[(.slice fa out.length fc), (.int .i64 e)]) (v := (.slice fa out.length fc)) rfl rfl) ?_
      refine WpL_val rfl rfl (by decide) (r_extract (vs := #[(.slice fa out.length fc), (.int .i64 e)]) (v := (.int .i64 e)) rfl rfl) ?_
      refine WpL_val rfl rfl (by decide) (r_assign (v := (.slice fa out.length fc)) rfl) ?_
      refine WpL_val rfl rfl (by decide) (r_assign (v := (.int .i64 e)) rfl) ?_
      refine WpL_nil ?_
      refine Wp_ret ?_
      refine fin_tmp2 Try.results37 (v := (.slice fa out.length fc)) (v' := (.int .i64 e)) rfl rfl ?_
      exact ⟨⟨out, e, .inr ⟨by unfold twoE; rw [h1', h2']; rfl, j, hj, hf⟩, fa, fc, rfl, hsp⟩, E⟩
theorem compl1_c (w0 : World) (b : Nat) (x : Value) (a : List Sp) (r : Int) (hB : Blk w0 b #[x] 23) (h : SpansAt w0 x a) : Ret Try.prog 81 #[.int .i64 r, .pointer (some ⟨b, 0, none⟩)] w0 fun v w => v = .bool (!inS a r) ∧ Ext w0 w := by
  refine Ret_of Try.func81 rfl Try.ntmps81 (Nat.le_of_ble_eq_true rfl) ?_
  have E : Chg none1 w0 w0 := Chg.refl _ _
  refine Wp_seq_region ?_
  refine WpL_val rfl rfl (by decide) (r_assign (v := (.bool false)) rfl) ?_
  refine WpL_nil ?_
  refine Wp_seq_region ?_
  refine WpL_val rfl rfl (by decide) (r_load (v := x) rfl flat23 (hB.cell rfl)) ?_
  refine WpL_val rfl rfl (by decide) (r_move (v := (.int .i64 r)) rfl) ?_
  refine WpL_enter rfl rfl (by decide) (r_callF (vs := [x, (.int .i64 r)]) Try.func39 nm39 bd39 rfl) (inset_c _ x a r h) ?_
  rintro _ w9 ⟨rfl, X9⟩
  replace hB := X9.keep hB
  replace E := E.ext X9
  refine WpL_val rfl rfl (by decide) (r_not (b := inS a r) rfl) ?_
  refine WpL_val rfl rfl (by decide) (r_assign (v := (.bool (!(inS a r)))) rfl) ?_
  refine WpL_nil ?_
  refine Wp_ret ?_
  refine fin_tmp Try.results81 (v := (.bool (!(inS a r)))) rfl ?_
  exact ⟨rfl, E⟩
theorem compl_c (w0 : World) (u : Value) (a : List Sp) (ha : SpansAt w0 u a) : Ret Try.prog 38 #[u] w0 fun r w => (∃ out e, notP a out e ∧ SetRes w r out e) ∧ Ext w0 w := by
  obtain ⟨aa, ac, rfl⟩ := SlAt.form ha
  simp only [List.length_map] at ha ⊢
  refine Ret_of Try.func38 rfl Try.ntmps38 (Nat.le_of_ble_eq_true rfl) ?_
  have E : Chg none1 w0 w0 := Chg.refl _ _
  refine Wp_seq_region ?_
  refine s_box (v := (.slice aa a.length ac)) (c := #[(.slice aa a.length ac)]) (by decide) rfl rfl ?_
  intro bq wq Nq
  have Fq := Nq.ge E
  replace E := E.ext Nq.ext
  have Bq := Nq.blk
  refine WpL_val rfl rfl (by decide) (r_assign (v := (.slice none 0 0)) rfl) ?_
  refine WpL_val rfl rfl (by decide) (r_assign (v := (.int .i64 0)) rfl) ?_
  refine WpL_nil ?_
  refine Wp_seq ?_
  refine Wp_seq_region ?_
  refine WpL_val rfl rfl (by decide) (r_load (v := (.slice aa a.length ac)) rfl flat23 (Bq.cell rfl)) ?_
  refine WpL_enter rfl rfl (by decide) (r_callF (vs := [(.slice aa a.length ac)]) Try.func34 nm34 bd34 rfl) (cset_c _ _ a (ha.ext E)) ?_
  rintro _ w9 ⟨rfl, X9⟩
  replace Bq := X9.keep Bq
  replace E := E.ext X9
  refine WpL_val rfl rfl (by decide) (r_assign (v := (.int .i64 (checkE a))) rfl) ?_
  refine WpL_nil ?_
  refine Wp_seq_region ?_
  refine WpL_val rfl rfl (by decide) (r_move (v := (.int .i64 (checkE a))) rfl) ?_
  refine WpL_val rfl rfl (by decide) (r_neq (k := .i64) (a := checkE a) (b := 0) rfl rfl) ?_
  refine WpL_nil ?_
  refine Wp_cond (b := decide ((checkE a : Int) ≠ 0)) rfl (fun h0 => ?_) (fun h0 => ?_)
  · have kh0 := h0
    replace h0 := of_decide_eq_true h0
    refine Wp_seq_region ?_
    refine WpL_val rfl rfl (by decide) (r_move (v := (.int .i64 (checkE a))) rfl) ?_
    refine WpL_val rfl rfl (by decide) (r_assign (v := (.slice none 0 0)) rfl) ?_
    refine WpL_val rfl rfl (by decide) (r_assign (v := (.int .i64 (checkE a))) rfl) ?_
    refine WpL_nil ?_
    refine Wp_ret ?_
    refine thn_ret ?_
    refine fin_tmp2 Try.results38 (v := (.slice none 0 0)) (v' := (.int .i64 (checkE a))) rfl rfl ?_
    exact ⟨⟨[], _, .inl ⟨h0, rfl, rfl⟩, none, 0, rfl, SlAt.nil _ _ _ _⟩, E⟩
  · have kh0 := h0
    replace h0 := of_decide_eq_false h0
    have h1 : checkE a = 0 := by omega
    obtain ⟨ca, la⟩ := checkE_canon h1
    refine Wp_skip ?_
    refine thn_normal ?_
    refine Wp_seq_region ?_
    refine WpL_val rfl rfl (by decide) (r_makeFunc (vs := []) (us := [(.pointer (some ⟨bq, 0, none⟩))]) rfl rfl) ?_
    refine WpL_val rfl rfl (by decide) (r_load (v := (.slice aa a.length ac)) rfl flat23 (Bq.cell rfl)) ?_
    refine s_buildSlice (ps := [(0, (.slice aa a.length ac))]) (c := #[(.slice aa a.length ac)]) (by decide) rfl Try.underlying53 siz23 zer23 (by decide) (by decide) (by kernel_rfl) ?_
    intro bt wt Nt
    have Ft := Nt.ge E
    have Ot_bq := Nt.lt Bq
    replace Bq := Nt.keep Bq
    replace E := E.ext Nt.ext
    have Bt := Nt.blk
    refine WpL_enter rfl rfl (by decide) (r_callF (vs := [(.func (.func 81) #[] #[(.pointer (some ⟨bq, 0, none⟩))]), (.slice (some ⟨bt, 0, none⟩) 1 1)]) Try.func78 nm78 bd78 rfl) (chosen_c _ _ _ (fun r => !inS a r) [a] (spss_one Bt (ha.ext E)) (by simp; omega) (by simpa using ca.ok) (fun p hp => const_comb (pcs_const hp (l := a) (by simp)) (pcs_const hp (l := a) (by simp)) (fun x _ => !x)) (fun w x hE => CallV.mk (first := #[]) (cap := #[.pointer (some ⟨bq, 0, none⟩)]) Try.func81 nm81 bd81 rfl (compl1_c w bq _ a x (hE.keep Bq) ((ha.ext E).ext hE)))) ?_
    rintro _ w8 ⟨⟨j, hj, ⟨⟨ja, jc, rfl⟩, O8⟩⟩, X8⟩
    replace Bq := X8.keep Bq
    replace Bt := X8.keep Bt
    replace E := E.ext X8
    have hJ : OwnS w8 _ (.slice ja j.length jc) j := ⟨⟨_, _, rfl⟩, O8⟩
    have he : j = notS a := IsSet.eq hj (IsSet.rest (IsSet.self ca)) fun _ _ _ => rfl
    refine WpL_enter rfl rfl (by decide) (r_callF (vs := [(.slice ja j.length jc)]) Try.func77 nm77 bd77 rfl) (limited_c _ _ j hJ.set) ?_
    rintro _ w6 ⟨⟨out, e, hf, fa, fc, rfl, hsp⟩, X6⟩
    replace Bq := X6.keep Bq
    replace Bt := X6.keep Bt
    replace E := E.ext X6
    refine WpL_val rfl rfl (by decide) (r_extract (vs := #[(.slice fa out.length fc), (.int .i64 e)]) (v := (.slice fa out.length fc)) rfl rfl) ?_
    refine WpL_val rfl rfl (by decide) (r_extract (vs := #[(.slice fa out.length fc), (.int .i64 e)]) (v := (.int .i64 e)) rfl rfl) ?_
    refine WpL_val rfl rfl (by decide) (r_assign (v := (.slice fa out.length fc)) rfl) ?_
    refine WpL_val rfl rfl (by decide) (r_assign (v := (.int .i64 e)) rfl) ?_
    refine WpL_nil ?_
    refine Wp_ret ?_
    refine fin_tmp2 Try.results38 (v := (.slice fa out.length fc)) (v' := (.int .i64 e)) rfl rfl ?_
    exact ⟨⟨out, e, .inr ⟨h1, by rw [← he]; exact hf⟩, fa, fc, rfl, hsp⟩, E⟩
theorem notP.uniq {a o o' : List Sp} {e e' : Int} (h : notP a o e) (h' : notP a o' e') : e = e' ∧ o = o' := by
  rcases h with ⟨h1, rfl, rfl⟩ | ⟨h1, hf⟩ <;> rcases h' with ⟨h2, rfl, rfl⟩ | ⟨h2, hg⟩
  · exact ⟨rfl, rfl⟩
  · exact absurd h2 h1
  · exact absurd h1 h2
  · exact fitsP_uniq hf hg
end Go.Proofs
