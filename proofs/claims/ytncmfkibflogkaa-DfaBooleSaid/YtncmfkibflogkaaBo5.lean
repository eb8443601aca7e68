/- Contracts and plain lemmas, part 5. -/
import Derived.Tactics
import Derived.Deep.Quiet
import Derived.Laws.AppendOwn
import Derived.KernelRfl
import Derived.Laws.Entries
import Derived.Laws.Build
import Derived.Below
import Derived.RowKit3
import Derived.StillTail
import Derived.Sort.Grow
import Derived.Deep.Draws
import Derived.Test.YtncmfkibflogkaaChecked
import Derived.Laws.StructEq
import Derived.MapKept
import Derived.Laws.BytesArg
import Derived.Laws.CopyRow
import Derived.DeepKeys3
import Derived.Test.YtncmfkibflogkaaBo4
namespace Go.Proofs
open Go Go.Eng Go.Sort
set_option maxRecDepth 100000
--BEGIN
def onP (both : Bool) (x y : Int) : Bool := bif both then decide (0 ≤ x) && decide (0 ≤ y) else decide (0 ≤ x) || decide (0 ≤ y)
def stpP (both : Bool) (a b : Dfa) (k : Int × Int) (x : Nat) : Option (Int × Int) := bif onP both (toD a k.1 x) (toD b k.2 x) then some (toD a k.1 x, toD b k.2 x) else none
def jnP (both : Bool) (x y : Int) : Int := if (both && decide (y < 0)) = true then -1 else if (both || decide (0 ≤ x)) = true then x else y
def accP (both : Bool) (a b : Dfa) (k : Int × Int) : Int := jnP both (atD a k.1) (atD b k.2)
theorem jnP_dead {both : Bool} {x y : Int} (h : onP both x y = false) (a b : Dfa) (w : List Nat) : jnP both (beh a x w) (beh b y w) = -1 := by
  unfold onP at h
  cases both with
  | true =>
    simp only [cond_true, Bool.and_eq_false_iff, decide_eq_false_iff_not] at h
    unfold jnP
    by_cases hy : beh b y w < 0
    · simp [hy]
    · simp only [Bool.true_and, decide_eq_true_eq, hy, if_false, Bool.true_or, if_true]
      rcases h with h | h
      · exact beh_neg (by omega)
      · rw [beh_neg (show y < 0 by omega)] at hy; exact absurd (by decide) hy
  | false =>
    simp only [cond_false, Bool.or_eq_false_iff, decide_eq_false_iff_not] at h
    rw [beh_neg (show x < 0 by omega), beh_neg (show y < 0 by omega)]
    rfl
theorem behX_pairs (both : Bool) (a b : Dfa) : ∀ (w : List Nat) (k : Int × Int), behX (stpP both a b) (accP both a b) k w = jnP both (beh a k.1 w) (beh b k.2 w)
  | [], k => rfl
  | x :: w, k => by
    simp only [behX, runO, beh]
    cases hs : onP both (toD a k.1 x) (toD b k.2 x) with
    | true =>
      simp only [stpP, hs, cond_true, Option.bind_some]
      exact behX_pairs both a b w (toD a k.1 x, toD b k.2 x)
    | false =>
      simp only [stpP, hs, cond_false, Option.bind_none]
      exact (jnP_dead hs a b w).symm
theorem run_pairs {both : Bool} {a b : Dfa} {n m c : Nat} (ha : OkD n c a) (hb : OkD m c b) : ∀ (w : List Nat) (k q : Int × Int), (-1 ≤ k.1 ∧ k.1 < n) ∧ (-1 ≤ k.2 ∧ k.2 < m) → runO (stpP both a b) k w = some q → (-1 ≤ q.1 ∧ q.1 < n) ∧ (-1 ≤ q.2 ∧ q.2 < m)
  | [], k, q, h, hr => by simp only [runO, Option.some.injEq] at hr; subst hr; exact h
  | x :: w, k, q, h, hr => by
    simp only [runO] at hr
    cases hs : stpP both a b k x with
    | none => rw [hs] at hr; cases hr
    | some p =>
      rw [hs] at hr
      simp only [Option.bind_some] at hr
      refine run_pairs ha hb w p q ?_ hr
      unfold stpP at hs
      cases ho : onP both (toD a k.1 x) (toD b k.2 x) with
      | true => rw [ho] at hs; simp only [cond_true, Option.some.injEq] at hs; subst hs; exact ⟨ha.to, hb.to⟩
      | false => rw [ho] at hs; cases hs
theorem rch_pairs {both : Bool} {a b : Dfa} {n m c : Nat} (ha : OkD n c a) (hb : OkD m c b) {k : Int × Int} (h : Rch c (stpP both a b) (a.start, b.start) k) : (-1 ≤ k.1 ∧ k.1 < n) ∧ (-1 ≤ k.2 ∧ k.2 < m) := by
  obtain ⟨w, _, h2⟩ := h
  have h3 := ha.st
  have h4 := hb.st
  exact run_pairs ha hb w _ _ ⟨⟨by show -1 ≤ a.start; omega, h3.2⟩, ⟨by show -1 ≤ b.start; omega, h4.2⟩⟩ h2
theorem few_pairs {both : Bool} {a b : Dfa} {n m c t : Nat} (ha : OkD n c a) (hb : OkD m c b) (ht : (n + 1) * (m + 1) ≤ t) : FewK c (stpP both a b) (a.start, b.start) t := by
  intro l hd hr
  have hd2 : (l.map fun k => ((k.1 + 1) * ((m + 1 : Nat) : Int) + (k.2 + 1)).toNat).Nodup := by
    rw [List.nodup_iff_pairwise_ne, List.pairwise_map]
    refine List.Pairwise.imp_of_mem (fun {p q} hp hq hne => ?_) (List.nodup_iff_pairwise_ne.1 hd)
    obtain ⟨h1, h2⟩ := rch_pairs ha hb (hr p hp)
    obtain ⟨h3, h4⟩ := rch_pairs ha hb (hr q hq)
    intro he
    apply hne
    obtain ⟨p1, p2⟩ := p
    obtain ⟨q1, q2⟩ := q
    simp only at h1 h2 h3 h4 he
    have e1 : 0 ≤ (p1 + 1) * ((m + 1 : Nat) : Int) := Int.mul_nonneg (by omega) (by omega)
    have e2 : 0 ≤ (q1 + 1) * ((m + 1 : Nat) : Int) := Int.mul_nonneg (by omega) (by omega)
    have he' : (p1 + 1) * ((m + 1 : Nat) : Int) + (p2 + 1) = (q1 + 1) * ((m + 1 : Nat) : Int) + (q2 + 1) := by omega
    have e3 : p1 = q1 := by
      rcases Int.lt_trichotomy p1 q1 with h | h | h
      · exfalso
        have : (p1 + 1 + 1) * ((m + 1 : Nat) : Int) ≤ (q1 + 1) * ((m + 1 : Nat) : Int) := Int.mul_le_mul_of_nonneg_right (by omega) (by omega)
        rw [Int.add_mul (p1 + 1)] at this
        omega
      · exact h
      · exfalso
        have : (q1 + 1 + 1) * ((m + 1 : Nat) : Int) ≤ (p1 + 1) * ((m + 1 : Nat) : Int) := Int.mul_le_mul_of_nonneg_right (by omega) (by omega)
        rw [Int.add_mul (q1 + 1)] at this
        omega
    subst e3
    have e4 : p2 = q2 := by omega
    rw [e4]
  have := nodup_leN (m := List.range ((n + 1) * (m + 1))) hd2 fun x hx => by
    obtain ⟨k, hk, rfl⟩ := List.mem_map.1 hx
    obtain ⟨h1, h2⟩ := rch_pairs ha hb (hr k hk)
    have e1 : (k.1 + 1) * ((m + 1 : Nat) : Int) ≤ n * ((m + 1 : Nat) : Int) := Int.mul_le_mul_of_nonneg_right (by omega) (by omega)
    have e2 : 0 ≤ (k.1 + 1) * ((m + 1 : Nat) : Int) := Int.mul_nonneg (by omega) (by omega)
    rw [List.mem_range]
    have e3 : (((n + 1) * (m + 1) : Nat) : Int) = n * ((m + 1 : Nat) : Int) + ((m + 1 : Nat) : Int) := by rw [Int.natCast_mul, Int.natCast_add n 1, Int.add_mul]; simp
    omega
  simp at this
  omega
theorem accP_rng {both : Bool} {a b : Dfa} {n m c : Nat} (ha : OkD n c a) (hb : OkD m c b) (h1 : ∀ x ∈ a.accept, x < 2147483648) (h2 : ∀ x ∈ b.accept, x < 2147483648) (k : Int × Int) : -1 ≤ accP both a b k ∧ accP both a b k < 2147483648 := by
  have at_lt : ∀ {d : Dfa} (s : Int), (∀ x ∈ d.accept, x < 2147483648) → atD d s < 2147483648 := fun {d} s h => by
    unfold atD
    split
    · decide
    · rw [List.getD_eq_getElem?_getD]
      cases hx : d.accept[s.toNat]? with
      | none => decide
      | some x => exact h x (List.mem_of_getElem? hx)
  have a1 := ha.at' (s := k.1)
  have b1 := hb.at' (s := k.2)
  have a2 := at_lt k.1 h1
  have b2 := at_lt k.2 h2
  unfold accP jnP
  split
  · omega
  · split <;> omega
--END
theorem pairs1_c (w0 : World) (n m c : Nat) (a b : Dfa) (av bv : List Value) (both : Bool) (ba bb bf : Nat) (k : Int × Int) (x : Nat) (oka : OkD n c a) (okb : OkD m c b) (ha : DfaAt w0 a av) (hb : DfaAt w0 b bv) (hBa : Blk w0 ba av.toArray 25) (hBb : Blk w0 bb bv.toArray 25) (hBf : Blk w0 bf #[.bool both] 4) (hk : k.1 < n ∧ k.2 < m) (hx : x < c) :
    Ret Try.prog 117 #[.agg #[.int .i64 k.1, .int .i64 k.2], .int .i64 ((x : Nat) : Int), .pointer (some ⟨ba, 0, none⟩), .pointer (some ⟨bb, 0, none⟩), .pointer (some ⟨bf, 0, none⟩)] w0 fun r w => r = .tuple #[.agg #[.int .i64 (toD a k.1 x), .int .i64 (toD b k.2 x)], .bool (onP both (toD a k.1 x) (toD b k.2 x))] ∧ Ext w0 w := by
  have ha' := ha
  have hb' := hb
  obtain ⟨aa, ac, na, nc, rfl, _, _⟩ := ha'
  obtain ⟨aa2, ac2, na2, nc2, rfl, _, _⟩ := hb'
  refine Ret_of Try.func117 rfl Try.ntmps117 (Nat.le_of_ble_eq_true rfl) ?_
  have E : Chg none1 w0 w0 := Chg.refl _ _
  refine Wp_seq_region ?_
  refine s_box (v := (.agg #[(.int .i64 k.1), (.int .i64 k.2)])) (c := #[(.int .i64 k.1), (.int .i64 k.2)]) (by decide) rfl rfl ?_
  intro bq wq Nq
  have Fq := Nq.ge E
  have Oq_ba := Nq.lt hBa
  have Oq_bb := Nq.lt hBb
  have Oq_bf := Nq.lt hBf
  replace hBa := Nq.keep hBa
  replace hBb := Nq.keep hBb
  replace hBf := Nq.keep hBf
  replace E := E.ext Nq.ext
  have Bq := Nq.blk
  refine s_alloc (c := #[(.int .i64 0), (.int .i64 0)]) (by decide) zer75 rfl ?_
  intro br wr Nr
  have Fr := Nr.ge E
  have Or_ba := Nr.lt hBa
  have Or_bb := Nr.lt hBb
  have Or_bf := Nr.lt hBf
  have Or_bq := Nr.lt Bq
  replace hBa := Nr.keep hBa
  replace hBb := Nr.keep hBb
  replace hBf := Nr.keep hBf
  replace Bq := Nr.keep Bq
  replace E := E.ext Nr.ext
  have Br := Nr.blk
  refine WpL_val rfl rfl (by decide) (r_assign (v := (.bool false)) rfl) ?_
  refine WpL_nil ?_
  have hz_1 : w0.heap.size ≤ wr.heap.size := E.size
  have lz_1_ba : ba < wr.heap.size := hBa.lt
  have lz_1_bb : bb < wr.heap.size := hBb.lt
  have lz_1_bf : bf < wr.heap.size := hBf.lt
  have lz_1_bq : bq < wr.heap.size := Bq.lt
  have lz_1_br : br < wr.heap.size := Br.lt
  refine Wp_seq ?_
  obtain ⟨Fs1, hFs1⟩ : ∃ Fs : List FctS, Fs = [(fun _ _ v _ => v = (.agg #[(.int .i64 a.start), (.slice aa a.accept.length ac), (.slice na a.next.length nc)])), (fun _ _ v _ => v = (.pointer (some ⟨bq, 0, none⟩))), (fun _ _ v _ => v = (.int .i64 k.1)), (fun _ _ v _ => v = (.int .i64 ((x : Nat) : Int))), (fun _ _ v _ => v = (.int .i64 (toD a k.1 x))), (fun _ _ v _ => v = (.agg #[(.int .i64 b.start), (.slice aa2 b.accept.length ac2), (.slice na2 b.next.length nc2)])), (fun _ _ v _ => v = (.pointer (some ⟨bq, 1, none⟩))), (fun _ _ v _ => v = (.int .i64 k.2)), (fun _ _ v _ => v = (.int .i64 ((x : Nat) : Int))), (fun _ _ v _ => v = (.int .i64 (toD b k.2 x))), (fun _ _ v _ => v = (.agg #[(.int .i64 (toD a k.1 x)), (.int .i64 (toD b k.2 x))])), (fun _ _ => alF 75 #[(.int .i64 0), (.int .i64 0)] wr.heap.size), (fun _ _ v _ => v = undef)] := ⟨_, rfl⟩
  refine Wp_dagS (MsL []) [true, true, true, true, true, true, true, true, true, true, true, true, false] [12] [10, 11, 12, 13, 14, 15, 16, 17, 18, 19, 20, 9, 52] [[], [], [1], [], [0, 2, 3], [], [], [6], [], [4, 5, 7, 8], [4, 9], [], []] [[], [], [1], [], [0, 2, 1, 3], [], [], [6], [], [4, 0, 2, 1, 3, 5, 7, 6, 8], [4, 0, 2, 1, 3, 9, 5, 7, 6, 8], [], []] Fs1 hFs1 (by kernel_rfl) mixed (by kernel_rfl) (by kernel_rfl) (by kernel_rfl) (by kernel_rfl) ?_ ?_
  · intro wd X0
    refine DagStepsS.cons (StabS.eq) (LocS.const) (fun S s' w' hi hN X U H => Or.inl ⟨Guarded_none rfl, ?_⟩) ?_
    · replace X := X.mono (M' := none1) (fun y _ h => by
          obtain ⟨j, hj, h⟩ := h
          exact h.elim)
      exact DoesT_pure (r_loadAgg (vs := [(.int .i64 a.start), (.slice aa a.accept.length ac), (.slice na a.next.length nc)]) (U 2 rfl) agg25 siz25 rfl (((X0.trans X).keep hBa).cells rfl)) rfl
    refine DagStepsS.cons (StabS.eq) (LocS.const) (fun S s' w' hi hN X U H => Or.inl ⟨Guarded_none rfl, ?_⟩) ?_
    · replace X := X.mono (M' := none1) (fun y _ h => by
          obtain ⟨j, hj, h⟩ := h
          exact h.elim)
      exact DoesT_pure (r_indexArr (b := bq) (o := 0) (i := 0) (o' := 0) (U 5 rfl) rfl rfl Try.underlying75 siz3 (by omega) (by omega)) rfl
    refine DagStepsS.cons (StabS.eq) (LocS.const) (fun S s' w' hi hN X U H => Or.inl ⟨Guarded_none rfl, ?_⟩) ?_
    · replace X := X.mono (M' := none1) (fun y _ h => by
          obtain ⟨j, hj, h⟩ := h
          exact h.elim)
      have e11 : s' 11 = (.pointer (some ⟨bq, 0, none⟩)) := (H 1 rfl).2 11 (fun _ _ v _ => v = (.pointer (some ⟨bq, 0, none⟩))) rfl (by rw [hFs1]; rfl)
      exact DoesT_pure (r_load (v := (.int .i64 k.1)) e11 flat3 (((X0.trans X).keep Bq).cell rfl)) rfl
    refine DagStepsS.cons (StabS.eq) (LocS.const) (fun S s' w' hi hN X U H => Or.inl ⟨Guarded_none rfl, ?_⟩) ?_
    · replace X := X.mono (M' := none1) (fun y _ h => by
          obtain ⟨j, hj, h⟩ := h
          exact h.elim)
      exact DoesT_pure (r_move (v := (.int .i64 ((x : Nat) : Int))) (U 1 rfl)) rfl
    refine DagStepsS.cons (StabS.eq) (LocS.const) (fun S s' w' hi hN X U H => Or.inl ⟨Guarded_none rfl, ?_⟩) ?_
    · replace X := X.mono (M' := none1) (fun y _ h => by
          obtain ⟨j, hj, h⟩ := h
          exact h.elim)
      have e10 : s' 10 = (.agg #[(.int .i64 a.start), (.slice aa a.accept.length ac), (.slice na a.next.length nc)]) := (H 0 rfl).2 10 (fun _ _ v _ => v = (.agg #[(.int .i64 a.start), (.slice aa a.accept.length ac), (.slice na a.next.length nc)])) rfl (by rw [hFs1]; rfl)
      have e12 : s' 12 = (.int .i64 k.1) := (H 2 rfl).2 12 (fun _ _ v _ => v = (.int .i64 k.1)) rfl (by rw [hFs1]; rfl)
      have e13 : s' 13 = (.int .i64 ((x : Nat) : Int)) := (H 3 rfl).2 13 (fun _ _ v _ => v = (.int .i64 ((x : Nat) : Int))) rfl (by rw [hFs1]; rfl)
      exact DoesT_callE (r_callF (vs := [(.agg #[(.int .i64 a.start), (.slice aa a.accept.length ac), (.slice na a.next.length nc)]), (.int .i64 k.1), (.int .i64 ((x : Nat) : Int))]) Try.func66 nm66 bd66 (lst3 e10 e12 e13)) ((dfto_c _ n c a _ k.1 ((x : Nat) : Int) oka (ha.ext (Ext.trans E (X0.trans X))) hk.1 (by omega)).mono (fun v w h => h))
    refine DagStepsS.cons (StabS.eq) (LocS.const) (fun S s' w' hi hN X U H => Or.inl ⟨Guarded_none rfl, ?_⟩) ?_
    · replace X := X.mono (M' := none1) (fun y _ h => by
          obtain ⟨j, hj, h⟩ := h
          exact h.elim)
      exact DoesT_pure (r_loadAgg (vs := [(.int .i64 b.start), (.slice aa2 b.accept.length ac2), (.slice na2 b.next.length nc2)]) (U 3 rfl) agg25 siz25 rfl (((X0.trans X).keep hBb).cells rfl)) rfl
    refine DagStepsS.cons (StabS.eq) (LocS.const) (fun S s' w' hi hN X U H => Or.inl ⟨Guarded_none rfl, ?_⟩) ?_
    · replace X := X.mono (M' := none1) (fun y _ h => by
          obtain ⟨j, hj, h⟩ := h
          exact h.elim)
      exact DoesT_pure (r_indexArr (b := bq) (o := 0) (i := 1) (o' := 1) (U 5 rfl) rfl rfl Try.underlying75 siz3 (by omega) (by omega)) rfl
    refine DagStepsS.cons (StabS.eq) (LocS.const) (fun S s' w' hi hN X U H => Or.inl ⟨Guarded_none rfl, ?_⟩) ?_
    · replace X := X.mono (M' := none1) (fun y _ h => by
          obtain ⟨j, hj, h⟩ := h
          exact h.elim)
      have e16 : s' 16 = (.pointer (some ⟨bq, 1, none⟩)) := (H 6 rfl).2 16 (fun _ _ v _ => v = (.pointer (some ⟨bq, 1, none⟩))) rfl (by rw [hFs1]; rfl)
      exact DoesT_pure (r_load (v := (.int .i64 k.2)) e16 flat3 (((X0.trans X).keep Bq).cell rfl)) rfl
    refine DagStepsS.cons (StabS.eq) (LocS.const) (fun S s' w' hi hN X U H => Or.inl ⟨Guarded_none rfl, ?_⟩) ?_
    · replace X := X.mono (M' := none1) (fun y _ h => by
          obtain ⟨j, hj, h⟩ := h
          exact h.elim)
      exact DoesT_pure (r_move (v := (.int .i64 ((x : Nat) : Int))) (U 1 rfl)) rfl
    refine DagStepsS.cons (StabS.eq) (LocS.const) (fun S s' w' hi hN X U H => Or.inl ⟨Guarded_none rfl, ?_⟩) ?_
    · replace X := X.mono (M' := none1) (fun y _ h => by
          obtain ⟨j, hj, h⟩ := h
          exact h.elim)
      have e15 : s' 15 = (.agg #[(.int .i64 b.start), (.slice aa2 b.accept.length ac2), (.slice na2 b.next.length nc2)]) := (H 5 rfl).2 15 (fun _ _ v _ => v = (.agg #[(.int .i64 b.start), (.slice aa2 b.accept.length ac2), (.slice na2 b.next.length nc2)])) rfl (by rw [hFs1]; rfl)
      have e17 : s' 17 = (.int .i64 k.2) := (H 7 rfl).2 17 (fun _ _ v _ => v = (.int .i64 k.2)) rfl (by rw [hFs1]; rfl)
      have e18 : s' 18 = (.int .i64 ((x : Nat) : Int)) := (H 8 rfl).2 18 (fun _ _ v _ => v = (.int .i64 ((x : Nat) : Int))) rfl (by rw [hFs1]; rfl)
      exact DoesT_callE (r_callF (vs := [(.agg #[(.int .i64 b.start), (.slice aa2 b.accept.length ac2), (.slice na2 b.next.length nc2)]), (.int .i64 k.2), (.int .i64 ((x : Nat) : Int))]) Try.func66 nm66 bd66 (lst3 e15 e17 e18)) ((dfto_c _ m c b _ k.2 ((x : Nat) : Int) okb (hb.ext (Ext.trans E (X0.trans X))) hk.2 (by omega)).mono (fun v w h => h))
    refine DagStepsS.cons (StabS.eq) (LocS.const) (fun S s' w' hi hN X U H => Or.inl ⟨Guarded_none rfl, ?_⟩) ?_
    · replace X := X.mono (M' := none1) (fun y _ h => by
          obtain ⟨j, hj, h⟩ := h
          exact h.elim)
      have e14 : s' 14 = (.int .i64 (toD a k.1 x)) := (H 4 rfl).2 14 (fun _ _ v _ => v = (.int .i64 (toD a k.1 x))) rfl (by rw [hFs1]; rfl)
      have e19 : s' 19 = (.int .i64 (toD b k.2 x)) := (H 9 rfl).2 19 (fun _ _ v _ => v = (.int .i64 (toD b k.2 x))) rfl (by rw [hFs1]; rfl)
      exact DoesT_pure (r_build (ps := [(0, (.int .i64 (toD a k.1 x))), (1, (.int .i64 (toD b k.2 x)))]) (v := (.agg #[(.int .i64 (toD a k.1 x)), (.int .i64 (toD b k.2 x))])) (bld2 e14 e19) (by kernel_rfl)) rfl
    refine DagStepsS.cons (StabS.chg (U := none1) (fun v w w' x h => alF_ext _ _ _ v w w' x h) (fun p y hp hw h => by
          exact h.elim)) (LocS.const) (fun S s' w' hi hN X U H => Or.inl ⟨Guarded_none rfl, ?_⟩) ?_
    · replace X := X.mono (M' := none1) (fun y _ h => by
          obtain ⟨j, hj, h⟩ := h
          exact h.elim)
      exact DoesT_alloc (c := #[(.int .i64 0), (.int .i64 0)]) zer75 rfl (by have := X0.size; have := X.size; omega)
    refine DagStepsS.tail ?_
    exact DagStepsS.nil
  · intro s' wd1 w1 X0 X1 U H
    replace X1 := X1.mono (M' := none1) (fun y _ h => by
        obtain ⟨j, hj, h⟩ := h
        exact h.elim)
    have e20 : s' 20 = (.agg #[(.int .i64 (toD a k.1 x)), (.int .i64 (toD b k.2 x))]) := H 10 rfl 20 (fun _ _ v _ => v = (.agg #[(.int .i64 (toD a k.1 x)), (.int .i64 (toD b k.2 x))])) rfl (by rw [hFs1]; rfl)
    obtain ⟨b9, e9, B9, g9⟩ := (show ((fun _ _ => alF 75 #[(.int .i64 0), (.int .i64 0)] wr.heap.size) : FctS) (allS [true, true, true, true, true, true, true, true, true, true, true, true, false]) s' (s' 9) w1 from H 11 rfl 9 (fun _ _ => alF 75 #[(.int .i64 0), (.int .i64 0)] wr.heap.size) rfl (by rw [hFs1]; rfl))
    obtain ⟨j1, rfl⟩ := Fits.out (σ := s') (l := [(4, (.pointer (some ⟨bf, 0, none⟩))), (7, (.pointer (some ⟨br, 0, none⟩))), (20, (.agg #[(.int .i64 (toD a k.1 x)), (.int .i64 (toD b k.2 x))])), (9, (.pointer (some ⟨b9, 0, none⟩)))]) ⟨U 4 rfl, U 7 rfl, e20, e9, trivial⟩
    clear U H
    replace hBa := (X0.trans X1).keep hBa
    replace hBb := (X0.trans X1).keep hBb
    replace hBf := (X0.trans X1).keep hBf
    replace Bq := (X0.trans X1).keep Bq
    replace Br := (X0.trans X1).keep Br
    replace X1 := X0.trans X1
    replace E := E.ext X1
    refine s_storeAgg (b := b9) (o := 0) (c' := #[(.int .i64 (toD a k.1 x)), (.int .i64 (toD b k.2 x))]) rfl rfl (by simp [Value.oneCell']) siz75 rfl B9 (by simp) rfl ?_
    intro w2 S2
    replace hBa := S2.keep (by omega) hBa
    replace hBb := S2.keep (by omega) hBb
    replace hBf := S2.keep (by omega) hBf
    replace Bq := S2.keep (by omega) Bq
    replace Br := S2.keep (by omega) Br
    replace E := S2.step E (by first | exact Or.inl (by omega) | exact Or.inr rfl | exact Or.inr (by assumption) | exact Or.inr (by simp) | exact Or.inr (by omega) | exact Or.inr (by dsimp only; omega))
    replace B9 := S2.blk
    refine WpL_nil ?_
    refine thn_normal ?_
    rcases Bool.eq_false_or_eq_true (both) with hbo | hbo
    · have khbo := hbo
      rcases Bool.eq_false_or_eq_true (decide ((0 : Int) ≤ toD a k.1 x)) with hp1 | hp1
      · have khp1 := hp1
        replace khp1 := of_decide_eq_true khp1
        refine Wp_seq ?_
        refine Wp_seq_region ?_
        refine WpL_val rfl rfl (by decide) (r_load (v := (.bool both)) rfl flat4 (hBf.cell rfl)) ?_
        refine WpL_nil ?_
        refine Wp_cond_true (congrArg Value.bool hbo) ?_
        have hz_3 : w0.heap.size ≤ w2.heap.size := E.size
        have lz_3_ba : ba < w2.heap.size := hBa.lt
        have lz_3_bb : bb < w2.heap.size := hBb.lt
        have lz_3_bf : bf < w2.heap.size := hBf.lt
        have lz_3_bq : bq < w2.heap.size := Bq.lt
        have lz_3_br : br < w2.heap.size := Br.lt
        have lz_3_b9 : b9 < w2.heap.size := B9.lt
        refine Wp_seq ?_
        obtain ⟨Fs3, hFs3⟩ : ∃ Fs : List FctS, Fs = [(fun _ _ v _ => v = (.agg #[(.int .i64 (toD a k.1 x)), (.int .i64 (toD b k.2 x))])), (fun _ _ v _ => v = (.pointer (some ⟨b9, 0, none⟩))), (fun _ _ v _ => v = (.int .i64 (toD a k.1 x))), (fun _ _ v _ => v = (.bool true)), (fun _ _ v _ => v = (.bool true)), (fun _ _ v _ => v = (.pointer (some ⟨b9, 1, none⟩))), (fun _ _ v _ => v = (.int .i64 (toD b k.2 x))), (fun _ _ v _ => v = (.bool (decide ((0 : Int) ≤ toD b k.2 x)))), (fun _ _ v _ => v = (.bool (decide ((0 : Int) ≤ toD b k.2 x)))), (fun _ _ => (fun _ w => Blk w br #[(.int .i64 (toD a k.1 x)), (.int .i64 (toD b k.2 x))] 75)), (fun _ _ v _ => v = undef)] := ⟨_, rfl⟩
        refine Wp_dagS (MsL [(9, (fun y => y = br))]) [true, true, true, true, true, true, true, true, true, true, false] [10] [22, 23, 24, 25, 26, 27, 28, 29, 30, 49, 50] [[], [], [1], [2], [3], [4], [4, 5], [4, 6], [4, 7], [0, 4], []] [[], [], [1], [2, 1], [3, 2, 1], [4, 3, 2, 1], [4, 3, 2, 1, 5], [4, 3, 2, 1, 6, 5], [4, 3, 2, 1, 7, 6, 5], [0, 4, 3, 2, 1], []] Fs3 hFs3 (by kernel_rfl) mixed (by kernel_rfl) (by kernel_rfl) (by kernel_rfl) (by kernel_rfl) ?_ ?_
        · intro wd X0
          refine DagStepsS.cons (StabS.eq) (LocS.const) (fun S s' w' hi hN X U H => Or.inl ⟨Guarded_none rfl, ?_⟩) ?_
          · replace X := X.mono (M' := none1) (fun y _ h => by
                obtain ⟨j, hj, h⟩ := h
                rcases MsL_or h with ⟨rfl, h0⟩ | h0
                · exact Bool.noConfusion (hj.symm.trans (hN 9 rfl))
                exact h0.elim)
            exact DoesT_pure (r_loadAgg (vs := [(.int .i64 (toD a k.1 x)), (.int .i64 (toD b k.2 x))]) (U 9 rfl) agg75 siz75 rfl (((X0.trans X).keep B9).cells rfl)) rfl
          refine DagStepsS.cons (StabS.eq) (LocS.const) (fun S s' w' hi hN X U H => Or.inl ⟨Guarded_none rfl, ?_⟩) ?_
          · replace X := X.mono (M' := none1) (fun y _ h => by
                obtain ⟨j, hj, h⟩ := h
                rcases MsL_or h with ⟨rfl, h0⟩ | h0
                · exact Bool.noConfusion (hj.symm.trans (hN 9 rfl))
                exact h0.elim)
            exact DoesT_pure (r_indexArr (b := b9) (o := 0) (i := 0) (o' := 0) (U 9 rfl) rfl rfl Try.underlying75 siz3 (by omega) (by omega)) rfl
          refine DagStepsS.cons (StabS.eq) (LocS.const) (fun S s' w' hi hN X U H => Or.inl ⟨Guarded_none rfl, ?_⟩) ?_
          · replace X := X.mono (M' := none1) (fun y _ h => by
                obtain ⟨j, hj, h⟩ := h
                rcases MsL_or h with ⟨rfl, h0⟩ | h0
                · exact Bool.noConfusion (hj.symm.trans (hN 9 rfl))
                exact h0.elim)
            have e23 : s' 23 = (.pointer (some ⟨b9, 0, none⟩)) := (H 1 rfl).2 23 (fun _ _ v _ => v = (.pointer (some ⟨b9, 0, none⟩))) rfl (by rw [hFs3]; rfl)
            exact DoesT_pure (r_load (v := (.int .i64 (toD a k.1 x))) e23 flat3 (((X0.trans X).keep B9).cell rfl)) rfl
          refine DagStepsS.cons (StabS.eq) (LocS.const) (fun S s' w' hi hN X U H => Or.inl ⟨Guarded_none rfl, ?_⟩) ?_
          · replace X := X.mono (M' := none1) (fun y _ h => by
                obtain ⟨j, hj, h⟩ := h
                rcases MsL_or h with ⟨rfl, h0⟩ | h0
                · exact Bool.noConfusion (hj.symm.trans (hN 9 rfl))
                exact h0.elim)
            have e24 : s' 24 = (.int .i64 (toD a k.1 x)) := (H 2 rfl).2 24 (fun _ _ v _ => v = (.int .i64 (toD a k.1 x))) rfl (by rw [hFs3]; rfl)
            exact DoesT_pure (Eq.trans (r_geq (k := .i64) (a := toD a k.1 x) (b := 0) e24 rfl) (by rw [hp1])) rfl
          refine DagStepsS.cons (StabS.eq) (LocS.const) (fun S s' w' hi hN X U H => Or.inl ⟨Guarded_none rfl, ?_⟩) ?_
          · replace X := X.mono (M' := none1) (fun y _ h => by
                obtain ⟨j, hj, h⟩ := h
                rcases MsL_or h with ⟨rfl, h0⟩ | h0
                · exact Bool.noConfusion (hj.symm.trans (hN 9 rfl))
                exact h0.elim)
            have e25 : s' 25 = (.bool true) := (H 3 rfl).2 25 (fun _ _ v _ => v = (.bool true)) rfl (by rw [hFs3]; rfl)
            exact DoesT_pure (r_move (v := (.bool true)) e25) rfl
          refine DagStepsS.cons (StabS.eq) (LocS.const) (fun S s' w' hi hN X U H => Or.inl ⟨Guarded_some rfl rfl (d := 26) ((H 4 rfl).2 26 (fun _ _ v _ => v = (.bool true)) rfl (by rw [hFs3]; rfl)), ?_⟩) ?_
          · replace X := X.mono (M' := (fun y => (fun y => y = br) y)) (fun y _ h => by
                obtain ⟨j, hj, h⟩ := h
                rcases MsL_or h with ⟨rfl, h0⟩ | h0
                · exact h0
                exact h0.elim)
            exact DoesT_pure (r_indexArr (b := b9) (o := 0) (i := 1) (o' := 1) (U 9 rfl) rfl rfl Try.underlying75 siz3 (by omega) (by omega)) rfl
          refine DagStepsS.cons (StabS.eq) (LocS.const) (fun S s' w' hi hN X U H => Or.inl ⟨Guarded_some rfl rfl (d := 26) ((H 4 rfl).2 26 (fun _ _ v _ => v = (.bool true)) rfl (by rw [hFs3]; rfl)), ?_⟩) ?_
          · replace X := X.mono (M' := (fun y => (fun y => y = br) y)) (fun y _ h => by
                obtain ⟨j, hj, h⟩ := h
                rcases MsL_or h with ⟨rfl, h0⟩ | h0
                · exact h0
                exact h0.elim)
            have e27 : s' 27 = (.pointer (some ⟨b9, 1, none⟩)) := (H 5 rfl).2 27 (fun _ _ v _ => v = (.pointer (some ⟨b9, 1, none⟩))) rfl (by rw [hFs3]; rfl)
            exact DoesT_pure (r_load (v := (.int .i64 (toD b k.2 x))) e27 flat3 ((Chg.keep X (fun h => by dsimp only at h; omega) (X0.keep B9)).cell rfl)) rfl
          refine DagStepsS.cons (StabS.eq) (LocS.const) (fun S s' w' hi hN X U H => Or.inl ⟨Guarded_some rfl rfl (d := 26) ((H 4 rfl).2 26 (fun _ _ v _ => v = (.bool true)) rfl (by rw [hFs3]; rfl)), ?_⟩) ?_
          · replace X := X.mono (M' := (fun y => (fun y => y = br) y)) (fun y _ h => by
                obtain ⟨j, hj, h⟩ := h
                rcases MsL_or h with ⟨rfl, h0⟩ | h0
                · exact h0
                exact h0.elim)
            have e28 : s' 28 = (.int .i64 (toD b k.2 x)) := (H 6 rfl).2 28 (fun _ _ v _ => v = (.int .i64 (toD b k.2 x))) rfl (by rw [hFs3]; rfl)
            exact DoesT_pure (r_geq (k := .i64) (a := toD b k.2 x) (b := 0) e28 rfl) rfl
          refine DagStepsS.cons (StabS.eq) (LocS.const) (fun S s' w' hi hN X U H => Or.inl ⟨Guarded_none rfl, ?_⟩) ?_
          · replace X := X.mono (M' := (fun y => (fun y => y = br) y)) (fun y _ h => by
                obtain ⟨j, hj, h⟩ := h
                rcases MsL_or h with ⟨rfl, h0⟩ | h0
                · exact h0
                exact h0.elim)
            have e26 : s' 26 = (.bool true) := (H 4 rfl).2 26 (fun _ _ v _ => v = (.bool true)) rfl (by rw [hFs3]; rfl)
            have e29 : s' 29 = (.bool (decide ((0 : Int) ≤ toD b k.2 x))) := (H 7 rfl).2 29 (fun _ _ v _ => v = (.bool (decide ((0 : Int) ≤ toD b k.2 x)))) rfl (by rw [hFs3]; rfl)
            exact DoesT_pure (r_pick (b := true) (v := (.bool (decide ((0 : Int) ≤ toD b k.2 x)))) e26 e29) rfl
          refine DagStepsS.cons (StabS.chg (U := none1) (fun v w w' x h => Chg.keep x (fun h => h) h) (fun p y hp hw h => by
                rcases MsL_or h with ⟨rfl, h0⟩ | h0
                · exact absurd rfl hp
                exact h0.elim)) (LocS.const) (fun S s' w' hi hN X U H => Or.inl ⟨Guarded_none rfl, ?_⟩) ?_
          · replace X := X.mono (M' := none1) (fun y _ h => by
                obtain ⟨j, hj, h⟩ := h
                rcases MsL_or h with ⟨rfl, h0⟩ | h0
                · exact Bool.noConfusion (hj.symm.trans hi)
                exact h0.elim)
            have e22 : s' 22 = (.agg #[(.int .i64 (toD a k.1 x)), (.int .i64 (toD b k.2 x))]) := (H 0 rfl).2 22 (fun _ _ v _ => v = (.agg #[(.int .i64 (toD a k.1 x)), (.int .i64 (toD b k.2 x))])) rfl (by rw [hFs3]; rfl)
            exact DoesT_storeAgg (b := br) (o := 0) (n := 2) (U 7 rfl) e22 (by simp [Value.oneCell']) siz75 rfl ((X0.trans X).keep Br) (by simp) (by first | exact .inl ⟨rfl, rfl⟩ | exact .inr (.inl ⟨rfl, rfl⟩) | exact .inr (.inr (.inl ⟨rfl, rfl⟩))) (fun w9 h => by have h2 := h.blk; simpa using h2)
          refine DagStepsS.tail ?_
          exact DagStepsS.nil
        · intro s' wd3 w3 X0 X3 U H
          replace X3 := X3.mono (M' := (fun y => (fun y => y = br) y)) (fun y _ h => by
              obtain ⟨j, hj, h⟩ := h
              rcases MsL_or h with ⟨rfl, h0⟩ | h0
              · exact h0
              exact h0.elim)
          have e30 : s' 30 = (.bool (decide ((0 : Int) ≤ toD b k.2 x))) := H 8 rfl 30 (fun _ _ v _ => v = (.bool (decide ((0 : Int) ≤ toD b k.2 x)))) rfl (by rw [hFs3]; rfl)
          obtain B49 := (show ((fun _ _ => (fun _ w => Blk w br #[(.int .i64 (toD a k.1 x)), (.int .i64 (toD b k.2 x))] 75)) : FctS) (allS [true, true, true, true, true, true, true, true, true, true, false]) s' (s' 49) w3 from H 9 rfl 49 (fun _ _ => (fun _ w => Blk w br #[(.int .i64 (toD a k.1 x)), (.int .i64 (toD b k.2 x))] 75)) rfl (by rw [hFs3]; rfl))
          obtain ⟨j3, rfl⟩ := Fits.out (σ := s') (l := [(7, (.pointer (some ⟨br, 0, none⟩))), (30, (.bool (decide ((0 : Int) ≤ toD b k.2 x))))]) ⟨U 7 rfl, e30, trivial⟩
          clear U H
          replace Br := B49
          replace hBa := Chg.keep X3 (fun h => by dsimp only at h; omega) (X0.keep hBa)
          replace hBb := Chg.keep X3 (fun h => by dsimp only at h; omega) (X0.keep hBb)
          replace hBf := Chg.keep X3 (fun h => by dsimp only at h; omega) (X0.keep hBf)
          replace Bq := Chg.keep X3 (fun h => by dsimp only at h; omega) (X0.keep Bq)
          replace B9 := Chg.keep X3 (fun h => by dsimp only at h; omega) (X0.keep B9)
          replace E := (E.ext X0).step X3 (fun y hy h => by dsimp only at h; omega)
          refine WpL_val rfl rfl (by decide) (r_assign (v := (.bool (decide ((0 : Int) ≤ toD b k.2 x)))) rfl) ?_
          refine WpL_nil ?_
          refine thn_normal ?_
          refine Wp_ret ?_
          refine thn_ret ?_
          refine fin_agg_tmp Try.results117 (vs := [(.int .i64 (toD a k.1 x)), (.int .i64 (toD b k.2 x))]) (b := br) (v' := (.bool (decide ((0 : Int) ≤ toD b k.2 x)))) rfl agg75 siz75 rfl (Br.cells rfl) rfl ?_
          exact ⟨by unfold onP; rw [hbo]; simp [khp1], E⟩
      · have khp1 := hp1
        replace khp1 := of_decide_eq_false khp1
        refine Wp_seq ?_
        refine Wp_seq_region ?_
        refine WpL_val rfl rfl (by decide) (r_load (v := (.bool both)) rfl flat4 (hBf.cell rfl)) ?_
        refine WpL_nil ?_
        refine Wp_cond_true (congrArg Value.bool hbo) ?_
        have hz_4 : w0.heap.size ≤ w2.heap.size := E.size
        have lz_4_ba : ba < w2.heap.size := hBa.lt
        have lz_4_bb : bb < w2.heap.size := hBb.lt
        have lz_4_bf : bf < w2.heap.size := hBf.lt
        have lz_4_bq : bq < w2.heap.size := Bq.lt
        have lz_4_br : br < w2.heap.size := Br.lt
        have lz_4_b9 : b9 < w2.heap.size := B9.lt
        refine Wp_seq ?_
        obtain ⟨Fs4, hFs4⟩ : ∃ Fs : List FctS, Fs = [(fun _ _ v _ => v = (.agg #[(.int .i64 (toD a k.1 x)), (.int .i64 (toD b k.2 x))])), (fun _ _ v _ => v = (.pointer (some ⟨b9, 0, none⟩))), (fun _ _ v _ => v = (.int .i64 (toD a k.1 x))), (fun _ _ v _ => v = (.bool false)), (fun _ _ v _ => v = (.bool false)), (fun _ _ v _ => v = undef), (fun _ _ v _ => v = undef), (fun _ _ v _ => v = undef), (fun _ _ v _ => v = (.bool false)), (fun _ _ => (fun _ w => Blk w br #[(.int .i64 (toD a k.1 x)), (.int .i64 (toD b k.2 x))] 75)), (fun _ _ v _ => v = undef)] := ⟨_, rfl⟩
        refine Wp_dagS (MsL [(9, (fun y => y = br))]) [true, true, true, true, true, true, true, true, true, true, false] [10] [22, 23, 24, 25, 26, 27, 28, 29, 30, 49, 50] [[], [], [1], [2], [3], [4], [4, 5], [4, 6], [4, 7], [0, 4], []] [[], [], [1], [2, 1], [3, 2, 1], [4, 3, 2, 1], [4, 3, 2, 1, 5], [4, 3, 2, 1, 6, 5], [4, 3, 2, 1, 7, 6, 5], [0, 4, 3, 2, 1], []] Fs4 hFs4 (by kernel_rfl) mixed (by kernel_rfl) (by kernel_rfl) (by kernel_rfl) (by kernel_rfl) ?_ ?_
        · intro wd X0
          refine DagStepsS.cons (StabS.eq) (LocS.const) (fun S s' w' hi hN X U H => Or.inl ⟨Guarded_none rfl, ?_⟩) ?_
          · replace X := X.mono (M' := none1) (fun y _ h => by
                obtain ⟨j, hj, h⟩ := h
                rcases MsL_or h with ⟨rfl, h0⟩ | h0
                · exact Bool.noConfusion (hj.symm.trans (hN 9 rfl))
                exact h0.elim)
            exact DoesT_pure (r_loadAgg (vs := [(.int .i64 (toD a k.1 x)), (.int .i64 (toD b k.2 x))]) (U 9 rfl) agg75 siz75 rfl (((X0.trans X).keep B9).cells rfl)) rfl
          refine DagStepsS.cons (StabS.eq) (LocS.const) (fun S s' w' hi hN X U H => Or.inl ⟨Guarded_none rfl, ?_⟩) ?_
          · replace X := X.mono (M' := none1) (fun y _ h => by
                obtain ⟨j, hj, h⟩ := h
                rcases MsL_or h with ⟨rfl, h0⟩ | h0
                · exact Bool.noConfusion (hj.symm.trans (hN 9 rfl))
                exact h0.elim)
            exact DoesT_pure (r_indexArr (b := b9) (o := 0) (i := 0) (o' := 0) (U 9 rfl) rfl rfl Try.underlying75 siz3 (by omega) (by omega)) rfl
          refine DagStepsS.cons (StabS.eq) (LocS.const) (fun S s' w' hi hN X U H => Or.inl ⟨Guarded_none rfl, ?_⟩) ?_
          · replace X := X.mono (M' := none1) (fun y _ h => by
                obtain ⟨j, hj, h⟩ := h
                rcases MsL_or h with ⟨rfl, h0⟩ | h0
                · exact Bool.noConfusion (hj.symm.trans (hN 9 rfl))
                exact h0.elim)
            have e23 : s' 23 = (.pointer (some ⟨b9, 0, none⟩)) := (H 1 rfl).2 23 (fun _ _ v _ => v = (.pointer (some ⟨b9, 0, none⟩))) rfl (by rw [hFs4]; rfl)
            exact DoesT_pure (r_load (v := (.int .i64 (toD a k.1 x))) e23 flat3 (((X0.trans X).keep B9).cell rfl)) rfl
          refine DagStepsS.cons (StabS.eq) (LocS.const) (fun S s' w' hi hN X U H => Or.inl ⟨Guarded_none rfl, ?_⟩) ?_
          · replace X := X.mono (M' := none1) (fun y _ h => by
                obtain ⟨j, hj, h⟩ := h
                rcases MsL_or h with ⟨rfl, h0⟩ | h0
                · exact Bool.noConfusion (hj.symm.trans (hN 9 rfl))
                exact h0.elim)
            have e24 : s' 24 = (.int .i64 (toD a k.1 x)) := (H 2 rfl).2 24 (fun _ _ v _ => v = (.int .i64 (toD a k.1 x))) rfl (by rw [hFs4]; rfl)
            exact DoesT_pure (Eq.trans (r_geq (k := .i64) (a := toD a k.1 x) (b := 0) e24 rfl) (by rw [hp1])) rfl
          refine DagStepsS.cons (StabS.eq) (LocS.const) (fun S s' w' hi hN X U H => Or.inl ⟨Guarded_none rfl, ?_⟩) ?_
          · replace X := X.mono (M' := none1) (fun y _ h => by
                obtain ⟨j, hj, h⟩ := h
                rcases MsL_or h with ⟨rfl, h0⟩ | h0
                · exact Bool.noConfusion (hj.symm.trans (hN 9 rfl))
                exact h0.elim)
            have e25 : s' 25 = (.bool false) := (H 3 rfl).2 25 (fun _ _ v _ => v = (.bool false)) rfl (by rw [hFs4]; rfl)
            exact DoesT_pure (r_move (v := (.bool false)) e25) rfl
          refine DagStepsS.cons (StabS.eq) (LocS.const) (fun S s' w' hi hN X U H => Or.inr ⟨Unmet_mk rfl rfl (d := 26) (Or.inl ((H 4 rfl).2 26 (fun _ _ v _ => v = (.bool false)) rfl (by rw [hFs4]; rfl))), ?_⟩) ?_
          · exact rfl
          refine DagStepsS.cons (StabS.eq) (LocS.const) (fun S s' w' hi hN X U H => Or.inr ⟨Unmet_mk rfl rfl (d := 26) (Or.inl ((H 4 rfl).2 26 (fun _ _ v _ => v = (.bool false)) rfl (by rw [hFs4]; rfl))), ?_⟩) ?_
          · exact rfl
          refine DagStepsS.cons (StabS.eq) (LocS.const) (fun S s' w' hi hN X U H => Or.inr ⟨Unmet_mk rfl rfl (d := 26) (Or.inl ((H 4 rfl).2 26 (fun _ _ v _ => v = (.bool false)) rfl (by rw [hFs4]; rfl))), ?_⟩) ?_
          · exact rfl
          refine DagStepsS.cons (StabS.eq) (LocS.const) (fun S s' w' hi hN X U H => Or.inl ⟨Guarded_none rfl, ?_⟩) ?_
          · replace X := X.mono (M' := (fun y => (fun y => y = br) y)) (fun y _ h => by
                obtain ⟨j, hj, h⟩ := h
                rcases MsL_or h with ⟨rfl, h0⟩ | h0
                · exact h0
                exact h0.elim)
            have e26 : s' 26 = (.bool false) := (H 4 rfl).2 26 (fun _ _ v _ => v = (.bool false)) rfl (by rw [hFs4]; rfl)
            exact DoesT_pure (r_pick (b := false) (v := (.bool false)) e26 rfl) rfl
          refine DagStepsS.cons (StabS.chg (U := none1) (fun v w w' x h => Chg.keep x (fun h => h) h) (fun p y hp hw h => by
                rcases MsL_or h with ⟨rfl, h0⟩ | h0
                · exact absurd rfl hp
                exact h0.elim)) (LocS.const) (fun S s' w' hi hN X U H => Or.inl ⟨Guarded_none rfl, ?_⟩) ?_
          · replace X := X.mono (M' := none1) (fun y _ h => by
                obtain ⟨j, hj, h⟩ := h
                rcases MsL_or h with ⟨rfl, h0⟩ | h0
                · exact Bool.noConfusion (hj.symm.trans hi)
                exact h0.elim)
            have e22 : s' 22 = (.agg #[(.int .i64 (toD a k.1 x)), (.int .i64 (toD b k.2 x))]) := (H 0 rfl).2 22 (fun _ _ v _ => v = (.agg #[(.int .i64 (toD a k.1 x)), (.int .i64 (toD b k.2 x))])) rfl (by rw [hFs4]; rfl)
            exact DoesT_storeAgg (b := br) (o := 0) (n := 2) (U 7 rfl) e22 (by simp [Value.oneCell']) siz75 rfl ((X0.trans X).keep Br) (by simp) (by first | exact .inl ⟨rfl, rfl⟩ | exact .inr (.inl ⟨rfl, rfl⟩) | exact .inr (.inr (.inl ⟨rfl, rfl⟩))) (fun w9 h => by have h2 := h.blk; simpa using h2)
          refine DagStepsS.tail ?_
          exact DagStepsS.nil
        · intro s' wd4 w4 X0 X4 U H
          replace X4 := X4.mono (M' := (fun y => (fun y => y = br) y)) (fun y _ h => by
              obtain ⟨j, hj, h⟩ := h
              rcases MsL_or h with ⟨rfl, h0⟩ | h0
              · exact h0
              exact h0.elim)
          have e30 : s' 30 = (.bool false) := H 8 rfl 30 (fun _ _ v _ => v = (.bool false)) rfl (by rw [hFs4]; rfl)
          obtain B49 := (show ((fun _ _ => (fun _ w => Blk w br #[(.int .i64 (toD a k.1 x)), (.int .i64 (toD b k.2 x))] 75)) : FctS) (allS [true, true, true, true, true, true, true, true, true, true, false]) s' (s' 49) w4 from H 9 rfl 49 (fun _ _ => (fun _ w => Blk w br #[(.int .i64 (toD a k.1 x)), (.int .i64 (toD b k.2 x))] 75)) rfl (by rw [hFs4]; rfl))
          obtain ⟨j4, rfl⟩ := Fits.out (σ := s') (l := [(7, (.pointer (some ⟨br, 0, none⟩))), (30, (.bool false))]) ⟨U 7 rfl, e30, trivial⟩
          clear U H
          replace Br := B49
          replace hBa := Chg.keep X4 (fun h => by dsimp only at h; omega) (X0.keep hBa)
          replace hBb := Chg.keep X4 (fun h => by dsimp only at h; omega) (X0.keep hBb)
          replace hBf := Chg.keep X4 (fun h => by dsimp only at h; omega) (X0.keep hBf)
          replace Bq := Chg.keep X4 (fun h => by dsimp only at h; omega) (X0.keep Bq)
          replace B9 := Chg.keep X4 (fun h => by dsimp only at h; omega) (X0.keep B9)
          replace E := (E.ext X0).step X4 (fun y hy h => by dsimp only at h; omega)
          refine WpL_val rfl rfl (by decide) (r_assign (v := (.bool false)) rfl) ?_
          refine WpL_nil ?_
          refine thn_normal ?_
          refine Wp_ret ?_
          refine thn_ret ?_
          refine fin_agg_tmp Try.results117 (vs := [(.int .i64 (toD a k.1 x)), (.int .i64 (toD b k.2 x))]) (b := br) (v' := (.bool false)) rfl agg75 siz75 rfl (Br.cells rfl) rfl ?_
          exact ⟨by unfold onP; rw [hbo]; simp [show ¬ (0 : Int) ≤ toD a k.1 x by omega], E⟩
    · have khbo := hbo
      rcases Bool.eq_false_or_eq_true (decide ((0 : Int) ≤ toD a k.1 x)) with hp1 | hp1
      · have khp1 := hp1
        replace khp1 := of_decide_eq_true khp1
        refine Wp_seq ?_
        refine Wp_seq_region ?_
        refine WpL_val rfl rfl (by decide) (r_load (v := (.bool both)) rfl flat4 (hBf.cell rfl)) ?_
        refine WpL_nil ?_
        refine Wp_cond_false (congrArg Value.bool hbo) ?_
        refine Wp_skip ?_
        refine thn_normal ?_
        have hz_5 : w0.heap.size ≤ w2.heap.size := E.size
        have lz_5_ba : ba < w2.heap.size := hBa.lt
        have lz_5_bb : bb < w2.heap.size := hBb.lt
        have lz_5_bf : bf < w2.heap.size := hBf.lt
        have lz_5_bq : bq < w2.heap.size := Bq.lt
        have lz_5_br : br < w2.heap.size := Br.lt
        have lz_5_b9 : b9 < w2.heap.size := B9.lt
        refine Wp_seq ?_
        obtain ⟨Fs5, hFs5⟩ : ∃ Fs : List FctS, Fs = [(fun _ _ v _ => v = (.agg #[(.int .i64 (toD a k.1 x)), (.int .i64 (toD b k.2 x))])), (fun _ _ v _ => v = (.pointer (some ⟨b9, 0, none⟩))), (fun _ _ v _ => v = (.int .i64 (toD a k.1 x))), (fun _ _ v _ => v = (.bool true)), (fun _ _ v _ => v = (.bool true)), (fun _ _ v _ => v = undef), (fun _ _ v _ => v = undef), (fun _ _ v _ => v = undef), (fun _ _ v _ => v = (.bool true)), (fun _ _ => (fun _ w => Blk w br #[(.int .i64 (toD a k.1 x)), (.int .i64 (toD b k.2 x))] 75)), (fun _ _ v _ => v = undef)] := ⟨_, rfl⟩
        refine Wp_dagS (MsL [(9, (fun y => y = br))]) [true, true, true, true, true, true, true, true, true, true, false] [10] [31, 32, 33, 34, 35, 36, 37, 38, 39, 49, 50] [[], [], [1], [2], [3], [4], [4, 5], [4, 6], [4, 7], [0, 4], []] [[], [], [1], [2, 1], [3, 2, 1], [4, 3, 2, 1], [4, 3, 2, 1, 5], [4, 3, 2, 1, 6, 5], [4, 3, 2, 1, 7, 6, 5], [0, 4, 3, 2, 1], []] Fs5 hFs5 (by kernel_rfl) mixed (by kernel_rfl) (by kernel_rfl) (by kernel_rfl) (by kernel_rfl) ?_ ?_
        · intro wd X0
          refine DagStepsS.cons (StabS.eq) (LocS.const) (fun S s' w' hi hN X U H => Or.inl ⟨Guarded_none rfl, ?_⟩) ?_
          · replace X := X.mono (M' := none1) (fun y _ h => by
                obtain ⟨j, hj, h⟩ := h
                rcases MsL_or h with ⟨rfl, h0⟩ | h0
                · exact Bool.noConfusion (hj.symm.trans (hN 9 rfl))
                exact h0.elim)
            exact DoesT_pure (r_loadAgg (vs := [(.int .i64 (toD a k.1 x)), (.int .i64 (toD b k.2 x))]) (U 9 rfl) agg75 siz75 rfl (((X0.trans X).keep B9).cells rfl)) rfl
          refine DagStepsS.cons (StabS.eq) (LocS.const) (fun S s' w' hi hN X U H => Or.inl ⟨Guarded_none rfl, ?_⟩) ?_
          · replace X := X.mono (M' := none1) (fun y _ h => by
                obtain ⟨j, hj, h⟩ := h
                rcases MsL_or h with ⟨rfl, h0⟩ | h0
                · exact Bool.noConfusion (hj.symm.trans (hN 9 rfl))
                exact h0.elim)
            exact DoesT_pure (r_indexArr (b := b9) (o := 0) (i := 0) (o' := 0) (U 9 rfl) rfl rfl Try.underlying75 siz3 (by omega) (by omega)) rfl
          refine DagStepsS.cons (StabS.eq) (LocS.const) (fun S s' w' hi hN X U H => Or.inl ⟨Guarded_none rfl, ?_⟩) ?_
          · replace X := X.mono (M' := none1) (fun y _ h => by
                obtain ⟨j, hj, h⟩ := h
                rcases MsL_or h with ⟨rfl, h0⟩ | h0
                · exact Bool.noConfusion (hj.symm.trans (hN 9 rfl))
                exact h0.elim)
            have e32 : s' 32 = (.pointer (some ⟨b9, 0, none⟩)) := (H 1 rfl).2 32 (fun _ _ v _ => v = (.pointer (some ⟨b9, 0, none⟩))) rfl (by rw [hFs5]; rfl)
            exact DoesT_pure (r_load (v := (.int .i64 (toD a k.1 x))) e32 flat3 (((X0.trans X).keep B9).cell rfl)) rfl
          refine DagStepsS.cons (StabS.eq) (LocS.const) (fun S s' w' hi hN X U H => Or.inl ⟨Guarded_none rfl, ?_⟩) ?_
          · replace X := X.mono (M' := none1) (fun y _ h => by
                obtain ⟨j, hj, h⟩ := h
                rcases MsL_or h with ⟨rfl, h0⟩ | h0
                · exact Bool.noConfusion (hj.symm.trans (hN 9 rfl))
                exact h0.elim)
            have e33 : s' 33 = (.int .i64 (toD a k.1 x)) := (H 2 rfl).2 33 (fun _ _ v _ => v = (.int .i64 (toD a k.1 x))) rfl (by rw [hFs5]; rfl)
            exact DoesT_pure (Eq.trans (r_geq (k := .i64) (a := toD a k.1 x) (b := 0) e33 rfl) (by rw [hp1])) rfl
          refine DagStepsS.cons (StabS.eq) (LocS.const) (fun S s' w' hi hN X U H => Or.inl ⟨Guarded_none rfl, ?_⟩) ?_
          · replace X := X.mono (M' := none1) (fun y _ h => by
                obtain ⟨j, hj, h⟩ := h
                rcases MsL_or h with ⟨rfl, h0⟩ | h0
                · exact Bool.noConfusion (hj.symm.trans (hN 9 rfl))
                exact h0.elim)
            have e34 : s' 34 = (.bool true) := (H 3 rfl).2 34 (fun _ _ v _ => v = (.bool true)) rfl (by rw [hFs5]; rfl)
            exact DoesT_pure (r_move (v := (.bool true)) e34) rfl
          refine DagStepsS.cons (StabS.eq) (LocS.const) (fun S s' w' hi hN X U H => Or.inr ⟨Unmet_mk rfl rfl (d := 35) (Or.inl ((H 4 rfl).2 35 (fun _ _ v _ => v = (.bool true)) rfl (by rw [hFs5]; rfl))), ?_⟩) ?_
          · exact rfl
          refine DagStepsS.cons (StabS.eq) (LocS.const) (fun S s' w' hi hN X U H => Or.inr ⟨Unmet_mk rfl rfl (d := 35) (Or.inl ((H 4 rfl).2 35 (fun _ _ v _ => v = (.bool true)) rfl (by rw [hFs5]; rfl))), ?_⟩) ?_
          · exact rfl
          refine DagStepsS.cons (StabS.eq) (LocS.const) (fun S s' w' hi hN X U H => Or.inr ⟨Unmet_mk rfl rfl (d := 35) (Or.inl ((H 4 rfl).2 35 (fun _ _ v _ => v = (.bool true)) rfl (by rw [hFs5]; rfl))), ?_⟩) ?_
          · exact rfl
          refine DagStepsS.cons (StabS.eq) (LocS.const) (fun S s' w' hi hN X U H => Or.inl ⟨Guarded_none rfl, ?_⟩) ?_
          · replace X := X.mono (M' := (fun y => (fun y => y = br) y)) (fun y _ h => by
                obtain ⟨j, hj, h⟩ := h
                rcases MsL_or h with ⟨rfl, h0⟩ | h0
                · exact h0
                exact h0.elim)
            have e35 : s' 35 = (.bool true) := (H 4 rfl).2 35 (fun _ _ v _ => v = (.bool true)) rfl (by rw [hFs5]; rfl)
            exact DoesT_pure (r_pick (b := true) (v := (.bool true)) e35 rfl) rfl
          refine DagStepsS.cons (StabS.chg (U := none1) (fun v w w' x h => Chg.keep x (fun h => h) h) (fun p y hp hw h => by
                rcases MsL_or h with ⟨rfl, h0⟩ | h0
                · exact absurd rfl hp
                exact h0.elim)) (LocS.const) (fun S s' w' hi hN X U H => Or.inl ⟨Guarded_none rfl, ?_⟩) ?_
          · replace X := X.mono (M' := none1) (fun y _ h => by
                obtain ⟨j, hj, h⟩ := h
                rcases MsL_or h with ⟨rfl, h0⟩ | h0
                · exact Bool.noConfusion (hj.symm.trans hi)
                exact h0.elim)
            have e31 : s' 31 = (.agg #[(.int .i64 (toD a k.1 x)), (.int .i64 (toD b k.2 x))]) := (H 0 rfl).2 31 (fun _ _ v _ => v = (.agg #[(.int .i64 (toD a k.1 x)), (.int .i64 (toD b k.2 x))])) rfl (by rw [hFs5]; rfl)
            exact DoesT_storeAgg (b := br) (o := 0) (n := 2) (U 7 rfl) e31 (by simp [Value.oneCell']) siz75 rfl ((X0.trans X).keep Br) (by simp) (by first | exact .inl ⟨rfl, rfl⟩ | exact .inr (.inl ⟨rfl, rfl⟩) | exact .inr (.inr (.inl ⟨rfl, rfl⟩))) (fun w9 h => by have h2 := h.blk; simpa using h2)
          refine DagStepsS.tail ?_
          exact DagStepsS.nil
        · intro s' wd5 w5 X0 X5 U H
          replace X5 := X5.mono (M' := (fun y => (fun y => y = br) y)) (fun y _ h => by
              obtain ⟨j, hj, h⟩ := h
              rcases MsL_or h with ⟨rfl, h0⟩ | h0
              · exact h0
              exact h0.elim)
          have e39 : s' 39 = (.bool true) := H 8 rfl 39 (fun _ _ v _ => v = (.bool true)) rfl (by rw [hFs5]; rfl)
          obtain B49 := (show ((fun _ _ => (fun _ w => Blk w br #[(.int .i64 (toD a k.1 x)), (.int .i64 (toD b k.2 x))] 75)) : FctS) (allS [true, true, true, true, true, true, true, true, true, true, false]) s' (s' 49) w5 from H 9 rfl 49 (fun _ _ => (fun _ w => Blk w br #[(.int .i64 (toD a k.1 x)), (.int .i64 (toD b k.2 x))] 75)) rfl (by rw [hFs5]; rfl))
          obtain ⟨j5, rfl⟩ := Fits.out (σ := s') (l := [(7, (.pointer (some ⟨br, 0, none⟩))), (39, (.bool true))]) ⟨U 7 rfl, e39, trivial⟩
          clear U H
          replace Br := B49
          replace hBa := Chg.keep X5 (fun h => by dsimp only at h; omega) (X0.keep hBa)
          replace hBb := Chg.keep X5 (fun h => by dsimp only at h; omega) (X0.keep hBb)
          replace hBf := Chg.keep X5 (fun h => by dsimp only at h; omega) (X0.keep hBf)
          replace Bq := Chg.keep X5 (fun h => by dsimp only at h; omega) (X0.keep Bq)
          replace B9 := Chg.keep X5 (fun h => by dsimp only at h; omega) (X0.keep B9)
          replace E := (E.ext X0).step X5 (fun y hy h => by dsimp only at h; omega)
          refine WpL_val rfl rfl (by decide) (r_assign (v := (.bool true)) rfl) ?_
          refine WpL_nil ?_
          refine thn_normal ?_
          refine Wp_ret ?_
          refine fin_agg_tmp Try.results117 (vs := [(.int .i64 (toD a k.1 x)), (.int .i64 (toD b k.2 x))]) (b := br) (v' := (.bool true)) rfl agg75 siz75 rfl (Br.cells rfl) rfl ?_
          exact ⟨by unfold onP; rw [hbo]; simp [khp1], E⟩
      · have khp1 := hp1
        replace khp1 := of_decide_eq_false khp1
        refine Wp_seq ?_
        refine Wp_seq_region ?_
        refine WpL_val rfl rfl (by decide) (r_load (v := (.bool both)) rfl flat4 (hBf.cell rfl)) ?_
        refine WpL_nil ?_
        refine Wp_cond_false (congrArg Value.bool hbo) ?_
        refine Wp_skip ?_
        refine thn_normal ?_
        have hz_6 : w0.heap.size ≤ w2.heap.size := E.size
        have lz_6_ba : ba < w2.heap.size := hBa.lt
        have lz_6_bb : bb < w2.heap.size := hBb.lt
        have lz_6_bf : bf < w2.heap.size := hBf.lt
        have lz_6_bq : bq < w2.heap.size := Bq.lt
        have lz_6_br : br < w2.heap.size := Br.lt
        have lz_6_b9 : b9 < w2.heap.size := B9.lt
        refine Wp_seq ?_
        obtain ⟨Fs6, hFs6⟩ : ∃ Fs : List FctS, Fs = [(fun _ _ v _ => v = (.agg #[(.int .i64 (toD a k.1 x)), (.int .i64 (toD b k.2 x))])), (fun _ _ v _ => v = (.pointer (some ⟨b9, 0, none⟩))), (fun _ _ v _ => v = (.int .i64 (toD a k.1 x))), (fun _ _ v _ => v = (.bool false)), (fun _ _ v _ => v = (.bool false)), (fun _ _ v _ => v = (.pointer (some ⟨b9, 1, none⟩))), (fun _ _ v _ => v = (.int .i64 (toD b k.2 x))), (fun _ _ v _ => v = (.bool (decide ((0 : Int) ≤ toD b k.2 x)))), (fun _ _ v _ => v = (.bool (decide ((0 : Int) ≤ toD b k.2 x)))), (fun _ _ => (fun _ w => Blk w br #[(.int .i64 (toD a k.1 x)), (.int .i64 (toD b k.2 x))] 75)), (fun _ _ v _ => v = undef)] := ⟨_, rfl⟩
        refine Wp_dagS (MsL [(9, (fun y => y = br))]) [true, true, true, true, true, true, true, true, true, true, false] [10] [31, 32, 33, 34, 35, 36, 37, 38, 39, 49, 50] [[], [], [1], [2], [3], [4], [4, 5], [4, 6], [4, 7], [0, 4], []] [[], [], [1], [2, 1], [3, 2, 1], [4, 3, 2, 1], [4, 3, 2, 1, 5], [4, 3, 2, 1, 6, 5], [4, 3, 2, 1, 7, 6, 5], [0, 4, 3, 2, 1], []] Fs6 hFs6 (by kernel_rfl) mixed (by kernel_rfl) (by kernel_rfl) (by kernel_rfl) (by kernel_rfl) ?_ ?_
        · intro wd X0
          refine DagStepsS.cons (StabS.eq) (LocS.const) (fun S s' w' hi hN X U H => Or.inl ⟨Guarded_none rfl, ?_⟩) ?_
          · replace X := X.mono (M' := none1) (fun y _ h => by
                obtain ⟨j, hj, h⟩ := h
                rcases MsL_or h with ⟨rfl, h0⟩ | h0
                · exact Bool.noConfusion (hj.symm.trans (hN 9 rfl))
                exact h0.elim)
            exact DoesT_pure (r_loadAgg (vs := [(.int .i64 (toD a k.1 x)), (.int .i64 (toD b k.2 x))]) (U 9 rfl) agg75 siz75 rfl (((X0.trans X).keep B9).cells rfl)) rfl
          refine DagStepsS.cons (StabS.eq) (LocS.const) (fun S s' w' hi hN X U H => Or.inl ⟨Guarded_none rfl, ?_⟩) ?_
          · replace X := X.mono (M' := none1) (fun y _ h => by
                obtain ⟨j, hj, h⟩ := h
                rcases MsL_or h with ⟨rfl, h0⟩ | h0
                · exact Bool.noConfusion (hj.symm.trans (hN 9 rfl))
                exact h0.elim)
            exact DoesT_pure (r_indexArr (b := b9) (o := 0) (i := 0) (o' := 0) (U 9 rfl) rfl rfl Try.underlying75 siz3 (by omega) (by omega)) rfl
          refine DagStepsS.cons (StabS.eq) (LocS.const) (fun S s' w' hi hN X U H => Or.inl ⟨Guarded_none rfl, ?_⟩) ?_
          · replace X := X.mono (M' := none1) (fun y _ h => by
                obtain ⟨j, hj, h⟩ := h
                rcases MsL_or h with ⟨rfl, h0⟩ | h0
                · exact Bool.noConfusion (hj.symm.trans (hN 9 rfl))
                exact h0.elim)
            have e32 : s' 32 = (.pointer (some ⟨b9, 0, none⟩)) := (H 1 rfl).2 32 (fun _ _ v _ => v = (.pointer (some ⟨b9, 0, none⟩))) rfl (by rw [hFs6]; rfl)
            exact DoesT_pure (r_load (v := (.int .i64 (toD a k.1 x))) e32 flat3 (((X0.trans X).keep B9).cell rfl)) rfl
          refine DagStepsS.cons (StabS.eq) (LocS.const) (fun S s' w' hi hN X U H => Or.inl ⟨Guarded_none rfl, ?_⟩) ?_
          · replace X := X.mono (M' := none1) (fun y _ h => by
                obtain ⟨j, hj, h⟩ := h
                rcases MsL_or h with ⟨rfl, h0⟩ | h0
                · exact Bool.noConfusion (hj.symm.trans (hN 9 rfl))
                exact h0.elim)
            have e33 : s' 33 = (.int .i64 (toD a k.1 x)) := (H 2 rfl).2 33 (fun _ _ v _ => v = (.int .i64 (toD a k.1 x))) rfl (by rw [hFs6]; rfl)
            exact DoesT_pure (Eq.trans (r_geq (k := .i64) (a := toD a k.1 x) (b := 0) e33 rfl) (by rw [hp1])) rfl
          refine DagStepsS.cons (StabS.eq) (LocS.const) (fun S s' w' hi hN X U H => Or.inl ⟨Guarded_none rfl, ?_⟩) ?_
          · replace X := X.mono (M' := none1) (fun y _ h => by
                obtain ⟨j, hj, h⟩ := h
                rcases MsL_or h with ⟨rfl, h0⟩ | h0
                · exact Bool.noConfusion (hj.symm.trans (hN 9 rfl))
                exact h0.elim)
            have e34 : s' 34 = (.bool false) := (H 3 rfl).2 34 (fun _ _ v _ => v = (.bool false)) rfl (by rw [hFs6]; rfl)
            exact DoesT_pure (r_move (v := (.bool false)) e34) rfl
          refine DagStepsS.cons (StabS.eq) (LocS.const) (fun S s' w' hi hN X U H => Or.inl ⟨Guarded_some rfl rfl (d := 35) ((H 4 rfl).2 35 (fun _ _ v _ => v = (.bool false)) rfl (by rw [hFs6]; rfl)), ?_⟩) ?_
          · replace X := X.mono (M' := (fun y => (fun y => y = br) y)) (fun y _ h => by
                obtain ⟨j, hj, h⟩ := h
                rcases MsL_or h with ⟨rfl, h0⟩ | h0
                · exact h0
                exact h0.elim)
            exact DoesT_pure (r_indexArr (b := b9) (o := 0) (i := 1) (o' := 1) (U 9 rfl) rfl rfl Try.underlying75 siz3 (by omega) (by omega)) rfl
          refine DagStepsS.cons (StabS.eq) (LocS.const) (fun S s' w' hi hN X U H => Or.inl ⟨Guarded_some rfl rfl (d := 35) ((H 4 rfl).2 35 (fun _ _ v _ => v = (.bool false)) rfl (by rw [hFs6]; rfl)), ?_⟩) ?_
          · replace X := X.mono (M' := (fun y => (fun y => y = br) y)) (fun y _ h => by
                obtain ⟨j, hj, h⟩ := h
                rcases MsL_or h with ⟨rfl, h0⟩ | h0
                · exact h0
                exact h0.elim)
            have e36 : s' 36 = (.pointer (some ⟨b9, 1, none⟩)) := (H 5 rfl).2 36 (fun _ _ v _ => v = (.pointer (some ⟨b9, 1, none⟩))) rfl (by rw [hFs6]; rfl)
            exact DoesT_pure (r_load (v := (.int .i64 (toD b k.2 x))) e36 flat3 ((Chg.keep X (fun h => by dsimp only at h; omega) (X0.keep B9)).cell rfl)) rfl
          refine DagStepsS.cons (StabS.eq) (LocS.const) (fun S s' w' hi hN X U H => Or.inl ⟨Guarded_some rfl rfl (d := 35) ((H 4 rfl).2 35 (fun _ _ v _ => v = (.bool false)) rfl (by rw [hFs6]; rfl)), ?_⟩) ?_
          · replace X := X.mono (M' := (fun y => (fun y => y = br) y)) (fun y _ h => by
                obtain ⟨j, hj, h⟩ := h
                rcases MsL_or h with ⟨rfl, h0⟩ | h0
                · exact h0
                exact h0.elim)
            have e37 : s' 37 = (.int .i64 (toD b k.2 x)) := (H 6 rfl).2 37 (fun _ _ v _ => v = (.int .i64 (toD b k.2 x))) rfl (by rw [hFs6]; rfl)
            exact DoesT_pure (r_geq (k := .i64) (a := toD b k.2 x) (b := 0) e37 rfl) rfl
          refine DagStepsS.cons (StabS.eq) (LocS.const) (fun S s' w' hi hN X U H => Or.inl ⟨Guarded_none rfl, ?_⟩) ?_
          · replace X := X.mono (M' := (fun y => (fun y => y = br) y)) (fun y _ h => by
                obtain ⟨j, hj, h⟩ := h
                rcases MsL_or h with ⟨rfl, h0⟩ | h0
                · exact h0
                exact h0.elim)
            have e35 : s' 35 = (.bool false) := (H 4 rfl).2 35 (fun _ _ v _ => v = (.bool false)) rfl (by rw [hFs6]; rfl)
            have e38 : s' 38 = (.bool (decide ((0 : Int) ≤ toD b k.2 x))) := (H 7 rfl).2 38 (fun _ _ v _ => v = (.bool (decide ((0 : Int) ≤ toD b k.2 x)))) rfl (by rw [hFs6]; rfl)
            exact DoesT_pure (r_pick (b := false) (v := (.bool (decide ((0 : Int) ≤ toD b k.2 x)))) e35 e38) rfl
          refine DagStepsS.cons (StabS.chg (U := none1) (fun v w w' x h => Chg.keep x (fun h => h) h) (fun p y hp hw h => by
                rcases MsL_or h with ⟨rfl, h0⟩ | h0
                · exact absurd rfl hp
                exact h0.elim)) (LocS.const) (fun S s' w' hi hN X U H => Or.inl ⟨Guarded_none rfl, ?_⟩) ?_
          · replace X := X.mono (M' := none1) (fun y _ h => by
                obtain ⟨j, hj, h⟩ := h
                rcases MsL_or h with ⟨rfl, h0⟩ | h0
                · exact Bool.noConfusion (hj.symm.trans hi)
                exact h0.elim)
            have e31 : s' 31 = (.agg #[(.int .i64 (toD a k.1 x)), (.int .i64 (toD b k.2 x))]) := (H 0 rfl).2 31 (fun _ _ v _ => v = (.agg #[(.int .i64 (toD a k.1 x)), (.int .i64 (toD b k.2 x))])) rfl (by rw [hFs6]; rfl)
            exact DoesT_storeAgg (b := br) (o := 0) (n := 2) (U 7 rfl) e31 (by simp [Value.oneCell']) siz75 rfl ((X0.trans X).keep Br) (by simp) (by first | exact .inl ⟨rfl, rfl⟩ | exact .inr (.inl ⟨rfl, rfl⟩) | exact .inr (.inr (.inl ⟨rfl, rfl⟩))) (fun w9 h => by have h2 := h.blk; simpa using h2)
          refine DagStepsS.tail ?_
          exact DagStepsS.nil
        · intro s' wd6 w6 X0 X6 U H
          replace X6 := X6.mono (M' := (fun y => (fun y => y = br) y)) (fun y _ h => by
              obtain ⟨j, hj, h⟩ := h
              rcases MsL_or h with ⟨rfl, h0⟩ | h0
              · exact h0
              exact h0.elim)
          have e39 : s' 39 = (.bool (decide ((0 : Int) ≤ toD b k.2 x))) := H 8 rfl 39 (fun _ _ v _ => v = (.bool (decide ((0 : Int) ≤ toD b k.2 x)))) rfl (by rw [hFs6]; rfl)
          obtain B49 := (show ((fun _ _ => (fun _ w => Blk w br #[(.int .i64 (toD a k.1 x)), (.int .i64 (toD b k.2 x))] 75)) : FctS) (allS [true, true, true, true, true, true, true, true, true, true, false]) s' (s' 49) w6 from H 9 rfl 49 (fun _ _ => (fun _ w => Blk w br #[(.int .i64 (toD a k.1 x)), (.int .i64 (toD b k.2 x))] 75)) rfl (by rw [hFs6]; rfl))
          obtain ⟨j6, rfl⟩ := Fits.out (σ := s') (l := [(7, (.pointer (some ⟨br, 0, none⟩))), (39, (.bool (decide ((0 : Int) ≤ toD b k.2 x))))]) ⟨U 7 rfl, e39, trivial⟩
          clear U H
          replace Br := B49
          replace hBa := Chg.keep X6 (fun h => by dsimp only at h; omega) (X0.keep hBa)
          replace hBb := Chg.keep X6 (fun h => by dsimp only at h; omega) (X0.keep hBb)
          replace hBf := Chg.keep X6 (fun h => by dsimp only at h; omega) (X0.keep hBf)
          replace Bq := Chg.keep X6 (fun h => by dsimp only at h; omega) (X0.keep Bq)
          replace B9 := Chg.keep X6 (fun h => by dsimp only at h; omega) (X0.keep B9)
          replace E := (E.ext X0).step X6 (fun y hy h => by dsimp only at h; omega)
          refine WpL_val rfl rfl (by decide) (r_assign (v := (.bool (decide ((0 : Int) ≤ toD b k.2 x)))) rfl) ?_
          refine WpL_nil ?_
          refine thn_normal ?_
          refine Wp_ret ?_
          refine fin_agg_tmp Try.results117 (vs := [(.int .i64 (toD a k.1 x)), (.int .i64 (toD b k.2 x))]) (b := br) (v' := (.bool (decide ((0 : Int) ≤ toD b k.2 x)))) rfl agg75 siz75 rfl (Br.cells rfl) rfl ?_
          exact ⟨by unfold onP; rw [hbo]; simp [show ¬ (0 : Int) ≤ toD a k.1 x by omega], E⟩
theorem pairs2_c (w0 : World) (n m c : Nat) (a b : Dfa) (av bv : List Value) (both : Bool) (ba bb bf : Nat) (k : Int × Int) (oka : OkD n c a) (okb : OkD m c b) (ha : DfaAt w0 a av) (hb : DfaAt w0 b bv) (hBa : Blk w0 ba av.toArray 25) (hBb : Blk w0 bb bv.toArray 25) (hBf : Blk w0 bf #[.bool both] 4) (hk : k.1 < n ∧ k.2 < m) :
    Ret Try.prog 118 #[.agg #[.int .i64 k.1, .int .i64 k.2], .pointer (some ⟨ba, 0, none⟩), .pointer (some ⟨bb, 0, none⟩), .pointer (some ⟨bf, 0, none⟩)] w0 fun r w => r = .int .i64 (accP both a b k) ∧ Ext w0 w := by
  have ha' := ha
  have hb' := hb
  have hal := oka.al
  have hbl := okb.al
  obtain ⟨aa, ac, na, nc, rfl, _, _⟩ := ha'
  obtain ⟨aa2, ac2, na2, nc2, rfl, _, _⟩ := hb'
  obtain ⟨x, hx⟩ : ∃ x, x = atD a k.1 := ⟨_, rfl⟩
  obtain ⟨y, hy⟩ : ∃ y, y = atD b k.2 := ⟨_, rfl⟩
  refine Ret_of Try.func118 rfl Try.ntmps118 (Nat.le_of_ble_eq_true rfl) ?_
  have E : Chg none1 w0 w0 := Chg.refl _ _
  refine Wp_seq_region ?_
  refine s_box (v := (.agg #[(.int .i64 k.1), (.int .i64 k.2)])) (c := #[(.int .i64 k.1), (.int .i64 k.2)]) (by decide) rfl rfl ?_
  intro bq wq Nq
  have Fq := Nq.ge E
  have Oq_ba := Nq.lt hBa
  have Oq_bb := Nq.lt hBb
  have Oq_bf := Nq.lt hBf
  replace hBa := Nq.keep hBa
  replace hBb := Nq.keep hBb
  replace hBf := Nq.keep hBf
  replace E := E.ext Nq.ext
  have Bq := Nq.blk
  refine WpL_val rfl rfl (by decide) (r_assign (v := (.int .i64 0)) rfl) ?_
  refine WpL_nil ?_
  have hz_1 : w0.heap.size ≤ wq.heap.size := E.size
  have lz_1_ba : ba < wq.heap.size := hBa.lt
  have lz_1_bb : bb < wq.heap.size := hBb.lt
  have lz_1_bf : bf < wq.heap.size := hBf.lt
  have lz_1_bq : bq < wq.heap.size := Bq.lt
  refine Wp_seq ?_
  obtain ⟨Fs1, hFs1⟩ : ∃ Fs : List FctS, Fs = [(fun _ _ v _ => v = (.agg #[(.int .i64 a.start), (.slice aa a.accept.length ac), (.slice na a.next.length nc)])), (fun _ _ v _ => v = (.pointer (some ⟨bq, 0, none⟩))), (fun _ _ v _ => v = (.int .i64 k.1)), (fun _ _ v _ => v = (.int .i64 x)), (fun _ _ v _ => v = (.agg #[(.int .i64 b.start), (.slice aa2 b.accept.length ac2), (.slice na2 b.next.length nc2)])), (fun _ _ v _ => v = (.pointer (some ⟨bq, 1, none⟩))), (fun _ _ v _ => v = (.int .i64 k.2)), (fun _ _ v _ => v = (.int .i64 y)), (fun _ _ v _ => v = (.int .i64 x)), (fun _ _ v _ => v = (.int .i64 y))] := ⟨_, rfl⟩
  refine Wp_dagS (MsL []) [true, true, true, true, true, true, true, true, true, true] [] [8, 9, 10, 11, 12, 13, 14, 15, 6, 7] [[], [], [1], [0, 2], [], [], [5], [3, 4, 6], [0, 1, 2, 3, 7], [0, 1, 2, 3, 4, 5, 6, 7, 8]] [[], [], [1], [0, 2, 1], [], [], [5], [3, 0, 2, 1, 4, 6, 5], [0, 1, 2, 3, 7, 4, 6, 5], [0, 1, 2, 3, 4, 5, 6, 7, 8]] Fs1 hFs1 (by kernel_rfl) mixed (by kernel_rfl) (by kernel_rfl) (by kernel_rfl) (by kernel_rfl) ?_ ?_
  · intro wd X0
    refine DagStepsS.cons (StabS.eq) (LocS.const) (fun S s' w' hi hN X U H => Or.inl ⟨Guarded_none rfl, ?_⟩) ?_
    · replace X := X.mono (M' := none1) (fun y _ h => by
          obtain ⟨j, hj, h⟩ := h
          exact h.elim)
      exact DoesT_pure (r_loadAgg (vs := [(.int .i64 a.start), (.slice aa a.accept.length ac), (.slice na a.next.length nc)]) (U 1 rfl) agg25 siz25 rfl (((X0.trans X).keep hBa).cells rfl)) rfl
    refine DagStepsS.cons (StabS.eq) (LocS.const) (fun S s' w' hi hN X U H => Or.inl ⟨Guarded_none rfl, ?_⟩) ?_
    · replace X := X.mono (M' := none1) (fun y _ h => by
          obtain ⟨j, hj, h⟩ := h
          exact h.elim)
      exact DoesT_pure (r_indexArr (b := bq) (o := 0) (i := 0) (o' := 0) (U 4 rfl) rfl rfl Try.underlying75 siz3 (by omega) (by omega)) rfl
    refine DagStepsS.cons (StabS.eq) (LocS.const) (fun S s' w' hi hN X U H => Or.inl ⟨Guarded_none rfl, ?_⟩) ?_
    · replace X := X.mono (M' := none1) (fun y _ h => by
          obtain ⟨j, hj, h⟩ := h
          exact h.elim)
      have e9 : s' 9 = (.pointer (some ⟨bq, 0, none⟩)) := (H 1 rfl).2 9 (fun _ _ v _ => v = (.pointer (some ⟨bq, 0, none⟩))) rfl (by rw [hFs1]; rfl)
      exact DoesT_pure (r_load (v := (.int .i64 k.1)) e9 flat3 (((X0.trans X).keep Bq).cell rfl)) rfl
    refine DagStepsS.cons (StabS.eq) (LocS.const) (fun S s' w' hi hN X U H => Or.inl ⟨Guarded_none rfl, ?_⟩) ?_
    · replace X := X.mono (M' := none1) (fun y _ h => by
          obtain ⟨j, hj, h⟩ := h
          exact h.elim)
      have e8 : s' 8 = (.agg #[(.int .i64 a.start), (.slice aa a.accept.length ac), (.slice na a.next.length nc)]) := (H 0 rfl).2 8 (fun _ _ v _ => v = (.agg #[(.int .i64 a.start), (.slice aa a.accept.length ac), (.slice na a.next.length nc)])) rfl (by rw [hFs1]; rfl)
      have e10 : s' 10 = (.int .i64 k.1) := (H 2 rfl).2 10 (fun _ _ v _ => v = (.int .i64 k.1)) rfl (by rw [hFs1]; rfl)
      exact DoesT_callE (r_callF (vs := [(.agg #[(.int .i64 a.start), (.slice aa a.accept.length ac), (.slice na a.next.length nc)]), (.int .i64 k.1)]) Try.func67 nm67 bd67 (lst2 e8 e10)) ((dfat_c _ a _ k.1 (ha.ext (Ext.trans E (X0.trans X))) (by omega)).mono (fun v w h => ⟨by rw [hx]; exact h.1, h.2⟩))
    refine DagStepsS.cons (StabS.eq) (LocS.const) (fun S s' w' hi hN X U H => Or.inl ⟨Guarded_none rfl, ?_⟩) ?_
    · replace X := X.mono (M' := none1) (fun y _ h => by
          obtain ⟨j, hj, h⟩ := h
          exact h.elim)
      exact DoesT_pure (r_loadAgg (vs := [(.int .i64 b.start), (.slice aa2 b.accept.length ac2), (.slice na2 b.next.length nc2)]) (U 2 rfl) agg25 siz25 rfl (((X0.trans X).keep hBb).cells rfl)) rfl
    refine DagStepsS.cons (StabS.eq) (LocS.const) (fun S s' w' hi hN X U H => Or.inl ⟨Guarded_none rfl, ?_⟩) ?_
    · replace X := X.mono (M' := none1) (fun y _ h => by
          obtain ⟨j, hj, h⟩ := h
          exact h.elim)
      exact DoesT_pure (r_indexArr (b := bq) (o := 0) (i := 1) (o' := 1) (U 4 rfl) rfl rfl Try.underlying75 siz3 (by omega) (by omega)) rfl
    refine DagStepsS.cons (StabS.eq) (LocS.const) (fun S s' w' hi hN X U H => Or.inl ⟨Guarded_none rfl, ?_⟩) ?_
    · replace X := X.mono (M' := none1) (fun y _ h => by
          obtain ⟨j, hj, h⟩ := h
          exact h.elim)
      have e13 : s' 13 = (.pointer (some ⟨bq, 1, none⟩)) := (H 5 rfl).2 13 (fun _ _ v _ => v = (.pointer (some ⟨bq, 1, none⟩))) rfl (by rw [hFs1]; rfl)
      exact DoesT_pure (r_load (v := (.int .i64 k.2)) e13 flat3 (((X0.trans X).keep Bq).cell rfl)) rfl
    refine DagStepsS.cons (StabS.eq) (LocS.const) (fun S s' w' hi hN X U H => Or.inl ⟨Guarded_none rfl, ?_⟩) ?_
    · replace X := X.mono (M' := none1) (fun y _ h => by
          obtain ⟨j, hj, h⟩ := h
          exact h.elim)
      have e12 : s' 12 = (.agg #[(.int .i64 b.start), (.slice aa2 b.accept.length ac2), (.slice na2 b.next.length nc2)]) := (H 4 rfl).2 12 (fun _ _ v _ => v = (.agg #[(.int .i64 b.start), (.slice aa2 b.accept.length ac2), (.slice na2 b.next.length nc2)])) rfl (by rw [hFs1]; rfl)
      have e14 : s' 14 = (.int .i64 k.2) := (H 6 rfl).2 14 (fun _ _ v _ => v = (.int .i64 k.2)) rfl (by rw [hFs1]; rfl)
      exact DoesT_callE (r_callF (vs := [(.agg #[(.int .i64 b.start), (.slice aa2 b.accept.length ac2), (.slice na2 b.next.length nc2)]), (.int .i64 k.2)]) Try.func67 nm67 bd67 (lst2 e12 e14)) ((dfat_c _ b _ k.2 (hb.ext (Ext.trans E (X0.trans X))) (by omega)).mono (fun v w h => ⟨by rw [hy]; exact h.1, h.2⟩))
    refine DagStepsS.cons (StabS.eq) (LocS.const) (fun S s' w' hi hN X U H => Or.inl ⟨Guarded_none rfl, ?_⟩) ?_
    · replace X := X.mono (M' := none1) (fun y _ h => by
          obtain ⟨j, hj, h⟩ := h
          exact h.elim)
      have e11 : s' 11 = (.int .i64 x) := (H 3 rfl).2 11 (fun _ _ v _ => v = (.int .i64 x)) rfl (by rw [hFs1]; rfl)
      exact DoesT_pure (r_assign (v := (.int .i64 x)) e11) rfl
    refine DagStepsS.cons (StabS.eq) (LocS.const) (fun S s' w' hi hN X U H => Or.inl ⟨Guarded_none rfl, ?_⟩) ?_
    · replace X := X.mono (M' := none1) (fun y _ h => by
          obtain ⟨j, hj, h⟩ := h
          exact h.elim)
      have e15 : s' 15 = (.int .i64 y) := (H 7 rfl).2 15 (fun _ _ v _ => v = (.int .i64 y)) rfl (by rw [hFs1]; rfl)
      exact DoesT_pure (r_assign (v := (.int .i64 y)) e15) rfl
    exact DagStepsS.nil
  · intro s' wd1 w1 X0 X1 U H
    replace X1 := X1.mono (M' := none1) (fun y _ h => by
        obtain ⟨j, hj, h⟩ := h
        exact h.elim)
    have e6 : s' 6 = (.int .i64 x) := H 8 rfl 6 (fun _ _ v _ => v = (.int .i64 x)) rfl (by rw [hFs1]; rfl)
    have e7 : s' 7 = (.int .i64 y) := H 9 rfl 7 (fun _ _ v _ => v = (.int .i64 y)) rfl (by rw [hFs1]; rfl)
    obtain ⟨j1, rfl⟩ := Fits.out (σ := s') (l := [(3, (.pointer (some ⟨bf, 0, none⟩))), (6, (.int .i64 x)), (7, (.int .i64 y))]) ⟨U 3 rfl, e6, e7, trivial⟩
    clear U H
    replace hBa := (X0.trans X1).keep hBa
    replace hBb := (X0.trans X1).keep hBb
    replace hBf := (X0.trans X1).keep hBf
    replace Bq := (X0.trans X1).keep Bq
    replace X1 := X0.trans X1
    replace E := E.ext X1
    refine WpL_nil ?_
    refine thn_normal ?_
    refine Wp_seq ?_
    refine Wp_block ?_
    refine Wp_seq_region ?_
    refine WpL_val rfl rfl (by decide) (r_load (v := (.bool both)) rfl flat4 (hBf.cell rfl)) ?_
    refine WpL_val rfl rfl (by decide) (r_move (v := (.bool both)) rfl) ?_
    refine WpL_guard_any (oj := _) (gv := (.bool both)) (u := (bif both then (.int .i64 y) else undef)) rfl rfl (by decide) (by decide) rfl (by cases both <;> first | exact Or.inr ⟨Or.inl rfl, rfl⟩ | exact Or.inr ⟨Or.inr rfl, rfl⟩ | exact Or.inl ⟨rfl, r_move (v := (.int .i64 y)) rfl⟩) ?_
    obtain ⟨e2, he2⟩ : ∃ e, (decide ((y : Int) < 0)) = e := ⟨_, rfl⟩
    refine WpL_guard_any (oj := _) (gv := (.bool both)) (u := (bif both then (.bool e2) else undef)) rfl rfl (by decide) (by decide) rfl (by cases both <;> first | exact Or.inr ⟨Or.inl rfl, rfl⟩ | exact Or.inr ⟨Or.inr rfl, rfl⟩ | exact Or.inl ⟨rfl, (r_lss (k := .i64) (a := y) (b := 0) rfl rfl).trans (by rw [he2]; try rfl)⟩) ?_
    obtain ⟨e3, he3⟩ : ∃ e, (both && e2) = e := ⟨_, rfl⟩
    refine WpL_val rfl rfl (by decide) (r_pick (b := both) (v := .bool e3) rfl (by rw [← he3]; cases both <;> rfl)) ?_
    refine WpL_val rfl rfl (by decide) (r_assign (v := (.bool e3)) rfl) ?_
    refine WpL_nil ?_
    subst he3
    subst he2
    refine Wp_cond (b := (both && (decide ((y : Int) < 0)))) rfl (fun hq1 => ?_) (fun hq1 => ?_)
    · have khq1 := hq1
      refine Wp_seq_region ?_
      refine WpL_val rfl rfl (by decide) (r_assign (v := (.int .i64 (-1))) rfl) ?_
      refine WpL_nil ?_
      refine Wp_ret ?_
      refine inB_ret ?_
      refine thn_ret ?_
      refine fin_tmp Try.results118 (v := (.int .i64 (-1))) rfl ?_
      exact ⟨int_eq (by unfold accP jnP; rw [← hx, ← hy, if_pos khq1]), E⟩
    · have khq1 := hq1
      refine Wp_seq_region ?_
      refine WpL_val rfl rfl (by decide) (r_load (v := (.bool both)) rfl flat4 (hBf.cell rfl)) ?_
      refine WpL_val rfl rfl (by decide) (r_move (v := (.bool both)) rfl) ?_
      refine WpL_guard_any (oj := _) (gv := (.bool both)) (u := (bif both then undef else (.int .i64 x))) rfl rfl (by decide) (by decide) rfl (by cases both <;> first | exact Or.inr ⟨Or.inl rfl, rfl⟩ | exact Or.inr ⟨Or.inr rfl, rfl⟩ | exact Or.inl ⟨rfl, r_move (v := (.int .i64 x)) rfl⟩) ?_
      obtain ⟨e5, he5⟩ : ∃ e, (decide ((0 : Int) ≤ x)) = e := ⟨_, rfl⟩
      refine WpL_guard_any (oj := _) (gv := (.bool both)) (u := (bif both then undef else (.bool e5))) rfl rfl (by decide) (by decide) rfl (by cases both <;> first | exact Or.inr ⟨Or.inl rfl, rfl⟩ | exact Or.inr ⟨Or.inr rfl, rfl⟩ | exact Or.inl ⟨rfl, (r_geq (k := .i64) (a := x) (b := 0) rfl rfl).trans (by rw [he5]; try rfl)⟩) ?_
      obtain ⟨e6, he6⟩ : ∃ e, (both || e5) = e := ⟨_, rfl⟩
      refine WpL_val rfl rfl (by decide) (r_pick (b := both) (v := .bool e6) rfl (by rw [← he6]; cases both <;> rfl)) ?_
      refine WpL_val rfl rfl (by decide) (r_assign (v := (.bool e6)) rfl) ?_
      refine WpL_nil ?_
      subst he6
      subst he5
      refine Wp_cond (b := (both || (decide ((0 : Int) ≤ x)))) rfl (fun hq2 => ?_) (fun hq2 => ?_)
      · have khq2 := hq2
        refine Wp_seq_region ?_
        refine WpL_val rfl rfl (by decide) (r_move (v := (.int .i64 x)) rfl) ?_
        refine WpL_val rfl rfl (by decide) (r_assign (v := (.int .i64 x)) rfl) ?_
        refine WpL_nil ?_
        refine Wp_ret ?_
        refine inB_ret ?_
        refine thn_ret ?_
        refine fin_tmp Try.results118 (v := (.int .i64 x)) rfl ?_
        exact ⟨int_eq (by unfold accP jnP; rw [← hx, ← hy, if_neg (by rw [khq1]; decide), if_pos khq2]), E⟩
      · have khq2 := hq2
        refine Wp_skip ?_
        refine inB_normal ?_
        refine thn_normal ?_
        refine Wp_seq_region ?_
        refine WpL_val rfl rfl (by decide) (r_move (v := (.int .i64 y)) rfl) ?_
        refine WpL_val rfl rfl (by decide) (r_assign (v := (.int .i64 y)) rfl) ?_
        refine WpL_nil ?_
        refine Wp_ret ?_
        refine fin_tmp Try.results118 (v := (.int .i64 y)) rfl ?_
        exact ⟨int_eq (by unfold accP jnP; rw [← hx, ← hy, if_neg (by rw [khq1]; decide), if_neg (by rw [khq2]; decide)]), E⟩
def expG {α : Type} (c most : Nat) (stp : α → Nat → Option α) (acc : α → Int) (a0 : α) (base : Nat) : Fct := fun v w => ∃ D ea ec na nc vs, v = .agg #[.int .i64 D.start, .slice ea D.accept.length ec, .slice na D.next.length nc] ∧ ExpOf c most stp acc a0 D ∧ OutSt w base (.slice ea D.accept.length ec) (.slice na D.next.length nc) vs D.accept D.next
theorem expG_ext {α : Type} {c most : Nat} {stp : α → Nat → Option α} {acc : α → Int} {a0 : α} {base : Nat} : ∀ v w w', Ext w w' → expG c most stp acc a0 base v w → expG c most stp acc a0 base v w' := by
  rintro v w w' x ⟨D, ea, ec, na, nc, vs, h3, h2, h4⟩
  exact ⟨D, ea, ec, na, nc, vs, h3, h2, h4.ext x⟩
theorem expG_form {α : Type} {c most : Nat} {stp : α → Nat → Option α} {acc : α → Int} {a0 : α} {base : Nat} : ∀ u w, expG c most stp acc a0 base u w → ∃ vs : Array Value, u = .agg vs ∧ vs.size = 3 ∧ ∀ v ∈ vs.toList, v.oneCell' = true := by
  rintro u w ⟨D, ea, ec, na, nc, vs, h3, h2, h4⟩
  exact ⟨_, h3, rfl, by simp [Value.oneCell']⟩
/-- The blocks of an automaton hold numbers or rows, so none of them is a block of another type. -/
theorem OutSt.typ {w : World} {base b T : Nat} {E N : Value} {vs : List Value} {acc : List Int} {rows : List (List Int)} {c : Array Value} (h : OutSt w base E N vs acc rows) (hB : Blk w b c T) (h1 : T ≠ TDI) (h2 : T ≠ TDIs) : ¬ OutB E N vs b := by
  have own : ∀ {e n : Nat} {v : Value} {xs : List Value}, w.ownsRow base e 1 v n xs → v.ownBlock = some b → T = e := by
    intro e n v xs ho hv
    rcases ho.2 with ⟨rfl, _⟩ | ⟨g, cap, cur, rfl, _, hg, _⟩
    · cases hv
    · have hv' : g = b := Option.some.inj hv
      subst hv'
      unfold Blk at hB
      have hg' : w.heap[g]? = some (.cells cur e (0, 0)) := hg
      rw [hg'] at hB
      simp at hB
      exact hB.2.symm
  rintro (h3 | h3 | ⟨i, v, h3, h4⟩)
  · exact h1 (own h.e h3)
  · exact h2 (own h.n.o h3)
  · obtain ⟨p, hp⟩ := get_of_lt (l := rows.map iRow) (i := i) (by have := lt_of_get h3; have := h.n.len; omega)
    exact h1 (own (h.n.inn i v p h3 hp) h4)
theorem DfaOwn.low {b0 base : Nat} {D : Dfa} {r : Value} {w : World} (h : DfaOwn base D r w) (hb : b0 ≤ base) : DfaOwn b0 D r w := by
  obtain ⟨ea, ec, na, nc, vs, h1, h2⟩ := h
  exact ⟨ea, ec, na, nc, vs, h1, h2.low hb⟩
theorem OutSt.dfa {w : World} {base : Nat} {ea na : Option Addr} {ec nc : Nat} {vs : List Value} {D : Dfa} (h : OutSt w base (.slice ea D.accept.length ec) (.slice na D.next.length nc) vs D.accept D.next) : DfaAt w D [.int .i64 D.start, .slice ea D.accept.length ec, .slice na D.next.length nc] :=
  ⟨ea, ec, na, nc, rfl, own_intsD h.e rfl, h.intss⟩
theorem expG_keep {α : Type} {c most : Nat} {stp : α → Nat → Option α} {acc : α → Int} {a0 : α} {base b : Nat} {cs : Array Value} : ∀ u w w', Blk w b cs 25 → Chg (fun y => y = b) w w' → expG c most stp acc a0 base u w → expG c most stp acc a0 base u w' := by
  rintro u w w' hB x ⟨D, ea, ec, na, nc, vs, h3, h2, h4⟩
  exact ⟨D, ea, ec, na, nc, vs, h3, h2, h4.chg x (fun y hy h => OutSt.typ h4 hB (by decide) (by decide) (by have h' : y = b := h; rw [← h']; exact hy))⟩
theorem stpP_res (both : Bool) (a b : Dfa) (k : Int × Int) (x : Nat) : (stpP both a b k x).isSome = onP both (toD a k.1 x) (toD b k.2 x) ∧ ∀ q, stpP both a b k x = some q → (toD a k.1 x, toD b k.2 x) = q := by
  unfold stpP
  cases onP both (toD a k.1 x) (toD b k.2 x) with
  | true => exact ⟨rfl, fun q h => Option.some.inj h⟩
  | false => exact ⟨rfl, fun q h => by cases h⟩
set_option maxHeartbeats 2000000 in
theorem pairs_c (w0 : World) (n m c : Nat) (a b : Dfa) (av bv : List Value) (both : Bool) (oka : OkD n c a) (okb : OkD m c b) (ha : DfaAt w0 a av) (hb : DfaAt w0 b bv) (hc : 1 ≤ c ∧ c ≤ 16) (hnm : (n + 1) * (m + 1) ≤ 20000) (h1 : ∀ x ∈ a.accept, x < 2147483648) (h2 : ∀ x ∈ b.accept, x < 2147483648) :
    Ret Try.prog 94 #[.agg av.toArray, .agg bv.toArray, .bool both] w0 fun r w => (∃ C ca cc ma mc, CanOf c (fun w => jnP both (beh a a.start w) (beh b b.start w)) C ∧ C.next.length ≤ (n + 1) * (m + 1) ∧ (∀ x ∈ C.accept, x < 2147483648) ∧ r = .tuple #[.agg #[.int .i64 C.start, .slice ca C.accept.length cc, .slice ma C.next.length mc], .bool true] ∧ DfaNew w0.heap.size w C [.int .i64 C.start, .slice ca C.accept.length cc, .slice ma C.next.length mc]) ∧ Ext w0 w := by
  have ha' := ha
  have hb' := hb
  have hal := oka.al
  have hbl := okb.al
  have hnl := oka.nl
  have hst := oka.st
  obtain ⟨aa, ac, na, nc, rfl, hacc, hnxt⟩ := ha'
  obtain ⟨aa2, ac2, na2, nc2, rfl, _, _⟩ := hb'
  obtain ⟨nb, no, rfl, hnx⟩ := intss_cells (n := a.next.length) hnxt (by omega)
  obtain ⟨row, hrow⟩ := get_of_lt (l := a.next) (i := 0) (by omega)
  have hrl := (oka.row row (List.mem_of_getElem? hrow)).1
  obtain ⟨ra, rc, hcell, hri⟩ := hnx 0 row hrow
  rw [hrl] at hcell hri
  refine Ret_of Try.func94 rfl Try.ntmps94 (Nat.le_of_ble_eq_true rfl) ?_
  have E : Chg none1 w0 w0 := Chg.refl _ _
  refine Wp_seq_region ?_
  refine s_box (v := (.agg #[(.int .i64 a.start), (.slice aa a.accept.length ac), (.slice (some ⟨nb, no, none⟩) a.next.length nc)])) (c := #[(.int .i64 a.start), (.slice aa a.accept.length ac), (.slice (some ⟨nb, no, none⟩) a.next.length nc)]) (by decide) rfl rfl ?_
  intro bp wp Np
  have Fp := Np.ge E
  replace E := E.ext Np.ext
  have Bp := Np.blk
  refine s_box (v := (.agg #[(.int .i64 b.start), (.slice aa2 b.accept.length ac2), (.slice na2 b.next.length nc2)])) (c := #[(.int .i64 b.start), (.slice aa2 b.accept.length ac2), (.slice na2 b.next.length nc2)]) (by decide) rfl rfl ?_
  intro bq wq Nq
  have Fq := Nq.ge E
  have Oq_bp := Nq.lt Bp
  replace Bp := Nq.keep Bp
  replace E := E.ext Nq.ext
  have Bq := Nq.blk
  refine s_box (v := (.bool both)) (c := #[(.bool both)]) (by decide) rfl rfl ?_
  intro bf wf Nf
  have Ff := Nf.ge E
  have Of_bp := Nf.lt Bp
  have Of_bq := Nf.lt Bq
  replace Bp := Nf.keep Bp
  replace Bq := Nf.keep Bq
  replace E := E.ext Nf.ext
  have Bf := Nf.blk
  refine s_alloc (c := #[(.int .i64 0), (.slice none 0 0), (.slice none 0 0)]) (by decide) zer25 rfl ?_
  intro br wr Nr
  have Fr := Nr.ge E
  have Or_bp := Nr.lt Bp
  have Or_bq := Nr.lt Bq
  have Or_bf := Nr.lt Bf
  replace Bp := Nr.keep Bp
  replace Bq := Nr.keep Bq
  replace Bf := Nr.keep Bf
  replace E := E.ext Nr.ext
  have Br := Nr.blk
  refine WpL_val rfl rfl (by decide) (r_assign (v := (.bool false)) rfl) ?_
  refine WpL_nil ?_
  obtain ⟨n9, hn9⟩ : ∃ n9, n9 = (wr).heap.size := ⟨_, rfl⟩
  have hz_1 : w0.heap.size ≤ wr.heap.size := E.size
  have lz_1_bp : bp < wr.heap.size := Bp.lt
  have lz_1_bq : bq < wr.heap.size := Bq.lt
  have lz_1_bf : bf < wr.heap.size := Bf.lt
  have lz_1_br : br < wr.heap.size := Br.lt
  refine Wp_seq ?_
  obtain ⟨Fs1, hFs1⟩ : ∃ Fs : List FctS, Fs = [(fun _ _ v _ => v = (.pointer (some ⟨bp, 0, none⟩))), (fun _ _ v _ => v = (.int .i64 a.start)), (fun _ _ v _ => v = (.pointer (some ⟨bq, 0, none⟩))), (fun _ _ v _ => v = (.int .i64 b.start)), (fun _ _ v _ => v = (.agg #[(.int .i64 a.start), (.int .i64 b.start)])), (fun _ _ v _ => v = (.pointer (some ⟨bp, 2, none⟩))), (fun _ _ v _ => v = (.slice (some ⟨nb, no, none⟩) a.next.length nc)), (fun _ _ v _ => v = (.pointer (some ⟨nb, no + 0, none⟩))), (fun _ _ v _ => v = (.slice ra c rc)), (fun _ _ v _ => v = (.int .i64 ((c : Nat) : Int))), (fun _ _ v _ => v = (.func (.func 117) #[] #[(.pointer (some ⟨bp, 0, none⟩)), (.pointer (some ⟨bq, 0, none⟩)), (.pointer (some ⟨bf, 0, none⟩))])), (fun _ _ v _ => v = (.func (.func 118) #[] #[(.pointer (some ⟨bp, 0, none⟩)), (.pointer (some ⟨bq, 0, none⟩)), (.pointer (some ⟨bf, 0, none⟩))])), (fun S s v w => tupF 17 [(.bool true)] (expG c ((n + 1) * (m + 1)) (stpP both a b) (accP both a b) (a.start, b.start) n9) S s v w), (fun S s v w => tupF 17 [(.bool true)] (expG c ((n + 1) * (m + 1)) (stpP both a b) (accP both a b) (a.start, b.start) n9) S s v w), (fun S _ v w => S 17 = false → (expG c ((n + 1) * (m + 1)) (stpP both a b) (accP both a b) (a.start, b.start) n9) v w), (fun _ _ v _ => v = (.bool true)), (fun S _ v w => S 17 = false → ((alF 25 #[(.int .i64 0), (.slice none 0 0), (.slice none 0 0)] wr.heap.size)) v w), (fun S s v w => putF 8 wr.heap.size 25 (expG c ((n + 1) * (m + 1)) (stpP both a b) (accP both a b) (a.start, b.start) n9) S s v w), (fun _ _ v _ => v = undef)] := ⟨_, rfl⟩
  refine Wp_dagS (MsL [(17, (fun y => wr.heap.size ≤ y))]) [true, true, true, true, true, true, true, true, true, true, true, true, true, true, true, true, true, true, false] [18] [11, 12, 13, 14, 15, 16, 17, 18, 19, 20, 21, 22, 23, 10, 24, 25, 8, 48, 49] [[], [0], [], [2], [1, 3], [], [5], [6], [7], [8], [], [], [4, 9, 10, 11], [12], [13], [13], [], [0, 1, 2, 3, 4, 5, 6, 7, 8, 9, 10, 11, 12, 13, 14, 16], []] [[], [0], [], [2], [1, 0, 3, 2], [], [5], [6, 5], [7, 6, 5], [8, 7, 6, 5], [], [], [4, 1, 0, 3, 2, 9, 8, 7, 6, 5, 10, 11], [12, 4, 1, 0, 3, 2, 9, 8, 7, 6, 5, 10, 11], [13, 12, 4, 1, 0, 3, 2, 9, 8, 7, 6, 5, 10, 11], [13, 12, 4, 1, 0, 3, 2, 9, 8, 7, 6, 5, 10, 11], [], [0, 1, 2, 3, 4, 5, 6, 7, 8, 9, 10, 11, 12, 13, 14, 16], []] Fs1 hFs1 (by kernel_rfl) mixed (by kernel_rfl) (by kernel_rfl) (by kernel_rfl) (by kernel_rfl) ?_ ?_
  · intro wd X0
    refine DagStepsS.cons (StabS.eq) (LocS.const) (fun S s' w' hi hN X U H => Or.inl ⟨Guarded_none rfl, ?_⟩) ?_
    · replace X := X.mono (M' := none1) (fun y _ h => by
          obtain ⟨j, hj, h⟩ := h
          rcases MsL_or h with ⟨rfl, h0⟩ | h0
          · exact Bool.noConfusion (hj.symm.trans (hN 17 rfl))
          exact h0.elim)
      exact DoesT_pure (r_fieldAddr (b := bp) (o := 0) (o' := 0) (U 3 rfl) Try.underlying25 rfl siz3 rfl) rfl
    refine DagStepsS.cons (StabS.eq) (LocS.const) (fun S s' w' hi hN X U H => Or.inl ⟨Guarded_none rfl, ?_⟩) ?_
    · replace X := X.mono (M' := none1) (fun y _ h => by
          obtain ⟨j, hj, h⟩ := h
          rcases MsL_or h with ⟨rfl, h0⟩ | h0
          · exact Bool.noConfusion (hj.symm.trans (hN 17 rfl))
          exact h0.elim)
      have e11 : s' 11 = (.pointer (some ⟨bp, 0, none⟩)) := (H 0 rfl).2 11 (fun _ _ v _ => v = (.pointer (some ⟨bp, 0, none⟩))) rfl (by rw [hFs1]; rfl)
      exact DoesT_pure (r_load (v := (.int .i64 a.start)) e11 flat3 (((X0.trans X).keep Bp).cell rfl)) rfl
    refine DagStepsS.cons (StabS.eq) (LocS.const) (fun S s' w' hi hN X U H => Or.inl ⟨Guarded_none rfl, ?_⟩) ?_
    · replace X := X.mono (M' := none1) (fun y _ h => by
          obtain ⟨j, hj, h⟩ := h
          rcases MsL_or h with ⟨rfl, h0⟩ | h0
          · exact Bool.noConfusion (hj.symm.trans (hN 17 rfl))
          exact h0.elim)
      exact DoesT_pure (r_fieldAddr (b := bq) (o := 0) (o' := 0) (U 4 rfl) Try.underlying25 rfl siz3 rfl) rfl
    refine DagStepsS.cons (StabS.eq) (LocS.const) (fun S s' w' hi hN X U H => Or.inl ⟨Guarded_none rfl, ?_⟩) ?_
    · replace X := X.mono (M' := none1) (fun y _ h => by
          obtain ⟨j, hj, h⟩ := h
          rcases MsL_or h with ⟨rfl, h0⟩ | h0
          · exact Bool.noConfusion (hj.symm.trans (hN 17 rfl))
          exact h0.elim)
      have e13 : s' 13 = (.pointer (some ⟨bq, 0, none⟩)) := (H 2 rfl).2 13 (fun _ _ v _ => v = (.pointer (some ⟨bq, 0, none⟩))) rfl (by rw [hFs1]; rfl)
      exact DoesT_pure (r_load (v := (.int .i64 b.start)) e13 flat3 (((X0.trans X).keep Bq).cell rfl)) rfl
    refine DagStepsS.cons (StabS.eq) (LocS.const) (fun S s' w' hi hN X U H => Or.inl ⟨Guarded_none rfl, ?_⟩) ?_
    · replace X := X.mono (M' := none1) (fun y _ h => by
          obtain ⟨j, hj, h⟩ := h
          rcases MsL_or h with ⟨rfl, h0⟩ | h0
          · exact Bool.noConfusion (hj.symm.trans (hN 17 rfl))
          exact h0.elim)
      have e12 : s' 12 = (.int .i64 a.start) := (H 1 rfl).2 12 (fun _ _ v _ => v = (.int .i64 a.start)) rfl (by rw [hFs1]; rfl)
      have e14 : s' 14 = (.int .i64 b.start) := (H 3 rfl).2 14 (fun _ _ v _ => v = (.int .i64 b.start)) rfl (by rw [hFs1]; rfl)
      exact DoesT_pure (r_build (ps := [(0, (.int .i64 a.start)), (1, (.int .i64 b.start))]) (v := (.agg #[(.int .i64 a.start), (.int .i64 b.start)])) (bld2 e12 e14) (by kernel_rfl)) rfl
    refine DagStepsS.cons (StabS.eq) (LocS.const) (fun S s' w' hi hN X U H => Or.inl ⟨Guarded_none rfl, ?_⟩) ?_
    · replace X := X.mono (M' := none1) (fun y _ h => by
          obtain ⟨j, hj, h⟩ := h
          rcases MsL_or h with ⟨rfl, h0⟩ | h0
          · exact Bool.noConfusion (hj.symm.trans (hN 17 rfl))
          exact h0.elim)
      exact DoesT_pure (r_fieldAddr (b := bp) (o := 0) (o' := 2) (U 3 rfl) Try.underlying25 rfl siz23 rfl) rfl
    refine DagStepsS.cons (StabS.eq) (LocS.const) (fun S s' w' hi hN X U H => Or.inl ⟨Guarded_none rfl, ?_⟩) ?_
    · replace X := X.mono (M' := none1) (fun y _ h => by
          obtain ⟨j, hj, h⟩ := h
          rcases MsL_or h with ⟨rfl, h0⟩ | h0
          · exact Bool.noConfusion (hj.symm.trans (hN 17 rfl))
          exact h0.elim)
      have e16 : s' 16 = (.pointer (some ⟨bp, 2, none⟩)) := (H 5 rfl).2 16 (fun _ _ v _ => v = (.pointer (some ⟨bp, 2, none⟩))) rfl (by rw [hFs1]; rfl)
      exact DoesT_pure (r_load (v := (.slice (some ⟨nb, no, none⟩) a.next.length nc)) e16 flat23 (((X0.trans X).keep Bp).cell rfl)) rfl
    refine DagStepsS.cons (StabS.eq) (LocS.const) (fun S s' w' hi hN X U H => Or.inl ⟨Guarded_none rfl, ?_⟩) ?_
    · replace X := X.mono (M' := none1) (fun y _ h => by
          obtain ⟨j, hj, h⟩ := h
          rcases MsL_or h with ⟨rfl, h0⟩ | h0
          · exact Bool.noConfusion (hj.symm.trans (hN 17 rfl))
          exact h0.elim)
      have e17 : s' 17 = (.slice (some ⟨nb, no, none⟩) a.next.length nc) := (H 6 rfl).2 17 (fun _ _ v _ => v = (.slice (some ⟨nb, no, none⟩) a.next.length nc)) rfl (by rw [hFs1]; rfl)
      exact DoesT_pure (r_indexSlice (b := nb) (o := no) (len := a.next.length) (cap := nc) (i := 0) (o' := no + 0) e17 rfl rfl Try.underlying23 siz22 (by omega) (by omega)) rfl
    refine DagStepsS.cons (StabS.eq) (LocS.const) (fun S s' w' hi hN X U H => Or.inl ⟨Guarded_none rfl, ?_⟩) ?_
    · replace X := X.mono (M' := none1) (fun y _ h => by
          obtain ⟨j, hj, h⟩ := h
          rcases MsL_or h with ⟨rfl, h0⟩ | h0
          · exact Bool.noConfusion (hj.symm.trans (hN 17 rfl))
          exact h0.elim)
      have e18 : s' 18 = (.pointer (some ⟨nb, no + 0, none⟩)) := (H 7 rfl).2 18 (fun _ _ v _ => v = (.pointer (some ⟨nb, no + 0, none⟩))) rfl (by rw [hFs1]; rfl)
      exact DoesT_pure (r_load (v := (.slice ra c rc)) e18 flat22 ((Ext.trans E (X0.trans X)).cell hcell)) rfl
    refine DagStepsS.cons (StabS.eq) (LocS.const) (fun S s' w' hi hN X U H => Or.inl ⟨Guarded_none rfl, ?_⟩) ?_
    · replace X := X.mono (M' := none1) (fun y _ h => by
          obtain ⟨j, hj, h⟩ := h
          rcases MsL_or h with ⟨rfl, h0⟩ | h0
          · exact Bool.noConfusion (hj.symm.trans (hN 17 rfl))
          exact h0.elim)
      have e19 : s' 19 = (.slice ra c rc) := (H 8 rfl).2 19 (fun _ _ v _ => v = (.slice ra c rc)) rfl (by rw [hFs1]; rfl)
      exact DoesT_pure (r_lenSlice (ad := ra) (n := c) (cap := rc) Try.underlying22 e19) rfl
    refine DagStepsS.cons (StabS.eq) (LocS.const) (fun S s' w' hi hN X U H => Or.inl ⟨Guarded_none rfl, ?_⟩) ?_
    · replace X := X.mono (M' := none1) (fun y _ h => by
          obtain ⟨j, hj, h⟩ := h
          rcases MsL_or h with ⟨rfl, h0⟩ | h0
          · exact Bool.noConfusion (hj.symm.trans (hN 17 rfl))
          exact h0.elim)
      exact DoesT_pure (r_makeFunc (vs := []) (us := [(.pointer (some ⟨bp, 0, none⟩)), (.pointer (some ⟨bq, 0, none⟩)), (.pointer (some ⟨bf, 0, none⟩))]) rfl (lst3 (U 3 rfl) (U 4 rfl) (U 5 rfl))) rfl
    refine DagStepsS.cons (StabS.eq) (LocS.const) (fun S s' w' hi hN X U H => Or.inl ⟨Guarded_none rfl, ?_⟩) ?_
    · replace X := X.mono (M' := none1) (fun y _ h => by
          obtain ⟨j, hj, h⟩ := h
          rcases MsL_or h with ⟨rfl, h0⟩ | h0
          · exact Bool.noConfusion (hj.symm.trans (hN 17 rfl))
          exact h0.elim)
      exact DoesT_pure (r_makeFunc (vs := []) (us := [(.pointer (some ⟨bp, 0, none⟩)), (.pointer (some ⟨bq, 0, none⟩)), (.pointer (some ⟨bf, 0, none⟩))]) rfl (lst3 (U 3 rfl) (U 4 rfl) (U 5 rfl))) rfl
    refine DagStepsS.cons (StabS.tup (U := none1) (expG_ext) (fun p y hp hw hpc h => by
          rcases MsL_or h with ⟨rfl, h0⟩ | h0
          · exact absurd rfl hpc
          exact h0.elim)) (LocS.const) (fun S s' w' hi hN X U H => Or.inl ⟨Guarded_none rfl, ?_⟩) ?_
    · replace X := X.mono (M' := none1) (fun y _ h => by
          obtain ⟨j, hj, h⟩ := h
          rcases MsL_or h with ⟨rfl, h0⟩ | h0
          · exact Bool.noConfusion (hj.symm.trans (hN 17 rfl))
          exact h0.elim)
      have e15 : s' 15 = (.agg #[(.int .i64 a.start), (.int .i64 b.start)]) := (H 4 rfl).2 15 (fun _ _ v _ => v = (.agg #[(.int .i64 a.start), (.int .i64 b.start)])) rfl (by rw [hFs1]; rfl)
      have e20 : s' 20 = (.int .i64 ((c : Nat) : Int)) := (H 9 rfl).2 20 (fun _ _ v _ => v = (.int .i64 ((c : Nat) : Int))) rfl (by rw [hFs1]; rfl)
      have e21 : s' 21 = (.func (.func 117) #[] #[(.pointer (some ⟨bp, 0, none⟩)), (.pointer (some ⟨bq, 0, none⟩)), (.pointer (some ⟨bf, 0, none⟩))]) := (H 10 rfl).2 21 (fun _ _ v _ => v = (.func (.func 117) #[] #[(.pointer (some ⟨bp, 0, none⟩)), (.pointer (some ⟨bq, 0, none⟩)), (.pointer (some ⟨bf, 0, none⟩))])) rfl (by rw [hFs1]; rfl)
      have e22 : s' 22 = (.func (.func 118) #[] #[(.pointer (some ⟨bp, 0, none⟩)), (.pointer (some ⟨bq, 0, none⟩)), (.pointer (some ⟨bf, 0, none⟩))]) := (H 11 rfl).2 22 (fun _ _ v _ => v = (.func (.func 118) #[] #[(.pointer (some ⟨bp, 0, none⟩)), (.pointer (some ⟨bq, 0, none⟩)), (.pointer (some ⟨bf, 0, none⟩))])) rfl (by rw [hFs1]; rfl)
      exact DoesT_weakT (DoesT_callE (r_callF (vs := [(.agg #[(.int .i64 a.start), (.int .i64 b.start)]), (.int .i64 ((c : Nat) : Int)), (.func (.func 117) #[] #[(.pointer (some ⟨bp, 0, none⟩)), (.pointer (some ⟨bq, 0, none⟩)), (.pointer (some ⟨bf, 0, none⟩))]), (.func (.func 118) #[] #[(.pointer (some ⟨bp, 0, none⟩)), (.pointer (some ⟨bq, 0, none⟩)), (.pointer (some ⟨bf, 0, none⟩))]), (.int .i64 20000)]) Try.func116 nm116 bd116 (lst5 e15 e20 e21 e22 rfl)) (R := fun v w => ∃ u, v = .tuple (u :: [(.bool true)]).toArray ∧ (expG c ((n + 1) * (m + 1)) (stpP both a b) (accP both a b) (a.start, b.start) n9) u w) ((explP_c _ (a.start, b.start) c 20000 ((n + 1) * (m + 1)) _ _ (stpP both a b) (accP both a b) hc (by decide) hnm (few_pairs oka okb (Nat.le_refl _)) (fun k _ => accP_rng oka okb h1 h2 k) (fun w k x hE hr hx => CallV.mk (first := #[]) (cap := #[.pointer (some ⟨bp, 0, none⟩), .pointer (some ⟨bq, 0, none⟩), .pointer (some ⟨bf, 0, none⟩)]) Try.func117 nm117 bd117 rfl ((pairs1_c w n m c a b _ _ both bp bq bf k x oka okb (ha.ext (Ext.trans E ((X0.trans X).trans hE))) (hb.ext (Ext.trans E ((X0.trans X).trans hE))) (((X0.trans X).trans hE).keep Bp) (((X0.trans X).trans hE).keep Bq) (((X0.trans X).trans hE).keep Bf) ⟨(rch_pairs oka okb hr).1.2, (rch_pairs oka okb hr).2.2⟩ hx).mono fun v w2 h => ⟨⟨(toD a k.1 x, toD b k.2 x), by rw [(stpP_res both a b k x).1]; exact h.1, (stpP_res both a b k x).2⟩, h.2⟩)) (fun w k hE hr => CallV.mk (first := #[]) (cap := #[.pointer (some ⟨bp, 0, none⟩), .pointer (some ⟨bq, 0, none⟩), .pointer (some ⟨bf, 0, none⟩)]) Try.func118 nm118 bd118 rfl (pairs2_c w n m c a b _ _ both bp bq bf k oka okb (ha.ext (Ext.trans E ((X0.trans X).trans hE))) (hb.ext (Ext.trans E ((X0.trans X).trans hE))) (((X0.trans X).trans hE).keep Bp) (((X0.trans X).trans hE).keep Bq) (((X0.trans X).trans hE).keep Bf) ⟨(rch_pairs oka okb hr).1.2, (rch_pairs oka okb hr).2.2⟩))).mono (fun v w h => by obtain ⟨⟨D, u, h3, h4, h5⟩, h6⟩ := h; obtain ⟨ea, ec, na, nc, vs, h7, h8⟩ := h5; exact ⟨⟨u, h4, D, ea, ec, na, nc, vs, h7, h3, h8.low (by have := X0.size; have := X.size; omega)⟩, h6⟩))) (fun v w h => by obtain ⟨u, h1, h2⟩ := h; exact ⟨u, h1, fun _ => h2⟩)
    refine DagStepsS.cons (StabS.tup (U := none1) (expG_ext) (fun p y hp hw hpc h => by
          rcases MsL_or h with ⟨rfl, h0⟩ | h0
          · exact absurd rfl hpc
          exact h0.elim)) (LocS.const) (fun S s' w' hi hN X U H => Or.inl ⟨Guarded_none rfl, ?_⟩) ?_
    · replace X := X.mono (M' := none1) (fun y _ h => by
          obtain ⟨j, hj, h⟩ := h
          rcases MsL_or h with ⟨rfl, h0⟩ | h0
          · exact Bool.noConfusion (hj.symm.trans (hN 17 rfl))
          exact h0.elim)
      exact DoesT_pure (r_move (v := s' 23) rfl) (by obtain ⟨u, h1, h2⟩ := (H 12 rfl).2 23 (fun S s v w => tupF 17 [(.bool true)] (expG c ((n + 1) * (m + 1)) (stpP both a b) (accP both a b) (a.start, b.start) n9) S s v w) rfl (by rw [hFs1]; rfl); exact ⟨u, h1, fun _ => h2 (hN 17 rfl)⟩)
    refine DagStepsS.cons (StabS.till (U := none1) (expG_ext) (fun p y hp hw hpc h => by
          rcases MsL_or h with ⟨rfl, h0⟩ | h0
          · exact absurd rfl hpc
          exact h0.elim)) (LocS.const) (fun S s' w' hi hN X U H => Or.inl ⟨Guarded_none rfl, ?_⟩) ?_
    · replace X := X.mono (M' := none1) (fun y _ h => by
          obtain ⟨j, hj, h⟩ := h
          rcases MsL_or h with ⟨rfl, h0⟩ | h0
          · exact Bool.noConfusion (hj.symm.trans (hN 17 rfl))
          exact h0.elim)
      obtain ⟨u9, e9, g9⟩ := (H 13 rfl).2 10 (fun S s v w => tupF 17 [(.bool true)] (expG c ((n + 1) * (m + 1)) (stpP both a b) (accP both a b) (a.start, b.start) n9) S s v w) rfl (by rw [hFs1]; rfl)
      exact DoesT_pure (r_extract (vs := (u9 :: [(.bool true)]).toArray) (v := u9) e9 rfl) (fun _ => g9 (hN 17 rfl))
    refine DagStepsS.cons (StabS.eq) (LocS.const) (fun S s' w' hi hN X U H => Or.inl ⟨Guarded_none rfl, ?_⟩) ?_
    · replace X := X.mono (M' := (fun y => (fun y => wr.heap.size ≤ y) y)) (fun y _ h => by
          obtain ⟨j, hj, h⟩ := h
          rcases MsL_or h with ⟨rfl, h0⟩ | h0
          · exact h0
          exact h0.elim)
      obtain ⟨u9, e9, _⟩ := (H 13 rfl).2 10 (fun S s v w => tupF 17 [(.bool true)] (expG c ((n + 1) * (m + 1)) (stpP both a b) (accP both a b) (a.start, b.start) n9) S s v w) rfl (by rw [hFs1]; rfl)
      exact DoesT_pure (r_extract (vs := (u9 :: [(.bool true)]).toArray) (v := (.bool true)) e9 rfl) rfl
    refine DagStepsS.cons (StabS.till (U := none1) (fun v w w' x h => alF_ext _ _ _ v w w' x h) (fun p y hp hw hpc h => by
          rcases MsL_or h with ⟨rfl, h0⟩ | h0
          · exact absurd rfl hpc
          exact h0.elim)) (LocS.const) (fun S s' w' hi hN X U H => Or.inl ⟨Guarded_none rfl, ?_⟩) ?_
    · replace X := X.mono (M' := none1) (fun y _ h => by
          obtain ⟨j, hj, h⟩ := h
          rcases MsL_or h with ⟨rfl, h0⟩ | h0
          · exact Bool.noConfusion (hj.symm.trans (hN 17 rfl))
          exact h0.elim)
      exact DoesT_weakT (DoesT_alloc (c := #[(.int .i64 0), (.slice none 0 0), (.slice none 0 0)]) (hs := wr.heap.size) zer25 rfl (by have := X0.size; have := X.size; omega)) (R' := fun v w => insS S 16 17 = false → (alF 25 #[(.int .i64 0), (.slice none 0 0), (.slice none 0 0)] wr.heap.size) v w) (fun _ _ h _ => h)
    refine DagStepsS.cons (StabS.put (expG_ext) (fun p y hp hw h => by
          rcases MsL_or h with ⟨rfl, h0⟩ | h0
          · exact absurd rfl hp
          exact h0.elim)) (LocS.put (j := 16) rfl rfl) (fun S s' w' hi hN X U H => Or.inl ⟨Guarded_none rfl, ?_⟩) ?_
    · replace X := X.mono (M' := none1) (fun y _ h => by
          obtain ⟨j, hj, h⟩ := h
          rcases MsL_or h with ⟨rfl, h0⟩ | h0
          · exact Bool.noConfusion (hj.symm.trans hi)
          exact h0.elim)
      obtain ⟨b9, e9, B9, l9⟩ := ((H 16 rfl).2 8 (fun S _ v w => S 17 = false → ((alF 25 #[(.int .i64 0), (.slice none 0 0), (.slice none 0 0)] wr.heap.size)) v w) rfl (by rw [hFs1]; rfl)) hi
      have g9 := ((H 14 rfl).2 24 (fun S _ v w => S 17 = false → (expG c ((n + 1) * (m + 1)) (stpP both a b) (accP both a b) (a.start, b.start) n9) v w) rfl (by rw [hFs1]; rfl)) hi
      exact DoesT_weakT (DoesT_bind (n := 3) e9 rfl g9 B9 rfl siz25 (expG_form) (expG_keep) (by exact .inl ⟨rfl, l9⟩)) (fun v w h => by obtain ⟨vs, h1, h2⟩ := h; exact ⟨b9, vs, e9, l9, h1, h2⟩)
    refine DagStepsS.tail ?_
    exact DagStepsS.nil
  · intro s' wd1 w1 X0 X1 U H
    replace X1 := X1.mono (M' := (fun y => (fun y => wr.heap.size ≤ y) y)) (fun y _ h => by
        obtain ⟨j, hj, h⟩ := h
        rcases MsL_or h with ⟨rfl, h0⟩ | h0
        · exact h0
        exact h0.elim)
    have e25 : s' 25 = (.bool true) := H 15 rfl 25 (fun _ _ v _ => v = (.bool true)) rfl (by rw [hFs1]; rfl)
    obtain ⟨b48, vs48, e48, l48, B48, g48⟩ := (show ((fun S s v w => putF 8 wr.heap.size 25 (expG c ((n + 1) * (m + 1)) (stpP both a b) (accP both a b) (a.start, b.start) n9) S s v w) : FctS) (allS [true, true, true, true, true, true, true, true, true, true, true, true, true, true, true, true, true, true, false]) s' (s' 48) w1 from H 17 rfl 48 (fun S s v w => putF 8 wr.heap.size 25 (expG c ((n + 1) * (m + 1)) (stpP both a b) (accP both a b) (a.start, b.start) n9) S s v w) rfl (by rw [hFs1]; rfl))
    obtain ⟨D48, ea48, ec48, na48, nc48, vs48, q48, p48, o48⟩ := g48
    cases q48
    obtain ⟨j1, rfl⟩ := Fits.out (σ := s') (l := [(6, (.pointer (some ⟨br, 0, none⟩))), (25, (.bool true)), (8, (.pointer (some ⟨b48, 0, none⟩)))]) ⟨U 6 rfl, e25, e48, trivial⟩
    clear U H
    replace Bp := Chg.keep X1 (fun h => by dsimp only at h; omega) (X0.keep Bp)
    replace Bq := Chg.keep X1 (fun h => by dsimp only at h; omega) (X0.keep Bq)
    replace Bf := Chg.keep X1 (fun h => by dsimp only at h; omega) (X0.keep Bf)
    replace Br := Chg.keep X1 (fun h => by dsimp only at h; omega) (X0.keep Br)
    replace E := (E.ext X0).step X1 (fun y hy h => by dsimp only at h; omega)
    refine WpL_val rfl rfl (by decide) (r_assign (v := (.bool true)) rfl) ?_
    refine WpL_nil ?_
    refine thn_normal ?_
    refine Wp_seq ?_
    refine Wp_seq_region ?_
    refine WpL_val rfl rfl (by decide) (r_move (v := (.bool true)) rfl) ?_
    refine WpL_val rfl rfl (by decide) (r_not (b := true) rfl) ?_
    refine WpL_nil ?_
    refine Wp_cond_false rfl ?_
    refine Wp_skip ?_
    refine thn_normal ?_
    refine Wp_seq_region ?_
    refine WpL_val rfl rfl (by decide) (r_loadAgg (vs := [(.int .i64 D48.start), (.slice ea48 D48.accept.length ec48), (.slice na48 D48.next.length nc48)]) rfl agg25 siz25 rfl (B48.cells rfl)) ?_
    obtain ⟨n10, hn10⟩ : ∃ n10, n10 = (w1).heap.size := ⟨_, rfl⟩
    have hn10b : w0.heap.size ≤ n10 ∧ br < n10 := ⟨by rw [hn10]; exact E.size, by rw [hn10]; exact Br.lt⟩
    refine WpL_enter rfl rfl (by decide) (r_callF (vs := [(.agg #[(.int .i64 D48.start), (.slice ea48 D48.accept.length ec48), (.slice na48 D48.next.length nc48)])]) Try.func56 nm56 bd56 rfl) (canon_f _ D48.next.length c D48 _ p48.ok o48.dfa ⟨by have := p48.most; omega, hc⟩ p48.acc) ?_
    rintro _ w99 ⟨⟨C, ca, cc, ma, mc, hC, hCl, hCa, rfl, hCN⟩, X99⟩
    replace Bp := X99.keep Bp
    replace Bq := X99.keep Bq
    replace Bf := X99.keep Bf
    replace Br := X99.keep Br
    replace B48 := X99.keep B48
    replace o48 := o48.ext X99
    replace E := E.ext X99
    rw [← hn10] at hCN
    refine s_storeAgg (b := br) (o := 0) (c' := #[(.int .i64 C.start), (.slice ca C.accept.length cc), (.slice ma C.next.length mc)]) rfl rfl (by simp [Value.oneCell']) siz25 rfl Br (by simp) rfl ?_
    intro w2 S2
    replace hCN := hCN.chg S2.chg fun y h => by have h' : y = br := h; omega
    replace Bp := S2.keep (by omega) Bp
    replace Bq := S2.keep (by omega) Bq
    replace Bf := S2.keep (by omega) Bf
    replace B48 := S2.keep (by omega) B48
    replace E := S2.step E (by first | exact Or.inl (by omega) | exact Or.inr rfl | exact Or.inr (by assumption) | exact Or.inr (by simp) | exact Or.inr (by omega) | exact Or.inr (by dsimp only; omega))
    replace Br := S2.blk
    refine WpL_val rfl rfl (by decide) (r_assign (v := (.bool true)) rfl) ?_
    refine WpL_nil ?_
    refine Wp_ret ?_
    refine fin_agg_tmp Try.results94 (vs := [(.int .i64 C.start), (.slice ca C.accept.length cc), (.slice ma C.next.length mc)]) (b := br) (v' := (.bool true)) rfl agg25 siz25 rfl (Br.cells rfl) rfl ?_
    exact ⟨⟨C, ca, cc, ma, mc, hC.congr (fun w hw => by rw [p48.start, p48.beh w hw]; exact behX_pairs both a b w (a.start, b.start)), by have := p48.most; omega, hCa, rfl, hCN.low hn10b.1⟩, E⟩
end Go.Proofs
namespace Go.Proofs
open Go Go.Eng Go.Sort
set_option maxRecDepth 100000
theorem okD_row0 {n c : Nat} {d : Dfa} {dv : List Value} {w : World} (ok : OkD n c d) (h : DfaAt w d dv) (hn : 1 ≤ n) : ∃ nb no nc aa ac ra rc, dv = [.int .i64 d.start, .slice aa d.accept.length ac, .slice (some ⟨nb, no, none⟩) d.next.length nc] ∧ w.cell? ⟨nb, no + 0, none⟩ = some (.slice ra c rc) := by
  have hnl := ok.nl
  obtain ⟨aa, ac, na, nc, rfl, hacc, hnxt⟩ := h
  obtain ⟨nb, no, rfl, hnx⟩ := intss_cells (n := d.next.length) hnxt (by omega)
  obtain ⟨row, hrow⟩ := get_of_lt (l := d.next) (i := 0) (by omega)
  have hrl := (ok.row row (List.mem_of_getElem? hrow)).1
  obtain ⟨ra, rc, hcell, _⟩ := hnx 0 row hrow
  rw [hrl] at hcell
  exact ⟨nb, no, nc, aa, ac, ra, rc, rfl, hcell⟩
set_option maxHeartbeats 2000000 in
theorem dftwo_c (w0 : World) (n m c : Nat) (a b : Dfa) (av bv : List Value) (both : Bool) (oka : OkD n c a) (okb : OkD m c b) (ha : DfaAt w0 a av) (hb : DfaAt w0 b bv) (hc : 1 ≤ c ∧ c ≤ 16) (hn : 1 ≤ n ∧ n ≤ 200) (hm : 1 ≤ m ∧ m ≤ 200) (hnm : (n + 1) * (m + 1) ≤ 200) (h1 : ∀ x ∈ a.accept, x < 2147483648) (h2 : ∀ x ∈ b.accept, x < 2147483648) :
    Ret Try.prog 68 #[.agg av.toArray, .agg bv.toArray, .bool both] w0 fun r w => CanE c (fun w => jnP both (beh a a.start w) (beh b b.start w)) ((n + 1) * (m + 1)) w0.heap.size r w ∧ Ext w0 w := by
  have hnl := oka.nl
  have hnl2 := okb.nl
  obtain ⟨nb, no, nc, aa, ac, ra, rc, rfl, hcell⟩ := okD_row0 oka ha hn.1
  obtain ⟨nb2, no2, nc2, aa2, ac2, ra2, rc2, rfl, hcell2⟩ := okD_row0 okb hb hm.1
  refine Ret_of Try.func68 rfl Try.ntmps68 (Nat.le_of_ble_eq_true rfl) ?_
  have E : Chg none1 w0 w0 := Chg.refl _ _
  refine Wp_seq_region ?_
  refine s_box (v := (.agg #[(.int .i64 a.start), (.slice aa a.accept.length ac), (.slice (some ⟨nb, no, none⟩) a.next.length nc)])) (c := #[(.int .i64 a.start), (.slice aa a.accept.length ac), (.slice (some ⟨nb, no, none⟩) a.next.length nc)]) (by decide) rfl rfl ?_
  intro bp wp Np
  have Fp := Np.ge E
  replace E := E.ext Np.ext
  have Bp := Np.blk
  refine s_box (v := (.agg #[(.int .i64 b.start), (.slice aa2 b.accept.length ac2), (.slice (some ⟨nb2, no2, none⟩) b.next.length nc2)])) (c := #[(.int .i64 b.start), (.slice aa2 b.accept.length ac2), (.slice (some ⟨nb2, no2, none⟩) b.next.length nc2)]) (by decide) rfl rfl ?_
  intro bq wq Nq
  have Fq := Nq.ge E
  have Oq_bp := Nq.lt Bp
  replace Bp := Nq.keep Bp
  replace E := E.ext Nq.ext
  have Bq := Nq.blk
  refine s_alloc (c := #[(.int .i64 0), (.slice none 0 0), (.slice none 0 0)]) (by decide) zer25 rfl ?_
  intro br wr Nr
  have Fr := Nr.ge E
  have Or_bp := Nr.lt Bp
  have Or_bq := Nr.lt Bq
  replace Bp := Nr.keep Bp
  replace Bq := Nr.keep Bq
  replace E := E.ext Nr.ext
  have Br := Nr.blk
  refine WpL_val rfl rfl (by decide) (r_assign (v := (.int .i64 0)) rfl) ?_
  refine WpL_nil ?_
  refine Wp_seq ?_
  refine Wp_seq_region ?_
  refine WpL_val rfl rfl (by decide) (r_loadAgg (vs := [(.int .i64 a.start), (.slice aa a.accept.length ac), (.slice (some ⟨nb, no, none⟩) a.next.length nc)]) rfl agg25 siz25 rfl (Bp.cells rfl)) ?_
  refine WpL_enter rfl rfl (by decide) (r_callF (vs := [(.agg #[(.int .i64 a.start), (.slice aa a.accept.length ac), (.slice (some ⟨nb, no, none⟩) a.next.length nc)])]) Try.func50 nm50 bd50 rfl) (dcheck_c _ a _ (ha.ext E)) ?_
  rintro _ w9 ⟨rfl, X9⟩
  replace Bp := X9.keep Bp
  replace Bq := X9.keep Bq
  replace Br := X9.keep Br
  replace E := E.ext X9
  refine WpL_val rfl rfl (by decide) (r_assign (v := (.int .i64 (checkD a))) rfl) ?_
  refine WpL_nil ?_
  refine Wp_seq_region ?_
  refine WpL_val rfl rfl (by decide) (r_move (v := (.int .i64 (checkD a))) rfl) ?_
  refine WpL_val rfl rfl (by decide) (r_neq (k := .i64) (a := checkD a) (b := 0) rfl rfl) ?_
  refine WpL_nil ?_
  have hc1 : (decide ((checkD a : Int) ≠ 0)) = false := decide_eq_false (by rw [okD_check oka hn hc]; decide)
  refine Wp_cond_false (congrArg Value.bool hc1) ?_
  refine Wp_skip ?_
  refine thn_normal ?_
  refine Wp_seq ?_
  refine Wp_seq_region ?_
  refine WpL_val rfl rfl (by decide) (r_loadAgg (vs := [(.int .i64 b.start), (.slice aa2 b.accept.length ac2), (.slice (some ⟨nb2, no2, none⟩) b.next.length nc2)]) rfl agg25 siz25 rfl (Bq.cells rfl)) ?_
  refine WpL_enter rfl rfl (by decide) (r_callF (vs := [(.agg #[(.int .i64 b.start), (.slice aa2 b.accept.length ac2), (.slice (some ⟨nb2, no2, none⟩) b.next.length nc2)])]) Try.func50 nm50 bd50 rfl) (dcheck_c _ b _ (hb.ext E)) ?_
  rintro _ w19 ⟨rfl, X19⟩
  replace Bp := X19.keep Bp
  replace Bq := X19.keep Bq
  replace Br := X19.keep Br
  replace E := E.ext X19
  refine WpL_val rfl rfl (by decide) (r_assign (v := (.int .i64 (checkD b))) rfl) ?_
  refine WpL_nil ?_
  refine Wp_seq_region ?_
  refine WpL_val rfl rfl (by decide) (r_move (v := (.int .i64 (checkD b))) rfl) ?_
  refine WpL_val rfl rfl (by decide) (r_neq (k := .i64) (a := checkD b) (b := 0) rfl rfl) ?_
  refine WpL_nil ?_
  have hc2 : (decide ((checkD b : Int) ≠ 0)) = false := decide_eq_false (by rw [okD_check okb hm hc]; decide)
  refine Wp_cond_false (congrArg Value.bool hc2) ?_
  refine Wp_skip ?_
  refine thn_normal ?_
  refine Wp_seq ?_
  refine Wp_seq_draw 10 mixed (by kernel_rfl) ?_
  intro w3 X3 _
  replace Bp := X3.keep Bp
  replace Bq := X3.keep Bq
  replace Br := X3.keep Br
  replace E := E.ext X3
  refine WpT_val rfl rfl (by decide) (r_fieldAddr (b := bp) (o := 0) (o' := 2) rfl Try.underlying25 rfl siz23 rfl) ?_
  refine WpT_val rfl rfl (by decide) (r_load (v := (.slice (some ⟨nb, no, none⟩) a.next.length nc)) rfl flat23 (Bp.cell rfl)) ?_
  refine WpT_val rfl rfl (by decide) (r_indexSlice (b := nb) (o := no) (len := a.next.length) (cap := nc) (i := 0) (o' := no + 0) rfl rfl rfl Try.underlying23 siz22 (by omega) (by omega)) ?_
  refine WpT_val rfl rfl (by decide) (r_load (v := (.slice ra c rc)) rfl flat22 (E.cell (fun f => f) hcell)) ?_
  refine WpT_val rfl rfl (by decide) (r_lenSlice (ad := ra) (n := c) (cap := rc) Try.underlying22 rfl) ?_
  refine WpT_val rfl rfl (by decide) (r_fieldAddr (b := bq) (o := 0) (o' := 2) rfl Try.underlying25 rfl siz23 rfl) ?_
  refine WpT_val rfl rfl (by decide) (r_load (v := (.slice (some ⟨nb2, no2, none⟩) b.next.length nc2)) rfl flat23 (Bq.cell rfl)) ?_
  refine WpT_val rfl rfl (by decide) (r_indexSlice (b := nb2) (o := no2) (len := b.next.length) (cap := nc2) (i := 0) (o' := no2 + 0) rfl rfl rfl Try.underlying23 siz22 (by omega) (by omega)) ?_
  refine WpT_val rfl rfl (by decide) (r_load (v := (.slice ra2 c rc2)) rfl flat22 (E.cell (fun f => f) hcell2)) ?_
  refine WpT_val rfl rfl (by decide) (r_lenSlice (ad := ra2) (n := c) (cap := rc2) Try.underlying22 rfl) ?_
  refine WpT_zero ?_
  refine WpL_val rfl rfl (by decide) (r_neq (k := .i64) (a := ((c : Nat) : Int)) (b := ((c : Nat) : Int)) rfl rfl) ?_
  refine WpL_nil ?_
  have hc4 : (decide ((((c : Nat) : Int) : Int) ≠ ((c : Nat) : Int))) = false := decide_eq_false (by omega)
  refine Wp_cond_false (congrArg Value.bool hc4) ?_
  refine Wp_skip ?_
  refine thn_normal ?_
  refine Wp_seq_region ?_
  refine WpL_val rfl rfl (by decide) (r_loadAgg (vs := [(.int .i64 a.start), (.slice aa a.accept.length ac), (.slice (some ⟨nb, no, none⟩) a.next.length nc)]) rfl agg25 siz25 rfl (Bp.cells rfl)) ?_
  refine WpL_val rfl rfl (by decide) (r_loadAgg (vs := [(.int .i64 b.start), (.slice aa2 b.accept.length ac2), (.slice (some ⟨nb2, no2, none⟩) b.next.length nc2)]) rfl agg25 siz25 rfl (Bq.cells rfl)) ?_
  refine WpL_val rfl rfl (by decide) (r_move (v := (.bool both)) rfl) ?_
  obtain ⟨n9, hn9⟩ : ∃ n9, n9 = (w3).heap.size := ⟨_, rfl⟩
  have hn9b : w0.heap.size ≤ n9 ∧ br < n9 := ⟨by rw [hn9]; exact E.size, by rw [hn9]; exact Br.lt⟩
  refine WpL_enter rfl rfl (by decide) (r_callF (vs := [(.agg #[(.int .i64 a.start), (.slice aa a.accept.length ac), (.slice (some ⟨nb, no, none⟩) a.next.length nc)]), (.agg #[(.int .i64 b.start), (.slice aa2 b.accept.length ac2), (.slice (some ⟨nb2, no2, none⟩) b.next.length nc2)]), (.bool both)]) Try.func94 nm94 bd94 rfl) (pairs_c _ n m c a b _ _ both oka okb (ha.ext E) (hb.ext E) hc (by omega) h1 h2) ?_
  rintro _ w99 ⟨⟨C, ca, cc, ma, mc, hC, hCl, hCa, rfl, hCN⟩, X99⟩
  replace Bp := X99.keep Bp
  replace Bq := X99.keep Bq
  replace Br := X99.keep Br
  replace E := E.ext X99
  rw [← hn9] at hCN
  refine WpL_val rfl rfl (by decide) (r_move (v := (.tuple #[(.agg #[(.int .i64 C.start), (.slice ca C.accept.length cc), (.slice ma C.next.length mc)]), (.bool true)])) rfl) ?_
  refine WpL_val rfl rfl (by decide) (r_extract (vs := #[(.agg #[(.int .i64 C.start), (.slice ca C.accept.length cc), (.slice ma C.next.length mc)]), (.bool true)]) (v := (.agg #[(.int .i64 C.start), (.slice ca C.accept.length cc), (.slice ma C.next.length mc)])) rfl rfl) ?_
  refine WpL_val rfl rfl (by decide) (r_extract (vs := #[(.agg #[(.int .i64 C.start), (.slice ca C.accept.length cc), (.slice ma C.next.length mc)]), (.bool true)]) (v := (.bool true)) rfl rfl) ?_
  refine s_allocStore (v := (.agg #[(.int .i64 C.start), (.slice ca C.accept.length cc), (.slice ma C.next.length mc)])) (c := #[(.int .i64 C.start), (.slice ca C.accept.length cc), (.slice ma C.next.length mc)]) (n := 3) (by decide) zer25 rfl siz25 rfl rfl rfl (by simp [Value.oneCell']) ?_
  intro bd wd Nd
  have Fd := Nd.ge E
  have Od_bp := Nd.lt Bp
  have Od_bq := Nd.lt Bq
  have Od_br := Nd.lt Br
  replace Bp := Nd.keep Bp
  replace Bq := Nd.keep Bq
  replace Br := Nd.keep Br
  replace hCN := hCN.chg Nd.ext fun b f => f.elim
  replace E := E.ext Nd.ext
  have Bd := Nd.blk
  refine WpL_val rfl rfl (by decide) (r_assign (v := (.bool true)) rfl) ?_
  refine WpL_nil ?_
  refine Wp_seq ?_
  refine Wp_seq_region ?_
  refine WpL_val rfl rfl (by decide) (r_move (v := (.bool true)) rfl) ?_
  refine WpL_val rfl rfl (by decide) (r_not (b := true) rfl) ?_
  refine WpL_val rfl rfl (by decide) (r_move (v := (.bool false)) rfl) ?_
  refine WpL_guard_yes (oj := _) rfl rfl (by decide) rfl ?_
  refine WpL_val rfl rfl (by decide) (r_fieldAddr (b := bd) (o := 0) (o' := 2) rfl Try.underlying25 rfl siz23 rfl) ?_
  refine WpL_guard_yes (oj := _) rfl rfl (by decide) rfl ?_
  refine WpL_val rfl rfl (by decide) (r_load (v := (.slice ma C.next.length mc)) rfl flat23 (Bd.cell rfl)) ?_
  refine WpL_guard_yes (oj := _) rfl rfl (by decide) rfl ?_
  refine WpL_val rfl rfl (by decide) (r_lenSlice (ad := ma) (n := C.next.length) (cap := mc) Try.underlying23 rfl) ?_
  refine WpL_guard_yes (oj := _) rfl rfl (by decide) rfl ?_
  obtain ⟨e5, he5⟩ : ∃ e, (decide ((200 : Int) < ((C.next.length : Nat) : Int))) = e := ⟨_, rfl⟩
  refine WpL_val rfl rfl (by decide) ((r_gtr (k := .i64) (a := ((C.next.length : Nat) : Int)) (b := 200) rfl rfl).trans (by rw [he5]; try rfl)) ?_
  refine WpL_val rfl rfl (by decide) (r_pick (b := false) (v := (.bool e5)) rfl rfl) ?_
  refine WpL_nil ?_
  subst he5
  have hc6 : ((decide ((200 : Int) < ((C.next.length : Nat) : Int)))) = false := decide_eq_false (by omega)
  refine Wp_cond_false (congrArg Value.bool hc6) ?_
  refine Wp_skip ?_
  refine thn_normal ?_
  refine Wp_seq_region ?_
  refine WpL_val rfl rfl (by decide) (r_loadAgg (vs := [(.int .i64 C.start), (.slice ca C.accept.length cc), (.slice ma C.next.length mc)]) rfl agg25 siz25 rfl (Bd.cells rfl)) ?_
  refine s_storeAgg (b := br) (o := 0) (c' := #[(.int .i64 C.start), (.slice ca C.accept.length cc), (.slice ma C.next.length mc)]) rfl rfl (by simp [Value.oneCell']) siz25 rfl Br (by simp) rfl ?_
  intro w7 S7
  replace hCN := hCN.chg S7.chg fun y h => by have h' : y = br := h; omega
  replace Bp := S7.keep (by omega) Bp
  replace Bq := S7.keep (by omega) Bq
  replace Bd := S7.keep (by omega) Bd
  replace E := S7.step E (by first | exact Or.inl (by omega) | exact Or.inr rfl | exact Or.inr (by assumption) | exact Or.inr (by simp) | exact Or.inr (by omega) | exact Or.inr (by dsimp only; omega))
  replace Br := S7.blk
  refine WpL_val rfl rfl (by decide) (r_assign (v := (.int .i64 0)) rfl) ?_
  refine WpL_nil ?_
  refine Wp_ret ?_
  refine fin_agg_tmp Try.results68 (vs := [(.int .i64 C.start), (.slice ca C.accept.length cc), (.slice ma C.next.length mc)]) (b := br) (v' := (.int .i64 0)) rfl agg25 siz25 rfl (Br.cells rfl) rfl ?_
  exact ⟨⟨C, ca, cc, ma, mc, hC, hCl, hCa, rfl, hCN.low hn9b.1⟩, E⟩
theorem dfBoth_c (w0 : World) (n m c : Nat) (a b : Dfa) (av bv : List Value) (oka : OkD n c a) (okb : OkD m c b) (ha : DfaAt w0 a av) (hb : DfaAt w0 b bv) (hc : 1 ≤ c ∧ c ≤ 16) (hn : 1 ≤ n ∧ n ≤ 200) (hm : 1 ≤ m ∧ m ≤ 200) (hnm : (n + 1) * (m + 1) ≤ 200) (h1 : ∀ x ∈ a.accept, x < 2147483648) (h2 : ∀ x ∈ b.accept, x < 2147483648) :
    Ret Try.prog 33 #[.agg av.toArray, .agg bv.toArray] w0 fun r w => CanE c (fun w => jnP true (beh a a.start w) (beh b b.start w)) ((n + 1) * (m + 1)) w0.heap.size r w ∧ Ext w0 w := by
  have ha' := ha
  have hb' := hb
  obtain ⟨aa, ac, na, nc, rfl, _, _⟩ := ha'
  obtain ⟨aa2, ac2, na2, nc2, rfl, _, _⟩ := hb'
  refine Ret_of Try.func33 rfl Try.ntmps33 (Nat.le_of_ble_eq_true rfl) ?_
  have E : Chg none1 w0 w0 := Chg.refl _ _
  refine Wp_seq_region ?_
  refine s_box (v := (.agg #[(.int .i64 a.start), (.slice aa a.accept.length ac), (.slice na a.next.length nc)])) (c := #[(.int .i64 a.start), (.slice aa a.accept.length ac), (.slice na a.next.length nc)]) (by decide) rfl rfl ?_
  intro bp wp Np
  have Fp := Np.ge E
  replace E := E.ext Np.ext
  have Bp := Np.blk
  refine s_box (v := (.agg #[(.int .i64 b.start), (.slice aa2 b.accept.length ac2), (.slice na2 b.next.length nc2)])) (c := #[(.int .i64 b.start), (.slice aa2 b.accept.length ac2), (.slice na2 b.next.length nc2)]) (by decide) rfl rfl ?_
  intro bq wq Nq
  have Fq := Nq.ge E
  have Oq_bp := Nq.lt Bp
  replace Bp := Nq.keep Bp
  replace E := E.ext Nq.ext
  have Bq := Nq.blk
  refine s_alloc (c := #[(.int .i64 0), (.slice none 0 0), (.slice none 0 0)]) (by decide) zer25 rfl ?_
  intro br wr Nr
  have Fr := Nr.ge E
  have Or_bp := Nr.lt Bp
  have Or_bq := Nr.lt Bq
  replace Bp := Nr.keep Bp
  replace Bq := Nr.keep Bq
  replace E := E.ext Nr.ext
  have Br := Nr.blk
  refine WpL_val rfl rfl (by decide) (r_assign (v := (.int .i64 0)) rfl) ?_
  refine WpL_nil ?_
  refine Wp_seq_region ?_
  refine WpL_val rfl rfl (by decide) (r_loadAgg (vs := [(.int .i64 a.start), (.slice aa a.accept.length ac), (.slice na a.next.length nc)]) rfl agg25 siz25 rfl (Bp.cells rfl)) ?_
  refine WpL_val rfl rfl (by decide) (r_loadAgg (vs := [(.int .i64 b.start), (.slice aa2 b.accept.length ac2), (.slice na2 b.next.length nc2)]) rfl agg25 siz25 rfl (Bq.cells rfl)) ?_
  obtain ⟨n9, hn9⟩ : ∃ n9, n9 = (wr).heap.size := ⟨_, rfl⟩
  have hn9b : w0.heap.size ≤ n9 ∧ br < n9 := ⟨by rw [hn9]; exact E.size, by rw [hn9]; exact Br.lt⟩
  refine WpL_enter rfl rfl (by decide) (r_callF (vs := [(.agg #[(.int .i64 a.start), (.slice aa a.accept.length ac), (.slice na a.next.length nc)]), (.agg #[(.int .i64 b.start), (.slice aa2 b.accept.length ac2), (.slice na2 b.next.length nc2)]), (.bool true)]) Try.func68 nm68 bd68 rfl) (dftwo_c _ n m c a b _ _ true oka okb (ha.ext E) (hb.ext E) hc hn hm hnm h1 h2) ?_
  rintro _ w99 ⟨⟨C, ca, cc, ma, mc, hC, hCl, hCa, rfl, hCN⟩, X99⟩
  replace Bp := X99.keep Bp
  replace Bq := X99.keep Bq
  replace Br := X99.keep Br
  replace E := E.ext X99
  rw [← hn9] at hCN
  refine WpL_val rfl rfl (by decide) (r_extract (vs := #[(.agg #[(.int .i64 C.start), (.slice ca C.accept.length cc), (.slice ma C.next.length mc)]), (.int .i64 0)]) (v := (.agg #[(.int .i64 C.start), (.slice ca C.accept.length cc), (.slice ma C.next.length mc)])) rfl rfl) ?_
  refine WpL_val rfl rfl (by decide) (r_extract (vs := #[(.agg #[(.int .i64 C.start), (.slice ca C.accept.length cc), (.slice ma C.next.length mc)]), (.int .i64 0)]) (v := (.int .i64 0)) rfl rfl) ?_
  refine s_storeAgg (b := br) (o := 0) (c' := #[(.int .i64 C.start), (.slice ca C.accept.length cc), (.slice ma C.next.length mc)]) rfl rfl (by simp [Value.oneCell']) siz25 rfl Br (by simp) rfl ?_
  intro w1 S1
  replace hCN := hCN.chg S1.chg fun y h => by have h' : y = br := h; omega
  replace Bp := S1.keep (by omega) Bp
  replace Bq := S1.keep (by omega) Bq
  replace E := S1.step E (by first | exact Or.inl (by omega) | exact Or.inr rfl | exact Or.inr (by assumption) | exact Or.inr (by simp) | exact Or.inr (by omega) | exact Or.inr (by dsimp only; omega))
  replace Br := S1.blk
  refine WpL_val rfl rfl (by decide) (r_assign (v := (.int .i64 0)) rfl) ?_
  refine WpL_nil ?_
  refine Wp_ret ?_
  refine fin_agg_tmp Try.results33 (vs := [(.int .i64 C.start), (.slice ca C.accept.length cc), (.slice ma C.next.length mc)]) (b := br) (v' := (.int .i64 0)) rfl agg25 siz25 rfl (Br.cells rfl) rfl ?_
  exact ⟨⟨C, ca, cc, ma, mc, hC, hCl, hCa, rfl, hCN.low hn9b.1⟩, E⟩
theorem dfEither_c (w0 : World) (n m c : Nat) (a b : Dfa) (av bv : List Value) (oka : OkD n c a) (okb : OkD m c b) (ha : DfaAt w0 a av) (hb : DfaAt w0 b bv) (hc : 1 ≤ c ∧ c ≤ 16) (hn : 1 ≤ n ∧ n ≤ 200) (hm : 1 ≤ m ∧ m ≤ 200) (hnm : (n + 1) * (m + 1) ≤ 200) (h1 : ∀ x ∈ a.accept, x < 2147483648) (h2 : ∀ x ∈ b.accept, x < 2147483648) :
    Ret Try.prog 34 #[.agg av.toArray, .agg bv.toArray] w0 fun r w => CanE c (fun w => jnP false (beh a a.start w) (beh b b.start w)) ((n + 1) * (m + 1)) w0.heap.size r w ∧ Ext w0 w := by
  have ha' := ha
  have hb' := hb
  obtain ⟨aa, ac, na, nc, rfl, _, _⟩ := ha'
  obtain ⟨aa2, ac2, na2, nc2, rfl, _, _⟩ := hb'
  refine Ret_of Try.func34 rfl Try.ntmps34 (Nat.le_of_ble_eq_true rfl) ?_
  have E : Chg none1 w0 w0 := Chg.refl _ _
  refine Wp_seq_region ?_
  refine s_box (v := (.agg #[(.int .i64 a.start), (.slice aa a.accept.length ac), (.slice na a.next.length nc)])) (c := #[(.int .i64 a.start), (.slice aa a.accept.length ac), (.slice na a.next.length nc)]) (by decide) rfl rfl ?_
  intro bp wp Np
  have Fp := Np.ge E
  replace E := E.ext Np.ext
  have Bp := Np.blk
  refine s_box (v := (.agg #[(.int .i64 b.start), (.slice aa2 b.accept.length ac2), (.slice na2 b.next.length nc2)])) (c := #[(.int .i64 b.start), (.slice aa2 b.accept.length ac2), (.slice na2 b.next.length nc2)]) (by decide) rfl rfl ?_
  intro bq wq Nq
  have Fq := Nq.ge E
  have Oq_bp := Nq.lt Bp
  replace Bp := Nq.keep Bp
  replace E := E.ext Nq.ext
  have Bq := Nq.blk
  refine s_alloc (c := #[(.int .i64 0), (.slice none 0 0), (.slice none 0 0)]) (by decide) zer25 rfl ?_
  intro br wr Nr
  have Fr := Nr.ge E
  have Or_bp := Nr.lt Bp
  have Or_bq := Nr.lt Bq
  replace Bp := Nr.keep Bp
  replace Bq := Nr.keep Bq
  replace E := E.ext Nr.ext
  have Br := Nr.blk
  refine WpL_val rfl rfl (by decide) (r_assign (v := (.int .i64 0)) rfl) ?_
  refine WpL_nil ?_
  refine Wp_seq_region ?_
  refine WpL_val rfl rfl (by decide) (r_loadAgg (vs := [(.int .i64 a.start), (.slice aa a.accept.length ac), (.slice na a.next.length nc)]) rfl agg25 siz25 rfl (Bp.cells rfl)) ?_
  refine WpL_val rfl rfl (by decide) (r_loadAgg (vs := [(.int .i64 b.start), (.slice aa2 b.accept.length ac2), (.slice na2 b.next.length nc2)]) rfl agg25 siz25 rfl (Bq.cells rfl)) ?_
  obtain ⟨n9, hn9⟩ : ∃ n9, n9 = (wr).heap.size := ⟨_, rfl⟩
  have hn9b : w0.heap.size ≤ n9 ∧ br < n9 := ⟨by rw [hn9]; exact E.size, by rw [hn9]; exact Br.lt⟩
  refine WpL_enter rfl rfl (by decide) (r_callF (vs := [(.agg #[(.int .i64 a.start), (.slice aa a.accept.length ac), (.slice na a.next.length nc)]), (.agg #[(.int .i64 b.start), (.slice aa2 b.accept.length ac2), (.slice na2 b.next.length nc2)]), (.bool false)]) Try.func68 nm68 bd68 rfl) (dftwo_c _ n m c a b _ _ false oka okb (ha.ext E) (hb.ext E) hc hn hm hnm h1 h2) ?_
  rintro _ w99 ⟨⟨C, ca, cc, ma, mc, hC, hCl, hCa, rfl, hCN⟩, X99⟩
  replace Bp := X99.keep Bp
  replace Bq := X99.keep Bq
  replace Br := X99.keep Br
  replace E := E.ext X99
  rw [← hn9] at hCN
  refine WpL_val rfl rfl (by decide) (r_extract (vs := #[(.agg #[(.int .i64 C.start), (.slice ca C.accept.length cc), (.slice ma C.next.length mc)]), (.int .i64 0)]) (v := (.agg #[(.int .i64 C.start), (.slice ca C.accept.length cc), (.slice ma C.next.length mc)])) rfl rfl) ?_
  refine WpL_val rfl rfl (by decide) (r_extract (vs := #[(.agg #[(.int .i64 C.start), (.slice ca C.accept.length cc), (.slice ma C.next.length mc)]), (.int .i64 0)]) (v := (.int .i64 0)) rfl rfl) ?_
  refine s_storeAgg (b := br) (o := 0) (c' := #[(.int .i64 C.start), (.slice ca C.accept.length cc), (.slice ma C.next.length mc)]) rfl rfl (by simp [Value.oneCell']) siz25 rfl Br (by simp) rfl ?_
  intro w1 S1
  replace hCN := hCN.chg S1.chg fun y h => by have h' : y = br := h; omega
  replace Bp := S1.keep (by omega) Bp
  replace Bq := S1.keep (by omega) Bq
  replace E := S1.step E (by first | exact Or.inl (by omega) | exact Or.inr rfl | exact Or.inr (by assumption) | exact Or.inr (by simp) | exact Or.inr (by omega) | exact Or.inr (by dsimp only; omega))
  replace Br := S1.blk
  refine WpL_val rfl rfl (by decide) (r_assign (v := (.int .i64 0)) rfl) ?_
  refine WpL_nil ?_
  refine Wp_ret ?_
  refine fin_agg_tmp Try.results34 (vs := [(.int .i64 C.start), (.slice ca C.accept.length cc), (.slice ma C.next.length mc)]) (b := br) (v' := (.int .i64 0)) rfl agg25 siz25 rfl (Br.cells rfl) rfl ?_
  exact ⟨⟨C, ca, cc, ma, mc, hC, hCl, hCa, rfl, hCN.low hn9b.1⟩, E⟩
end Go.Proofs
namespace Go.Proofs
open Go Go.Eng Go.Sort
set_option maxRecDepth 100000
set_option maxHeartbeats 400000 in
theorem eqrows_c (w0 : World) (v1 v2 : Value) (l1 l2 : List (List Int)) (h1 : IntssAt w0 v1 l1) (h2 : IntssAt w0 v2 l2) (n1 n2 : Nat) (a1 a2 : Option Addr) (c1 c2 : Nat) (e1 : v1 = .slice a1 n1 c1) (e2 : v2 = .slice a2 n2 c2) (hn1 : l1.length = n1) (hn2 : l2.length = n2) (hb : n1 ≤ 20000) :
    Ret Try.prog 62 #[v1, v2, .func (.func 28) #[] #[]] w0 fun v w => v = .bool (decide (l1 = l2)) ∧ Ext w0 w := by
  subst e1; subst e2
  refine Ret_of Try.func62 rfl Try.ntmps62 (Nat.le_of_ble_eq_true rfl) ?_
  have E : Chg none1 w0 w0 := Chg.refl _ _
  refine Wp_seq_region ?_
  refine WpL_val rfl rfl (by decide) (r_assign (v := (.bool false)) rfl) ?_
  refine WpL_nil ?_
  refine Wp_seq ?_
  refine Wp_seq_region ?_
  refine WpL_val rfl rfl (by decide) (r_move (v := (.slice a1 n1 c1)) rfl) ?_
  refine WpL_val rfl rfl (by decide) (r_lenSlice (ad := a1) (n := n1) (cap := c1) Try.underlying23 rfl) ?_
  refine WpL_val rfl rfl (by decide) (r_move (v := (.slice a2 n2 c2)) rfl) ?_
  refine WpL_val rfl rfl (by decide) (r_lenSlice (ad := a2) (n := n2) (cap := c2) Try.underlying23 rfl) ?_
  refine WpL_val rfl rfl (by decide) (r_neq (k := .i64) (a := ((n1 : Nat) : Int)) (b := ((n2 : Nat) : Int)) rfl rfl) ?_
  refine WpL_nil ?_
  refine Wp_cond (b := decide ((((n1 : Nat) : Int) : Int) ≠ ((n2 : Nat) : Int))) rfl (fun hl => ?_) (fun hl => ?_)
  · have khl := hl
    replace hl := of_decide_eq_true hl
    refine Wp_seq_region ?_
    refine WpL_val rfl rfl (by decide) (r_assign (v := (.bool false)) rfl) ?_
    refine WpL_nil ?_
    refine Wp_ret ?_
    refine thn_ret ?_
    refine fin_tmp Try.results62 (v := (.bool false)) rfl ?_
    exact ⟨bool_eq (by symm; rw [decide_eq_false_iff_not]; intro h; rw [h] at hn1; omega), E⟩
  · have khl := hl
    replace hl := of_decide_eq_false hl
    refine Wp_skip ?_
    refine thn_normal ?_
    refine Wp_seq ?_
    refine Wp_seq_region ?_
    refine WpL_val rfl rfl (by decide) (r_move (v := (.slice a1 n1 c1)) rfl) ?_
    refine WpL_val rfl rfl (by decide) (r_lenSlice (ad := a1) (n := n1) (cap := c1) Try.underlying23 rfl) ?_
    refine WpL_val rfl rfl (by decide) (r_move (v := (.int .i64 0)) rfl) ?_
    refine WpL_nil ?_
    refine Wp_block ?_
    refine Wp_loop (fun nn_ σ W2 => ∃ (k : Nat), (∃ jj_, σ = upds jj_ [(1, (.slice a2 n2 c2)), (2, (.func (.func 28) #[] #[])), (15, (.slice a1 n1 c1)), (16, (.int .i64 ((n1 : Nat) : Int))), (17, (.int .i64 ((k : Nat) : Int)))]) ∧ Chg none1 w0 W2 ∧ (k ≤ n1) ∧ (∀ (i : Nat), i < k → l1[i]? = l2[i]?) ∧ nn_ = n1 - k) (n := n1 - 0) ?_ ?_
    · exact ⟨0, Fits.out ⟨rfl, rfl, rfl, rfl, rfl, trivial⟩, E, Nat.zero_le _, (fun i h => absurd h (Nat.not_lt_zero _)), rfl⟩
    · clear E
      rintro _ _ W2 ⟨k, ⟨j2, rfl⟩, E, hk, heq, rfl⟩
      refine Wp_seq_region ?_
      refine WpL_val rfl rfl (by decide) (r_lss (k := .i64) (a := ((k : Nat) : Int)) (b := ((n1 : Nat) : Int)) rfl rfl) ?_
      refine WpL_nil ?_
      refine Wp_seq ?_
      refine Wp_cond (b := decide ((((k : Nat) : Int) : Int) < ((n1 : Nat) : Int))) rfl (fun hlt => ?_) (fun hlt => ?_)
      · have khlt := hlt
        replace hlt := of_decide_eq_true hlt
        obtain ⟨p, hp⟩ := get_of_lt (l := l1) (i := k) (by omega)
        obtain ⟨q, hq⟩ := get_of_lt (l := l2) (i := k) (by omega)
        obtain ⟨b1, o1, rfl, hc1⟩ := intss_cells h1 (by omega)
        obtain ⟨b2, o2, rfl, hc2⟩ := intss_cells h2 (by omega)
        obtain ⟨ra1, rc1, hx1, hi1⟩ := hc1 k p hp
        obtain ⟨ra2, rc2, hx2, hi2⟩ := hc2 k q hq
        refine Wp_skip ?_
        refine thn_normal ?_
        refine Wp_seq ?_
        refine Wp_block ?_
        refine Wp_seq_region ?_
        refine WpL_val rfl rfl (by decide) (r_move (v := (.int .i64 ((k : Nat) : Int))) rfl) ?_
        refine WpL_val rfl rfl (by decide) (r_indexSlice (b := b1) (o := o1) (len := n1) (cap := c1) (i := k) (o' := o1 + k) rfl rfl rfl Try.underlying23 siz22 (by omega) (by omega)) ?_
        refine WpL_val rfl rfl (by decide) (r_load (v := (.slice ra1 p.length rc1)) rfl flat22 (E.cell (fun f => f) hx1)) ?_
        refine WpL_val rfl rfl (by decide) (r_assign (v := (.int .i64 ((k : Nat) : Int))) rfl) ?_
        refine WpL_val rfl rfl (by decide) (r_assign (v := (.slice ra1 p.length rc1)) rfl) ?_
        refine WpL_nil ?_
        refine Wp_seq_region ?_
        refine WpL_val rfl rfl (by decide) (r_move (v := (.slice (some ⟨b2, o2, none⟩) n2 c2)) rfl) ?_
        refine WpL_val rfl rfl (by decide) (r_move (v := (.int .i64 ((k : Nat) : Int))) rfl) ?_
        refine WpL_val rfl rfl (by decide) (r_indexSlice (b := b2) (o := o2) (len := n2) (cap := c2) (i := k) (o' := o2 + k) rfl rfl rfl Try.underlying23 siz22 (by omega) (by omega)) ?_
        refine WpL_val rfl rfl (by decide) (r_load (v := (.slice ra2 q.length rc2)) rfl flat22 (E.cell (fun f => f) hx2)) ?_
        refine WpL_val rfl rfl (by decide) (r_assign (v := (.slice ra2 q.length rc2)) rfl) ?_
        refine WpL_nil ?_
        refine Wp_seq_region ?_
        refine WpL_val rfl rfl (by decide) (r_move (v := (.func (.func 28) #[] #[])) rfl) ?_
        refine WpL_val rfl rfl (by decide) (r_move (v := (.slice ra1 p.length rc1)) rfl) ?_
        refine WpL_val rfl rfl (by decide) (r_move (v := (.slice ra2 q.length rc2)) rfl) ?_
        refine WpL_enter rfl rfl (by decide) (r_callV (first := #[]) (cap := #[]) (vs := [(.slice ra1 p.length rc1), (.slice ra2 q.length rc2)]) (ws := #[(.slice ra1 p.length rc1), (.slice ra2 q.length rc2)]) rfl Try.func28 nm28 bd28 rfl rfl) (eql2_c _ _ _ p q (hi1.ext E) (hi2.ext E)) ?_
        rintro _ w9 ⟨rfl, X9⟩
        replace E := E.ext X9
        refine WpL_val rfl rfl (by decide) (r_not (b := decide (p = q)) rfl) ?_
        refine WpL_nil ?_
        refine Wp_cond (b := !(decide (p = q))) rfl (fun hpq => ?_) (fun hpq => ?_)
        · have khpq := hpq
          replace hpq := by simpa using hpq
          refine Wp_seq_region ?_
          refine WpL_val rfl rfl (by decide) (r_assign (v := (.bool false)) rfl) ?_
          refine WpL_nil ?_
          refine Wp_ret ?_
          refine inB_ret ?_
          refine thn_ret ?_
          refine thn_ret ?_
          refine inB_ret ?_
          refine thn_ret ?_
          refine fin_tmp Try.results62 (v := (.bool false)) rfl ?_
          exact ⟨bool_eq (by symm; rw [decide_eq_false_iff_not]; intro h; rw [h] at hp; rw [hp] at hq; exact hpq (Option.some.inj hq)), E⟩
        · have khpq := hpq
          replace hpq := by simpa using hpq
          refine Wp_skip ?_
          refine inB_normal ?_
          refine thn_normal ?_
          refine Wp_region ?_
          refine WpL_val rfl rfl (by decide) (r_add (k := .i64) (a := ((k : Nat) : Int)) (b := 1) (c := ((k : Nat) : Int) + 1) rfl rfl (wI64 (by omega))) ?_
          refine WpL_val rfl rfl (by decide) (r_move (v := (.int .i64 (((k : Nat) : Int) + 1))) rfl) ?_
          refine WpL_nil ?_
          refine thn_normal ?_
          exact ⟨n1 - (k + 1), by omega, k + 1, Fits.out ⟨rfl, rfl, rfl, rfl, rfl, trivial⟩, E, (by omega), (fun i hi => by rcases Nat.lt_or_ge i k with h | h; exact heq i h; (have h' : i = k := by omega); subst h'; (have hpq' : p = q := by simpa using hpq); rw [hp, hq, hpq']), rfl⟩
      · have khlt := hlt
        replace hlt := of_decide_eq_false hlt
        refine Wp_exit ?_
        refine thn_exit ?_
        refine thn_exit ?_
        refine inB_here ?_
        refine thn_normal ?_
        refine Wp_seq_region ?_
        refine WpL_val rfl rfl (by decide) (r_assign (v := (.bool true)) rfl) ?_
        refine WpL_nil ?_
        refine Wp_ret ?_
        refine fin_tmp Try.results62 (v := (.bool true)) rfl ?_
        exact ⟨bool_eq (by symm; rw [decide_eq_true_iff]; apply List.ext_getElem?; intro i; rcases Nat.lt_or_ge i n1 with h | h; exact heq i (by omega); rw [List.getElem?_eq_none (by omega), List.getElem?_eq_none (by omega)]), E⟩
theorem dfa_eq_iff (a b : Dfa) : a = b ↔ a.start = b.start ∧ a.accept = b.accept ∧ a.next = b.next := by
  cases a; cases b; simp
instance : DecidableEq Dfa := fun a b => decidable_of_iff _ (dfa_eq_iff a b).symm
set_option maxHeartbeats 400000 in
theorem equalD_c (w0 : World) (a b : Dfa) (av bv : List Value) (ha : DfaAt w0 a av) (hb : DfaAt w0 b bv) (hn : a.next.length ≤ 20000) :
    Ret Try.prog 25 #[.agg av.toArray, .agg bv.toArray] w0 fun v w => v = .bool (decide (a = b)) ∧ Ext w0 w := by
  obtain ⟨aa, ac, na, nc, rfl, hA, hR⟩ := ha
  obtain ⟨aa2, ac2, na2, nc2, rfl, hA2, hR2⟩ := hb
  refine Ret_of Try.func25 rfl Try.ntmps25 (Nat.le_of_ble_eq_true rfl) ?_
  have E : Chg none1 w0 w0 := Chg.refl _ _
  refine Wp_seq_region ?_
  refine s_box (v := (.agg #[(.int .i64 a.start), (.slice aa a.accept.length ac), (.slice na a.next.length nc)])) (c := #[(.int .i64 a.start), (.slice aa a.accept.length ac), (.slice na a.next.length nc)]) (by decide) rfl rfl ?_
  intro bp wp Np
  have Fp := Np.ge E
  replace E := E.ext Np.ext
  have Bp := Np.blk
  refine s_box (v := (.agg #[(.int .i64 b.start), (.slice aa2 b.accept.length ac2), (.slice na2 b.next.length nc2)])) (c := #[(.int .i64 b.start), (.slice aa2 b.accept.length ac2), (.slice na2 b.next.length nc2)]) (by decide) rfl rfl ?_
  intro bq wq Nq
  have Fq := Nq.ge E
  have Oq_bp := Nq.lt Bp
  replace Bp := Nq.keep Bp
  replace E := E.ext Nq.ext
  have Bq := Nq.blk
  refine WpL_val rfl rfl (by decide) (r_assign (v := (.bool false)) rfl) ?_
  refine WpL_nil ?_
  refine Wp_seq_region ?_
  refine WpL_val rfl rfl (by decide) (r_fieldAddr (b := bp) (o := 0) (o' := 0) rfl Try.underlying25 rfl siz3 rfl) ?_
  refine WpL_val rfl rfl (by decide) (r_load (v := (.int .i64 a.start)) rfl flat3 (Bp.cell rfl)) ?_
  refine WpL_val rfl rfl (by decide) (r_fieldAddr (b := bq) (o := 0) (o' := 0) rfl Try.underlying25 rfl siz3 rfl) ?_
  refine WpL_val rfl rfl (by decide) (r_load (v := (.int .i64 b.start)) rfl flat3 (Bq.cell rfl)) ?_
  refine WpL_val rfl rfl (by decide) (r_eql (k := .i64) (a := a.start) (b := b.start) rfl rfl) ?_
  refine WpL_val rfl rfl (by decide) (r_move (v := (.bool (decide ((a.start : Int) = b.start)))) rfl) ?_
  rcases Bool.eq_false_or_eq_true (decide ((a.start : Int) = b.start)) with hs | hs
  · have khs := hs
    replace khs := of_decide_eq_true khs
    refine WpL_guard_yes (oj := _) rfl rfl (by decide) (congrArg Value.bool hs) ?_
    refine WpL_val rfl rfl (by decide) (r_fieldAddr (b := bp) (o := 0) (o' := 1) rfl Try.underlying25 rfl siz22 rfl) ?_
    refine WpL_guard_yes (oj := _) rfl rfl (by decide) (congrArg Value.bool hs) ?_
    refine WpL_val rfl rfl (by decide) (r_load (v := (.slice aa a.accept.length ac)) rfl flat22 (Bp.cell rfl)) ?_
    refine WpL_guard_yes (oj := _) rfl rfl (by decide) (congrArg Value.bool hs) ?_
    refine WpL_val rfl rfl (by decide) (r_fieldAddr (b := bq) (o := 0) (o' := 1) rfl Try.underlying25 rfl siz22 rfl) ?_
    refine WpL_guard_yes (oj := _) rfl rfl (by decide) (congrArg Value.bool hs) ?_
    refine WpL_val rfl rfl (by decide) (r_load (v := (.slice aa2 b.accept.length ac2)) rfl flat22 (Bq.cell rfl)) ?_
    refine WpL_guard_yes (oj := _) rfl rfl (by decide) (congrArg Value.bool hs) ?_
    refine WpL_enter rfl rfl (by decide) (r_callF (vs := [(.slice aa a.accept.length ac), (.slice aa2 b.accept.length ac2)]) Try.func28 nm28 bd28 rfl) (eql2_c _ _ _ a.accept b.accept (hA.ext E) (hA2.ext E)) ?_
    rintro _ w9 ⟨rfl, X9⟩
    replace Bp := X9.keep Bp
    replace Bq := X9.keep Bq
    replace E := E.ext X9
    refine WpL_val rfl rfl (by decide) (r_pick (b := decide ((a.start : Int) = b.start)) (v := (.bool (decide (a.accept = b.accept)))) rfl (by rw [hs]; rfl)) ?_
    refine WpL_val rfl rfl (by decide) (r_move (v := (.bool (decide (a.accept = b.accept)))) rfl) ?_
    rcases Bool.eq_false_or_eq_true (decide (a.accept = b.accept)) with hac | hac
    · have khac := hac
      replace khac := of_decide_eq_true khac
      refine WpL_guard_yes (oj := _) rfl rfl (by decide) (congrArg Value.bool hac) ?_
      refine WpL_val rfl rfl (by decide) (r_fieldAddr (b := bp) (o := 0) (o' := 2) rfl Try.underlying25 rfl siz23 rfl) ?_
      refine WpL_guard_yes (oj := _) rfl rfl (by decide) (congrArg Value.bool hac) ?_
      refine WpL_val rfl rfl (by decide) (r_load (v := (.slice na a.next.length nc)) rfl flat23 (Bp.cell rfl)) ?_
      refine WpL_guard_yes (oj := _) rfl rfl (by decide) (congrArg Value.bool hac) ?_
      refine WpL_val rfl rfl (by decide) (r_fieldAddr (b := bq) (o := 0) (o' := 2) rfl Try.underlying25 rfl siz23 rfl) ?_
      refine WpL_guard_yes (oj := _) rfl rfl (by decide) (congrArg Value.bool hac) ?_
      refine WpL_val rfl rfl (by decide) (r_load (v := (.slice na2 b.next.length nc2)) rfl flat23 (Bq.cell rfl)) ?_
      refine WpL_guard_yes (oj := _) rfl rfl (by decide) (congrArg Value.bool hac) ?_
      refine WpL_enter rfl rfl (by decide) (r_callF (vs := [(.slice na a.next.length nc), (.slice na2 b.next.length nc2), (.func (.func 28) #[] #[])]) Try.func62 nm62 bd62 rfl) (eqrows_c _ _ _ a.next b.next (hR.ext E) (hR2.ext E) _ _ _ _ _ _ rfl rfl rfl rfl hn) ?_
      rintro _ w19 ⟨rfl, X19⟩
      replace Bp := X19.keep Bp
      replace Bq := X19.keep Bq
      replace E := E.ext X19
      refine WpL_val rfl rfl (by decide) (r_pick (b := decide (a.accept = b.accept)) (v := (.bool (decide (a.next = b.next)))) rfl (by rw [hac]; rfl)) ?_
      refine WpL_val rfl rfl (by decide) (r_assign (v := (.bool (decide (a.next = b.next)))) rfl) ?_
      refine WpL_nil ?_
      refine Wp_ret ?_
      refine fin_tmp Try.results25 (v := (.bool (decide (a.next = b.next)))) rfl ?_
      exact ⟨bool_eq (by rw [Bool.eq_iff_iff, decide_eq_true_iff, decide_eq_true_iff, dfa_eq_iff]; exact ⟨fun h => ⟨khs, khac, h⟩, fun h => h.2.2⟩), E⟩
    · have khac := hac
      replace khac := of_decide_eq_false khac
      refine WpL_guard_no (oj := _) rfl rfl (by decide) (v := .bool false) (congrArg Value.bool hac) (Or.inl rfl) ?_
      refine WpL_guard_no (oj := _) rfl rfl (by decide) (v := .bool false) (congrArg Value.bool hac) (Or.inl rfl) ?_
      refine WpL_guard_no (oj := _) rfl rfl (by decide) (v := .bool false) (congrArg Value.bool hac) (Or.inl rfl) ?_
      refine WpL_guard_no (oj := _) rfl rfl (by decide) (v := .bool false) (congrArg Value.bool hac) (Or.inl rfl) ?_
      refine WpL_guard_no (oj := _) rfl rfl (by decide) (v := .bool false) (congrArg Value.bool hac) (Or.inl rfl) ?_
      refine WpL_val rfl rfl (by decide) (r_pick (b := decide (a.accept = b.accept)) (v := (.bool false)) rfl (by rw [hac]; rfl)) ?_
      refine WpL_val rfl rfl (by decide) (r_assign (v := (.bool false)) rfl) ?_
      refine WpL_nil ?_
      refine Wp_ret ?_
      refine fin_tmp Try.results25 (v := (.bool false)) rfl ?_
      exact ⟨bool_eq (by symm; rw [decide_eq_false_iff_not]; intro h; rw [dfa_eq_iff] at h; exact khac h.2.1), E⟩
  · have khs := hs
    replace khs := of_decide_eq_false khs
    refine WpL_guard_no (oj := _) rfl rfl (by decide) (v := .bool false) (congrArg Value.bool hs) (Or.inl rfl) ?_
    refine WpL_guard_no (oj := _) rfl rfl (by decide) (v := .bool false) (congrArg Value.bool hs) (Or.inl rfl) ?_
    refine WpL_guard_no (oj := _) rfl rfl (by decide) (v := .bool false) (congrArg Value.bool hs) (Or.inl rfl) ?_
    refine WpL_guard_no (oj := _) rfl rfl (by decide) (v := .bool false) (congrArg Value.bool hs) (Or.inl rfl) ?_
    refine WpL_guard_no (oj := _) rfl rfl (by decide) (v := .bool false) (congrArg Value.bool hs) (Or.inl rfl) ?_
    refine WpL_val rfl rfl (by decide) (r_pick (b := decide ((a.start : Int) = b.start)) (v := (.bool false)) rfl (by rw [hs]; rfl)) ?_
    refine WpL_val rfl rfl (by decide) (r_move (v := (.bool false)) rfl) ?_
    refine WpL_guard_no (oj := _) rfl rfl (by decide) (v := .bool false) rfl (Or.inl rfl) ?_
    refine WpL_guard_no (oj := _) rfl rfl (by decide) (v := .bool false) rfl (Or.inl rfl) ?_
    refine WpL_guard_no (oj := _) rfl rfl (by decide) (v := .bool false) rfl (Or.inl rfl) ?_
    refine WpL_guard_no (oj := _) rfl rfl (by decide) (v := .bool false) rfl (Or.inl rfl) ?_
    refine WpL_guard_no (oj := _) rfl rfl (by decide) (v := .bool false) rfl (Or.inl rfl) ?_
    refine WpL_val rfl rfl (by decide) (r_pick (b := false) (v := (.bool false)) rfl rfl) ?_
    refine WpL_val rfl rfl (by decide) (r_assign (v := (.bool false)) rfl) ?_
    refine WpL_nil ?_
    refine Wp_ret ?_
    refine fin_tmp Try.results25 (v := (.bool false)) rfl ?_
    exact ⟨bool_eq (by symm; rw [decide_eq_false_iff_not]; intro h; rw [dfa_eq_iff] at h; exact khs h.1), E⟩
theorem emod_nat (x : Int) (t : Nat) (ht : 1 ≤ t) : ∃ y : Nat, x % (t : Int) = ((y : Nat) : Int) ∧ y < t := by
  have h1 := Int.emod_nonneg x (b := (t : Int)) (by omega)
  have h2 := Int.emod_lt_of_pos x (b := (t : Int)) (by omega)
  exact ⟨(x % (t : Int)).toNat, by omega, by omega⟩
theorem word_c (w0 : World) (v : Value) (l : List Int) (t m : Nat) (hl : IntsAt w0 v l) (ht : 1 ≤ t ∧ t ≤ 2000) (hm : m ≤ 4000) :
    Ret Try.prog 35 #[.int .i64 ((t : Nat) : Int), .int .i64 ((m : Nat) : Int), v] w0 fun r w => (∃ u a c, r = .slice a u.length c ∧ IntsAt w (.slice a u.length c) (toI u) ∧ inW t u ∧ u.length ≤ m) ∧ Ext w0 w := by
  obtain ⟨a0, c0, rfl⟩ := SlAt.form hl
  have hlen : l.length ≤ 9223372036854775807 := by simpa using SlAt.le hl
  simp only [List.length_map] at hl ⊢
  refine Ret_of Try.func35 rfl Try.ntmps35 (Nat.le_of_ble_eq_true rfl) ?_
  have E : Chg none1 w0 w0 := Chg.refl _ _
  refine Wp_seq_region ?_
  refine WpL_val rfl rfl (by decide) (r_assign (v := (.slice none 0 0)) rfl) ?_
  refine WpL_nil ?_
  refine Wp_seq_region ?_
  refine WpL_val rfl rfl (by decide) (r_assign (v := (.slice none 0 0)) rfl) ?_
  refine WpL_nil ?_
  refine Wp_seq ?_
  refine Wp_seq_region ?_
  refine WpL_val rfl rfl (by decide) (r_move (v := (.slice a0 l.length c0)) rfl) ?_
  refine WpL_val rfl rfl (by decide) (r_lenSlice (ad := a0) (n := l.length) (cap := c0) Try.underlying22 rfl) ?_
  refine WpL_val rfl rfl (by decide) (r_move (v := (.int .i64 0)) rfl) ?_
  refine WpL_nil ?_
  refine Wp_block ?_
  obtain ⟨n1, hn1⟩ : ∃ n1, n1 = w0.heap.size := ⟨_, rfl⟩
  refine Wp_loop (fun nn_ σ W1 => ∃ (k : Nat) (u : List Nat) (oa : Option Addr) (oc on : Nat), (∃ jj_, σ = upds jj_ [(0, (.int .i64 ((t : Nat) : Int))), (1, (.int .i64 ((m : Nat) : Int))), (10, (.slice a0 l.length c0)), (11, (.int .i64 ((l.length : Nat) : Int))), (12, (.int .i64 ((k : Nat) : Int))), (7, (.slice oa on oc))]) ∧ Chg none1 w0 W1 ∧ (k ≤ l.length) ∧ (on = u.length) ∧ (inW t u ∧ u.length ≤ m) ∧ (W1.ownsRow n1 TDI 1 (.slice oa on oc) on ((toI u).map (Value.int .i64))) ∧ (n1 ≤ W1.heap.size) ∧ nn_ = l.length - k) (n := l.length - 0) ?_ ?_
  · exact ⟨0, [], none, 0, 0, Fits.out ⟨rfl, rfl, rfl, rfl, rfl, rfl, trivial⟩, E, Nat.zero_le _, rfl, ⟨inW.nil t, Nat.zero_le _⟩, World.ownsRow_nil _ _ _ _, (by omega), rfl⟩
  · clear E
    rintro _ _ W1 ⟨k, u, oa, oc, on, ⟨j1, rfl⟩, E, hk, hon, hu, hO, hsz, rfl⟩
    refine Wp_seq_region ?_
    refine WpL_val rfl rfl (by decide) (r_lss (k := .i64) (a := ((k : Nat) : Int)) (b := ((l.length : Nat) : Int)) rfl rfl) ?_
    refine WpL_nil ?_
    refine Wp_seq ?_
    refine Wp_cond (b := decide ((((k : Nat) : Int) : Int) < ((l.length : Nat) : Int))) rfl (fun hlt => ?_) (fun hlt => ?_)
    · have khlt := hlt
      replace hlt := of_decide_eq_true hlt
      obtain ⟨x, hx⟩ := get_of_lt (l := l) (i := k) (by omega)
      obtain ⟨b0, o0, rfl, hxc⟩ := ints_cells hl (by omega)
      obtain ⟨y, hy, hyt⟩ := emod_nat x t ht.1
      refine Wp_skip ?_
      refine thn_normal ?_
      refine Wp_seq ?_
      refine Wp_block ?_
      refine Wp_seq_region ?_
      refine WpL_val rfl rfl (by decide) (r_indexSlice (b := b0) (o := o0) (len := l.length) (cap := c0) (i := k) (o' := o0 + k) rfl rfl rfl Try.underlying22 siz3 (by omega) (by omega)) ?_
      refine WpL_val rfl rfl (by decide) (r_load (v := (.int .i64 x)) rfl flat3 (E.cell (fun f => f) (hxc k x hx))) ?_
      refine WpL_val rfl rfl (by decide) (r_assign (v := (.int .i64 x)) rfl) ?_
      refine WpL_nil ?_
      refine Wp_seq ?_
      refine Wp_seq_region ?_
      refine WpL_val rfl rfl (by decide) (r_move (v := (.slice oa on oc)) rfl) ?_
      refine WpL_val rfl rfl (by decide) (r_lenSlice (ad := oa) (n := on) (cap := oc) Try.underlying22 rfl) ?_
      refine WpL_val rfl rfl (by decide) (r_move (v := (.int .i64 ((m : Nat) : Int))) rfl) ?_
      refine WpL_val rfl rfl (by decide) (r_eql (k := .i64) (a := ((on : Nat) : Int)) (b := ((m : Nat) : Int)) rfl rfl) ?_
      refine WpL_nil ?_
      refine Wp_cond (b := decide ((((on : Nat) : Int) : Int) = ((m : Nat) : Int))) rfl (fun hfull => ?_) (fun hfull => ?_)
      · have khfull := hfull
        replace hfull := of_decide_eq_true hfull
        refine Wp_exit ?_
        refine thn_exit ?_
        refine inB_there (by decide) ?_
        refine thn_exit ?_
        refine thn_exit ?_
        refine inB_here ?_
        refine thn_normal ?_
        refine Wp_seq_region ?_
        refine WpL_val rfl rfl (by decide) (r_move (v := (.slice oa on oc)) rfl) ?_
        refine WpL_val rfl rfl (by decide) (r_assign (v := (.slice oa on oc)) rfl) ?_
        refine WpL_nil ?_
        refine Wp_ret ?_
        refine fin_tmp Try.results35 (v := (.slice oa on oc)) rfl ?_
        exact ⟨⟨u, oa, oc, by rw [hon], by rw [← hon]; exact own_intsD hO (by simp [hon, toI]), hu⟩, E⟩
      · have khfull := hfull
        replace hfull := of_decide_eq_false hfull
        refine Wp_skip ?_
        refine thn_normal ?_
        refine Wp_region ?_
        refine WpL_val rfl rfl (by decide) (r_move (v := (.slice oa on oc)) rfl) ?_
        refine WpL_val rfl rfl (by decide) (r_move (v := (.int .i64 x)) rfl) ?_
        refine WpL_val rfl rfl (by decide) (r_move (v := (.int .i64 ((t : Nat) : Int))) rfl) ?_
        refine WpL_enter rfl rfl (by decide) (r_callF (vs := [(.int .i64 x), (.int .i64 ((t : Nat) : Int))]) Try.func69 nm69 bd69 rfl) (below_c x ((t : Nat) : Int) (by omega) (by omega) _) ?_
        rintro _ w9 ⟨rfl, rfl⟩
        refine s_buildSlice (ps := [(0, (.int .i64 (x % ((t : Nat) : Int))))]) (c := #[(.int .i64 (x % ((t : Nat) : Int)))]) (by decide) rfl Try.underlying22 siz3 zer3 (by decide) (by decide) (by kernel_rfl) ?_
        intro b4 w4 N4
        have F4 := N4.ge E
        replace hO := own_ext hO N4.ext
        replace hsz := Nat.le_trans hsz N4.ext.size
        replace E := E.ext N4.ext
        have B4 := N4.blk
        refine s_append (base := n1) (n := on) (m := 1) (xs := ((toI u).map (Value.int .i64))) (news := [(.int .i64 (x % ((t : Nat) : Int)))]) (size := 1) (bytes := 8) (v := (.slice oa on oc)) (by decide) Try.underlying22 siz3 byt3 zer3 rfl (by decide) rfl hO rfl (rfl) (B4.cells rfl) (by simp [Value.oneCell']) (by unfold maxLen; omega) (by omega) (hsz) ?_
        intro v7 w59 Ov7 Cv7 Dv7
        replace E := E.step Cv7 (fun x hx h => absurd (hO.lt x h).1 (by omega))
        obtain ⟨sa3, sc3, rfl⟩ := own_form Ov7
        refine WpL_val rfl rfl (by decide) (r_assign (v := (.slice sa3 (on + 1) sc3)) rfl) ?_
        refine WpL_nil ?_
        refine inB_normal ?_
        refine thn_normal ?_
        refine Wp_region ?_
        refine WpL_val rfl rfl (by decide) (r_add (k := .i64) (a := ((k : Nat) : Int)) (b := 1) (c := ((k : Nat) : Int) + 1) rfl rfl (wI64 (by omega))) ?_
        refine WpL_val rfl rfl (by decide) (r_move (v := (.int .i64 (((k : Nat) : Int) + 1))) rfl) ?_
        refine WpL_nil ?_
        refine thn_normal ?_
        exact ⟨l.length - (k + 1), by omega, k + 1, u ++ [y], sa3, sc3, (on + 1), Fits.out ⟨rfl, rfl, rfl, rfl, rfl, rfl, trivial⟩, E, (by omega), (by simp [hon]), ⟨hu.1.snoc hyt, by simp; omega⟩, (by rw [hy] at Ov7; simpa [toI] using Ov7), Nat.le_trans hsz Cv7.size, rfl⟩
    · have khlt := hlt
      replace hlt := of_decide_eq_false hlt
      refine Wp_exit ?_
      refine thn_exit ?_
      refine thn_exit ?_
      refine inB_here ?_
      refine thn_normal ?_
      refine Wp_seq_region ?_
      refine WpL_val rfl rfl (by decide) (r_move (v := (.slice oa on oc)) rfl) ?_
      refine WpL_val rfl rfl (by decide) (r_assign (v := (.slice oa on oc)) rfl) ?_
      refine WpL_nil ?_
      refine Wp_ret ?_
      refine fin_tmp Try.results35 (v := (.slice oa on oc)) rfl ?_
      exact ⟨⟨u, oa, oc, by rw [hon], by rw [← hon]; exact own_intsD hO (by simp [hon, toI]), hu⟩, E⟩
end Go.Proofs
namespace Go.Proofs
open Go Go.Eng Go.Sort
set_option maxRecDepth 100000
--BEGIN
def canB (c m : Nat) (C : Dfa) (W : List (List Nat)) : Bool :=
  decide (C.next.length = m) && decide (C.accept.length = m) && decide (C.start = 0) && decide (0 < m) && (C.accept.all fun x => decide (-1 ≤ x)) && (C.next.all fun r => decide (r.length = c) && r.all fun x => decide (-1 ≤ x) && decide (x < m)) &&
  ((List.range C.next.flatten.length).all fun k => decide (C.next.flatten.getD k 0 ≤ mxL (C.next.flatten.take k) + 1)) && ((List.range m).all fun i => decide (((i : Nat) : Int) ≤ mxL (C.next.flatten.take (i * c)))) && decide (mxL C.next.flatten = m - 1) &&
  (W.all fun w => w.all fun x => decide (x < c)) &&
  ((List.range m).all fun s => (List.range m).all fun t => decide (s = t) || W.any fun w => decide (beh C ((s : Nat) : Int) w ≠ beh C ((t : Nat) : Int) w)) &&
  ((List.range m).all fun s => (List.range c).all fun x => decide (toD C ((s : Nat) : Int) x < 0) || W.any fun w => decide (0 ≤ beh C (toD C ((s : Nat) : Int) x) w))
theorem canB_can {c m : Nat} {C : Dfa} {W : List (List Nat)} (h : canB c m C W = true) : CanOf c (beh C 0) C := by
  simp only [canB, Bool.and_eq_true, decide_eq_true_eq, List.all_eq_true, Bool.or_eq_true, List.any_eq_true] at h
  obtain ⟨⟨⟨⟨⟨⟨⟨⟨⟨⟨⟨h1, h2⟩, h3⟩, h4⟩, h5⟩, h6⟩, h7⟩, h8⟩, h9⟩, h10⟩, h11⟩, h12⟩ := h
  have hget : ∀ s : Int, 0 ≤ s → s < m → ∃ i : Nat, s = ((i : Nat) : Int) ∧ i ∈ List.range m := fun s a b => ⟨s.toNat, by omega, List.mem_range.2 (by omega)⟩
  refine ⟨m, ⟨⟨h1, h2, by rw [h3]; omega, h5, fun r hr => ⟨(h6 r hr).1, fun x hx => ?_⟩⟩, h3, fun k x hk => ?_, fun i hi => h8 i (List.mem_range.2 hi), h9⟩, fun w _ => rfl, fun s t s0 s1 t0 t1 he => ?_, fun s x hx hs => ?_⟩
  · exact (h6 r hr).2 x hx
  · have := h7 k (List.mem_range.2 (lt_of_get hk))
    rwa [List.getD_eq_getElem?_getD, hk, Option.getD_some] at this
  · obtain ⟨i, rfl, hi⟩ := hget s s0 s1
    obtain ⟨j, rfl, hj⟩ := hget t t0 t1
    rcases h11 i hi j hj with h | ⟨w, hw, h⟩
    · rw [h]
    · exact absurd (he w fun x hx => h10 w hw x hx) h
  · rcases Int.lt_or_le s 0 with a | a
    · rw [toD_neg a] at hs; omega
    · rcases Int.lt_or_le s m with b | b
      · obtain ⟨i, rfl, hi⟩ := hget s a b
        rcases h12 i hi x (List.mem_range.2 hx) with h | ⟨w, hw, h⟩
        · omega
        · exact ⟨w, fun x hx => h10 w hw x hx, h⟩
      · exfalso
        unfold toD at hs
        have e : C.next[s.toNat]? = none := List.getElem?_eq_none (by omega)
        rw [if_neg (by omega)] at hs
        simp [List.getD_eq_getElem?_getD, e] at hs
theorem beh_one {D C : Dfa} {f : Int → Int} (P : Int → Int → Prop) (h0 : ∀ s t, P s t → atD C t = f (atD D s)) (h1 : ∀ s t, P s t → P (toD D s 0) (toD C t 0)) : ∀ (w : List Nat), inW 1 w → ∀ s t, P s t → beh C t w = f (beh D s w)
  | [], _, s, t, h => h0 s t h
  | x :: w, hw, s, t, h => by
    have hx : x = 0 := by have := hw.head; omega
    subst hx
    exact beh_one P h0 h1 w hw.tail _ _ (h1 s t h)
def oddD : Dfa := ⟨0, [-1, 0], [[1], [0]]⟩
theorem can_odd : CanOf 1 (fun w => fl (beh evnD evnD.start w)) oddD := by
  refine (canB_can (m := 2) (W := [[], [0], [0, 0]]) (by decide)).congr fun w hw => ?_
  refine beh_one (fun s t => s = t ∧ (s = 0 ∨ s = 1)) (fun s t h => ?_) (fun s t h => ?_) w hw 0 0 ⟨rfl, .inl rfl⟩
  · obtain ⟨rfl, rfl | rfl⟩ := h <;> decide
  · obtain ⟨rfl, rfl | rfl⟩ := h <;> decide
theorem evn_d (w0 : World) : Ret Try.prog 27 #[] w0 fun r w => (∃ aa ac na nc, r = .agg #[.int .i64 0, .slice aa 2 ac, .slice na 2 nc] ∧ DfaAt w evnD [.int .i64 0, .slice aa 2 ac, .slice na 2 nc]) ∧ Ext w0 w :=
  (evn_c w0).mono fun r w h => by
    obtain ⟨⟨vs, rfl, h1⟩, h2⟩ := h
    have h3 := h1
    obtain ⟨aa, ac, na, nc, rfl, _, _⟩ := h3
    exact ⟨⟨aa, ac, na, nc, rfl, h1⟩, h2⟩
set_option maxHeartbeats 1000000 in
theorem dfbegun_c (w0 : World) : Ret Try.prog 32 #[] w0 fun r w => r = .bool true ∧ Ext w0 w := by
  refine Ret_of Try.func32 rfl Try.ntmps32 (Nat.le_of_ble_eq_true rfl) ?_
  have E : Chg none1 w0 w0 := Chg.refl _ _
  refine Wp_seq_region ?_
  refine WpL_val rfl rfl (by decide) (r_assign (v := (.bool false)) rfl) ?_
  refine WpL_nil ?_
  refine Wp_seq_region ?_
  refine WpL_enter rfl rfl (by decide) (r_callF (vs := []) Try.func27 nm27 bd27 rfl) (evn_d _) ?_
  rintro _ w9 ⟨⟨aa, ac, na, nc, rfl, hv⟩, X9⟩
  replace E := E.ext X9
  refine s_buildSlice (ps := [(0, (.int .i64 0)), (1, (.int .i64 0))]) (c := #[(.int .i64 0), (.int .i64 0)]) (by decide) rfl Try.underlying22 siz3 zer3 (by decide) (by decide) (by kernel_rfl) ?_
  intro ba wa Na
  have Fa := Na.ge E
  replace hv := hv.ext Na.ext
  replace E := E.ext Na.ext
  have Ba := Na.blk
  refine WpL_enter rfl rfl (by decide) (r_callF (vs := [(.agg #[(.int .i64 0), (.slice aa 2 ac), (.slice na 2 nc)]), (.slice (some ⟨ba, 0, none⟩) 2 2)]) Try.func31 nm31 bd31 rfl) (dfrun_c _ 2 1 evnD _ _ [0, 0] evn_ok hv (by decide) (by decide) (ints_of_blk [0, 0] Ba (by decide) (by decide)) (by decide) (by decide)) ?_
  rintro _ w19 ⟨rfl, X19⟩
  replace Ba := X19.keep Ba
  replace hv := hv.ext X19
  replace E := E.ext X19
  refine WpL_val rfl rfl (by decide) (r_move (v := (.tuple #[(.int .i64 0), (.int .i64 0)])) rfl) ?_
  refine WpL_val rfl rfl (by decide) (r_extract (vs := #[(.int .i64 0), (.int .i64 0)]) (v := (.int .i64 0)) rfl rfl) ?_
  refine WpL_val rfl rfl (by decide) (r_extract (vs := #[(.int .i64 0), (.int .i64 0)]) (v := (.int .i64 0)) rfl rfl) ?_
  refine WpL_val rfl rfl (by decide) (r_assign (v := (.int .i64 0)) rfl) ?_
  refine WpL_val rfl rfl (by decide) (r_assign (v := (.int .i64 0)) rfl) ?_
  refine WpL_nil ?_
  refine Wp_seq_region ?_
  refine WpL_enter rfl rfl (by decide) (r_callF (vs := []) Try.func27 nm27 bd27 rfl) (evn_d _) ?_
  rintro _ w29 ⟨⟨aa2, ac2, na2, nc2, rfl, hv2⟩, X29⟩
  replace Ba := X29.keep Ba
  replace E := E.ext X29
  refine s_buildSlice (ps := [(0, (.int .i64 0))]) (c := #[(.int .i64 0)]) (by decide) rfl Try.underlying22 siz3 zer3 (by decide) (by decide) (by kernel_rfl) ?_
  intro bb wb Nb
  have Fb := Nb.ge E
  have Ob_ba := Nb.lt Ba
  replace Ba := Nb.keep Ba
  replace hv2 := hv2.ext Nb.ext
  replace E := E.ext Nb.ext
  have Bb := Nb.blk
  refine WpL_enter rfl rfl (by decide) (r_callF (vs := [(.agg #[(.int .i64 0), (.slice aa2 2 ac2), (.slice na2 2 nc2)]), (.slice (some ⟨bb, 0, none⟩) 1 1)]) Try.func31 nm31 bd31 rfl) (dfrun_c _ 2 1 evnD _ _ [0] evn_ok hv2 (by decide) (by decide) (ints_of_blk [0] Bb (by decide) (by decide)) (by decide) (by decide)) ?_
  rintro _ w39 ⟨rfl, X39⟩
  replace Ba := X39.keep Ba
  replace Bb := X39.keep Bb
  replace hv2 := hv2.ext X39
  replace E := E.ext X39
  refine WpL_val rfl rfl (by decide) (r_move (v := (.tuple #[(.int .i64 (-1)), (.int .i64 0)])) rfl) ?_
  refine WpL_val rfl rfl (by decide) (r_extract (vs := #[(.int .i64 (-1)), (.int .i64 0)]) (v := (.int .i64 (-1))) rfl rfl) ?_
  refine WpL_val rfl rfl (by decide) (r_extract (vs := #[(.int .i64 (-1)), (.int .i64 0)]) (v := (.int .i64 0)) rfl rfl) ?_
  refine WpL_val rfl rfl (by decide) (r_assign (v := (.int .i64 (-1))) rfl) ?_
  refine WpL_val rfl rfl (by decide) (r_assign (v := (.int .i64 0)) rfl) ?_
  refine WpL_nil ?_
  refine Wp_seq_region ?_
  refine WpL_enter rfl rfl (by decide) (r_callF (vs := []) Try.func27 nm27 bd27 rfl) (evn_d _) ?_
  rintro _ w49 ⟨⟨aa3, ac3, na3, nc3, rfl, hv3⟩, X49⟩
  replace Ba := X49.keep Ba
  replace Bb := X49.keep Bb
  replace E := E.ext X49
  refine WpL_enter rfl rfl (by decide) (r_callF (vs := [(.agg #[(.int .i64 0), (.slice aa3 2 ac3), (.slice na3 2 nc3)])]) Try.func29 nm29 bd29 rfl) (dfNot_c _ 2 1 evnD _ evn_ok hv3 (by decide) (by decide)) ?_
  rintro _ w99 ⟨⟨C, ca, cc, ma, mc, hC, hCl, hCa, rfl, hCN⟩, X99⟩
  replace Ba := X99.keep Ba
  replace Bb := X99.keep Bb
  replace E := E.ext X99
  have hCe := CanOf.uniq hC can_odd (fun w _ => rfl)
  have hCn : decide (((C.next.length : Nat) : Int) = 2) = true := by rw [hCe]; rfl
  refine WpL_val rfl rfl (by decide) (r_move (v := (.tuple #[(.agg #[(.int .i64 C.start), (.slice ca C.accept.length cc), (.slice ma C.next.length mc)]), (.int .i64 0)])) rfl) ?_
  refine WpL_val rfl rfl (by decide) (r_extract (vs := #[(.agg #[(.int .i64 C.start), (.slice ca C.accept.length cc), (.slice ma C.next.length mc)]), (.int .i64 0)]) (v := (.agg #[(.int .i64 C.start), (.slice ca C.accept.length cc), (.slice ma C.next.length mc)])) rfl rfl) ?_
  refine WpL_val rfl rfl (by decide) (r_extract (vs := #[(.agg #[(.int .i64 C.start), (.slice ca C.accept.length cc), (.slice ma C.next.length mc)]), (.int .i64 0)]) (v := (.int .i64 0)) rfl rfl) ?_
  refine s_allocStore (v := (.agg #[(.int .i64 C.start), (.slice ca C.accept.length cc), (.slice ma C.next.length mc)])) (c := #[(.int .i64 C.start), (.slice ca C.accept.length cc), (.slice ma C.next.length mc)]) (n := 3) (by decide) zer25 rfl siz25 rfl rfl rfl (by simp [Value.oneCell']) ?_
  intro bd wd Nd
  have Fd := Nd.ge E
  have Od_ba := Nd.lt Ba
  have Od_bb := Nd.lt Bb
  replace Ba := Nd.keep Ba
  replace Bb := Nd.keep Bb
  replace E := E.ext Nd.ext
  have Bd := Nd.blk
  refine WpL_val rfl rfl (by decide) (r_assign (v := (.int .i64 0)) rfl) ?_
  refine WpL_nil ?_
  refine Wp_seq_region ?_
  refine WpL_val rfl rfl (by decide) (r_move (v := (.int .i64 0)) rfl) ?_
  refine WpL_val rfl rfl (by decide) (r_eql (k := .i64) (a := 0) (b := 0) rfl rfl) ?_
  refine WpL_val rfl rfl (by decide) (r_move (v := (.bool true)) rfl) ?_
  refine WpL_guard_yes (oj := _) rfl rfl (by decide) rfl ?_
  refine WpL_val rfl rfl (by decide) (r_move (v := (.int .i64 0)) rfl) ?_
  refine WpL_guard_yes (oj := _) rfl rfl (by decide) rfl ?_
  refine WpL_val rfl rfl (by decide) (r_eql (k := .i64) (a := 0) (b := 0) rfl rfl) ?_
  refine WpL_val rfl rfl (by decide) (r_pick (b := true) (v := (.bool true)) rfl rfl) ?_
  refine WpL_val rfl rfl (by decide) (r_move (v := (.bool true)) rfl) ?_
  refine WpL_guard_yes (oj := _) rfl rfl (by decide) rfl ?_
  refine WpL_val rfl rfl (by decide) (r_move (v := (.int .i64 0)) rfl) ?_
  refine WpL_guard_yes (oj := _) rfl rfl (by decide) rfl ?_
  refine WpL_val rfl rfl (by decide) (r_eql (k := .i64) (a := 0) (b := 0) rfl rfl) ?_
  refine WpL_val rfl rfl (by decide) (r_pick (b := true) (v := (.bool true)) rfl rfl) ?_
  refine WpL_val rfl rfl (by decide) (r_move (v := (.bool true)) rfl) ?_
  refine WpL_guard_yes (oj := _) rfl rfl (by decide) rfl ?_
  refine WpL_val rfl rfl (by decide) (r_move (v := (.int .i64 0)) rfl) ?_
  refine WpL_guard_yes (oj := _) rfl rfl (by decide) rfl ?_
  refine WpL_val rfl rfl (by decide) (r_eql (k := .i64) (a := 0) (b := 0) rfl rfl) ?_
  refine WpL_val rfl rfl (by decide) (r_pick (b := true) (v := (.bool true)) rfl rfl) ?_
  refine WpL_val rfl rfl (by decide) (r_move (v := (.bool true)) rfl) ?_
  refine WpL_guard_yes (oj := _) rfl rfl (by decide) rfl ?_
  refine WpL_val rfl rfl (by decide) (r_move (v := (.int .i64 (-1))) rfl) ?_
  refine WpL_guard_yes (oj := _) rfl rfl (by decide) rfl ?_
  refine WpL_val rfl rfl (by decide) (r_eql (k := .i64) (a := (-1)) (b := (-1)) rfl rfl) ?_
  refine WpL_val rfl rfl (by decide) (r_pick (b := true) (v := (.bool true)) rfl rfl) ?_
  refine WpL_val rfl rfl (by decide) (r_move (v := (.bool true)) rfl) ?_
  refine WpL_guard_yes (oj := _) rfl rfl (by decide) rfl ?_
  refine WpL_val rfl rfl (by decide) (r_fieldAddr (b := bd) (o := 0) (o' := 2) rfl Try.underlying25 rfl siz23 rfl) ?_
  refine WpL_guard_yes (oj := _) rfl rfl (by decide) rfl ?_
  refine WpL_val rfl rfl (by decide) (r_load (v := (.slice ma C.next.length mc)) rfl flat23 (Bd.cell rfl)) ?_
  refine WpL_guard_yes (oj := _) rfl rfl (by decide) rfl ?_
  refine WpL_val rfl rfl (by decide) (r_lenSlice (ad := ma) (n := C.next.length) (cap := mc) Try.underlying23 rfl) ?_
  refine WpL_guard_yes (oj := _) rfl rfl (by decide) rfl ?_
  obtain ⟨e1, he1⟩ : ∃ e, (decide ((((C.next.length : Nat) : Int) : Int) = 2)) = e := ⟨_, rfl⟩
  refine WpL_val rfl rfl (by decide) ((r_eql (k := .i64) (a := ((C.next.length : Nat) : Int)) (b := 2) rfl rfl).trans (by rw [he1]; try rfl)) ?_
  refine WpL_val rfl rfl (by decide) (r_pick (b := true) (v := (.bool e1)) rfl rfl) ?_
  refine WpL_val rfl rfl (by decide) (r_assign (v := (.bool e1)) rfl) ?_
  refine WpL_nil ?_
  subst he1
  refine Wp_ret ?_
  refine fin_tmp Try.results32 (v := (.bool (decide ((((C.next.length : Nat) : Int) : Int) = 2)))) rfl ?_
  exact ⟨bool_eq hCn, E⟩
end Go.Proofs
namespace Go.Proofs
open Go Go.Eng Go.Sort
set_option maxRecDepth 100000
theorem beh_le {d : Dfa} (h : ∀ x ∈ d.accept, x ≤ 0) : ∀ (w : List Nat) (s : Int), beh d s w ≤ 0
  | [], s => by
    simp only [beh, atD]
    split
    · decide
    · rw [List.getD_eq_getElem?_getD]
      cases hx : d.accept[s.toNat]? with
      | none => decide
      | some x => exact h x (List.mem_of_getElem? hx)
  | _ :: w, _ => beh_le h w _
theorem beh01 {n c : Nat} {d : Dfa} (ok : OkD n c d) (h : ∀ x ∈ d.accept, x ≤ 0) (w : List Nat) (s : Int) : beh d s w = -1 ∨ beh d s w = 0 := by
  have h1 := ok.beh (w := w) (s := s)
  have h2 := beh_le h w s
  omega
theorem morgan {x y : Int} (hx : x = -1 ∨ x = 0) (hy : y = -1 ∨ y = 0) : fl (jnP true x y) = jnP false (fl x) (fl y) := by
  rcases hx with rfl | rfl <;> rcases hy with rfl | rfl <;> decide
theorem twice {x : Int} (hx : x = -1 ∨ x = 0) : fl (fl x) = jnP false x x := by
  rcases hx with rfl | rfl <;> decide
theorem CanOf.ok {c : Nat} {f : List Nat → Int} {C : Dfa} (h : CanOf c f C) : OkD C.next.length c C ∧ C.start = 0 ∧ (∀ w, inW c w → beh C C.start w = f w) ∧ 1 ≤ C.next.length := by
  obtain ⟨m, b, h1, _, _⟩ := h
  have e := b.ok.nl
  have := b.ok.st
  exact ⟨by rw [e]; exact b.ok, b.st, fun w hw => by rw [b.st]; exact h1 w hw, by omega⟩
set_option maxHeartbeats 8000000 in
theorem boole2_c (w0 : World) (v1 v2 v3 : Value) (l1 l2 l3 : List Int) (h1 : IntsAt w0 v1 l1) (h2 : IntsAt w0 v2 l2) (h3 : IntsAt w0 v3 l3) :
    Ret Try.prog 6 #[v1, v2, v3] w0 fun r w => r = .bool true ∧ Ext w0 w := by
  refine Ret_of Try.func6 rfl Try.ntmps6 (Nat.le_of_ble_eq_true rfl) ?_
  have E : Chg none1 w0 w0 := Chg.refl _ _
  refine Wp_seq_region ?_
  refine WpL_val rfl rfl (by decide) (r_assign (v := (.bool false)) rfl) ?_
  refine WpL_nil ?_
  refine Wp_seq ?_
  refine Wp_seq_region ?_
  refine WpL_enter rfl rfl (by decide) (r_callF (vs := []) Try.func32 nm32 bd32 rfl) (dfbegun_c _) ?_
  rintro _ w9 ⟨rfl, X9⟩
  replace E := E.ext X9
  refine WpL_val rfl rfl (by decide) (r_not (b := true) rfl) ?_
  refine WpL_nil ?_
  refine Wp_cond_false rfl ?_
  refine Wp_skip ?_
  refine thn_normal ?_
  refine Wp_seq_region ?_
  refine WpL_val rfl rfl (by decide) (r_move (v := v1) rfl) ?_
  refine WpL_enter rfl rfl (by decide) (r_callF (vs := [v1, (.int .i64 3)]) Try.func21 nm21 bd21 rfl) (plain_d _ _ l1 (h1.ext E)) ?_
  rintro _ w19 ⟨⟨n1, a, aa, ac, na, nc, hn1, oka, hacca, rfl, hDa⟩, X19⟩
  replace E := E.ext X19
  refine WpL_val rfl rfl (by decide) (r_move (v := v2) rfl) ?_
  refine WpL_enter rfl rfl (by decide) (r_callF (vs := [v2, (.int .i64 3)]) Try.func21 nm21 bd21 rfl) (plain_d _ _ l2 (h2.ext E)) ?_
  rintro _ w29 ⟨⟨n2, b, aa2, ac2, na2, nc2, hn2, okb, haccb, rfl, hDb⟩, X29⟩
  replace hDa := hDa.ext X29
  replace E := E.ext X29
  have E2 : Chg none1 w29 w29 := Chg.refl _ _
  refine s_alloc (c := #[(.int .i64 0), (.slice none 0 0), (.slice none 0 0)]) (by decide) zer25 rfl ?_
  intro ba wa Na
  have Fa := Na.ge E
  have Fa_E2 := Na.ge E2
  replace E := E.ext Na.ext
  have Ba := Na.blk
  replace E2 := E2.ext Na.ext
  refine s_alloc (c := #[(.int .i64 0), (.slice none 0 0), (.slice none 0 0)]) (by decide) zer25 rfl ?_
  intro bb wb Nb
  have Fb := Nb.ge E
  have Fb_E2 := Nb.ge E2
  have Ob_ba := Nb.lt Ba
  replace Ba := Nb.keep Ba
  replace E := E.ext Nb.ext
  have Bb := Nb.blk
  replace E2 := E2.ext Nb.ext
  refine s_storeAgg (b := ba) (o := 0) (c' := #[(.int .i64 a.start), (.slice aa n1 ac), (.slice na n1 nc)]) rfl rfl (by simp [Value.oneCell']) siz25 rfl Ba (by simp) rfl ?_
  intro w1 S1
  replace Bb := S1.keep (by omega) Bb
  replace E := S1.step E (by first | exact Or.inl (by omega) | exact Or.inr rfl | exact Or.inr (by assumption) | exact Or.inr (by simp) | exact Or.inr (by omega) | exact Or.inr (by dsimp only; omega))
  replace E2 := S1.step E2 (Or.inl (by omega))
  replace Ba := S1.blk
  refine s_storeAgg (b := bb) (o := 0) (c' := #[(.int .i64 b.start), (.slice aa2 n2 ac2), (.slice na2 n2 nc2)]) rfl rfl (by simp [Value.oneCell']) siz25 rfl Bb (by simp) rfl ?_
  intro w2 S2
  replace Ba := S2.keep (by omega) Ba
  replace E := S2.step E (by first | exact Or.inl (by omega) | exact Or.inr rfl | exact Or.inr (by assumption) | exact Or.inr (by simp) | exact Or.inr (by omega) | exact Or.inr (by dsimp only; omega))
  replace E2 := S2.step E2 (Or.inl (by omega))
  replace Bb := S2.blk
  refine WpL_nil ?_
  refine Wp_seq_region ?_
  refine WpL_val rfl rfl (by decide) (r_loadAgg (vs := [(.int .i64 a.start), (.slice aa n1 ac), (.slice na n1 nc)]) rfl agg25 siz25 rfl (Ba.cells rfl)) ?_
  have hA := hDa.ext E2
  have hB := hDb.ext E2
  have le01 : ∀ {x : Int}, x ≤ 0 → x < 2147483648 := fun h => by omega
  refine WpL_enter rfl rfl (by decide) (r_callF (vs := [(.agg #[(.int .i64 a.start), (.slice aa n1 ac), (.slice na n1 nc)])]) Try.func29 nm29 bd29 rfl) (dfNot_c _ n1 3 a _ oka hA (by omega) (by decide)) ?_
  rintro _ wr1 ⟨⟨C1, ca1, cc1, ma1, mc1, hC1, hl1, hx1, rfl, hN1⟩, Xr1⟩
  replace Ba := Xr1.keep Ba
  replace Bb := Xr1.keep Bb
  replace hA := hA.ext Xr1
  replace hB := hB.ext Xr1
  replace E := E.ext Xr1
  have hD1 := hN1.at'
  obtain ⟨ok1, st1, bh1, ge1⟩ := hC1.ok
  refine WpL_val rfl rfl (by decide) (r_move (v := (.tuple #[(.agg #[(.int .i64 C1.start), (.slice ca1 C1.accept.length cc1), (.slice ma1 C1.next.length mc1)]), (.int .i64 0)])) rfl) ?_
  refine WpL_val rfl rfl (by decide) (r_extract (vs := #[(.agg #[(.int .i64 C1.start), (.slice ca1 C1.accept.length cc1), (.slice ma1 C1.next.length mc1)]), (.int .i64 0)]) (v := (.agg #[(.int .i64 C1.start), (.slice ca1 C1.accept.length cc1), (.slice ma1 C1.next.length mc1)])) rfl rfl) ?_
  refine WpL_val rfl rfl (by decide) (r_extract (vs := #[(.agg #[(.int .i64 C1.start), (.slice ca1 C1.accept.length cc1), (.slice ma1 C1.next.length mc1)]), (.int .i64 0)]) (v := (.int .i64 0)) rfl rfl) ?_
  refine s_allocStore (v := (.agg #[(.int .i64 C1.start), (.slice ca1 C1.accept.length cc1), (.slice ma1 C1.next.length mc1)])) (c := #[(.int .i64 C1.start), (.slice ca1 C1.accept.length cc1), (.slice ma1 C1.next.length mc1)]) (n := 3) (by decide) zer25 rfl siz25 rfl rfl rfl (by simp [Value.oneCell']) ?_
  intro b3 w3 N3
  have F3 := N3.ge E
  have O3_ba := N3.lt Ba
  have O3_bb := N3.lt Bb
  replace Ba := N3.keep Ba
  replace Bb := N3.keep Bb
  replace hA := hA.ext N3.ext
  replace hB := hB.ext N3.ext
  replace hD1 := hD1.ext N3.ext
  replace E := E.ext N3.ext
  have B3 := N3.blk
  refine WpL_val rfl rfl (by decide) (r_assign (v := (.int .i64 0)) rfl) ?_
  refine WpL_nil ?_
  refine Wp_seq_region ?_
  refine WpL_val rfl rfl (by decide) (r_loadAgg (vs := [(.int .i64 b.start), (.slice aa2 n2 ac2), (.slice na2 n2 nc2)]) rfl agg25 siz25 rfl (Bb.cells rfl)) ?_
  refine WpL_enter rfl rfl (by decide) (r_callF (vs := [(.agg #[(.int .i64 b.start), (.slice aa2 n2 ac2), (.slice na2 n2 nc2)])]) Try.func29 nm29 bd29 rfl) (dfNot_c _ n2 3 b _ okb hB (by omega) (by decide)) ?_
  rintro _ wr2 ⟨⟨C2, ca2, cc2, ma2, mc2, hC2, hl2, hx2, rfl, hN2⟩, Xr2⟩
  replace Ba := Xr2.keep Ba
  replace Bb := Xr2.keep Bb
  replace B3 := Xr2.keep B3
  replace hA := hA.ext Xr2
  replace hB := hB.ext Xr2
  replace hD1 := hD1.ext Xr2
  replace E := E.ext Xr2
  have hD2 := hN2.at'
  obtain ⟨ok2, st2, bh2, ge2⟩ := hC2.ok
  refine WpL_val rfl rfl (by decide) (r_move (v := (.tuple #[(.agg #[(.int .i64 C2.start), (.slice ca2 C2.accept.length cc2), (.slice ma2 C2.next.length mc2)]), (.int .i64 0)])) rfl) ?_
  refine WpL_val rfl rfl (by decide) (r_extract (vs := #[(.agg #[(.int .i64 C2.start), (.slice ca2 C2.accept.length cc2), (.slice ma2 C2.next.length mc2)]), (.int .i64 0)]) (v := (.agg #[(.int .i64 C2.start), (.slice ca2 C2.accept.length cc2), (.slice ma2 C2.next.length mc2)])) rfl rfl) ?_
  refine WpL_val rfl rfl (by decide) (r_extract (vs := #[(.agg #[(.int .i64 C2.start), (.slice ca2 C2.accept.length cc2), (.slice ma2 C2.next.length mc2)]), (.int .i64 0)]) (v := (.int .i64 0)) rfl rfl) ?_
  refine s_allocStore (v := (.agg #[(.int .i64 C2.start), (.slice ca2 C2.accept.length cc2), (.slice ma2 C2.next.length mc2)])) (c := #[(.int .i64 C2.start), (.slice ca2 C2.accept.length cc2), (.slice ma2 C2.next.length mc2)]) (n := 3) (by decide) zer25 rfl siz25 rfl rfl rfl (by simp [Value.oneCell']) ?_
  intro b4 w4 N4
  have F4 := N4.ge E
  have O4_ba := N4.lt Ba
  have O4_bb := N4.lt Bb
  have O4_b3 := N4.lt B3
  replace Ba := N4.keep Ba
  replace Bb := N4.keep Bb
  replace B3 := N4.keep B3
  replace hA := hA.ext N4.ext
  replace hB := hB.ext N4.ext
  replace hD1 := hD1.ext N4.ext
  replace hD2 := hD2.ext N4.ext
  replace E := E.ext N4.ext
  have B4 := N4.blk
  refine WpL_val rfl rfl (by decide) (r_assign (v := (.int .i64 0)) rfl) ?_
  refine WpL_nil ?_
  refine Wp_seq_region ?_
  refine WpL_val rfl rfl (by decide) (r_loadAgg (vs := [(.int .i64 a.start), (.slice aa n1 ac), (.slice na n1 nc)]) rfl agg25 siz25 rfl (Ba.cells rfl)) ?_
  refine WpL_val rfl rfl (by decide) (r_loadAgg (vs := [(.int .i64 b.start), (.slice aa2 n2 ac2), (.slice na2 n2 nc2)]) rfl agg25 siz25 rfl (Bb.cells rfl)) ?_
  refine WpL_enter rfl rfl (by decide) (r_callF (vs := [(.agg #[(.int .i64 a.start), (.slice aa n1 ac), (.slice na n1 nc)]), (.agg #[(.int .i64 b.start), (.slice aa2 n2 ac2), (.slice na2 n2 nc2)])]) Try.func33 nm33 bd33 rfl) (dfBoth_c _ n1 n2 3 a b _ _ oka okb hA hB (by decide) (by omega) (by omega) (Nat.le_trans (Nat.mul_le_mul (show n1 + 1 ≤ 7 by omega) (show n2 + 1 ≤ 7 by omega)) (by decide)) (fun x h => le01 (hacca x h)) (fun x h => le01 (haccb x h))) ?_
  rintro _ wr3 ⟨⟨C3, ca3, cc3, ma3, mc3, hC3, hl3, hx3, rfl, hN3⟩, Xr3⟩
  replace Ba := Xr3.keep Ba
  replace Bb := Xr3.keep Bb
  replace B3 := Xr3.keep B3
  replace B4 := Xr3.keep B4
  replace hA := hA.ext Xr3
  replace hB := hB.ext Xr3
  replace hD1 := hD1.ext Xr3
  replace hD2 := hD2.ext Xr3
  replace E := E.ext Xr3
  have hD3 := hN3.at'
  obtain ⟨ok3, st3, bh3, ge3⟩ := hC3.ok
  refine WpL_val rfl rfl (by decide) (r_move (v := (.tuple #[(.agg #[(.int .i64 C3.start), (.slice ca3 C3.accept.length cc3), (.slice ma3 C3.next.length mc3)]), (.int .i64 0)])) rfl) ?_
  refine WpL_val rfl rfl (by decide) (r_extract (vs := #[(.agg #[(.int .i64 C3.start), (.slice ca3 C3.accept.length cc3), (.slice ma3 C3.next.length mc3)]), (.int .i64 0)]) (v := (.agg #[(.int .i64 C3.start), (.slice ca3 C3.accept.length cc3), (.slice ma3 C3.next.length mc3)])) rfl rfl) ?_
  refine WpL_val rfl rfl (by decide) (r_extract (vs := #[(.agg #[(.int .i64 C3.start), (.slice ca3 C3.accept.length cc3), (.slice ma3 C3.next.length mc3)]), (.int .i64 0)]) (v := (.int .i64 0)) rfl rfl) ?_
  refine s_allocStore (v := (.agg #[(.int .i64 C3.start), (.slice ca3 C3.accept.length cc3), (.slice ma3 C3.next.length mc3)])) (c := #[(.int .i64 C3.start), (.slice ca3 C3.accept.length cc3), (.slice ma3 C3.next.length mc3)]) (n := 3) (by decide) zer25 rfl siz25 rfl rfl rfl (by simp [Value.oneCell']) ?_
  intro b5 w5 N5
  have F5 := N5.ge E
  have O5_ba := N5.lt Ba
  have O5_bb := N5.lt Bb
  have O5_b3 := N5.lt B3
  have O5_b4 := N5.lt B4
  replace Ba := N5.keep Ba
  replace Bb := N5.keep Bb
  replace B3 := N5.keep B3
  replace B4 := N5.keep B4
  replace hA := hA.ext N5.ext
  replace hB := hB.ext N5.ext
  replace hD1 := hD1.ext N5.ext
  replace hD2 := hD2.ext N5.ext
  replace hD3 := hD3.ext N5.ext
  replace E := E.ext N5.ext
  have B5 := N5.blk
  refine WpL_val rfl rfl (by decide) (r_assign (v := (.int .i64 0)) rfl) ?_
  refine WpL_nil ?_
  refine Wp_seq_region ?_
  refine WpL_val rfl rfl (by decide) (r_loadAgg (vs := [(.int .i64 C1.start), (.slice ca1 C1.accept.length cc1), (.slice ma1 C1.next.length mc1)]) rfl agg25 siz25 rfl (B3.cells rfl)) ?_
  refine WpL_val rfl rfl (by decide) (r_loadAgg (vs := [(.int .i64 C2.start), (.slice ca2 C2.accept.length cc2), (.slice ma2 C2.next.length mc2)]) rfl agg25 siz25 rfl (B4.cells rfl)) ?_
  refine WpL_enter rfl rfl (by decide) (r_callF (vs := [(.agg #[(.int .i64 C1.start), (.slice ca1 C1.accept.length cc1), (.slice ma1 C1.next.length mc1)]), (.agg #[(.int .i64 C2.start), (.slice ca2 C2.accept.length cc2), (.slice ma2 C2.next.length mc2)])]) Try.func34 nm34 bd34 rfl) (dfEither_c _ _ _ 3 C1 C2 _ _ ok1 ok2 hD1 hD2 (by decide) (by omega) (by omega) (Nat.le_trans (Nat.mul_le_mul (show C1.next.length + 1 ≤ 8 by omega) (show C2.next.length + 1 ≤ 8 by omega)) (by decide)) hx1 hx2) ?_
  rintro _ wr4 ⟨⟨C4, ca4, cc4, ma4, mc4, hC4, hl4, hx4, rfl, hN4⟩, Xr4⟩
  replace Ba := Xr4.keep Ba
  replace Bb := Xr4.keep Bb
  replace B3 := Xr4.keep B3
  replace B4 := Xr4.keep B4
  replace B5 := Xr4.keep B5
  replace hA := hA.ext Xr4
  replace hB := hB.ext Xr4
  replace hD1 := hD1.ext Xr4
  replace hD2 := hD2.ext Xr4
  replace hD3 := hD3.ext Xr4
  replace E := E.ext Xr4
  have hD4 := hN4.at'
  obtain ⟨ok4, st4, bh4, ge4⟩ := hC4.ok
  refine WpL_val rfl rfl (by decide) (r_move (v := (.tuple #[(.agg #[(.int .i64 C4.start), (.slice ca4 C4.accept.length cc4), (.slice ma4 C4.next.length mc4)]), (.int .i64 0)])) rfl) ?_
  refine WpL_val rfl rfl (by decide) (r_extract (vs := #[(.agg #[(.int .i64 C4.start), (.slice ca4 C4.accept.length cc4), (.slice ma4 C4.next.length mc4)]), (.int .i64 0)]) (v := (.agg #[(.int .i64 C4.start), (.slice ca4 C4.accept.length cc4), (.slice ma4 C4.next.length mc4)])) rfl rfl) ?_
  refine WpL_val rfl rfl (by decide) (r_extract (vs := #[(.agg #[(.int .i64 C4.start), (.slice ca4 C4.accept.length cc4), (.slice ma4 C4.next.length mc4)]), (.int .i64 0)]) (v := (.int .i64 0)) rfl rfl) ?_
  refine s_allocStore (v := (.agg #[(.int .i64 C4.start), (.slice ca4 C4.accept.length cc4), (.slice ma4 C4.next.length mc4)])) (c := #[(.int .i64 C4.start), (.slice ca4 C4.accept.length cc4), (.slice ma4 C4.next.length mc4)]) (n := 3) (by decide) zer25 rfl siz25 rfl rfl rfl (by simp [Value.oneCell']) ?_
  intro b6 w6 N6
  have F6 := N6.ge E
  have O6_ba := N6.lt Ba
  have O6_bb := N6.lt Bb
  have O6_b3 := N6.lt B3
  have O6_b4 := N6.lt B4
  have O6_b5 := N6.lt B5
  replace Ba := N6.keep Ba
  replace Bb := N6.keep Bb
  replace B3 := N6.keep B3
  replace B4 := N6.keep B4
  replace B5 := N6.keep B5
  replace hA := hA.ext N6.ext
  replace hB := hB.ext N6.ext
  replace hD1 := hD1.ext N6.ext
  replace hD2 := hD2.ext N6.ext
  replace hD3 := hD3.ext N6.ext
  replace hD4 := hD4.ext N6.ext
  replace E := E.ext N6.ext
  have B6 := N6.blk
  refine WpL_val rfl rfl (by decide) (r_assign (v := (.int .i64 0)) rfl) ?_
  refine WpL_nil ?_
  refine Wp_seq_region ?_
  refine WpL_val rfl rfl (by decide) (r_loadAgg (vs := [(.int .i64 C1.start), (.slice ca1 C1.accept.length cc1), (.slice ma1 C1.next.length mc1)]) rfl agg25 siz25 rfl (B3.cells rfl)) ?_
  refine WpL_enter rfl rfl (by decide) (r_callF (vs := [(.agg #[(.int .i64 C1.start), (.slice ca1 C1.accept.length cc1), (.slice ma1 C1.next.length mc1)])]) Try.func29 nm29 bd29 rfl) (dfNot_c _ _ 3 C1 _ ok1 hD1 (by omega) (by decide)) ?_
  rintro _ wr5 ⟨⟨C5, ca5, cc5, ma5, mc5, hC5, hl5, hx5, rfl, hN5⟩, Xr5⟩
  replace Ba := Xr5.keep Ba
  replace Bb := Xr5.keep Bb
  replace B3 := Xr5.keep B3
  replace B4 := Xr5.keep B4
  replace B5 := Xr5.keep B5
  replace B6 := Xr5.keep B6
  replace hA := hA.ext Xr5
  replace hB := hB.ext Xr5
  replace hD1 := hD1.ext Xr5
  replace hD2 := hD2.ext Xr5
  replace hD3 := hD3.ext Xr5
  replace hD4 := hD4.ext Xr5
  replace E := E.ext Xr5
  have hD5 := hN5.at'
  obtain ⟨ok5, st5, bh5, ge5⟩ := hC5.ok
  refine WpL_val rfl rfl (by decide) (r_move (v := (.tuple #[(.agg #[(.int .i64 C5.start), (.slice ca5 C5.accept.length cc5), (.slice ma5 C5.next.length mc5)]), (.int .i64 0)])) rfl) ?_
  refine WpL_val rfl rfl (by decide) (r_extract (vs := #[(.agg #[(.int .i64 C5.start), (.slice ca5 C5.accept.length cc5), (.slice ma5 C5.next.length mc5)]), (.int .i64 0)]) (v := (.agg #[(.int .i64 C5.start), (.slice ca5 C5.accept.length cc5), (.slice ma5 C5.next.length mc5)])) rfl rfl) ?_
  refine WpL_val rfl rfl (by decide) (r_extract (vs := #[(.agg #[(.int .i64 C5.start), (.slice ca5 C5.accept.length cc5), (.slice ma5 C5.next.length mc5)]), (.int .i64 0)]) (v := (.int .i64 0)) rfl rfl) ?_
  refine s_allocStore (v := (.agg #[(.int .i64 C5.start), (.slice ca5 C5.accept.length cc5), (.slice ma5 C5.next.length mc5)])) (c := #[(.int .i64 C5.start), (.slice ca5 C5.accept.length cc5), (.slice ma5 C5.next.length mc5)]) (n := 3) (by decide) zer25 rfl siz25 rfl rfl rfl (by simp [Value.oneCell']) ?_
  intro b7 w7 N7
  have F7 := N7.ge E
  have O7_ba := N7.lt Ba
  have O7_bb := N7.lt Bb
  have O7_b3 := N7.lt B3
  have O7_b4 := N7.lt B4
  have O7_b5 := N7.lt B5
  have O7_b6 := N7.lt B6
  replace Ba := N7.keep Ba
  replace Bb := N7.keep Bb
  replace B3 := N7.keep B3
  replace B4 := N7.keep B4
  replace B5 := N7.keep B5
  replace B6 := N7.keep B6
  replace hA := hA.ext N7.ext
  replace hB := hB.ext N7.ext
  replace hD1 := hD1.ext N7.ext
  replace hD2 := hD2.ext N7.ext
  replace hD3 := hD3.ext N7.ext
  replace hD4 := hD4.ext N7.ext
  replace hD5 := hD5.ext N7.ext
  replace E := E.ext N7.ext
  have B7 := N7.blk
  refine WpL_val rfl rfl (by decide) (r_assign (v := (.int .i64 0)) rfl) ?_
  refine WpL_nil ?_
  refine Wp_seq_region ?_
  refine WpL_val rfl rfl (by decide) (r_loadAgg (vs := [(.int .i64 a.start), (.slice aa n1 ac), (.slice na n1 nc)]) rfl agg25 siz25 rfl (Ba.cells rfl)) ?_
  refine WpL_val rfl rfl (by decide) (r_loadAgg (vs := [(.int .i64 a.start), (.slice aa n1 ac), (.slice na n1 nc)]) rfl agg25 siz25 rfl (Ba.cells rfl)) ?_
  refine WpL_enter rfl rfl (by decide) (r_callF (vs := [(.agg #[(.int .i64 a.start), (.slice aa n1 ac), (.slice na n1 nc)]), (.agg #[(.int .i64 a.start), (.slice aa n1 ac), (.slice na n1 nc)])]) Try.func34 nm34 bd34 rfl) (dfEither_c _ n1 n1 3 a a _ _ oka oka hA hA (by decide) (by omega) (by omega) (Nat.le_trans (Nat.mul_le_mul (show n1 + 1 ≤ 7 by omega) (show n1 + 1 ≤ 7 by omega)) (by decide)) (fun x h => le01 (hacca x h)) (fun x h => le01 (hacca x h))) ?_
  rintro _ wr6 ⟨⟨C6, ca6, cc6, ma6, mc6, hC6, hl6, hx6, rfl, hN6⟩, Xr6⟩
  replace Ba := Xr6.keep Ba
  replace Bb := Xr6.keep Bb
  replace B3 := Xr6.keep B3
  replace B4 := Xr6.keep B4
  replace B5 := Xr6.keep B5
  replace B6 := Xr6.keep B6
  replace B7 := Xr6.keep B7
  replace hA := hA.ext Xr6
  replace hB := hB.ext Xr6
  replace hD1 := hD1.ext Xr6
  replace hD2 := hD2.ext Xr6
  replace hD3 := hD3.ext Xr6
  replace hD4 := hD4.ext Xr6
  replace hD5 := hD5.ext Xr6
  replace E := E.ext Xr6
  have hD6 := hN6.at'
  obtain ⟨ok6, st6, bh6, ge6⟩ := hC6.ok
  refine WpL_val rfl rfl (by decide) (r_move (v := (.tuple #[(.agg #[(.int .i64 C6.start), (.slice ca6 C6.accept.length cc6), (.slice ma6 C6.next.length mc6)]), (.int .i64 0)])) rfl) ?_
  refine WpL_val rfl rfl (by decide) (r_extract (vs := #[(.agg #[(.int .i64 C6.start), (.slice ca6 C6.accept.length cc6), (.slice ma6 C6.next.length mc6)]), (.int .i64 0)]) (v := (.agg #[(.int .i64 C6.start), (.slice ca6 C6.accept.length cc6), (.slice ma6 C6.next.length mc6)])) rfl rfl) ?_
  refine WpL_val rfl rfl (by decide) (r_extract (vs := #[(.agg #[(.int .i64 C6.start), (.slice ca6 C6.accept.length cc6), (.slice ma6 C6.next.length mc6)]), (.int .i64 0)]) (v := (.int .i64 0)) rfl rfl) ?_
  refine s_allocStore (v := (.agg #[(.int .i64 C6.start), (.slice ca6 C6.accept.length cc6), (.slice ma6 C6.next.length mc6)])) (c := #[(.int .i64 C6.start), (.slice ca6 C6.accept.length cc6), (.slice ma6 C6.next.length mc6)]) (n := 3) (by decide) zer25 rfl siz25 rfl rfl rfl (by simp [Value.oneCell']) ?_
  intro bc wc Nc
  have Fc := Nc.ge E
  have Oc_ba := Nc.lt Ba
  have Oc_bb := Nc.lt Bb
  have Oc_b3 := Nc.lt B3
  have Oc_b4 := Nc.lt B4
  have Oc_b5 := Nc.lt B5
  have Oc_b6 := Nc.lt B6
  have Oc_b7 := Nc.lt B7
  replace Ba := Nc.keep Ba
  replace Bb := Nc.keep Bb
  replace B3 := Nc.keep B3
  replace B4 := Nc.keep B4
  replace B5 := Nc.keep B5
  replace B6 := Nc.keep B6
  replace B7 := Nc.keep B7
  replace hA := hA.ext Nc.ext
  replace hB := hB.ext Nc.ext
  replace hD1 := hD1.ext Nc.ext
  replace hD2 := hD2.ext Nc.ext
  replace hD3 := hD3.ext Nc.ext
  replace hD4 := hD4.ext Nc.ext
  replace hD5 := hD5.ext Nc.ext
  replace hD6 := hD6.ext Nc.ext
  replace E := E.ext Nc.ext
  have Bc := Nc.blk
  refine WpL_val rfl rfl (by decide) (r_assign (v := (.int .i64 0)) rfl) ?_
  refine WpL_nil ?_
  refine Wp_seq ?_
  refine Wp_seq_region ?_
  refine WpL_val rfl rfl (by decide) (r_move (v := (.int .i64 0)) rfl) ?_
  refine WpL_val rfl rfl (by decide) (r_move (v := (.int .i64 0)) rfl) ?_
  refine WpL_val rfl rfl (by decide) (r_move (v := (.int .i64 0)) rfl) ?_
  refine WpL_val rfl rfl (by decide) (r_move (v := (.int .i64 0)) rfl) ?_
  refine WpL_val rfl rfl (by decide) (r_move (v := (.int .i64 0)) rfl) ?_
  refine WpL_val rfl rfl (by decide) (r_move (v := (.int .i64 0)) rfl) ?_
  refine s_buildSlice (ps := [(0, (.int .i64 0)), (1, (.int .i64 0)), (2, (.int .i64 0)), (3, (.int .i64 0)), (4, (.int .i64 0)), (5, (.int .i64 0))]) (c := #[(.int .i64 0), (.int .i64 0), (.int .i64 0), (.int .i64 0), (.int .i64 0), (.int .i64 0)]) (by decide) rfl Try.underlying85 siz26 zer26 (by decide) (by decide) (by kernel_rfl) ?_
  intro bd wd Nd
  have Fd := Nd.ge E
  have Od_ba := Nd.lt Ba
  have Od_bb := Nd.lt Bb
  have Od_b3 := Nd.lt B3
  have Od_b4 := Nd.lt B4
  have Od_b5 := Nd.lt B5
  have Od_b6 := Nd.lt B6
  have Od_b7 := Nd.lt B7
  have Od_bc := Nd.lt Bc
  replace Ba := Nd.keep Ba
  replace Bb := Nd.keep Bb
  replace B3 := Nd.keep B3
  replace B4 := Nd.keep B4
  replace B5 := Nd.keep B5
  replace B6 := Nd.keep B6
  replace B7 := Nd.keep B7
  replace Bc := Nd.keep Bc
  replace hA := hA.ext Nd.ext
  replace hB := hB.ext Nd.ext
  replace hD1 := hD1.ext Nd.ext
  replace hD2 := hD2.ext Nd.ext
  replace hD3 := hD3.ext Nd.ext
  replace hD4 := hD4.ext Nd.ext
  replace hD5 := hD5.ext Nd.ext
  replace hD6 := hD6.ext Nd.ext
  replace E := E.ext Nd.ext
  have Bd := Nd.blk
  refine WpL_enter rfl rfl (by decide) (r_callF (vs := [(.slice (some ⟨bd, 0, none⟩) 6 6)]) Try.func24 nm24 bd24 rfl) (good_c _ _ [0, 0, 0, 0, 0, 0] (ints_of_blk [0, 0, 0, 0, 0, 0] Bd (by decide) (by decide))) ?_
  rintro _ wgg ⟨rfl, Xg⟩
  replace Ba := Xg.keep Ba
  replace Bb := Xg.keep Bb
  replace B3 := Xg.keep B3
  replace B4 := Xg.keep B4
  replace B5 := Xg.keep B5
  replace B6 := Xg.keep B6
  replace B7 := Xg.keep B7
  replace Bc := Xg.keep Bc
  replace Bd := Xg.keep Bd
  replace hA := hA.ext Xg
  replace hB := hB.ext Xg
  replace hD1 := hD1.ext Xg
  replace hD2 := hD2.ext Xg
  replace hD3 := hD3.ext Xg
  replace hD4 := hD4.ext Xg
  replace hD5 := hD5.ext Xg
  replace hD6 := hD6.ext Xg
  replace E := E.ext Xg
  have hl3b : C3.next.length ≤ 49 := Nat.le_trans hl3 (Nat.le_trans (Nat.mul_le_mul (show n1 + 1 ≤ 7 by omega) (show n2 + 1 ≤ 7 by omega)) (by decide))
  refine WpL_val rfl rfl (by decide) (r_not (b := true) rfl) ?_
  refine WpL_nil ?_
  refine Wp_cond_false rfl ?_
  refine Wp_skip ?_
  refine thn_normal ?_
  refine Wp_seq_region ?_
  refine WpL_val rfl rfl (by decide) (r_loadAgg (vs := [(.int .i64 C3.start), (.slice ca3 C3.accept.length cc3), (.slice ma3 C3.next.length mc3)]) rfl agg25 siz25 rfl (B5.cells rfl)) ?_
  refine WpL_enter rfl rfl (by decide) (r_callF (vs := [(.agg #[(.int .i64 C3.start), (.slice ca3 C3.accept.length cc3), (.slice ma3 C3.next.length mc3)])]) Try.func29 nm29 bd29 rfl) (dfNot_c _ _ 3 C3 _ ok3 hD3 (by omega) (by decide)) ?_
  rintro _ wr7 ⟨⟨C7, ca7, cc7, ma7, mc7, hC7, hl7, hx7, rfl, hN7⟩, Xr7⟩
  replace Ba := Xr7.keep Ba
  replace Bb := Xr7.keep Bb
  replace B3 := Xr7.keep B3
  replace B4 := Xr7.keep B4
  replace B5 := Xr7.keep B5
  replace B6 := Xr7.keep B6
  replace B7 := Xr7.keep B7
  replace Bc := Xr7.keep Bc
  replace Bd := Xr7.keep Bd
  replace hA := hA.ext Xr7
  replace hB := hB.ext Xr7
  replace hD1 := hD1.ext Xr7
  replace hD2 := hD2.ext Xr7
  replace hD3 := hD3.ext Xr7
  replace hD4 := hD4.ext Xr7
  replace hD5 := hD5.ext Xr7
  replace hD6 := hD6.ext Xr7
  replace E := E.ext Xr7
  have hD7 := hN7.at'
  obtain ⟨ok7, st7, bh7, ge7⟩ := hC7.ok
  refine WpL_val rfl rfl (by decide) (r_move (v := (.tuple #[(.agg #[(.int .i64 C7.start), (.slice ca7 C7.accept.length cc7), (.slice ma7 C7.next.length mc7)]), (.int .i64 0)])) rfl) ?_
  refine WpL_val rfl rfl (by decide) (r_extract (vs := #[(.agg #[(.int .i64 C7.start), (.slice ca7 C7.accept.length cc7), (.slice ma7 C7.next.length mc7)]), (.int .i64 0)]) (v := (.agg #[(.int .i64 C7.start), (.slice ca7 C7.accept.length cc7), (.slice ma7 C7.next.length mc7)])) rfl rfl) ?_
  refine WpL_val rfl rfl (by decide) (r_extract (vs := #[(.agg #[(.int .i64 C7.start), (.slice ca7 C7.accept.length cc7), (.slice ma7 C7.next.length mc7)]), (.int .i64 0)]) (v := (.int .i64 0)) rfl rfl) ?_
  refine s_allocStore (v := (.agg #[(.int .i64 C7.start), (.slice ca7 C7.accept.length cc7), (.slice ma7 C7.next.length mc7)])) (c := #[(.int .i64 C7.start), (.slice ca7 C7.accept.length cc7), (.slice ma7 C7.next.length mc7)]) (n := 3) (by decide) zer25 rfl siz25 rfl rfl rfl (by simp [Value.oneCell']) ?_
  intro b8 w8 N8
  have F8 := N8.ge E
  have O8_ba := N8.lt Ba
  have O8_bb := N8.lt Bb
  have O8_b3 := N8.lt B3
  have O8_b4 := N8.lt B4
  have O8_b5 := N8.lt B5
  have O8_b6 := N8.lt B6
  have O8_b7 := N8.lt B7
  have O8_bc := N8.lt Bc
  have O8_bd := N8.lt Bd
  replace Ba := N8.keep Ba
  replace Bb := N8.keep Bb
  replace B3 := N8.keep B3
  replace B4 := N8.keep B4
  replace B5 := N8.keep B5
  replace B6 := N8.keep B6
  replace B7 := N8.keep B7
  replace Bc := N8.keep Bc
  replace Bd := N8.keep Bd
  replace hA := hA.ext N8.ext
  replace hB := hB.ext N8.ext
  replace hD1 := hD1.ext N8.ext
  replace hD2 := hD2.ext N8.ext
  replace hD3 := hD3.ext N8.ext
  replace hD4 := hD4.ext N8.ext
  replace hD5 := hD5.ext N8.ext
  replace hD6 := hD6.ext N8.ext
  replace hD7 := hD7.ext N8.ext
  replace E := E.ext N8.ext
  have B8 := N8.blk
  refine WpL_val rfl rfl (by decide) (r_assign (v := (.int .i64 0)) rfl) ?_
  refine WpL_nil ?_
  refine Wp_seq_region ?_
  refine WpL_val rfl rfl (by decide) (r_move (v := v3) rfl) ?_
  refine WpL_enter rfl rfl (by decide) (r_callF (vs := [(.int .i64 3), (.int .i64 12), v3]) Try.func35 nm35 bd35 rfl) (word_c _ _ l3 3 12 (h3.ext E) (by decide) (by decide)) ?_
  rintro _ www ⟨⟨u, ua, uc, rfl, hu, huw, hul⟩, Xw⟩
  replace Ba := Xw.keep Ba
  replace Bb := Xw.keep Bb
  replace B3 := Xw.keep B3
  replace B4 := Xw.keep B4
  replace B5 := Xw.keep B5
  replace B6 := Xw.keep B6
  replace B7 := Xw.keep B7
  replace Bc := Xw.keep Bc
  replace Bd := Xw.keep Bd
  replace B8 := Xw.keep B8
  replace hA := hA.ext Xw
  replace hB := hB.ext Xw
  replace hD1 := hD1.ext Xw
  replace hD2 := hD2.ext Xw
  replace hD3 := hD3.ext Xw
  replace hD4 := hD4.ext Xw
  replace hD5 := hD5.ext Xw
  replace hD6 := hD6.ext Xw
  replace hD7 := hD7.ext Xw
  replace E := E.ext Xw
  have hul3 : (toI u).length ≤ 4000 := by simp [toI]; omega
  refine WpL_val rfl rfl (by decide) (r_assign (v := (.slice ua u.length uc)) rfl) ?_
  refine WpL_nil ?_
  refine Wp_seq_region ?_
  refine WpL_val rfl rfl (by decide) (r_loadAgg (vs := [(.int .i64 a.start), (.slice aa n1 ac), (.slice na n1 nc)]) rfl agg25 siz25 rfl (Ba.cells rfl)) ?_
  refine WpL_val rfl rfl (by decide) (r_move (v := (.slice ua u.length uc)) rfl) ?_
  refine WpL_enter rfl rfl (by decide) (r_callF (vs := [(.agg #[(.int .i64 a.start), (.slice aa n1 ac), (.slice na n1 nc)]), (.slice ua u.length uc)]) Try.func31 nm31 bd31 rfl) (dfrun_c _ n1 3 a _ _ (toI u) oka hA (by omega) (by decide) hu hul3 (toI_rng huw)) ?_
  rintro _ wpp ⟨rfl, Xp⟩
  replace Ba := Xp.keep Ba
  replace Bb := Xp.keep Bb
  replace B3 := Xp.keep B3
  replace B4 := Xp.keep B4
  replace B5 := Xp.keep B5
  replace B6 := Xp.keep B6
  replace B7 := Xp.keep B7
  replace Bc := Xp.keep Bc
  replace Bd := Xp.keep Bd
  replace B8 := Xp.keep B8
  replace hA := hA.ext Xp
  replace hB := hB.ext Xp
  replace hD1 := hD1.ext Xp
  replace hD2 := hD2.ext Xp
  replace hD3 := hD3.ext Xp
  replace hD4 := hD4.ext Xp
  replace hD5 := hD5.ext Xp
  replace hD6 := hD6.ext Xp
  replace hD7 := hD7.ext Xp
  replace hu := hu.ext Xp
  replace E := E.ext Xp
  refine WpL_val rfl rfl (by decide) (r_move (v := (.tuple #[(.int .i64 (beh a a.start ((toI u).map Int.toNat))), (.int .i64 0)])) rfl) ?_
  refine WpL_val rfl rfl (by decide) (r_extract (vs := #[(.int .i64 (beh a a.start ((toI u).map Int.toNat))), (.int .i64 0)]) (v := (.int .i64 (beh a a.start ((toI u).map Int.toNat)))) rfl rfl) ?_
  refine WpL_val rfl rfl (by decide) (r_extract (vs := #[(.int .i64 (beh a a.start ((toI u).map Int.toNat))), (.int .i64 0)]) (v := (.int .i64 0)) rfl rfl) ?_
  refine WpL_val rfl rfl (by decide) (r_assign (v := (.int .i64 (beh a a.start ((toI u).map Int.toNat)))) rfl) ?_
  refine WpL_val rfl rfl (by decide) (r_assign (v := (.int .i64 0)) rfl) ?_
  refine WpL_nil ?_
  refine Wp_seq_region ?_
  refine WpL_val rfl rfl (by decide) (r_loadAgg (vs := [(.int .i64 C1.start), (.slice ca1 C1.accept.length cc1), (.slice ma1 C1.next.length mc1)]) rfl agg25 siz25 rfl (B3.cells rfl)) ?_
  refine WpL_val rfl rfl (by decide) (r_move (v := (.slice ua u.length uc)) rfl) ?_
  refine WpL_enter rfl rfl (by decide) (r_callF (vs := [(.agg #[(.int .i64 C1.start), (.slice ca1 C1.accept.length cc1), (.slice ma1 C1.next.length mc1)]), (.slice ua u.length uc)]) Try.func31 nm31 bd31 rfl) (dfrun_c _ _ 3 C1 _ _ (toI u) ok1 hD1 (by omega) (by decide) hu hul3 (toI_rng huw)) ?_
  rintro _ wqq ⟨rfl, Xq⟩
  replace Ba := Xq.keep Ba
  replace Bb := Xq.keep Bb
  replace B3 := Xq.keep B3
  replace B4 := Xq.keep B4
  replace B5 := Xq.keep B5
  replace B6 := Xq.keep B6
  replace B7 := Xq.keep B7
  replace Bc := Xq.keep Bc
  replace Bd := Xq.keep Bd
  replace B8 := Xq.keep B8
  replace hA := hA.ext Xq
  replace hB := hB.ext Xq
  replace hD1 := hD1.ext Xq
  replace hD2 := hD2.ext Xq
  replace hD3 := hD3.ext Xq
  replace hD4 := hD4.ext Xq
  replace hD5 := hD5.ext Xq
  replace hD6 := hD6.ext Xq
  replace hD7 := hD7.ext Xq
  replace hu := hu.ext Xq
  replace E := E.ext Xq
  refine WpL_val rfl rfl (by decide) (r_move (v := (.tuple #[(.int .i64 (beh C1 C1.start ((toI u).map Int.toNat))), (.int .i64 0)])) rfl) ?_
  refine WpL_val rfl rfl (by decide) (r_extract (vs := #[(.int .i64 (beh C1 C1.start ((toI u).map Int.toNat))), (.int .i64 0)]) (v := (.int .i64 (beh C1 C1.start ((toI u).map Int.toNat)))) rfl rfl) ?_
  refine WpL_val rfl rfl (by decide) (r_extract (vs := #[(.int .i64 (beh C1 C1.start ((toI u).map Int.toNat))), (.int .i64 0)]) (v := (.int .i64 0)) rfl rfl) ?_
  refine WpL_val rfl rfl (by decide) (r_assign (v := (.int .i64 (beh C1 C1.start ((toI u).map Int.toNat)))) rfl) ?_
  refine WpL_val rfl rfl (by decide) (r_assign (v := (.int .i64 0)) rfl) ?_
  refine WpL_nil ?_
  refine Wp_seq_region ?_
  refine WpL_val rfl rfl (by decide) (r_move (v := (.int .i64 0)) rfl) ?_
  refine WpL_val rfl rfl (by decide) (r_move (v := (.int .i64 0)) rfl) ?_
  refine WpL_val rfl rfl (by decide) (r_move (v := (.int .i64 0)) rfl) ?_
  refine s_buildSlice (ps := [(0, (.int .i64 0)), (1, (.int .i64 0)), (2, (.int .i64 0))]) (c := #[(.int .i64 0), (.int .i64 0), (.int .i64 0)]) (by decide) rfl Try.underlying85 siz26 zer26 (by decide) (by decide) (by kernel_rfl) ?_
  intro bi wi Ni
  have Fi := Ni.ge E
  have Oi_ba := Ni.lt Ba
  have Oi_bb := Ni.lt Bb
  have Oi_b3 := Ni.lt B3
  have Oi_b4 := Ni.lt B4
  have Oi_b5 := Ni.lt B5
  have Oi_b6 := Ni.lt B6
  have Oi_b7 := Ni.lt B7
  have Oi_bc := Ni.lt Bc
  have Oi_bd := Ni.lt Bd
  have Oi_b8 := Ni.lt B8
  replace Ba := Ni.keep Ba
  replace Bb := Ni.keep Bb
  replace B3 := Ni.keep B3
  replace B4 := Ni.keep B4
  replace B5 := Ni.keep B5
  replace B6 := Ni.keep B6
  replace B7 := Ni.keep B7
  replace Bc := Ni.keep Bc
  replace Bd := Ni.keep Bd
  replace B8 := Ni.keep B8
  replace hA := hA.ext Ni.ext
  replace hB := hB.ext Ni.ext
  replace hD1 := hD1.ext Ni.ext
  replace hD2 := hD2.ext Ni.ext
  replace hD3 := hD3.ext Ni.ext
  replace hD4 := hD4.ext Ni.ext
  replace hD5 := hD5.ext Ni.ext
  replace hD6 := hD6.ext Ni.ext
  replace hD7 := hD7.ext Ni.ext
  replace hu := hu.ext Ni.ext
  replace E := E.ext Ni.ext
  have Bi := Ni.blk
  refine WpL_enter rfl rfl (by decide) (r_callF (vs := [(.slice (some ⟨bi, 0, none⟩) 3 3)]) Try.func24 nm24 bd24 rfl) (good_c _ _ [0, 0, 0] (ints_of_blk [0, 0, 0] Bi (by decide) (by decide))) ?_
  rintro _ wg2 ⟨rfl, Xg2⟩
  replace Ba := Xg2.keep Ba
  replace Bb := Xg2.keep Bb
  replace B3 := Xg2.keep B3
  replace B4 := Xg2.keep B4
  replace B5 := Xg2.keep B5
  replace B6 := Xg2.keep B6
  replace B7 := Xg2.keep B7
  replace Bc := Xg2.keep Bc
  replace Bd := Xg2.keep Bd
  replace B8 := Xg2.keep B8
  replace Bi := Xg2.keep Bi
  replace hA := hA.ext Xg2
  replace hB := hB.ext Xg2
  replace hD1 := hD1.ext Xg2
  replace hD2 := hD2.ext Xg2
  replace hD3 := hD3.ext Xg2
  replace hD4 := hD4.ext Xg2
  replace hD5 := hD5.ext Xg2
  replace hD6 := hD6.ext Xg2
  replace hD7 := hD7.ext Xg2
  replace hu := hu.ext Xg2
  replace E := E.ext Xg2
  have va := fun w => beh01 oka hacca w a.start
  have vb := fun w => beh01 okb haccb w b.start
  have eq1 : C7 = C4 := CanOf.uniq hC7 hC4 fun w hw => (by rw [bh3 w hw, bh1 w hw, bh2 w hw]; exact morgan (va w) (vb w))
  have eq2 : C5 = C6 := CanOf.uniq hC5 hC6 fun w hw => (by rw [bh1 w hw]; exact twice (va w))
  have hlen7 := hl7
  refine WpL_val rfl rfl (by decide) (r_move (v := (.bool true)) rfl) ?_
  refine WpL_guard_yes (oj := _) rfl rfl (by decide) rfl ?_
  refine WpL_val rfl rfl (by decide) (r_loadAgg (vs := [(.int .i64 C7.start), (.slice ca7 C7.accept.length cc7), (.slice ma7 C7.next.length mc7)]) rfl agg25 siz25 rfl (B8.cells rfl)) ?_
  refine WpL_guard_yes (oj := _) rfl rfl (by decide) rfl ?_
  refine WpL_val rfl rfl (by decide) (r_loadAgg (vs := [(.int .i64 C4.start), (.slice ca4 C4.accept.length cc4), (.slice ma4 C4.next.length mc4)]) rfl agg25 siz25 rfl (B6.cells rfl)) ?_
  refine WpL_guard_yes (oj := _) rfl rfl (by decide) rfl ?_
  refine WpL_enter rfl rfl (by decide) (r_callF (vs := [(.agg #[(.int .i64 C7.start), (.slice ca7 C7.accept.length cc7), (.slice ma7 C7.next.length mc7)]), (.agg #[(.int .i64 C4.start), (.slice ca4 C4.accept.length cc4), (.slice ma4 C4.next.length mc4)])]) Try.func25 nm25 bd25 rfl) (equalD_c _ C7 C4 _ _ hD7 hD4 (by omega)) ?_
  rintro _ we1 ⟨rfl, Xe1⟩
  replace Ba := Xe1.keep Ba
  replace Bb := Xe1.keep Bb
  replace B3 := Xe1.keep B3
  replace B4 := Xe1.keep B4
  replace B5 := Xe1.keep B5
  replace B6 := Xe1.keep B6
  replace B7 := Xe1.keep B7
  replace Bc := Xe1.keep Bc
  replace Bd := Xe1.keep Bd
  replace B8 := Xe1.keep B8
  replace Bi := Xe1.keep Bi
  replace hA := hA.ext Xe1
  replace hB := hB.ext Xe1
  replace hD1 := hD1.ext Xe1
  replace hD2 := hD2.ext Xe1
  replace hD3 := hD3.ext Xe1
  replace hD4 := hD4.ext Xe1
  replace hD5 := hD5.ext Xe1
  replace hD6 := hD6.ext Xe1
  replace hD7 := hD7.ext Xe1
  replace hu := hu.ext Xe1
  replace E := E.ext Xe1
  refine WpL_val rfl rfl (by decide) (r_pick (b := true) (v := (.bool (decide (C7 = C4)))) rfl rfl) ?_
  refine WpL_val rfl rfl (by decide) (r_move (v := (.bool (decide (C7 = C4)))) rfl) ?_
  have hg9 : (decide (C7 = C4)) = true := decide_eq_true eq1
  refine WpL_guard_yes (oj := _) rfl rfl (by decide) (congrArg Value.bool hg9) ?_
  refine WpL_val rfl rfl (by decide) (r_loadAgg (vs := [(.int .i64 C5.start), (.slice ca5 C5.accept.length cc5), (.slice ma5 C5.next.length mc5)]) rfl agg25 siz25 rfl (B7.cells rfl)) ?_
  refine WpL_guard_yes (oj := _) rfl rfl (by decide) (congrArg Value.bool hg9) ?_
  refine WpL_val rfl rfl (by decide) (r_loadAgg (vs := [(.int .i64 C6.start), (.slice ca6 C6.accept.length cc6), (.slice ma6 C6.next.length mc6)]) rfl agg25 siz25 rfl (Bc.cells rfl)) ?_
  refine WpL_guard_yes (oj := _) rfl rfl (by decide) (congrArg Value.bool hg9) ?_
  refine WpL_enter rfl rfl (by decide) (r_callF (vs := [(.agg #[(.int .i64 C5.start), (.slice ca5 C5.accept.length cc5), (.slice ma5 C5.next.length mc5)]), (.agg #[(.int .i64 C6.start), (.slice ca6 C6.accept.length cc6), (.slice ma6 C6.next.length mc6)])]) Try.func25 nm25 bd25 rfl) (equalD_c _ C5 C6 _ _ hD5 hD6 (by omega)) ?_
  rintro _ we2 ⟨rfl, Xe2⟩
  replace Ba := Xe2.keep Ba
  replace Bb := Xe2.keep Bb
  replace B3 := Xe2.keep B3
  replace B4 := Xe2.keep B4
  replace B5 := Xe2.keep B5
  replace B6 := Xe2.keep B6
  replace B7 := Xe2.keep B7
  replace Bc := Xe2.keep Bc
  replace Bd := Xe2.keep Bd
  replace B8 := Xe2.keep B8
  replace Bi := Xe2.keep Bi
  replace hA := hA.ext Xe2
  replace hB := hB.ext Xe2
  replace hD1 := hD1.ext Xe2
  replace hD2 := hD2.ext Xe2
  replace hD3 := hD3.ext Xe2
  replace hD4 := hD4.ext Xe2
  replace hD5 := hD5.ext Xe2
  replace hD6 := hD6.ext Xe2
  replace hD7 := hD7.ext Xe2
  replace hu := hu.ext Xe2
  replace E := E.ext Xe2
  refine WpL_val rfl rfl (by decide) (r_pick (b := decide (C7 = C4)) (v := (.bool (decide (C5 = C6)))) rfl (by rw [hg9]; rfl)) ?_
  refine WpL_val rfl rfl (by decide) (r_move (v := (.bool (decide (C5 = C6)))) rfl) ?_
  have hg10 : (decide (C5 = C6)) = true := decide_eq_true eq2
  refine WpL_guard_yes (oj := _) rfl rfl (by decide) (congrArg Value.bool hg10) ?_
  refine WpL_val rfl rfl (by decide) (r_move (v := (.int .i64 (beh a a.start ((toI u).map Int.toNat)))) rfl) ?_
  refine WpL_guard_yes (oj := _) rfl rfl (by decide) (congrArg Value.bool hg10) ?_
  refine WpL_val rfl rfl (by decide) (r_lss (k := .i64) (a := beh a a.start ((toI u).map Int.toNat)) (b := 0) rfl rfl) ?_
  refine WpL_guard_yes (oj := _) rfl rfl (by decide) (congrArg Value.bool hg10) ?_
  refine WpL_val rfl rfl (by decide) (r_move (v := (.int .i64 (beh C1 C1.start ((toI u).map Int.toNat)))) rfl) ?_
  refine WpL_guard_yes (oj := _) rfl rfl (by decide) (congrArg Value.bool hg10) ?_
  refine WpL_val rfl rfl (by decide) (r_geq (k := .i64) (a := beh C1 C1.start ((toI u).map Int.toNat)) (b := 0) rfl rfl) ?_
  refine WpL_guard_yes (oj := _) rfl rfl (by decide) (congrArg Value.bool hg10) ?_
  refine WpL_val rfl rfl (by decide) (r_eqlB (p := decide ((beh a a.start ((toI u).map Int.toNat) : Int) < 0)) (q := decide ((0 : Int) ≤ beh C1 C1.start ((toI u).map Int.toNat))) Try.underlying4 rfl rfl) ?_
  refine WpL_val rfl rfl (by decide) (r_pick (b := decide (C5 = C6)) (v := (.bool ((decide ((beh a a.start ((toI u).map Int.toNat) : Int) < 0)) == (decide ((0 : Int) ≤ beh C1 C1.start ((toI u).map Int.toNat)))))) rfl (by rw [hg10]; rfl)) ?_
  refine WpL_val rfl rfl (by decide) (r_assign (v := (.bool ((decide ((beh a a.start ((toI u).map Int.toNat) : Int) < 0)) == (decide ((0 : Int) ≤ beh C1 C1.start ((toI u).map Int.toNat)))))) rfl) ?_
  refine WpL_nil ?_
  refine Wp_ret ?_
  refine fin_tmp Try.results6 (v := (.bool ((decide ((beh a a.start ((toI u).map Int.toNat) : Int) < 0)) == (decide ((0 : Int) ≤ beh C1 C1.start ((toI u).map Int.toNat)))))) rfl ?_
  exact ⟨bool_eq (by rw [toI_nat, bh1 u huw]; rcases va u with h | h <;> rw [h] <;> decide), E⟩
end Go.Proofs
