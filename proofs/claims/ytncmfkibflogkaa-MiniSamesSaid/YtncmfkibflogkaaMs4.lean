/- Contracts and plain lemmas, part 4. -/
import Derived.Tactics
import Derived.Deep.Quiet
import Derived.Laws.AppendOwn
import Derived.KernelRfl
import Derived.Laws.Entries
import Derived.Laws.Build
import Derived.Below
import Derived.RowKit3
import Derived.StillTail
import Derived.Sort.Grow
import Derived.Deep.Draws
import Derived.Test.YtncmfkibflogkaaChecked
import Derived.Laws.StructEq
import Derived.MapKept
import Derived.Laws.BytesArg
import Derived.Laws.CopyRow
import Derived.DeepKeys3
import Derived.OpenShut
import Derived.ChangeSlices
import Derived.Test.YtncmfkibflogkaaMs3
namespace Go.Proofs
open Go Go.Eng Go.Sort
set_option maxRecDepth 100000
theorem dfa_eq_iff (a b : Dfa) : a = b ↔ a.start = b.start ∧ a.accept = b.accept ∧ a.next = b.next := by
  cases a; cases b; simp
instance : DecidableEq Dfa := fun a b => decidable_of_iff _ (dfa_eq_iff a b).symm
end Go.Proofs
namespace Go.Proofs
open Go Go.Eng Go.Sort
set_option maxRecDepth 100000
--BEGIN
def canB (c m : Nat) (C : Dfa) (W : List (List Nat)) : Bool :=
  decide (C.next.length = m) && decide (C.accept.length = m) && decide (C.start = 0) && decide (0 < m) && (C.accept.all fun x => decide (-1 ≤ x)) && (C.next.all fun r => decide (r.length = c) && r.all fun x => decide (-1 ≤ x) && decide (x < m)) &&
  ((List.range C.next.flatten.length).all fun k => decide (C.next.flatten.getD k 0 ≤ mxL (C.next.flatten.take k) + 1)) && ((List.range m).all fun i => decide (((i : Nat) : Int) ≤ mxL (C.next.flatten.take (i * c)))) && decide (mxL C.next.flatten = m - 1) &&
  (W.all fun w => w.all fun x => decide (x < c)) &&
  ((List.range m).all fun s => (List.range m).all fun t => decide (s = t) || W.any fun w => decide (beh C ((s : Nat) : Int) w ≠ beh C ((t : Nat) : Int) w)) &&
  ((List.range m).all fun s => (List.range c).all fun x => decide (toD C ((s : Nat) : Int) x < 0) || W.any fun w => decide (0 ≤ beh C (toD C ((s : Nat) : Int) x) w))
theorem canB_can {c m : Nat} {C : Dfa} {W : List (List Nat)} (h : canB c m C W = true) : CanOf c (beh C 0) C := by
  simp only [canB, Bool.and_eq_true, decide_eq_true_eq, List.all_eq_true, Bool.or_eq_true, List.any_eq_true] at h
  obtain ⟨⟨⟨⟨⟨⟨⟨⟨⟨⟨⟨h1, h2⟩, h3⟩, h4⟩, h5⟩, h6⟩, h7⟩, h8⟩, h9⟩, h10⟩, h11⟩, h12⟩ := h
  have hget : ∀ s : Int, 0 ≤ s → s < m → ∃ i : Nat, s = ((i : Nat) : Int) ∧ i ∈ List.range m := fun s a b => ⟨s.toNat, by omega, List.mem_range.2 (by omega)⟩
  refine ⟨m, ⟨⟨h1, h2, by rw [h3]; omega, h5, fun r hr => ⟨(h6 r hr).1, fun x hx => ?_⟩⟩, h3, fun k x hk => ?_, fun i hi => h8 i (List.mem_range.2 hi), h9⟩, fun w _ => rfl, fun s t s0 s1 t0 t1 he => ?_, fun s x hx hs => ?_⟩
  · exact (h6 r hr).2 x hx
  · have := h7 k (List.mem_range.2 (lt_of_get hk))
    rwa [List.getD_eq_getElem?_getD, hk, Option.getD_some] at this
  · obtain ⟨i, rfl, hi⟩ := hget s s0 s1
    obtain ⟨j, rfl, hj⟩ := hget t t0 t1
    rcases h11 i hi j hj with h | ⟨w, hw, h⟩
    · rw [h]
    · exact absurd (he w fun x hx => h10 w hw x hx) h
  · rcases Int.lt_or_le s 0 with a | a
    · rw [toD_neg a] at hs; omega
    · rcases Int.lt_or_le s m with b | b
      · obtain ⟨i, rfl, hi⟩ := hget s a b
        rcases h12 i hi x (List.mem_range.2 hx) with h | ⟨w, hw, h⟩
        · omega
        · exact ⟨w, fun x hx => h10 w hw x hx, h⟩
      · exfalso
        unfold toD at hs
        have e : C.next[s.toNat]? = none := List.getElem?_eq_none (by omega)
        rw [if_neg (by omega)] at hs
        simp [List.getD_eq_getElem?_getD, e] at hs
theorem beh_one {D C : Dfa} {f : Int → Int} (P : Int → Int → Prop) (h0 : ∀ s t, P s t → atD C t = f (atD D s)) (h1 : ∀ s t, P s t → P (toD D s 0) (toD C t 0)) : ∀ (w : List Nat), inW 1 w → ∀ s t, P s t → beh C t w = f (beh D s w)
  | [], _, s, t, h => h0 s t h
  | x :: w, hw, s, t, h => by
    have hx : x = 0 := by have := hw.head; omega
    subst hx
    exact beh_one P h0 h1 w hw.tail _ _ (h1 s t h)
theorem CanOf.ok {c : Nat} {f : List Nat → Int} {C : Dfa} (h : CanOf c f C) : OkD C.next.length c C ∧ C.start = 0 ∧ (∀ w, inW c w → beh C C.start w = f w) ∧ 1 ≤ C.next.length := by
  obtain ⟨m, b, h1, _, _⟩ := h
  have e := b.ok.nl
  have := b.ok.st
  exact ⟨by rw [e]; exact b.ok, b.st, fun w hw => by rw [b.st]; exact h1 w hw, by omega⟩
--END
end Go.Proofs
namespace Go.Proofs
open Go Go.Eng Go.Sort
set_option maxRecDepth 100000
theorem miniMin_c (w0 : World) (n c : Nat) (d : Dfa) (dv : List Value) (ok : OkD n c d) (h : DfaAt w0 d dv) (hn : 1 ≤ n ∧ n ≤ 200) (hc : 1 ≤ c ∧ c ≤ 16) (hac : ∀ x ∈ d.accept, x < 2147483648) :
    Ret Try.prog 22 #[.agg dv.toArray] w0 fun r w => CanE c (beh d d.start) n w0.heap.size r w ∧ Ext w0 w := by
  have h' := h
  obtain ⟨aa, ac, na, nc, rfl, _, _⟩ := h'
  refine Ret_of Try.func22 rfl Try.ntmps22 (Nat.le_of_ble_eq_true rfl) ?_
  have E : Chg none1 w0 w0 := Chg.refl _ _
  refine Wp_seq_region ?_
  refine s_box (v := (.agg #[(.int .i64 d.start), (.slice aa d.accept.length ac), (.slice na d.next.length nc)])) (c := #[(.int .i64 d.start), (.slice aa d.accept.length ac), (.slice na d.next.length nc)]) (by decide) rfl rfl ?_
  intro bp wp Np
  have Fp := Np.ge E
  replace E := E.ext Np.ext
  have Bp := Np.blk
  refine s_alloc (c := #[(.int .i64 0), (.slice none 0 0), (.slice none 0 0)]) (by decide) zer25 rfl ?_
  intro br wr Nr
  have Fr := Nr.ge E
  have Or_bp := Nr.lt Bp
  replace Bp := Nr.keep Bp
  replace E := E.ext Nr.ext
  have Br := Nr.blk
  refine WpL_val rfl rfl (by decide) (r_assign (v := (.int .i64 0)) rfl) ?_
  refine WpL_nil ?_
  refine Wp_seq ?_
  refine Wp_seq_region ?_
  refine WpL_val rfl rfl (by decide) (r_loadAgg (vs := [(.int .i64 d.start), (.slice aa d.accept.length ac), (.slice na d.next.length nc)]) rfl agg25 siz25 rfl (Bp.cells rfl)) ?_
  refine WpL_enter rfl rfl (by decide) (r_callF (vs := [(.agg #[(.int .i64 d.start), (.slice aa d.accept.length ac), (.slice na d.next.length nc)])]) Try.func50 nm50 bd50 rfl) (dcheck_c _ d _ (h.ext E)) ?_
  rintro _ w9 ⟨rfl, X9⟩
  replace Bp := X9.keep Bp
  replace Br := X9.keep Br
  replace E := E.ext X9
  refine WpL_val rfl rfl (by decide) (r_assign (v := (.int .i64 (checkD d))) rfl) ?_
  refine WpL_nil ?_
  refine Wp_seq_region ?_
  refine WpL_val rfl rfl (by decide) (r_move (v := (.int .i64 (checkD d))) rfl) ?_
  refine WpL_val rfl rfl (by decide) (r_neq (k := .i64) (a := checkD d) (b := 0) rfl rfl) ?_
  refine WpL_nil ?_
  have hc1 : (decide ((checkD d : Int) ≠ 0)) = false := decide_eq_false (by rw [okD_check ok hn hc]; decide)
  refine Wp_cond_false (congrArg Value.bool hc1) ?_
  refine Wp_skip ?_
  refine thn_normal ?_
  refine Wp_seq_region ?_
  refine WpL_val rfl rfl (by decide) (r_loadAgg (vs := [(.int .i64 d.start), (.slice aa d.accept.length ac), (.slice na d.next.length nc)]) rfl agg25 siz25 rfl (Bp.cells rfl)) ?_
  obtain ⟨n9, hn9⟩ : ∃ n9, n9 = (w9).heap.size := ⟨_, rfl⟩
  have hn9b : w0.heap.size ≤ n9 ∧ br < n9 := ⟨by rw [hn9]; exact E.size, by rw [hn9]; exact Br.lt⟩
  refine WpL_enter rfl rfl (by decide) (r_callF (vs := [(.agg #[(.int .i64 d.start), (.slice aa d.accept.length ac), (.slice na d.next.length nc)])]) Try.func56 nm56 bd56 rfl) (canon_f _ n c d _ ok (h.ext E) ⟨by omega, hc⟩ hac) ?_
  rintro _ w99 ⟨⟨C, ca, cc, ma, mc, hC, hCl, hCa, rfl, hCN⟩, X99⟩
  replace Bp := X99.keep Bp
  replace Br := X99.keep Br
  replace E := E.ext X99
  rw [← hn9] at hCN
  refine s_storeAgg (b := br) (o := 0) (c' := #[(.int .i64 C.start), (.slice ca C.accept.length cc), (.slice ma C.next.length mc)]) rfl rfl (by simp [Value.oneCell']) siz25 rfl Br (by simp) rfl ?_
  intro w2 S2
  replace hCN := hCN.chg S2.chg fun y h => by have h' : y = br := h; omega
  replace Bp := S2.keep (by omega) Bp
  replace E := S2.step E (by first | exact Or.inl (by omega) | exact Or.inr rfl | exact Or.inr (by assumption) | exact Or.inr (by simp) | exact Or.inr (by omega) | exact Or.inr (by dsimp only; omega))
  replace Br := S2.blk
  refine WpL_val rfl rfl (by decide) (r_assign (v := (.int .i64 0)) rfl) ?_
  refine WpL_nil ?_
  refine Wp_ret ?_
  refine fin_agg_tmp Try.results22 (vs := [(.int .i64 C.start), (.slice ca C.accept.length cc), (.slice ma C.next.length mc)]) (b := br) (v' := (.int .i64 0)) rfl agg25 siz25 rfl (Br.cells rfl) rfl ?_
  exact ⟨⟨C, ca, cc, ma, mc, hC, hCl, hCa, rfl, hCN.low hn9b.1⟩, E⟩
theorem inW.reverse {c : Nat} {w : List Nat} (h : inW c w) : inW c w.reverse := fun x hx => h x (List.mem_reverse.1 hx)
theorem DfaAt.parts {w : World} {d : Dfa} {s : Int} {ca ma : Option Addr} {cc mc n1 n2 : Nat} (h : DfaAt w d [.int .i64 s, .slice ca n1 cc, .slice ma n2 mc]) : IntsAt w (.slice ca n1 cc) d.accept ∧ IntssAt w (.slice ma n2 mc) d.next := by
  obtain ⟨_, _, _, _, hq, h1, h2⟩ := h
  simp only [List.cons.injEq, Value.slice.injEq, and_true] at hq
  obtain ⟨_, ⟨rfl, rfl, rfl⟩, rfl, rfl, rfl⟩ := hq
  exact ⟨h1, h2⟩
end Go.Proofs
namespace Go.Proofs
open Go Go.Eng Go.Sort
set_option maxRecDepth 100000
--BEGIN
def runN (d : Dfa) (s : Int) (w : List Nat) : Int := w.foldl (toD d) s
theorem beh_append (d : Dfa) (v : List Nat) : ∀ (u : List Nat) (s : Int), beh d s (u ++ v) = beh d (runN d s u) v
  | [], s => rfl
  | x :: u, s => beh_append d v u (toD d s x)
theorem OkD.runN {n c : Nat} {d : Dfa} (h : OkD n c d) (w : List Nat) : -1 ≤ runN d d.start w ∧ Go.Proofs.runN d d.start w < n := by
  have hst := h.st
  rcases List.eq_nil_or_concat w with rfl | ⟨u, x, rfl⟩
  · show -1 ≤ d.start ∧ d.start < n; omega
  · rw [List.concat_eq_append]
    simp only [Go.Proofs.runN, List.foldl_append, List.foldl_cons, List.foldl_nil]
    exact h.to
theorem first_at {F : List Int} (h : ∀ (k : Nat) x, F[k]? = some x → x ≤ mxL (F.take k) + 1) {j : Int} (hj : 0 < j) : ∀ p : Nat, p ≤ F.length → j ≤ mxL (F.take p) → ∃ k : Nat, k < p ∧ F[k]? = some j ∧ mxL (F.take k) < j
  | 0, _, h1 => by simp [mxL] at h1; omega
  | p + 1, hp, h1 => by
    rcases Int.lt_or_le (mxL (F.take p)) j with h2 | h2
    · obtain ⟨x, hx⟩ := get_of_lt (l := F) (i := p) (by omega)
      rw [take_get_snoc hx, mxL_snoc] at h1
      have h3 := h p x hx
      have : x = j := by omega
      subst this
      exact ⟨p, by omega, hx, h2⟩
    · obtain ⟨k, h3, h4, h5⟩ := first_at h hj p (by omega) h2
      exact ⟨k, by omega, h4, h5⟩
theorem Bfs.reach {n c : Nat} {C : Dfa} (b : Bfs n c C) : ∀ j : Nat, j < n → ∃ u, inW c u ∧ runN C 0 u = ((j : Nat) : Int) := by
  intro j
  induction j using Nat.strongRecOn with
  | ind j ih =>
    intro hj
    rcases Nat.eq_zero_or_pos j with rfl | hp
    · exact ⟨[], inW.nil c, rfl⟩
    · have hfl := flat_len (L := C.next) (c := c) fun r hr => (b.ok.row r hr).1
      rw [b.ok.nl] at hfl
      obtain ⟨k, h1, h2, h3⟩ := first_at b.ord (j := ((j : Nat) : Int)) (by omega) C.next.flatten.length (Nat.le_refl _) (by rw [List.take_length, b.fin]; omega)
      have hc : 0 < c := by
        rcases Nat.eq_zero_or_pos c with h | h
        · subst h; omega
        · exact h
      obtain ⟨i, x, rfl, hx⟩ : ∃ i x, k = i * c + x ∧ x < c := ⟨k / c, k % c, by rw [Nat.mul_comm]; exact (Nat.div_add_mod k c).symm, Nat.mod_lt _ hc⟩
      have hin : i < n := by
        apply Classical.byContradiction
        intro h
        have : n * c ≤ i * c := Nat.mul_le_mul_right c (by omega)
        omega
      have hmono : mxL (C.next.flatten.take (i * c)) ≤ mxL (C.next.flatten.take (i * c + x)) := mxL_take (by omega)
      have hri := b.rch i hin
      obtain ⟨u, hu, hr⟩ := ih i (by omega) hin
      refine ⟨u ++ [x], hu.snoc hx, ?_⟩
      rw [ent_to b.ok hin hx] at h2
      simp only [runN, List.foldl_append, List.foldl_cons, List.foldl_nil] at hr ⊢
      rw [hr]
      exact Option.some.inj h2
end Go.Proofs
namespace Go.Proofs
open Go Go.Eng Go.Sort
set_option maxRecDepth 100000
--BEGIN
def stpB (a b : Dfa) (p : Int × Int) (x : Nat) : Option (Int × Int) := some (toD a p.1 x, toD b p.2 x)
theorem runB (a b : Dfa) : ∀ (w : List Nat) (p : Int × Int), runO (stpB a b) p w = some (runN a p.1 w, runN b p.2 w)
  | [], p => rfl
  | x :: w, p => by simp only [runO, stpB, Option.bind_some]; exact runB a b w _
theorem pairs_few {n m : Nat} {l : List (Int × Int)} (hd : l.Nodup) (hr : ∀ k ∈ l, (-1 ≤ k.1 ∧ k.1 < n) ∧ (-1 ≤ k.2 ∧ k.2 < m)) : l.length ≤ (n + 1) * (m + 1) := by
  have hd2 : (l.map fun k => ((k.1 + 1) * ((m + 1 : Nat) : Int) + (k.2 + 1)).toNat).Nodup := by
    rw [List.nodup_iff_pairwise_ne, List.pairwise_map]
    refine List.Pairwise.imp_of_mem (fun {p q} hp hq hne => ?_) (List.nodup_iff_pairwise_ne.1 hd)
    obtain ⟨h1, h2⟩ := hr p hp
    obtain ⟨h3, h4⟩ := hr q hq
    intro he
    apply hne
    obtain ⟨p1, p2⟩ := p
    obtain ⟨q1, q2⟩ := q
    simp only at h1 h2 h3 h4 he
    have e1 : 0 ≤ (p1 + 1) * ((m + 1 : Nat) : Int) := Int.mul_nonneg (by omega) (by omega)
    have e2 : 0 ≤ (q1 + 1) * ((m + 1 : Nat) : Int) := Int.mul_nonneg (by omega) (by omega)
    have he' : (p1 + 1) * ((m + 1 : Nat) : Int) + (p2 + 1) = (q1 + 1) * ((m + 1 : Nat) : Int) + (q2 + 1) := by omega
    have e3 : p1 = q1 := by
      rcases Int.lt_trichotomy p1 q1 with h | h | h
      · exfalso
        have : (p1 + 1 + 1) * ((m + 1 : Nat) : Int) ≤ (q1 + 1) * ((m + 1 : Nat) : Int) := Int.mul_le_mul_of_nonneg_right (by omega) (by omega)
        rw [Int.add_mul (p1 + 1)] at this
        omega
      · exact h
      · exfalso
        have : (q1 + 1 + 1) * ((m + 1 : Nat) : Int) ≤ (p1 + 1) * ((m + 1 : Nat) : Int) := Int.mul_le_mul_of_nonneg_right (by omega) (by omega)
        rw [Int.add_mul (q1 + 1)] at this
        omega
    subst e3
    have e4 : p2 = q2 := by omega
    rw [e4]
  have := nodup_leN (m := List.range ((n + 1) * (m + 1))) hd2 fun x hx => by
    obtain ⟨k, hk, rfl⟩ := List.mem_map.1 hx
    obtain ⟨h1, h2⟩ := hr k hk
    have e1 : (k.1 + 1) * ((m + 1 : Nat) : Int) ≤ n * ((m + 1 : Nat) : Int) := Int.mul_le_mul_of_nonneg_right (by omega) (by omega)
    have e2 : 0 ≤ (k.1 + 1) * ((m + 1 : Nat) : Int) := Int.mul_nonneg (by omega) (by omega)
    rw [List.mem_range]
    have e3 : (((n + 1) * (m + 1) : Nat) : Int) = n * ((m + 1 : Nat) : Int) + ((m + 1 : Nat) : Int) := by rw [Int.natCast_mul, Int.natCast_add n 1, Int.add_mul]; simp
    omega
  simpa using this
structure BSt (α : Type) where
  work : List α
  ws : List (List Nat)
  i : Nat
  x : Nat
section
variable {α : Type} [DecidableEq α]
def nextB (c : Nat) (stp : α → Nat → Option α) (tgt : α → Bool) (s : BSt α) : Option (BSt α) :=
  match s.work[s.i]?, s.ws[s.i]? with
  | some a, some v =>
    if s.x = 0 ∧ tgt a = true then none
    else if s.x < c then match stp a s.x with
      | none => some { s with x := s.x + 1 }
      | some b => if b ∈ s.work then some { s with x := s.x + 1 } else some ⟨s.work ++ [b], s.ws ++ [v ++ [s.x]], s.i, s.x + 1⟩
    else some { s with i := s.i + 1, x := 0 }
  | _, _ => none
def iterB (c : Nat) (stp : α → Nat → Option α) (tgt : α → Bool) : Nat → BSt α → Option (BSt α)
  | 0, s => some s
  | k + 1, s => (iterB c stp tgt k s).bind (nextB c stp tgt)
def ReachB (c : Nat) (stp : α → Nat → Option α) (tgt : α → Bool) (a0 : α) (s : BSt α) : Prop := ∃ k, iterB c stp tgt k ⟨[a0], [[]], 0, 0⟩ = some s
theorem ReachB.step {c : Nat} {stp : α → Nat → Option α} {tgt : α → Bool} {a0 : α} {s t : BSt α} (h : ReachB c stp tgt a0 s) (hn : nextB c stp tgt s = some t) : ReachB c stp tgt a0 t := by
  obtain ⟨k, hk⟩ := h
  exact ⟨k + 1, by simp only [iterB, hk, Option.bind_some, hn]⟩
theorem iterB_none {c : Nat} {stp : α → Nat → Option α} {tgt : α → Bool} {s0 s : BSt α} {k : Nat} (h : iterB c stp tgt k s0 = some s) (hn : nextB c stp tgt s = none) : ∀ j, iterB c stp tgt (k + 1 + j) s0 = none
  | 0 => by simp only [Nat.add_zero, iterB, h, Option.bind_some, hn]
  | j + 1 => by
    have := iterB_none h hn j
    rw [show k + 1 + (j + 1) = (k + 1 + j) + 1 by omega]
    simp only [iterB, this, Option.bind_none]
theorem ReachB.end_uniq {c : Nat} {stp : α → Nat → Option α} {tgt : α → Bool} {a0 : α} {s t : BSt α} (h1 : ReachB c stp tgt a0 s) (h2 : ReachB c stp tgt a0 t) (n1 : nextB c stp tgt s = none) (n2 : nextB c stp tgt t = none) : s = t := by
  obtain ⟨k, hk⟩ := h1
  obtain ⟨j, hj⟩ := h2
  rcases Nat.lt_trichotomy k j with h | h | h
  · have := iterB_none hk n1 (j - (k + 1))
    rw [show k + 1 + (j - (k + 1)) = j by omega, hj] at this
    cases this
  · subst h
    rw [hk] at hj
    exact Option.some.inj hj
  · have := iterB_none hj n2 (k - (j + 1))
    rw [show j + 1 + (k - (j + 1)) = k by omega, hk] at this
    cases this
variable {c : Nat} {stp : α → Nat → Option α} {tgt : α → Bool} {work : List α} {ws : List (List Nat)} {i x : Nat} {a b : α} {v : List Nat}
theorem nextB_old (ha : work[i]? = some a) (hv : ws[i]? = some v) (hx : x < c) (ht : tgt a = false) (hs : stp a x = some b) (hb : b ∈ work) : nextB c stp tgt ⟨work, ws, i, x⟩ = some ⟨work, ws, i, x + 1⟩ := by
  simp only [nextB, ha, hv, ht, hx, hs, hb]; simp
theorem nextB_new (ha : work[i]? = some a) (hv : ws[i]? = some v) (hx : x < c) (ht : tgt a = false) (hs : stp a x = some b) (hb : b ∉ work) : nextB c stp tgt ⟨work, ws, i, x⟩ = some ⟨work ++ [b], ws ++ [v ++ [x]], i, x + 1⟩ := by
  simp only [nextB, ha, hv, ht, hx, hs, hb]; simp
theorem nextB_row (ha : work[i]? = some a) (hv : ws[i]? = some v) (ht : tgt a = false) : nextB c stp tgt ⟨work, ws, i, c⟩ = some ⟨work, ws, i + 1, 0⟩ := by
  simp only [nextB, ha, hv, ht]; simp
theorem nextB_stop (ha : work[i]? = some a) (hv : ws[i]? = some v) (ht : tgt a = true) : nextB c stp tgt ⟨work, ws, i, 0⟩ = none := by
  simp only [nextB, ha, hv, ht]; simp
theorem nextB_end (hi : work[i]? = none) : nextB c stp tgt ⟨work, ws, i, x⟩ = none := by
  simp only [nextB, hi]
end
def tgtB (a b : Dfa) (p : Int × Int) : Bool := decide (atD a p.1 ≠ atD b p.2)
/-- What Same tells. -/
structure SameOf (c : Nat) (a b : Dfa) (ok : Bool) (w : List Nat) : Prop where
  yes : ok = true → w = [] ∧ ∀ u, inW c u → beh a a.start u = beh b b.start u
  no : ok = false → inW c w ∧ beh a a.start w ≠ beh b b.start w ∧ ∀ u, inW c u → u.length < w.length → beh a a.start u = beh b b.start u
  run : ∃ s, ReachB c (stpB a b) (tgtB a b) (a.start, b.start) s ∧ nextB c (stpB a b) (tgtB a b) s = none ∧ (ok = false → s.ws[s.i]? = some w) ∧ (ok = decide (s.work.length ≤ s.i))
theorem beh_runN (d : Dfa) (w : List Nat) (s : Int) : beh d s w = atD d (runN d s w) := by
  have := beh_append d [] w s
  rw [List.append_nil] at this
  exact this
theorem BfsW.same_no {c : Nat} {a b : Dfa} {work : List (Int × Int)} {wd : List (List Nat)} {ps : List (Nat × Nat)} {i : Nat} (h : BfsW c (stpB a b) (a.start, b.start) work wd ps i 0) (hno : ∀ (j : Nat) p, j < i → work[j]? = some p → tgtB a b p = false) {p : Int × Int} {w : List Nat} (hp : work[i]? = some p) (hw : wd[i]? = some w) (ht : tgtB a b p = true) :
    inW c w ∧ beh a a.start w ≠ beh b b.start w ∧ ∀ u, inW c u → u.length < w.length → beh a a.start u = beh b b.start u := by
  have h1 := h.run i p w hp hw
  rw [runB] at h1
  have h2 := Option.some.inj h1
  refine ⟨h.inw w (List.mem_of_getElem? hw), ?_, fun u hu hl => ?_⟩
  · rw [beh_runN, beh_runN]
    have : p = (runN a a.start w, runN b b.start w) := h2.symm
    rw [this] at ht
    simpa [tgtB] using ht
  · obtain ⟨j, h3, h4⟩ := h.before hw hu hl (runB a b u _)
    have h5 := hno j _ h3 h4
    rw [beh_runN, beh_runN]
    simpa [tgtB] using h5
theorem BfsW.same_yes {c : Nat} {a b : Dfa} {work : List (Int × Int)} {wd : List (List Nat)} {ps : List (Nat × Nat)} {i : Nat} (h : BfsW c (stpB a b) (a.start, b.start) work wd ps i 0) (hno : ∀ (j : Nat) p, j < i → work[j]? = some p → tgtB a b p = false) (hi : i = work.length) :
    ∀ u, inW c u → beh a a.start u = beh b b.start u := fun u hu => by
  obtain ⟨j, h3, h4⟩ := h.all hi hu (runB a b u _)
  have h5 := hno j _ h3 h4
  rw [beh_runN, beh_runN]
  simpa [tgtB] using h5
/-- The nodes of the list: a pair, where it comes from, and the symbol. -/
structure NdOf (work : List (Int × Int)) (ps : List (Nat × Nat)) (nds : List (Int × Int × Int × Int)) : Prop where
  len : nds.length = work.length
  at' : ∀ (k : Nat) p, work[k]? = some p → ∃ f y, nds[k]? = some (p.1, p.2, f, y) ∧ (k = 0 → f = -1) ∧ (0 < k → ∀ j z, ps[k]? = some (j, z) → f = ((j : Nat) : Int) ∧ y = ((z : Nat) : Int))
def ndC (q : Int × Int × Int × Int) : List Value := [.int .i64 q.1, .int .i64 q.2.1, .int .i64 q.2.2.1, .int .i64 q.2.2.2]
theorem NdOf.start (p : Int × Int) (q : Nat × Nat) : NdOf [p] [q] [(p.1, p.2, -1, -1)] := ⟨rfl, fun k r h => by
  obtain ⟨rfl, rfl⟩ := one_get h
  exact ⟨-1, -1, rfl, fun _ => rfl, fun h => by omega⟩⟩
theorem NdOf.push {work : List (Int × Int)} {ps : List (Nat × Nat)} {nds : List (Int × Int × Int × Int)} (h : NdOf work ps nds) (hp : ps.length = work.length) (h0 : 0 < work.length) (p : Int × Int) (i x : Nat) : NdOf (work ++ [p]) (ps ++ [(i, x)]) (nds ++ [(p.1, p.2, ((i : Nat) : Int), ((x : Nat) : Int))]) := by
  refine ⟨by simp [h.len], fun k r hr => ?_⟩
  rcases snoc_get hr with h1 | ⟨h1, h2⟩
  · obtain ⟨f, y, h3, h4, h5⟩ := h.at' k r h1
    refine ⟨f, y, by rw [List.getElem?_append_left (lt_of_get h3)]; exact h3, h4, fun hk j z hj => h5 hk j z ?_⟩
    rwa [List.getElem?_append_left (by have := lt_of_get h1; omega)] at hj
  · subst h2
    refine ⟨((i : Nat) : Int), ((x : Nat) : Int), by rw [h1, ← h.len]; simp, fun hk => by omega, fun _ j z hj => ?_⟩
    rw [h1, ← hp] at hj
    simp at hj
    exact ⟨by rw [hj.1], by rw [hj.2]⟩
def seenM (work : List (Int × Int)) : List ((Int × Int) × Bool) := work.map fun p => (p, true)
theorem seenM_get (work : List (Int × Int)) (p : Int × Int) : (getM (seenM work) p).getD false = decide (p ∈ work) := by
  induction work with
  | nil => rfl
  | cons q l ih =>
    simp only [seenM, List.map_cons, getM]
    by_cases h : q = p
    · rw [if_pos h]; simp [h]
    · rw [if_neg h]
      have : (getM (seenM l) p).getD false = decide (p ∈ l) := ih
      unfold seenM at this
      rw [this]
      simp [Ne.symm h]
theorem seenM_put {work : List (Int × Int)} {p : Int × Int} (h : p ∉ work) : putM (seenM work) p true = seenM (work ++ [p]) := by
  have hg : getM (seenM work) p = none := by
    cases hg : getM (seenM work) p with
    | none => rfl
    | some v =>
      exfalso
      have h1 := getM_isSome.1 (show (getM (seenM work) p).isSome = true by rw [hg]; rfl)
      simp [seenM] at h1
      exact h h1
  rw [putM_none _ hg]
  simp [seenM]
--END
theorem own_lit4 {w : World} {b e base : Nat} {u1 u2 u3 u4 : Value} (h : Blk w b #[u1, u2, u3, u4] e) (hb : base ≤ b) : w.ownsRow base e 4 (.slice (some ⟨b, 0, none⟩) 1 1) 1 [u1, u2, u3, u4] :=
  ⟨rfl, .inr ⟨b, 1, #[u1, u2, u3, u4], rfl, hb, h, Nat.le_refl _, by decide, rfl, rfl⟩⟩
theorem same1_c (w0 : World) (d : Dfa) (dv : List Value) (s : Int) (h : DfaAt w0 d dv) (hs : s < d.accept.length) :
    Ret Try.prog 51 #[.agg dv.toArray, .int .i64 s] w0 fun r w => r = .int .i64 (atD d s) ∧ Ext w0 w := by
  obtain ⟨aa, ac, na, nc, rfl, hacc, hnxt⟩ := h
  refine Ret_of Try.func51 rfl Try.ntmps51 (Nat.le_of_ble_eq_true rfl) ?_
  have E : Chg none1 w0 w0 := Chg.refl _ _
  refine Wp_seq_region ?_
  refine s_box (v := (.agg #[(.int .i64 d.start), (.slice aa d.accept.length ac), (.slice na d.next.length nc)])) (c := #[(.int .i64 d.start), (.slice aa d.accept.length ac), (.slice na d.next.length nc)]) (by decide) rfl rfl ?_
  intro bq wq Nq
  have Fq := Nq.ge E
  replace E := E.ext Nq.ext
  have Bq := Nq.blk
  refine WpL_val rfl rfl (by decide) (r_assign (v := (.int .i64 0)) rfl) ?_
  refine WpL_nil ?_
  refine Wp_seq ?_
  refine Wp_seq_region ?_
  refine WpL_val rfl rfl (by decide) (r_move (v := (.int .i64 s)) rfl) ?_
  refine WpL_val rfl rfl (by decide) (r_lss (k := .i64) (a := s) (b := 0) rfl rfl) ?_
  refine WpL_nil ?_
  refine Wp_cond (b := decide ((s : Int) < 0)) rfl (fun hneg => ?_) (fun hneg => ?_)
  · have khneg := hneg
    replace hneg := of_decide_eq_true hneg
    refine Wp_seq_region ?_
    refine WpL_val rfl rfl (by decide) (r_assign (v := (.int .i64 (-1))) rfl) ?_
    refine WpL_nil ?_
    refine Wp_ret ?_
    refine thn_ret ?_
    refine fin_tmp Try.results51 (v := (.int .i64 (-1))) rfl ?_
    exact ⟨int_eq (by unfold atD; rw [if_pos hneg]), E⟩
  · have khneg := hneg
    replace hneg := of_decide_eq_false hneg
    obtain ⟨sN, hsN⟩ := Int.eq_ofNat_of_zero_le (show 0 ≤ s by omega)
    obtain ⟨ab, ao, rfl, hax⟩ := ints_cells hacc (by omega)
    obtain ⟨y, hy⟩ := get_of_lt (l := d.accept) (i := sN) (by omega)
    refine Wp_skip ?_
    refine thn_normal ?_
    refine Wp_seq_region ?_
    refine WpL_val rfl rfl (by decide) (r_fieldAddr (b := bq) (o := 0) (o' := 1) rfl Try.underlying25 rfl siz22 rfl) ?_
    refine WpL_val rfl rfl (by decide) (r_load (v := (.slice (some ⟨ab, ao, none⟩) d.accept.length ac)) rfl flat22 (Bq.cell rfl)) ?_
    refine WpL_val rfl rfl (by decide) (r_move (v := (.int .i64 s)) rfl) ?_
    refine WpL_val rfl rfl (by decide) (r_indexSlice (b := ab) (o := ao) (len := d.accept.length) (cap := ac) (i := sN) (o' := ao + sN) rfl rfl (by omega) Try.underlying22 siz3 (by omega) (by omega)) ?_
    refine WpL_val rfl rfl (by decide) (r_load (v := (.int .i64 y)) rfl flat3 (E.cell (fun f => f) (hax sN _ hy))) ?_
    refine WpL_val rfl rfl (by decide) (r_assign (v := (.int .i64 y)) rfl) ?_
    refine WpL_nil ?_
    refine Wp_ret ?_
    refine fin_tmp Try.results51 (v := (.int .i64 y)) rfl ?_
    exact ⟨int_eq (by rw [hsN, atD_get hy]), E⟩
theorem same2_c (w0 : World) (n c : Nat) (d : Dfa) (dv : List Value) (s x : Int) (ok : OkD n c d) (h : DfaAt w0 d dv) (hs : s < n) (hx : 0 ≤ x ∧ x < c) :
    Ret Try.prog 52 #[.agg dv.toArray, .int .i64 s, .int .i64 x] w0 fun r w => r = .int .i64 (toD d s x.toNat) ∧ Ext w0 w := by
  obtain ⟨aa, ac, na, nc, rfl, hacc, hnxt⟩ := h
  have hnl := ok.nl
  obtain ⟨xN, rfl⟩ := Int.eq_ofNat_of_zero_le hx.1
  rw [Int.toNat_natCast]
  refine Ret_of Try.func52 rfl Try.ntmps52 (Nat.le_of_ble_eq_true rfl) ?_
  have E : Chg none1 w0 w0 := Chg.refl _ _
  refine Wp_seq_region ?_
  refine s_box (v := (.agg #[(.int .i64 d.start), (.slice aa d.accept.length ac), (.slice na d.next.length nc)])) (c := #[(.int .i64 d.start), (.slice aa d.accept.length ac), (.slice na d.next.length nc)]) (by decide) rfl rfl ?_
  intro bq wq Nq
  have Fq := Nq.ge E
  replace E := E.ext Nq.ext
  have Bq := Nq.blk
  refine WpL_val rfl rfl (by decide) (r_assign (v := (.int .i64 0)) rfl) ?_
  refine WpL_nil ?_
  refine Wp_seq ?_
  refine Wp_seq_region ?_
  refine WpL_val rfl rfl (by decide) (r_move (v := (.int .i64 s)) rfl) ?_
  refine WpL_val rfl rfl (by decide) (r_lss (k := .i64) (a := s) (b := 0) rfl rfl) ?_
  refine WpL_nil ?_
  refine Wp_cond (b := decide ((s : Int) < 0)) rfl (fun hneg => ?_) (fun hneg => ?_)
  · have khneg := hneg
    replace hneg := of_decide_eq_true hneg
    refine Wp_seq_region ?_
    refine WpL_val rfl rfl (by decide) (r_assign (v := (.int .i64 (-1))) rfl) ?_
    refine WpL_nil ?_
    refine Wp_ret ?_
    refine thn_ret ?_
    refine fin_tmp Try.results52 (v := (.int .i64 (-1))) rfl ?_
    exact ⟨int_eq (by rw [toD_neg hneg]), E⟩
  · have khneg := hneg
    replace hneg := of_decide_eq_false hneg
    obtain ⟨sN, hsN⟩ := Int.eq_ofNat_of_zero_le (show 0 ≤ s by omega)
    obtain ⟨nb, no, rfl, hnx⟩ := intss_cells hnxt (by omega)
    obtain ⟨row, hrow⟩ := get_of_lt (l := d.next) (i := sN) (by omega)
    have hrl := (ok.row row (List.mem_of_getElem? hrow)).1
    obtain ⟨ra, rc, hcell, hri⟩ := hnx sN row hrow
    obtain ⟨rb, ro, rfl, hrx⟩ := ints_cells hri (by omega)
    obtain ⟨y, hy⟩ := get_of_lt (l := row) (i := xN) (by omega)
    refine Wp_skip ?_
    refine thn_normal ?_
    refine Wp_seq_region ?_
    refine WpL_val rfl rfl (by decide) (r_fieldAddr (b := bq) (o := 0) (o' := 2) rfl Try.underlying25 rfl siz23 rfl) ?_
    refine WpL_val rfl rfl (by decide) (r_load (v := (.slice (some ⟨nb, no, none⟩) d.next.length nc)) rfl flat23 (Bq.cell rfl)) ?_
    refine WpL_val rfl rfl (by decide) (r_move (v := (.int .i64 s)) rfl) ?_
    refine WpL_val rfl rfl (by decide) (r_indexSlice (b := nb) (o := no) (len := d.next.length) (cap := nc) (i := sN) (o' := no + sN) rfl rfl (by omega) Try.underlying23 siz22 (by omega) (by omega)) ?_
    refine WpL_val rfl rfl (by decide) (r_load (v := (.slice (some ⟨rb, ro, none⟩) row.length rc)) rfl flat22 (E.cell (fun f => f) hcell)) ?_
    refine WpL_val rfl rfl (by decide) (r_move (v := (.int .i64 ((xN : Nat) : Int))) rfl) ?_
    refine WpL_val rfl rfl (by decide) (r_indexSlice (b := rb) (o := ro) (len := row.length) (cap := rc) (i := xN) (o' := ro + xN) rfl rfl rfl Try.underlying22 siz3 (by omega) (by omega)) ?_
    refine WpL_val rfl rfl (by decide) (r_load (v := (.int .i64 y)) rfl flat3 (E.cell (fun f => f) (hrx xN _ hy))) ?_
    refine WpL_val rfl rfl (by decide) (r_assign (v := (.int .i64 y)) rfl) ?_
    refine WpL_nil ?_
    refine Wp_ret ?_
    refine fin_tmp Try.results52 (v := (.int .i64 y)) rfl ?_
    exact ⟨int_eq (by rw [hsN, toD_get hrow hy]), E⟩
end Go.Proofs
namespace Go.Proofs
open Go Go.Eng Go.Sort
set_option maxRecDepth 100000
set_option maxHeartbeats 16000000 in
theorem same_d (w0 : World) (n m c : Nat) (a b : Dfa) (av bv : List Value) (oka : OkD n c a) (okb : OkD m c b) (ha : DfaAt w0 a av) (hb : DfaAt w0 b bv) (hc : 1 ≤ c ∧ c ≤ 16) (hn : 1 ≤ n ∧ n ≤ 200) (hm : 1 ≤ m ∧ m ≤ 200) :
    Ret Try.prog 11 #[.agg av.toArray, .agg bv.toArray] w0 fun r w => (∃ ok l ad cc, r = .tuple #[.bool ok, .slice ad l.length cc, .int .i64 0] ∧ IntsAt w (.slice ad l.length cc) (toI l) ∧ SameOf c a b ok l ∧ l.length ≤ (n + 1) * (m + 1)) ∧ Ext w0 w := by
  have hnl := oka.nl
  have hnl2 := okb.nl
  have hal := oka.al
  have hbl := okb.al
  have hsta := oka.st
  have hstb := okb.st
  obtain ⟨nb, no, nc, aa, ac, ra, rc, rfl, hcell⟩ := okD_row0 oka ha hn.1
  obtain ⟨nb2, no2, nc2, aa2, ac2, ra2, rc2, rfl, hcell2⟩ := okD_row0 okb hb hm.1
  have hkl : ∀ k, (ndC k).length = 4 := fun _ => rfl
  obtain ⟨mx, hmx⟩ : ∃ mx, mx = (n + 1) * (m + 1) := ⟨_, rfl⟩
  have hmxb : mx ≤ 40401 := by rw [hmx]; exact Nat.le_trans (Nat.mul_le_mul (show n + 1 ≤ 201 by omega) (show m + 1 ≤ 201 by omega)) (by decide)
  refine Ret_of Try.func11 rfl Try.ntmps11 (Nat.le_of_ble_eq_true rfl) ?_
  have E : Chg none1 w0 w0 := Chg.refl _ _
  refine Wp_seq_region ?_
  refine s_box (v := (.agg #[(.int .i64 a.start), (.slice aa a.accept.length ac), (.slice (some ⟨nb, no, none⟩) a.next.length nc)])) (c := #[(.int .i64 a.start), (.slice aa a.accept.length ac), (.slice (some ⟨nb, no, none⟩) a.next.length nc)]) (by decide) rfl rfl ?_
  intro bp wp Np
  have Fp := Np.ge E
  replace E := E.ext Np.ext
  have Bp := Np.blk
  refine s_box (v := (.agg #[(.int .i64 b.start), (.slice aa2 b.accept.length ac2), (.slice (some ⟨nb2, no2, none⟩) b.next.length nc2)])) (c := #[(.int .i64 b.start), (.slice aa2 b.accept.length ac2), (.slice (some ⟨nb2, no2, none⟩) b.next.length nc2)]) (by decide) rfl rfl ?_
  intro bq wq Nq
  have Fq := Nq.ge E
  have Oq_bp := Nq.lt Bp
  replace Bp := Nq.keep Bp
  replace E := E.ext Nq.ext
  have Bq := Nq.blk
  refine WpL_val rfl rfl (by decide) (r_assign (v := (.bool false)) rfl) ?_
  refine WpL_val rfl rfl (by decide) (r_assign (v := (.slice none 0 0)) rfl) ?_
  refine WpL_val rfl rfl (by decide) (r_assign (v := (.int .i64 0)) rfl) ?_
  refine WpL_nil ?_
  refine Wp_seq ?_
  refine Wp_seq_region ?_
  refine WpL_val rfl rfl (by decide) (r_loadAgg (vs := [(.int .i64 a.start), (.slice aa a.accept.length ac), (.slice (some ⟨nb, no, none⟩) a.next.length nc)]) rfl agg25 siz25 rfl (Bp.cells rfl)) ?_
  refine WpL_enter rfl rfl (by decide) (r_callF (vs := [(.agg #[(.int .i64 a.start), (.slice aa a.accept.length ac), (.slice (some ⟨nb, no, none⟩) a.next.length nc)])]) Try.func50 nm50 bd50 rfl) (dcheck_c _ a _ (ha.ext E)) ?_
  rintro _ w9 ⟨rfl, X9⟩
  replace Bp := X9.keep Bp
  replace Bq := X9.keep Bq
  replace E := E.ext X9
  refine WpL_val rfl rfl (by decide) (r_assign (v := (.int .i64 (checkD a))) rfl) ?_
  refine WpL_nil ?_
  refine Wp_seq_region ?_
  refine WpL_val rfl rfl (by decide) (r_move (v := (.int .i64 (checkD a))) rfl) ?_
  refine WpL_val rfl rfl (by decide) (r_neq (k := .i64) (a := checkD a) (b := 0) rfl rfl) ?_
  refine WpL_nil ?_
  have hc1 : (decide ((checkD a : Int) ≠ 0)) = false := decide_eq_false (by rw [okD_check oka hn hc]; decide)
  refine Wp_cond_false (congrArg Value.bool hc1) ?_
  refine Wp_skip ?_
  refine thn_normal ?_
  refine Wp_seq ?_
  refine Wp_seq_region ?_
  refine WpL_val rfl rfl (by decide) (r_loadAgg (vs := [(.int .i64 b.start), (.slice aa2 b.accept.length ac2), (.slice (some ⟨nb2, no2, none⟩) b.next.length nc2)]) rfl agg25 siz25 rfl (Bq.cells rfl)) ?_
  refine WpL_enter rfl rfl (by decide) (r_callF (vs := [(.agg #[(.int .i64 b.start), (.slice aa2 b.accept.length ac2), (.slice (some ⟨nb2, no2, none⟩) b.next.length nc2)])]) Try.func50 nm50 bd50 rfl) (dcheck_c _ b _ (hb.ext E)) ?_
  rintro _ w19 ⟨rfl, X19⟩
  replace Bp := X19.keep Bp
  replace Bq := X19.keep Bq
  replace E := E.ext X19
  refine WpL_val rfl rfl (by decide) (r_assign (v := (.int .i64 (checkD b))) rfl) ?_
  refine WpL_nil ?_
  refine Wp_seq_region ?_
  refine WpL_val rfl rfl (by decide) (r_move (v := (.int .i64 (checkD b))) rfl) ?_
  refine WpL_val rfl rfl (by decide) (r_neq (k := .i64) (a := checkD b) (b := 0) rfl rfl) ?_
  refine WpL_nil ?_
  have hc2 : (decide ((checkD b : Int) ≠ 0)) = false := decide_eq_false (by rw [okD_check okb hm hc]; decide)
  refine Wp_cond_false (congrArg Value.bool hc2) ?_
  refine Wp_skip ?_
  refine thn_normal ?_
  refine Wp_seq ?_
  refine Wp_seq_draw 10 mixed (by kernel_rfl) ?_
  intro w3 X3 _
  replace Bp := X3.keep Bp
  replace Bq := X3.keep Bq
  replace E := E.ext X3
  refine WpT_val rfl rfl (by decide) (r_fieldAddr (b := bp) (o := 0) (o' := 2) rfl Try.underlying25 rfl siz23 rfl) ?_
  refine WpT_val rfl rfl (by decide) (r_load (v := (.slice (some ⟨nb, no, none⟩) a.next.length nc)) rfl flat23 (Bp.cell rfl)) ?_
  refine WpT_val rfl rfl (by decide) (r_indexSlice (b := nb) (o := no) (len := a.next.length) (cap := nc) (i := 0) (o' := no + 0) rfl rfl rfl Try.underlying23 siz22 (by omega) (by omega)) ?_
  refine WpT_val rfl rfl (by decide) (r_load (v := (.slice ra c rc)) rfl flat22 (E.cell (fun f => f) hcell)) ?_
  refine WpT_val rfl rfl (by decide) (r_lenSlice (ad := ra) (n := c) (cap := rc) Try.underlying22 rfl) ?_
  refine WpT_val rfl rfl (by decide) (r_fieldAddr (b := bq) (o := 0) (o' := 2) rfl Try.underlying25 rfl siz23 rfl) ?_
  refine WpT_val rfl rfl (by decide) (r_load (v := (.slice (some ⟨nb2, no2, none⟩) b.next.length nc2)) rfl flat23 (Bq.cell rfl)) ?_
  refine WpT_val rfl rfl (by decide) (r_indexSlice (b := nb2) (o := no2) (len := b.next.length) (cap := nc2) (i := 0) (o' := no2 + 0) rfl rfl rfl Try.underlying23 siz22 (by omega) (by omega)) ?_
  refine WpT_val rfl rfl (by decide) (r_load (v := (.slice ra2 c rc2)) rfl flat22 (E.cell (fun f => f) hcell2)) ?_
  refine WpT_val rfl rfl (by decide) (r_lenSlice (ad := ra2) (n := c) (cap := rc2) Try.underlying22 rfl) ?_
  refine WpT_zero ?_
  refine WpL_val rfl rfl (by decide) (r_neq (k := .i64) (a := ((c : Nat) : Int)) (b := ((c : Nat) : Int)) rfl rfl) ?_
  refine WpL_nil ?_
  have hc4 : (decide ((((c : Nat) : Int) : Int) ≠ ((c : Nat) : Int))) = false := decide_eq_false (by omega)
  refine Wp_cond_false (congrArg Value.bool hc4) ?_
  refine Wp_skip ?_
  refine thn_normal ?_
  refine Wp_seq_region ?_
  refine WpL_val rfl rfl (by decide) (r_assign (v := (.func (.func 51) #[] #[])) rfl) ?_
  refine WpL_nil ?_
  refine Wp_seq_region ?_
  refine WpL_val rfl rfl (by decide) (r_assign (v := (.func (.func 52) #[] #[])) rfl) ?_
  refine WpL_nil ?_
  refine Wp_seq_region ?_
  refine WpL_val rfl rfl (by decide) (r_fieldAddr (b := bp) (o := 0) (o' := 0) rfl Try.underlying25 rfl siz3 rfl) ?_
  refine WpL_val rfl rfl (by decide) (r_load (v := (.int .i64 a.start)) rfl flat3 (Bp.cell rfl)) ?_
  refine WpL_val rfl rfl (by decide) (r_fieldAddr (b := bq) (o := 0) (o' := 0) rfl Try.underlying25 rfl siz3 rfl) ?_
  refine WpL_val rfl rfl (by decide) (r_load (v := (.int .i64 b.start)) rfl flat3 (Bq.cell rfl)) ?_
  refine WpL_val rfl rfl (by decide) (r_build (ps := [(0, (.int .i64 a.start)), (1, (.int .i64 b.start)), (2, (.int .i64 (-1))), (3, (.int .i64 (-1)))]) (v := (.agg #[(.int .i64 a.start), (.int .i64 b.start), (.int .i64 (-1)), (.int .i64 (-1))])) rfl (by kernel_rfl)) ?_
  refine s_buildSlice (ps := [(0, (.agg #[(.int .i64 a.start), (.int .i64 b.start), (.int .i64 (-1)), (.int .i64 (-1))]))]) (c := #[(.int .i64 a.start), (.int .i64 b.start), (.int .i64 (-1)), (.int .i64 (-1))]) (by decide) rfl Try.underlying74 siz73 zer73 (by decide) (by decide) (by kernel_rfl) ?_
  intro bl wl Nl
  have Fl := Nl.ge E
  have Ol_bp := Nl.lt Bp
  have Ol_bq := Nl.lt Bq
  replace Bp := Nl.keep Bp
  replace Bq := Nl.keep Bq
  replace E := E.ext Nl.ext
  have Bl := Nl.blk
  refine WpL_val rfl rfl (by decide) (r_assign (v := (.slice (some ⟨bl, 0, none⟩) 1 1)) rfl) ?_
  refine WpL_nil ?_
  refine Wp_seq_region ?_
  refine s_makeMap kPair kBool (by decide) ?_
  intro bm wm Nm
  have Fm := Nm.ge E
  have Om_bp := Nm.lt Bp
  have Om_bq := Nm.lt Bq
  have Om_bl := Nm.lt Bl
  replace Bp := Nm.keep Bp
  replace Bq := Nm.keep Bq
  replace Bl := Nm.keep Bl
  replace E := E.ext Nm.ext
  intro Mm
  refine WpL_val rfl rfl (by decide) (r_fieldAddr (b := bp) (o := 0) (o' := 0) rfl Try.underlying25 rfl siz3 rfl) ?_
  refine WpL_val rfl rfl (by decide) (r_load (v := (.int .i64 a.start)) rfl flat3 (Bp.cell rfl)) ?_
  refine WpL_val rfl rfl (by decide) (r_fieldAddr (b := bq) (o := 0) (o' := 0) rfl Try.underlying25 rfl siz3 rfl) ?_
  refine WpL_val rfl rfl (by decide) (r_load (v := (.int .i64 b.start)) rfl flat3 (Bq.cell rfl)) ?_
  refine WpL_val rfl rfl (by decide) (r_build (ps := [(0, (.int .i64 a.start)), (1, (.int .i64 b.start))]) (v := (.agg #[(.int .i64 a.start), (.int .i64 b.start)])) rfl (by kernel_rfl)) ?_
  refine s_insert (k := (a.start, b.start)) (v := true) Try.underlying76 (key75) Mm rfl rfl rfl ?_
  intro w5 S5 H5
  replace Bp := S5.keep (by omega) Bp
  replace Bq := S5.keep (by omega) Bq
  replace Bl := S5.keep (by omega) Bl
  replace E := S5.step E (by first | exact Or.inl (by omega) | exact Or.inr rfl | exact Or.inr (by assumption) | exact Or.inr (by simp) | exact Or.inr (by omega) | exact Or.inr (by dsimp only; omega))
  replace Mm := H5
  refine WpL_val rfl rfl (by decide) (r_move (v := (.map (some bm))) rfl) ?_
  refine WpL_val rfl rfl (by decide) (r_assign (v := (.map (some bm))) rfl) ?_
  refine WpL_nil ?_
  refine Wp_seq ?_
  refine Wp_seq_region ?_
  refine WpL_val rfl rfl (by decide) (r_assign (v := (.int .i64 0)) rfl) ?_
  refine WpL_nil ?_
  refine Wp_block ?_
  obtain ⟨n1, hn1e⟩ : ∃ n1, n1 = bl := ⟨_, rfl⟩
  have hbl0 : w0.heap.size ≤ n1 ∧ bl < bm := by omega
  have hS0 : (w5).ownsRow n1 73 4 (.slice (some ⟨bl, 0, none⟩) 1 1) 1 ([(a.start, b.start, (-1 : Int), (-1 : Int))].map ndC).flatten := own_lit4 (base := n1) Bl (by omega)
  obtain ⟨n2, hn2e⟩ : ∃ n2, n2 = (w5).heap.size := ⟨_, rfl⟩
  have hn2b : bp < n2 ∧ bq < n2 ∧ bl < n2 ∧ bm < n2 ∧ bp < n1 ∧ bq < n1 := ⟨by rw [hn2e]; exact Bp.lt, by rw [hn2e]; exact Bq.lt, by rw [hn2e]; exact Bl.lt, by rw [hn2e]; exact Mm.lt, by omega, by omega⟩
  refine Wp_loop (fun nn_ σ W6 => ∃ (i : Nat) (work : List (Int × Int)) (wd : List (List Nat)) (ps : List (Nat × Nat)) (nds : List (Int × Int × Int × Int)) (sa : Option Addr) (sc2 sn : Nat), (∃ jj_, σ = upds jj_ [(2, (.pointer (some ⟨bp, 0, none⟩))), (3, (.pointer (some ⟨bq, 0, none⟩))), (9, (.func (.func 51) #[] #[])), (10, (.func (.func 52) #[] #[])), (12, (.map (some bm))), (13, (.int .i64 ((i : Nat) : Int))), (11, (.slice sa sn sc2))]) ∧ Chg none1 w0 W6 ∧ Blk W6 bp #[(.int .i64 a.start), (.slice aa a.accept.length ac), (.slice (some ⟨nb, no, none⟩) a.next.length nc)] 25 ∧ Blk W6 bq #[(.int .i64 b.start), (.slice aa2 b.accept.length ac2), (.slice (some ⟨nb2, no2, none⟩) b.next.length nc2)] 25 ∧ MapAt W6 bm kPair kBool (seenM work) ∧ (BfsW c (stpB a b) (a.start, b.start) work wd ps i 0) ∧ (ReachB c (stpB a b) (tgtB a b) (a.start, b.start) ⟨work, wd, i, 0⟩) ∧ (NdOf work ps nds) ∧ (∀ (j : Nat) p, j < i → work[j]? = some p → tgtB a b p = false) ∧ (∀ k ∈ work, (-1 ≤ k.1 ∧ k.1 < n) ∧ (-1 ≤ k.2 ∧ k.2 < m)) ∧ (sn = work.length) ∧ (i ≤ sn) ∧ (W6.ownsRow n1 73 4 (.slice sa sn sc2) sn (nds.map ndC).flatten) ∧ (∀ b, (Value.slice sa sn sc2).ownBlock = some b → b ≠ bm) ∧ (n2 ≤ W6.heap.size) ∧ nn_ = mx - i) (n := mx - 0) ?_ ?_
  · exact ⟨0, [(a.start, b.start)], [[]], [(0, 0)], [(a.start, b.start, -1, -1)], some ⟨bl, 0, none⟩, 1, 1, Fits.out ⟨rfl, rfl, rfl, rfl, rfl, rfl, rfl, trivial⟩, E, Bp, Bq, Mm, BfsW.start _ _ _ _, ⟨0, rfl⟩, NdOf.start _ _, (fun j t h => by omega), (fun k hk => by rw [List.mem_singleton] at hk; subst hk; exact ⟨⟨by show -1 ≤ a.start; omega, hsta.2⟩, ⟨by show -1 ≤ b.start; omega, hstb.2⟩⟩), rfl, (by omega), hS0, (fun b hb => by have hb' : bl = b := Option.some.inj hb; omega), (by omega), rfl⟩
  · clear E Bp Bq Mm
    rintro _ _ W6 ⟨i, work, wd, ps, nds, sa, sc2, sn, ⟨j6, rfl⟩, E, Bp, Bq, Mm, hB, hR, hnd, hno, hsl, hsn, hin, hS, hap, hsz, rfl⟩
    refine Wp_seq ?_
    refine Wp_seq_region ?_
    refine WpL_val rfl rfl (by decide) (r_move (v := (.int .i64 ((i : Nat) : Int))) rfl) ?_
    refine WpL_val rfl rfl (by decide) (r_move (v := (.slice sa sn sc2)) rfl) ?_
    refine WpL_val rfl rfl (by decide) (r_lenSlice (ad := sa) (n := sn) (cap := sc2) Try.underlying74 rfl) ?_
    refine WpL_val rfl rfl (by decide) (r_lss (k := .i64) (a := ((i : Nat) : Int)) (b := ((sn : Nat) : Int)) rfl rfl) ?_
    refine WpL_nil ?_
    refine Wp_cond (b := decide ((((i : Nat) : Int) : Int) < ((sn : Nat) : Int))) rfl (fun hlt => ?_) (fun hlt => ?_)
    · have khlt := hlt
      replace hlt := of_decide_eq_true hlt
      obtain ⟨p, hpi⟩ := get_of_lt (l := work) (i := i) (by omega)
      obtain ⟨v, hvi⟩ := hB.get hpi
      obtain ⟨hp1, hp2⟩ := hsl p (List.mem_of_getElem? hpi)
      have hwl : work.length ≤ mx := by rw [hmx]; exact pairs_few hB.nd hsl
      obtain ⟨f0, y0, hnd0, _, _⟩ := hnd.at' i p hpi
      obtain ⟨sb, rfl, hsb1, hsc⟩ := own_cells hS (by omega)
      have hkc : CellsAt (W6) sb (0 + i * 4) [.int .i64 p.1, .int .i64 p.2, .int .i64 f0, .int .i64 y0] := flat_cells hkl hsc hnd0
      obtain ⟨z0, hz0⟩ : ∃ z0, z0 = (W6).heap.size := ⟨_, rfl⟩
      have hSz : ∀ b, (Value.slice (some ⟨sb, 0, none⟩) sn sc2).ownBlock = some b → b < z0 := fun b hb => by have := (hS.lt b hb).2; omega
      refine Wp_skip ?_
      refine thn_normal ?_
      refine Wp_seq ?_
      refine Wp_block ?_
      refine Wp_seq_region ?_
      refine WpL_val rfl rfl (by decide) (r_move (v := (.slice (some ⟨sb, 0, none⟩) sn sc2)) rfl) ?_
      refine WpL_val rfl rfl (by decide) (r_move (v := (.int .i64 ((i : Nat) : Int))) rfl) ?_
      refine WpL_val rfl rfl (by decide) (r_indexSlice (b := sb) (o := 0) (len := sn) (cap := sc2) (i := i) (o' := 0 + i * 4) rfl rfl rfl Try.underlying74 siz73 (by omega) (by omega)) ?_
      refine WpL_val rfl rfl (by decide) (r_loadAgg (vs := [(.int .i64 p.1), (.int .i64 p.2), (.int .i64 f0), (.int .i64 y0)]) rfl agg73 siz73 rfl (hkc)) ?_
      refine s_allocStore (v := (.agg #[(.int .i64 p.1), (.int .i64 p.2), (.int .i64 f0), (.int .i64 y0)])) (c := #[(.int .i64 p.1), (.int .i64 p.2), (.int .i64 f0), (.int .i64 y0)]) (n := 4) (by decide) zer73 rfl siz73 rfl rfl rfl (by simp [Value.oneCell']) ?_
      intro bn wn Nn
      have Fn := Nn.ge E
      have On_bp := Nn.lt Bp
      have On_bq := Nn.lt Bq
      have On_bm := Nn.ltM Mm
      replace Bp := Nn.keep Bp
      replace Bq := Nn.keep Bq
      replace Mm := Nn.keepM Mm
      replace hS := own_ext hS Nn.ext
      replace hsz := Nat.le_trans hsz Nn.ext.size
      replace E := E.ext Nn.ext
      have Bn := Nn.blk
      refine WpL_nil ?_
      refine Wp_seq ?_
      have hnz : z0 ≤ bn := by have := Nn.eq; omega
      have hz_8 : w0.heap.size ≤ wn.heap.size := E.size
      have lz_8_bp : bp < wn.heap.size := Bp.lt
      have lz_8_bq : bq < wn.heap.size := Bq.lt
      have lz_8_bm : bm < wn.heap.size := Mm.lt
      have lz_8_bn : bn < wn.heap.size := Bn.lt
      refine Wp_seq ?_
      obtain ⟨Fs8, hFs8⟩ : ∃ Fs : List FctS, Fs = [(fun _ _ v _ => v = (.func (.func 51) #[] #[])), (fun _ _ v _ => v = (.agg #[(.int .i64 a.start), (.slice aa a.accept.length ac), (.slice (some ⟨nb, no, none⟩) a.next.length nc)])), (fun _ _ v _ => v = (.pointer (some ⟨bn, 0, none⟩))), (fun _ _ v _ => v = (.int .i64 p.1)), (fun _ _ v _ => v = (.int .i64 (atD a p.1))), (fun _ _ v _ => v = (.func (.func 51) #[] #[])), (fun _ _ v _ => v = (.agg #[(.int .i64 b.start), (.slice aa2 b.accept.length ac2), (.slice (some ⟨nb2, no2, none⟩) b.next.length nc2)])), (fun _ _ v _ => v = (.pointer (some ⟨bn, 1, none⟩))), (fun _ _ v _ => v = (.int .i64 p.2)), (fun _ _ v _ => v = (.int .i64 (atD b p.2))), (fun _ _ v _ => v = (.bool (decide ((atD a p.1 : Int) ≠ atD b p.2))))] := ⟨_, rfl⟩
      refine Wp_dagS (MsL []) [true, true, true, true, true, true, true, true, true, true, true] [] [63, 64, 65, 66, 67, 68, 69, 70, 71, 72, 73] [[], [], [], [2], [0, 1, 3], [], [], [], [7], [4, 5, 6, 8], [4, 9]] [[], [], [], [2], [0, 1, 3, 2], [], [], [], [7], [4, 0, 1, 3, 2, 5, 6, 8, 7], [4, 0, 1, 3, 2, 9, 5, 6, 8, 7]] Fs8 hFs8 (by kernel_rfl) mixed (by kernel_rfl) (by kernel_rfl) (by kernel_rfl) (by kernel_rfl) ?_ ?_
      · intro wd X0
        refine DagStepsS.cons (StabS.eq) (LocS.const) (fun S s' w' hi hN X U H => Or.inl ⟨Guarded_none rfl, ?_⟩) ?_
        · replace X := X.mono (M' := none1) (fun y _ h => by
              obtain ⟨j, hj, h⟩ := h
              exact h.elim)
          exact DoesT_pure (r_move (v := (.func (.func 51) #[] #[])) (U 9 rfl)) rfl
        refine DagStepsS.cons (StabS.eq) (LocS.const) (fun S s' w' hi hN X U H => Or.inl ⟨Guarded_none rfl, ?_⟩) ?_
        · replace X := X.mono (M' := none1) (fun y _ h => by
              obtain ⟨j, hj, h⟩ := h
              exact h.elim)
          exact DoesT_pure (r_loadAgg (vs := [(.int .i64 a.start), (.slice aa a.accept.length ac), (.slice (some ⟨nb, no, none⟩) a.next.length nc)]) (U 2 rfl) agg25 siz25 rfl (((X0.trans X).keep Bp).cells rfl)) rfl
        refine DagStepsS.cons (StabS.eq) (LocS.const) (fun S s' w' hi hN X U H => Or.inl ⟨Guarded_none rfl, ?_⟩) ?_
        · replace X := X.mono (M' := none1) (fun y _ h => by
              obtain ⟨j, hj, h⟩ := h
              exact h.elim)
          exact DoesT_pure (r_fieldAddr (b := bn) (o := 0) (o' := 0) (U 14 rfl) Try.underlying73 rfl siz3 rfl) rfl
        refine DagStepsS.cons (StabS.eq) (LocS.const) (fun S s' w' hi hN X U H => Or.inl ⟨Guarded_none rfl, ?_⟩) ?_
        · replace X := X.mono (M' := none1) (fun y _ h => by
              obtain ⟨j, hj, h⟩ := h
              exact h.elim)
          have e65 : s' 65 = (.pointer (some ⟨bn, 0, none⟩)) := (H 2 rfl).2 65 (fun _ _ v _ => v = (.pointer (some ⟨bn, 0, none⟩))) rfl (by rw [hFs8]; rfl)
          exact DoesT_pure (r_load (v := (.int .i64 p.1)) e65 flat3 (((X0.trans X).keep Bn).cell rfl)) rfl
        refine DagStepsS.cons (StabS.eq) (LocS.const) (fun S s' w' hi hN X U H => Or.inl ⟨Guarded_none rfl, ?_⟩) ?_
        · replace X := X.mono (M' := none1) (fun y _ h => by
              obtain ⟨j, hj, h⟩ := h
              exact h.elim)
          have e64 : s' 64 = (.agg #[(.int .i64 a.start), (.slice aa a.accept.length ac), (.slice (some ⟨nb, no, none⟩) a.next.length nc)]) := (H 1 rfl).2 64 (fun _ _ v _ => v = (.agg #[(.int .i64 a.start), (.slice aa a.accept.length ac), (.slice (some ⟨nb, no, none⟩) a.next.length nc)])) rfl (by rw [hFs8]; rfl)
          have e66 : s' 66 = (.int .i64 p.1) := (H 3 rfl).2 66 (fun _ _ v _ => v = (.int .i64 p.1)) rfl (by rw [hFs8]; rfl)
          have e63 : s' 63 = (.func (.func 51) #[] #[]) := (H 0 rfl).2 63 (fun _ _ v _ => v = (.func (.func 51) #[] #[])) rfl (by rw [hFs8]; rfl)
          exact DoesT_callE (r_callV (first := #[]) (cap := #[]) (vs := [(.agg #[(.int .i64 a.start), (.slice aa a.accept.length ac), (.slice (some ⟨nb, no, none⟩) a.next.length nc)]), (.int .i64 p.1)]) (ws := #[(.agg #[(.int .i64 a.start), (.slice aa a.accept.length ac), (.slice (some ⟨nb, no, none⟩) a.next.length nc)]), (.int .i64 p.1)]) e63 Try.func51 nm51 bd51 (lst2 e64 e66) rfl) ((same1_c _ a _ p.1 (ha.ext (Ext.trans E (X0.trans X))) (by omega)).mono (fun v w h => h))
        refine DagStepsS.cons (StabS.eq) (LocS.const) (fun S s' w' hi hN X U H => Or.inl ⟨Guarded_none rfl, ?_⟩) ?_
        · replace X := X.mono (M' := none1) (fun y _ h => by
              obtain ⟨j, hj, h⟩ := h
              exact h.elim)
          exact DoesT_pure (r_move (v := (.func (.func 51) #[] #[])) (U 9 rfl)) rfl
        refine DagStepsS.cons (StabS.eq) (LocS.const) (fun S s' w' hi hN X U H => Or.inl ⟨Guarded_none rfl, ?_⟩) ?_
        · replace X := X.mono (M' := none1) (fun y _ h => by
              obtain ⟨j, hj, h⟩ := h
              exact h.elim)
          exact DoesT_pure (r_loadAgg (vs := [(.int .i64 b.start), (.slice aa2 b.accept.length ac2), (.slice (some ⟨nb2, no2, none⟩) b.next.length nc2)]) (U 3 rfl) agg25 siz25 rfl (((X0.trans X).keep Bq).cells rfl)) rfl
        refine DagStepsS.cons (StabS.eq) (LocS.const) (fun S s' w' hi hN X U H => Or.inl ⟨Guarded_none rfl, ?_⟩) ?_
        · replace X := X.mono (M' := none1) (fun y _ h => by
              obtain ⟨j, hj, h⟩ := h
              exact h.elim)
          exact DoesT_pure (r_fieldAddr (b := bn) (o := 0) (o' := 1) (U 14 rfl) Try.underlying73 rfl siz3 rfl) rfl
        refine DagStepsS.cons (StabS.eq) (LocS.const) (fun S s' w' hi hN X U H => Or.inl ⟨Guarded_none rfl, ?_⟩) ?_
        · replace X := X.mono (M' := none1) (fun y _ h => by
              obtain ⟨j, hj, h⟩ := h
              exact h.elim)
          have e70 : s' 70 = (.pointer (some ⟨bn, 1, none⟩)) := (H 7 rfl).2 70 (fun _ _ v _ => v = (.pointer (some ⟨bn, 1, none⟩))) rfl (by rw [hFs8]; rfl)
          exact DoesT_pure (r_load (v := (.int .i64 p.2)) e70 flat3 (((X0.trans X).keep Bn).cell rfl)) rfl
        refine DagStepsS.cons (StabS.eq) (LocS.const) (fun S s' w' hi hN X U H => Or.inl ⟨Guarded_none rfl, ?_⟩) ?_
        · replace X := X.mono (M' := none1) (fun y _ h => by
              obtain ⟨j, hj, h⟩ := h
              exact h.elim)
          have e69 : s' 69 = (.agg #[(.int .i64 b.start), (.slice aa2 b.accept.length ac2), (.slice (some ⟨nb2, no2, none⟩) b.next.length nc2)]) := (H 6 rfl).2 69 (fun _ _ v _ => v = (.agg #[(.int .i64 b.start), (.slice aa2 b.accept.length ac2), (.slice (some ⟨nb2, no2, none⟩) b.next.length nc2)])) rfl (by rw [hFs8]; rfl)
          have e71 : s' 71 = (.int .i64 p.2) := (H 8 rfl).2 71 (fun _ _ v _ => v = (.int .i64 p.2)) rfl (by rw [hFs8]; rfl)
          have e68 : s' 68 = (.func (.func 51) #[] #[]) := (H 5 rfl).2 68 (fun _ _ v _ => v = (.func (.func 51) #[] #[])) rfl (by rw [hFs8]; rfl)
          exact DoesT_callE (r_callV (first := #[]) (cap := #[]) (vs := [(.agg #[(.int .i64 b.start), (.slice aa2 b.accept.length ac2), (.slice (some ⟨nb2, no2, none⟩) b.next.length nc2)]), (.int .i64 p.2)]) (ws := #[(.agg #[(.int .i64 b.start), (.slice aa2 b.accept.length ac2), (.slice (some ⟨nb2, no2, none⟩) b.next.length nc2)]), (.int .i64 p.2)]) e68 Try.func51 nm51 bd51 (lst2 e69 e71) rfl) ((same1_c _ b _ p.2 (hb.ext (Ext.trans E (X0.trans X))) (by omega)).mono (fun v w h => h))
        refine DagStepsS.cons (StabS.eq) (LocS.const) (fun S s' w' hi hN X U H => Or.inl ⟨Guarded_none rfl, ?_⟩) ?_
        · replace X := X.mono (M' := none1) (fun y _ h => by
              obtain ⟨j, hj, h⟩ := h
              exact h.elim)
          have e67 : s' 67 = (.int .i64 (atD a p.1)) := (H 4 rfl).2 67 (fun _ _ v _ => v = (.int .i64 (atD a p.1))) rfl (by rw [hFs8]; rfl)
          have e72 : s' 72 = (.int .i64 (atD b p.2)) := (H 9 rfl).2 72 (fun _ _ v _ => v = (.int .i64 (atD b p.2))) rfl (by rw [hFs8]; rfl)
          exact DoesT_pure (r_neq (k := .i64) (a := atD a p.1) (b := atD b p.2) e67 e72) rfl
        exact DagStepsS.nil
      · intro s' wd8 w8 X0 X8 U H
        replace X8 := X8.mono (M' := none1) (fun y _ h => by
            obtain ⟨j, hj, h⟩ := h
            exact h.elim)
        have e73 : s' 73 = (.bool (decide ((atD a p.1 : Int) ≠ atD b p.2))) := H 10 rfl 73 (fun _ _ v _ => v = (.bool (decide ((atD a p.1 : Int) ≠ atD b p.2)))) rfl (by rw [hFs8]; rfl)
        obtain ⟨j8, rfl⟩ := Fits.out (σ := s') (l := [(2, (.pointer (some ⟨bp, 0, none⟩))), (3, (.pointer (some ⟨bq, 0, none⟩))), (9, (.func (.func 51) #[] #[])), (10, (.func (.func 52) #[] #[])), (11, (.slice (some ⟨sb, 0, none⟩) sn sc2)), (12, (.map (some bm))), (13, (.int .i64 ((i : Nat) : Int))), (14, (.pointer (some ⟨bn, 0, none⟩))), (73, (.bool (decide ((atD a p.1 : Int) ≠ atD b p.2))))]) ⟨U 2 rfl, U 3 rfl, U 9 rfl, U 10 rfl, U 11 rfl, U 12 rfl, U 13 rfl, U 14 rfl, e73, trivial⟩
        clear U H
        replace Bp := (X0.trans X8).keep Bp
        replace Bq := (X0.trans X8).keep Bq
        replace Mm := (X0.trans X8).keepM Mm
        replace Bn := (X0.trans X8).keep Bn
        replace hS := own_ext hS (X0.trans X8)
        replace hsz := Nat.le_trans hsz (X0.trans X8).size
        replace X8 := X0.trans X8
        replace E := E.ext X8
        refine WpL_nil ?_
        refine thn_normal ?_
        refine Wp_cond (b := decide ((atD a p.1 : Int) ≠ atD b p.2)) rfl (fun hdf => ?_) (fun hdf => ?_)
        · have khdf := hdf
          replace hdf := of_decide_eq_true hdf
          have htg : tgtB a b p = true := decide_eq_true hdf
          have hno2 := hB.same_no hno hpi hvi htg
          have hvl := hB.wlen i v hvi
          obtain ⟨n3, hn3⟩ : ∃ n3, n3 = (w8).heap.size := ⟨_, rfl⟩
          have hq3 : bp < n3 ∧ bq < n3 ∧ bm < n3 ∧ bn < n3 ∧ sb < n3 := ⟨by rw [hn3]; exact Bp.lt, by rw [hn3]; exact Bq.lt, by rw [hn3]; exact Mm.lt, by rw [hn3]; exact Bn.lt, by have := (hS.lt sb rfl).2; omega⟩
          refine Wp_seq_region ?_
          refine WpL_val rfl rfl (by decide) (r_assign (v := (.slice none 0 0)) rfl) ?_
          refine WpL_nil ?_
          refine Wp_seq ?_
          refine Wp_seq_region ?_
          refine WpL_val rfl rfl (by decide) (r_move (v := (.int .i64 ((i : Nat) : Int))) rfl) ?_
          refine WpL_val rfl rfl (by decide) (r_assign (v := (.int .i64 ((i : Nat) : Int))) rfl) ?_
          refine WpL_nil ?_
          refine Wp_block ?_
          refine Wp_loop (fun nn_ σ W10 => ∃ (k : Nat) (v1 u : List Nat) (oa : Option Addr) (oc on : Nat), (∃ jj_, σ = upds jj_ [(11, (.slice (some ⟨sb, 0, none⟩) sn sc2)), (16, (.int .i64 ((k : Nat) : Int))), (15, (.slice oa on oc))]) ∧ Chg none1 w0 W10 ∧ Blk W10 bp #[(.int .i64 a.start), (.slice aa a.accept.length ac), (.slice (some ⟨nb, no, none⟩) a.next.length nc)] 25 ∧ Blk W10 bq #[(.int .i64 b.start), (.slice aa2 b.accept.length ac2), (.slice (some ⟨nb2, no2, none⟩) b.next.length nc2)] 25 ∧ MapAt W10 bm kPair kBool (seenM work) ∧ Blk W10 bn #[(.int .i64 p.1), (.int .i64 p.2), (.int .i64 f0), (.int .i64 y0)] 73 ∧ (wd[k]? = some v1) ∧ (v = v1 ++ u) ∧ (on = u.length) ∧ (W10.ownsRow n3 TDI 1 (.slice oa on oc) on ((toI u.reverse).map (Value.int .i64))) ∧ (W10.ownsRow n1 73 4 (.slice (some ⟨sb, 0, none⟩) sn sc2) sn (nds.map ndC).flatten) ∧ (n3 ≤ W10.heap.size) ∧ nn_ = k + 1) (n := i + 1) ?_ ?_
          · exact ⟨i, v, [], none, 0, 0, Fits.out ⟨rfl, rfl, rfl, trivial⟩, E, Bp, Bq, Mm, Bn, hvi, (by simp), rfl, World.ownsRow_nil _ _ _ _, hS, (by omega), rfl⟩
          · clear E Bp Bq Mm Bn
            rintro _ _ W10 ⟨k, v1, u, oa, oc, on, ⟨j10, rfl⟩, E, Bp, Bq, Mm, Bn, hvj, hvu, hon, hO, hS, hsz2, rfl⟩
            have hkw : k < work.length := by rw [← hB.len]; exact lt_of_get hvj
            obtain ⟨p1, hpk⟩ := get_of_lt hkw
            obtain ⟨f, y, hndk, hk0, hk1⟩ := hnd.at' k p1 hpk
            obtain ⟨sb9, hsb9, _, hsc9⟩ := own_cells hS (by omega)
            simp only [Option.some.injEq, Addr.mk.injEq, and_true] at hsb9
            subst hsb9
            have hkc : CellsAt (W10) sb (0 + k * 4) [.int .i64 p1.1, .int .i64 p1.2, .int .i64 f, .int .i64 y] := flat_cells hkl hsc9 hndk
            refine Wp_seq ?_
            refine Wp_seq_region ?_
            refine WpL_val rfl rfl (by decide) (r_move (v := (.slice (some ⟨sb, 0, none⟩) sn sc2)) rfl) ?_
            refine WpL_val rfl rfl (by decide) (r_move (v := (.int .i64 ((k : Nat) : Int))) rfl) ?_
            refine WpL_val rfl rfl (by decide) (r_indexSlice (b := sb) (o := 0) (len := sn) (cap := sc2) (i := k) (o' := 0 + k * 4) rfl rfl rfl Try.underlying74 siz73 (by omega) (by omega)) ?_
            refine WpL_val rfl rfl (by decide) (r_fieldAddr (b := sb) (o := 0 + k * 4) (o' := 0 + k * 4 + 2) rfl Try.underlying73 rfl siz3 rfl) ?_
            refine WpL_val rfl rfl (by decide) (r_load (v := (.int .i64 f)) rfl flat3 (hkc 2 _ rfl)) ?_
            refine WpL_val rfl rfl (by decide) (r_geq (k := .i64) (a := f) (b := 0) rfl rfl) ?_
            refine WpL_nil ?_
            refine Wp_cond (b := decide ((0 : Int) ≤ f)) rfl (fun hge => ?_) (fun hge => ?_)
            · have khge := hge
              replace hge := of_decide_eq_true hge
              have hkp : 0 < k := by rcases Nat.eq_zero_or_pos k with h0 | h0; have := hk0 h0; omega; exact h0
              obtain ⟨j2, y2, v2, hj2, hps2, hv2, rfl⟩ := hB.par k v1 hkp hvj
              obtain ⟨hf, hy⟩ := hk1 hkp j2 y2 hps2
              have hul : u.length ≤ i := by rw [hvu] at hvl; simp at hvl; omega
              refine Wp_skip ?_
              refine thn_normal ?_
              refine Wp_seq ?_
              refine Wp_block ?_
              refine Wp_region ?_
              refine WpL_val rfl rfl (by decide) (r_move (v := (.slice oa on oc)) rfl) ?_
              refine WpL_val rfl rfl (by decide) (r_move (v := (.slice (some ⟨sb, 0, none⟩) sn sc2)) rfl) ?_
              refine WpL_val rfl rfl (by decide) (r_move (v := (.int .i64 ((k : Nat) : Int))) rfl) ?_
              refine WpL_val rfl rfl (by decide) (r_indexSlice (b := sb) (o := 0) (len := sn) (cap := sc2) (i := k) (o' := 0 + k * 4) rfl rfl rfl Try.underlying74 siz73 (by omega) (by omega)) ?_
              refine WpL_val rfl rfl (by decide) (r_fieldAddr (b := sb) (o := 0 + k * 4) (o' := 0 + k * 4 + 3) rfl Try.underlying73 rfl siz3 rfl) ?_
              refine WpL_val rfl rfl (by decide) (r_load (v := (.int .i64 y)) rfl flat3 (hkc 3 _ rfl)) ?_
              refine s_buildSlice (ps := [(0, (.int .i64 y))]) (c := #[(.int .i64 y)]) (by decide) rfl Try.underlying22 siz3 zer3 (by decide) (by decide) (by kernel_rfl) ?_
              intro b12 w12 N12
              have F12 := N12.ge E
              have O12_bp := N12.lt Bp
              have O12_bq := N12.lt Bq
              have O12_bm := N12.ltM Mm
              have O12_bn := N12.lt Bn
              replace Bp := N12.keep Bp
              replace Bq := N12.keep Bq
              replace Mm := N12.keepM Mm
              replace Bn := N12.keep Bn
              replace hO := own_ext hO N12.ext
              replace hS := own_ext hS N12.ext
              replace hkc := hkc.ext N12.ext
              replace hsz2 := Nat.le_trans hsz2 N12.ext.size
              replace E := E.ext N12.ext
              have B12 := N12.blk
              refine s_append (base := n3) (n := on) (m := 1) (xs := ((toI u.reverse).map (Value.int .i64))) (news := [(.int .i64 y)]) (size := 1) (bytes := 8) (v := (.slice oa on oc)) (by decide) Try.underlying22 siz3 byt3 zer3 rfl (by decide) rfl hO rfl (rfl) (B12.cells rfl) (by simp [Value.oneCell']) (by unfold maxLen; omega) (by omega) (hsz2) ?_
              intro v7 w59 Ov7 Cv7 Dv7
              replace Bp := Cv7.keep (fun h => by have := (hO.lt _ h).1; omega) Bp
              replace Bq := Cv7.keep (fun h => by have := (hO.lt _ h).1; omega) Bq
              replace Mm := Cv7.keepM (fun h => by have := (hO.lt _ h).1; omega) Mm
              replace Bn := Cv7.keep (fun h => by have := (hO.lt _ h).1; omega) Bn
              replace E := E.step Cv7 (fun x hx h => absurd (hO.lt x h).1 (by omega))
              obtain ⟨sa3, sc3, rfl⟩ := own_form Ov7
              refine WpL_val rfl rfl (by decide) (r_assign (v := (.slice sa3 (on + 1) sc3)) rfl) ?_
              refine WpL_nil ?_
              refine inB_normal ?_
              refine thn_normal ?_
              refine Wp_region ?_
              refine WpL_val rfl rfl (by decide) (r_move (v := (.slice (some ⟨sb, 0, none⟩) sn sc2)) rfl) ?_
              refine WpL_val rfl rfl (by decide) (r_move (v := (.int .i64 ((k : Nat) : Int))) rfl) ?_
              refine WpL_val rfl rfl (by decide) (r_indexSlice (b := sb) (o := 0) (len := sn) (cap := sc2) (i := k) (o' := 0 + k * 4) rfl rfl rfl Try.underlying74 siz73 (by omega) (by omega)) ?_
              refine WpL_val rfl rfl (by decide) (r_fieldAddr (b := sb) (o := 0 + k * 4) (o' := 0 + k * 4 + 2) rfl Try.underlying73 rfl siz3 rfl) ?_
              refine WpL_val rfl rfl (by decide) (r_load (v := (.int .i64 f)) rfl flat3 (Chg.cell Cv7 (fun h => by have h1 := (hO.lt sb h).1; have h2 := hq3.2.2.2.2; omega) (hkc 2 _ rfl))) ?_
              refine WpL_val rfl rfl (by decide) (r_assign (v := (.int .i64 f)) rfl) ?_
              refine WpL_nil ?_
              refine thn_normal ?_
              rw [hf]
              exact ⟨j2 + 1, by omega, j2, v2, y2 :: u, sa3, sc3, (on + 1), Fits.out ⟨rfl, rfl, rfl, trivial⟩, E, Bp, Bq, Mm, Bn, hv2, (by rw [hvu]; simp), (by simp [hon]), (by rw [hy] at Ov7; simpa [toI] using Ov7), own_chg hS Cv7 (fun b hb h => by have hb' : sb = b := Option.some.inj hb; have := (hO.lt _ h).1; omega), Nat.le_trans hsz2 Cv7.size, rfl⟩
            · have khge := hge
              replace hge := of_decide_eq_false hge
              have hk00 : k = 0 := by rcases Nat.eq_zero_or_pos k with h0 | h0; exact h0; obtain ⟨j2, y2, v2, hj2, hps2, hv2, rfl⟩ := hB.par k v1 h0 hvj; have := (hk1 h0 j2 y2 hps2).1; omega
              rw [hk00, hB.wf] at hvj
              have hv10 : v1 = [] := (Option.some.inj hvj).symm
              rw [hv10, List.nil_append] at hvu
              subst hvu
              refine Wp_exit ?_
              refine thn_exit ?_
              refine thn_exit ?_
              refine inB_here ?_
              refine thn_normal ?_
              refine Wp_seq_region ?_
              refine WpL_val rfl rfl (by decide) (r_move (v := (.slice oa on oc)) rfl) ?_
              refine WpL_enter rfl rfl (by decide) (r_callF (vs := [(.slice oa on oc)]) Try.func53 nm53 bd53 rfl) (revo_c _ n3 oc oa (toI v.reverse) on (by simp [hon, toI]) hO (by simp [toI]; omega)) ?_
              rintro _ w69 ⟨hO2, C69⟩
              replace Bp := C69.keep (fun h => by have := (hO.lt _ h).1; omega) Bp
              replace Bq := C69.keep (fun h => by have := (hO.lt _ h).1; omega) Bq
              replace Mm := C69.keepM (fun h => by have := (hO.lt _ h).1; omega) Mm
              replace Bn := C69.keep (fun h => by have := (hO.lt _ h).1; omega) Bn
              replace E := E.step C69 (fun x hx h => absurd (hO.lt x h).1 (by omega))
              refine WpL_nil ?_
              refine Wp_seq_region ?_
              refine WpL_val rfl rfl (by decide) (r_move (v := (.slice oa on oc)) rfl) ?_
              refine WpL_val rfl rfl (by decide) (r_assign (v := (.bool false)) rfl) ?_
              refine WpL_val rfl rfl (by decide) (r_assign (v := (.slice oa on oc)) rfl) ?_
              refine WpL_val rfl rfl (by decide) (r_assign (v := (.int .i64 0)) rfl) ?_
              refine WpL_nil ?_
              refine Wp_ret ?_
              refine thn_ret ?_
              refine inB_ret ?_
              refine thn_ret ?_
              refine thn_ret ?_
              refine inB_ret ?_
              refine thn_ret ?_
              refine fin_tmp3 Try.results11 (v := (.bool false)) (v' := (.slice oa on oc)) (v'' := (.int .i64 0)) rfl rfl rfl ?_
              exact ⟨⟨false, v, oa, oc, by rw [hon], by rw [← hon]; exact own_intsD (n := on) (by simpa [toI, List.map_reverse] using hO2) (by simp [hon, toI]), ⟨(fun h => by cases h), fun _ => hno2, ⟨_, hR, nextB_stop hpi hvi htg, fun _ => hvi, by symm; rw [decide_eq_false_iff_not]; show ¬ work.length ≤ i; omega⟩⟩, by rw [← hmx]; omega⟩, E⟩
        · have khdf := hdf
          replace hdf := of_decide_eq_false hdf
          have htg : tgtB a b p = false := decide_eq_false hdf
          refine Wp_skip ?_
          refine thn_normal ?_
          refine Wp_seq_region ?_
          refine WpL_val rfl rfl (by decide) (r_fieldAddr (b := bp) (o := 0) (o' := 2) rfl Try.underlying25 rfl siz23 rfl) ?_
          refine WpL_val rfl rfl (by decide) (r_load (v := (.slice (some ⟨nb, no, none⟩) a.next.length nc)) rfl flat23 (Bp.cell rfl)) ?_
          refine WpL_val rfl rfl (by decide) (r_indexSlice (b := nb) (o := no) (len := a.next.length) (cap := nc) (i := 0) (o' := no + 0) rfl rfl rfl Try.underlying23 siz22 (by omega) (by omega)) ?_
          refine WpL_val rfl rfl (by decide) (r_load (v := (.slice ra c rc)) rfl flat22 (E.cell (fun f => f) hcell)) ?_
          refine WpL_val rfl rfl (by decide) (r_lenSlice (ad := ra) (n := c) (cap := rc) Try.underlying22 rfl) ?_
          refine WpL_val rfl rfl (by decide) (r_move (v := (.int .i64 0)) rfl) ?_
          refine WpL_nil ?_
          refine Wp_block ?_
          refine Wp_loop (fun nn_ σ W13 => ∃ (x : Nat) (work : List (Int × Int)) (wd : List (List Nat)) (ps : List (Nat × Nat)) (nds : List (Int × Int × Int × Int)) (sa : Option Addr) (sc2 sn : Nat), (∃ jj_, σ = upds jj_ [(2, (.pointer (some ⟨bp, 0, none⟩))), (3, (.pointer (some ⟨bq, 0, none⟩))), (9, (.func (.func 51) #[] #[])), (10, (.func (.func 52) #[] #[])), (12, (.map (some bm))), (13, (.int .i64 ((i : Nat) : Int))), (14, (.pointer (some ⟨bn, 0, none⟩))), (101, (.int .i64 ((c : Nat) : Int))), (102, (.int .i64 ((x : Nat) : Int))), (11, (.slice sa sn sc2))]) ∧ Chg none1 w0 W13 ∧ Blk W13 bp #[(.int .i64 a.start), (.slice aa a.accept.length ac), (.slice (some ⟨nb, no, none⟩) a.next.length nc)] 25 ∧ Blk W13 bq #[(.int .i64 b.start), (.slice aa2 b.accept.length ac2), (.slice (some ⟨nb2, no2, none⟩) b.next.length nc2)] 25 ∧ MapAt W13 bm kPair kBool (seenM work) ∧ Blk W13 bn #[(.int .i64 p.1), (.int .i64 p.2), (.int .i64 f0), (.int .i64 y0)] 73 ∧ (x ≤ c) ∧ (BfsW c (stpB a b) (a.start, b.start) work wd ps i x) ∧ (ReachB c (stpB a b) (tgtB a b) (a.start, b.start) ⟨work, wd, i, x⟩) ∧ (NdOf work ps nds) ∧ (∀ (j : Nat) p, j < i + 1 → work[j]? = some p → tgtB a b p = false) ∧ (∀ k ∈ work, (-1 ≤ k.1 ∧ k.1 < n) ∧ (-1 ≤ k.2 ∧ k.2 < m)) ∧ (work[i]? = some p) ∧ (wd[i]? = some v) ∧ (sn = work.length) ∧ (W13.ownsRow n1 73 4 (.slice sa sn sc2) sn (nds.map ndC).flatten) ∧ (∀ b, (Value.slice sa sn sc2).ownBlock = some b → b ≠ bm ∧ b ≠ bn) ∧ (n2 ≤ W13.heap.size) ∧ nn_ = c - x) (n := c - 0) ?_ ?_
          · exact ⟨0, work, wd, ps, nds, some ⟨sb, 0, none⟩, sc2, sn, Fits.out ⟨rfl, rfl, rfl, rfl, rfl, rfl, rfl, rfl, rfl, rfl, trivial⟩, E, Bp, Bq, Mm, Bn, Nat.zero_le _, hB, hR, hnd, (fun j t hj ht => by rcases Nat.lt_or_ge j i with h1 | h1; exact hno j t h1 ht; (have h2 : j = i := by omega); rw [h2, hpi] at ht; cases ht; exact htg), hsl, hpi, hvi, hsn, hS, (fun b hb => ⟨hap b hb, fun e => by have := hSz b hb; omega⟩), hsz, rfl⟩
          · clear E Bp Bq Mm Bn
            rintro _ _ W13 ⟨x, work, wd, ps, nds, sa, sc2, sn, ⟨j13, rfl⟩, E, Bp, Bq, Mm, Bn, hx, hB, hR, hnd, hno, hsl, hpi, hvi, hsn, hS, hap, hsz, rfl⟩
            refine Wp_seq_region ?_
            refine WpL_val rfl rfl (by decide) (r_lss (k := .i64) (a := ((x : Nat) : Int)) (b := ((c : Nat) : Int)) rfl rfl) ?_
            refine WpL_nil ?_
            refine Wp_seq ?_
            refine Wp_cond (b := decide ((((x : Nat) : Int) : Int) < ((c : Nat) : Int))) rfl (fun hlt2 => ?_) (fun hlt2 => ?_)
            · have khlt2 := hlt2
              replace hlt2 := of_decide_eq_true hlt2
              obtain ⟨z1, hz1⟩ : ∃ z1, z1 = (W13).heap.size := ⟨_, rfl⟩
              have hS1 : ∀ b, (Value.slice sa sn sc2).ownBlock = some b → b < z1 := fun b hb => by have := (hS.lt b hb).2; omega
              refine Wp_skip ?_
              refine thn_normal ?_
              refine Wp_seq ?_
              refine Wp_block ?_
              refine Wp_seq_region ?_
              refine WpL_val rfl rfl (by decide) (r_move (v := (.int .i64 ((x : Nat) : Int))) rfl) ?_
              refine WpL_val rfl rfl (by decide) (r_assign (v := (.int .i64 ((x : Nat) : Int))) rfl) ?_
              refine WpL_nil ?_
              have hz_15 : w0.heap.size ≤ W13.heap.size := E.size
              have lz_15_bp : bp < W13.heap.size := Bp.lt
              have lz_15_bq : bq < W13.heap.size := Bq.lt
              have lz_15_bm : bm < W13.heap.size := Mm.lt
              have lz_15_bn : bn < W13.heap.size := Bn.lt
              refine Wp_seq ?_
              obtain ⟨Fs15, hFs15⟩ : ∃ Fs : List FctS, Fs = [(fun _ _ v _ => v = (.func (.func 52) #[] #[])), (fun _ _ v _ => v = (.agg #[(.int .i64 a.start), (.slice aa a.accept.length ac), (.slice (some ⟨nb, no, none⟩) a.next.length nc)])), (fun _ _ v _ => v = (.pointer (some ⟨bn, 0, none⟩))), (fun _ _ v _ => v = (.int .i64 p.1)), (fun _ _ v _ => v = (.int .i64 ((x : Nat) : Int))), (fun _ _ v _ => v = (.int .i64 (toD a p.1 x))), (fun _ _ v _ => v = (.func (.func 52) #[] #[])), (fun _ _ v _ => v = (.agg #[(.int .i64 b.start), (.slice aa2 b.accept.length ac2), (.slice (some ⟨nb2, no2, none⟩) b.next.length nc2)])), (fun _ _ v _ => v = (.pointer (some ⟨bn, 1, none⟩))), (fun _ _ v _ => v = (.int .i64 p.2)), (fun _ _ v _ => v = (.int .i64 ((x : Nat) : Int))), (fun _ _ v _ => v = (.int .i64 (toD b p.2 x))), (fun _ _ v _ => v = (.agg #[(.int .i64 (toD a p.1 x)), (.int .i64 (toD b p.2 x))])), (fun _ _ => alF 75 #[(.int .i64 0), (.int .i64 0)] W13.heap.size), (fun _ _ v _ => v = undef)] := ⟨_, rfl⟩
              refine Wp_dagS (MsL []) [true, true, true, true, true, true, true, true, true, true, true, true, true, true, false] [14] [105, 106, 107, 108, 109, 110, 111, 112, 113, 114, 115, 116, 117, 18, 149] [[], [], [], [2], [], [0, 1, 3, 4], [], [], [], [8], [], [5, 6, 7, 9, 10], [5, 11], [], []] [[], [], [], [2], [], [0, 1, 3, 2, 4], [], [], [], [8], [], [5, 0, 1, 3, 2, 4, 6, 7, 9, 8, 10], [5, 0, 1, 3, 2, 4, 11, 6, 7, 9, 8, 10], [], []] Fs15 hFs15 (by kernel_rfl) mixed (by kernel_rfl) (by kernel_rfl) (by kernel_rfl) (by kernel_rfl) ?_ ?_
              · intro wd X0
                refine DagStepsS.cons (StabS.eq) (LocS.const) (fun S s' w' hi hN X U H => Or.inl ⟨Guarded_none rfl, ?_⟩) ?_
                · replace X := X.mono (M' := none1) (fun y _ h => by
                      obtain ⟨j, hj, h⟩ := h
                      exact h.elim)
                  exact DoesT_pure (r_move (v := (.func (.func 52) #[] #[])) (U 10 rfl)) rfl
                refine DagStepsS.cons (StabS.eq) (LocS.const) (fun S s' w' hi hN X U H => Or.inl ⟨Guarded_none rfl, ?_⟩) ?_
                · replace X := X.mono (M' := none1) (fun y _ h => by
                      obtain ⟨j, hj, h⟩ := h
                      exact h.elim)
                  exact DoesT_pure (r_loadAgg (vs := [(.int .i64 a.start), (.slice aa a.accept.length ac), (.slice (some ⟨nb, no, none⟩) a.next.length nc)]) (U 2 rfl) agg25 siz25 rfl (((X0.trans X).keep Bp).cells rfl)) rfl
                refine DagStepsS.cons (StabS.eq) (LocS.const) (fun S s' w' hi hN X U H => Or.inl ⟨Guarded_none rfl, ?_⟩) ?_
                · replace X := X.mono (M' := none1) (fun y _ h => by
                      obtain ⟨j, hj, h⟩ := h
                      exact h.elim)
                  exact DoesT_pure (r_fieldAddr (b := bn) (o := 0) (o' := 0) (U 14 rfl) Try.underlying73 rfl siz3 rfl) rfl
                refine DagStepsS.cons (StabS.eq) (LocS.const) (fun S s' w' hi hN X U H => Or.inl ⟨Guarded_none rfl, ?_⟩) ?_
                · replace X := X.mono (M' := none1) (fun y _ h => by
                      obtain ⟨j, hj, h⟩ := h
                      exact h.elim)
                  have e107 : s' 107 = (.pointer (some ⟨bn, 0, none⟩)) := (H 2 rfl).2 107 (fun _ _ v _ => v = (.pointer (some ⟨bn, 0, none⟩))) rfl (by rw [hFs15]; rfl)
                  exact DoesT_pure (r_load (v := (.int .i64 p.1)) e107 flat3 (((X0.trans X).keep Bn).cell rfl)) rfl
                refine DagStepsS.cons (StabS.eq) (LocS.const) (fun S s' w' hi hN X U H => Or.inl ⟨Guarded_none rfl, ?_⟩) ?_
                · replace X := X.mono (M' := none1) (fun y _ h => by
                      obtain ⟨j, hj, h⟩ := h
                      exact h.elim)
                  exact DoesT_pure (r_move (v := (.int .i64 ((x : Nat) : Int))) (U 17 rfl)) rfl
                refine DagStepsS.cons (StabS.eq) (LocS.const) (fun S s' w' hi hN X U H => Or.inl ⟨Guarded_none rfl, ?_⟩) ?_
                · replace X := X.mono (M' := none1) (fun y _ h => by
                      obtain ⟨j, hj, h⟩ := h
                      exact h.elim)
                  have e106 : s' 106 = (.agg #[(.int .i64 a.start), (.slice aa a.accept.length ac), (.slice (some ⟨nb, no, none⟩) a.next.length nc)]) := (H 1 rfl).2 106 (fun _ _ v _ => v = (.agg #[(.int .i64 a.start), (.slice aa a.accept.length ac), (.slice (some ⟨nb, no, none⟩) a.next.length nc)])) rfl (by rw [hFs15]; rfl)
                  have e108 : s' 108 = (.int .i64 p.1) := (H 3 rfl).2 108 (fun _ _ v _ => v = (.int .i64 p.1)) rfl (by rw [hFs15]; rfl)
                  have e109 : s' 109 = (.int .i64 ((x : Nat) : Int)) := (H 4 rfl).2 109 (fun _ _ v _ => v = (.int .i64 ((x : Nat) : Int))) rfl (by rw [hFs15]; rfl)
                  have e105 : s' 105 = (.func (.func 52) #[] #[]) := (H 0 rfl).2 105 (fun _ _ v _ => v = (.func (.func 52) #[] #[])) rfl (by rw [hFs15]; rfl)
                  exact DoesT_callE (r_callV (first := #[]) (cap := #[]) (vs := [(.agg #[(.int .i64 a.start), (.slice aa a.accept.length ac), (.slice (some ⟨nb, no, none⟩) a.next.length nc)]), (.int .i64 p.1), (.int .i64 ((x : Nat) : Int))]) (ws := #[(.agg #[(.int .i64 a.start), (.slice aa a.accept.length ac), (.slice (some ⟨nb, no, none⟩) a.next.length nc)]), (.int .i64 p.1), (.int .i64 ((x : Nat) : Int))]) e105 Try.func52 nm52 bd52 (lst3 e106 e108 e109) rfl) ((same2_c _ n c a _ p.1 ((x : Nat) : Int) oka (ha.ext (Ext.trans E (X0.trans X))) hp1.2 (by omega)).mono (fun v w h => h))
                refine DagStepsS.cons (StabS.eq) (LocS.const) (fun S s' w' hi hN X U H => Or.inl ⟨Guarded_none rfl, ?_⟩) ?_
                · replace X := X.mono (M' := none1) (fun y _ h => by
                      obtain ⟨j, hj, h⟩ := h
                      exact h.elim)
                  exact DoesT_pure (r_move (v := (.func (.func 52) #[] #[])) (U 10 rfl)) rfl
                refine DagStepsS.cons (StabS.eq) (LocS.const) (fun S s' w' hi hN X U H => Or.inl ⟨Guarded_none rfl, ?_⟩) ?_
                · replace X := X.mono (M' := none1) (fun y _ h => by
                      obtain ⟨j, hj, h⟩ := h
                      exact h.elim)
                  exact DoesT_pure (r_loadAgg (vs := [(.int .i64 b.start), (.slice aa2 b.accept.length ac2), (.slice (some ⟨nb2, no2, none⟩) b.next.length nc2)]) (U 3 rfl) agg25 siz25 rfl (((X0.trans X).keep Bq).cells rfl)) rfl
                refine DagStepsS.cons (StabS.eq) (LocS.const) (fun S s' w' hi hN X U H => Or.inl ⟨Guarded_none rfl, ?_⟩) ?_
                · replace X := X.mono (M' := none1) (fun y _ h => by
                      obtain ⟨j, hj, h⟩ := h
                      exact h.elim)
                  exact DoesT_pure (r_fieldAddr (b := bn) (o := 0) (o' := 1) (U 14 rfl) Try.underlying73 rfl siz3 rfl) rfl
                refine DagStepsS.cons (StabS.eq) (LocS.const) (fun S s' w' hi hN X U H => Or.inl ⟨Guarded_none rfl, ?_⟩) ?_
                · replace X := X.mono (M' := none1) (fun y _ h => by
                      obtain ⟨j, hj, h⟩ := h
                      exact h.elim)
                  have e113 : s' 113 = (.pointer (some ⟨bn, 1, none⟩)) := (H 8 rfl).2 113 (fun _ _ v _ => v = (.pointer (some ⟨bn, 1, none⟩))) rfl (by rw [hFs15]; rfl)
                  exact DoesT_pure (r_load (v := (.int .i64 p.2)) e113 flat3 (((X0.trans X).keep Bn).cell rfl)) rfl
                refine DagStepsS.cons (StabS.eq) (LocS.const) (fun S s' w' hi hN X U H => Or.inl ⟨Guarded_none rfl, ?_⟩) ?_
                · replace X := X.mono (M' := none1) (fun y _ h => by
                      obtain ⟨j, hj, h⟩ := h
                      exact h.elim)
                  exact DoesT_pure (r_move (v := (.int .i64 ((x : Nat) : Int))) (U 17 rfl)) rfl
                refine DagStepsS.cons (StabS.eq) (LocS.const) (fun S s' w' hi hN X U H => Or.inl ⟨Guarded_none rfl, ?_⟩) ?_
                · replace X := X.mono (M' := none1) (fun y _ h => by
                      obtain ⟨j, hj, h⟩ := h
                      exact h.elim)
                  have e112 : s' 112 = (.agg #[(.int .i64 b.start), (.slice aa2 b.accept.length ac2), (.slice (some ⟨nb2, no2, none⟩) b.next.length nc2)]) := (H 7 rfl).2 112 (fun _ _ v _ => v = (.agg #[(.int .i64 b.start), (.slice aa2 b.accept.length ac2), (.slice (some ⟨nb2, no2, none⟩) b.next.length nc2)])) rfl (by rw [hFs15]; rfl)
                  have e114 : s' 114 = (.int .i64 p.2) := (H 9 rfl).2 114 (fun _ _ v _ => v = (.int .i64 p.2)) rfl (by rw [hFs15]; rfl)
                  have e115 : s' 115 = (.int .i64 ((x : Nat) : Int)) := (H 10 rfl).2 115 (fun _ _ v _ => v = (.int .i64 ((x : Nat) : Int))) rfl (by rw [hFs15]; rfl)
                  have e111 : s' 111 = (.func (.func 52) #[] #[]) := (H 6 rfl).2 111 (fun _ _ v _ => v = (.func (.func 52) #[] #[])) rfl (by rw [hFs15]; rfl)
                  exact DoesT_callE (r_callV (first := #[]) (cap := #[]) (vs := [(.agg #[(.int .i64 b.start), (.slice aa2 b.accept.length ac2), (.slice (some ⟨nb2, no2, none⟩) b.next.length nc2)]), (.int .i64 p.2), (.int .i64 ((x : Nat) : Int))]) (ws := #[(.agg #[(.int .i64 b.start), (.slice aa2 b.accept.length ac2), (.slice (some ⟨nb2, no2, none⟩) b.next.length nc2)]), (.int .i64 p.2), (.int .i64 ((x : Nat) : Int))]) e111 Try.func52 nm52 bd52 (lst3 e112 e114 e115) rfl) ((same2_c _ m c b _ p.2 ((x : Nat) : Int) okb (hb.ext (Ext.trans E (X0.trans X))) hp2.2 (by omega)).mono (fun v w h => h))
                refine DagStepsS.cons (StabS.eq) (LocS.const) (fun S s' w' hi hN X U H => Or.inl ⟨Guarded_none rfl, ?_⟩) ?_
                · replace X := X.mono (M' := none1) (fun y _ h => by
                      obtain ⟨j, hj, h⟩ := h
                      exact h.elim)
                  have e110 : s' 110 = (.int .i64 (toD a p.1 x)) := (H 5 rfl).2 110 (fun _ _ v _ => v = (.int .i64 (toD a p.1 x))) rfl (by rw [hFs15]; rfl)
                  have e116 : s' 116 = (.int .i64 (toD b p.2 x)) := (H 11 rfl).2 116 (fun _ _ v _ => v = (.int .i64 (toD b p.2 x))) rfl (by rw [hFs15]; rfl)
                  exact DoesT_pure (r_build (ps := [(0, (.int .i64 (toD a p.1 x))), (1, (.int .i64 (toD b p.2 x)))]) (v := (.agg #[(.int .i64 (toD a p.1 x)), (.int .i64 (toD b p.2 x))])) (bld2 e110 e116) (by kernel_rfl)) rfl
                refine DagStepsS.cons (StabS.chg (U := none1) (fun v w w' x h => alF_ext _ _ _ v w w' x h) (fun p y hp hw h => by
                      exact h.elim)) (LocS.const) (fun S s' w' hi hN X U H => Or.inl ⟨Guarded_none rfl, ?_⟩) ?_
                · replace X := X.mono (M' := none1) (fun y _ h => by
                      obtain ⟨j, hj, h⟩ := h
                      exact h.elim)
                  exact DoesT_alloc (c := #[(.int .i64 0), (.int .i64 0)]) zer75 rfl (by have := X0.size; have := X.size; omega)
                refine DagStepsS.tail ?_
                exact DagStepsS.nil
              · intro s' wd15 w15 X0 X15 U H
                replace X15 := X15.mono (M' := none1) (fun y _ h => by
                    obtain ⟨j, hj, h⟩ := h
                    exact h.elim)
                have e117 : s' 117 = (.agg #[(.int .i64 (toD a p.1 x)), (.int .i64 (toD b p.2 x))]) := H 12 rfl 117 (fun _ _ v _ => v = (.agg #[(.int .i64 (toD a p.1 x)), (.int .i64 (toD b p.2 x))])) rfl (by rw [hFs15]; rfl)
                obtain ⟨b18, e18, B18, g18⟩ := (show ((fun _ _ => alF 75 #[(.int .i64 0), (.int .i64 0)] W13.heap.size) : FctS) (allS [true, true, true, true, true, true, true, true, true, true, true, true, true, true, false]) s' (s' 18) w15 from H 13 rfl 18 (fun _ _ => alF 75 #[(.int .i64 0), (.int .i64 0)] W13.heap.size) rfl (by rw [hFs15]; rfl))
                obtain ⟨j15, rfl⟩ := Fits.out (σ := s') (l := [(2, (.pointer (some ⟨bp, 0, none⟩))), (3, (.pointer (some ⟨bq, 0, none⟩))), (9, (.func (.func 51) #[] #[])), (10, (.func (.func 52) #[] #[])), (11, (.slice sa sn sc2)), (12, (.map (some bm))), (13, (.int .i64 ((i : Nat) : Int))), (14, (.pointer (some ⟨bn, 0, none⟩))), (17, (.int .i64 ((x : Nat) : Int))), (101, (.int .i64 ((c : Nat) : Int))), (102, (.int .i64 ((x : Nat) : Int))), (117, (.agg #[(.int .i64 (toD a p.1 x)), (.int .i64 (toD b p.2 x))])), (18, (.pointer (some ⟨b18, 0, none⟩)))]) ⟨U 2 rfl, U 3 rfl, U 9 rfl, U 10 rfl, U 11 rfl, U 12 rfl, U 13 rfl, U 14 rfl, U 17 rfl, U 101 rfl, U 102 rfl, e117, e18, trivial⟩
                clear U H
                replace Bp := (X0.trans X15).keep Bp
                replace Bq := (X0.trans X15).keep Bq
                replace Mm := (X0.trans X15).keepM Mm
                replace Bn := (X0.trans X15).keep Bn
                replace hS := own_ext hS (X0.trans X15)
                replace hsz := Nat.le_trans hsz (X0.trans X15).size
                replace X15 := X0.trans X15
                replace E := E.ext X15
                refine s_storeAgg (b := b18) (o := 0) (c' := #[(.int .i64 (toD a p.1 x)), (.int .i64 (toD b p.2 x))]) rfl rfl (by simp [Value.oneCell']) siz75 rfl B18 (by simp) rfl ?_
                intro w16 S16
                replace hS := own_chg hS S16.chg fun y hy h => by have := hS1 y hy; have h' : y = b18 := h; omega
                replace hsz := Nat.le_trans hsz S16.chg.size
                replace Bp := S16.keep (by omega) Bp
                replace Bq := S16.keep (by omega) Bq
                replace Mm := S16.keepM (by omega) Mm
                replace Bn := S16.keep (by omega) Bn
                replace E := S16.step E (by first | exact Or.inl (by omega) | exact Or.inr rfl | exact Or.inr (by assumption) | exact Or.inr (by simp) | exact Or.inr (by omega) | exact Or.inr (by dsimp only; omega))
                replace B18 := S16.blk
                refine WpL_nil ?_
                refine thn_normal ?_
                refine Wp_seq_region ?_
                refine WpL_val rfl rfl (by decide) (r_move (v := (.map (some bm))) rfl) ?_
                refine WpL_val rfl rfl (by decide) (r_loadAgg (vs := [(.int .i64 (toD a p.1 x)), (.int .i64 (toD b p.2 x))]) rfl agg75 siz75 rfl (B18.cells rfl)) ?_
                refine WpL_val (v := (.bool ((getM (seenM work) (toD a p.1 x, toD b p.2 x)).getD false))) rfl rfl (by decide) (r_lookup (k := (toD a p.1 x, toD b p.2 x)) (z := false) Try.underlying76 (key75) zer4 Mm rfl rfl) ?_
                refine WpL_val rfl rfl (by decide) (r_not (b := (getM (seenM work) (toD a p.1 x, toD b p.2 x)).getD false) rfl) ?_
                refine WpL_nil ?_
                skip
                refine Wp_cond (b := !((getM (seenM work) (toD a p.1 x, toD b p.2 x)).getD false)) rfl (fun hnew => ?_) (fun hnew => ?_)
                · have khnew := hnew
                  replace hnew := by simpa using hnew
                  have hnm : (toD a p.1 x, toD b p.2 x) ∉ work := fun hm => by rw [seenM_get, decide_eq_true hm] at khnew; cases khnew
                  have htgp := hno i p (by omega) hpi
                  have hBn := hB.new hpi hvi (show x < c by omega) rfl hnm
                  have hRn := hR.step (nextB_new hpi hvi (by omega) htgp rfl hnm)
                  have hndn := hnd.push hB.plen (by have := lt_of_get hpi; omega) (toD a p.1 x, toD b p.2 x) i x
                  have hwl2 : work.length ≤ mx := by rw [hmx]; exact pairs_few hB.nd hsl
                  refine Wp_seq_region ?_
                  refine WpL_val rfl rfl (by decide) (r_move (v := (.map (some bm))) rfl) ?_
                  refine WpL_val rfl rfl (by decide) (r_loadAgg (vs := [(.int .i64 (toD a p.1 x)), (.int .i64 (toD b p.2 x))]) rfl agg75 siz75 rfl (B18.cells rfl)) ?_
                  refine s_mapUpdate (k := (toD a p.1 x, toD b p.2 x)) (v := true) Try.underlying76 (key75) Mm rfl rfl rfl ?_
                  intro w18 S18 H18
                  replace hS := own_chg hS S18.chg fun y hy h => (hap y hy).1 h
                  replace hsz := Nat.le_trans hsz S18.chg.size
                  replace Bp := S18.keep (by omega) Bp
                  replace Bq := S18.keep (by omega) Bq
                  replace Bn := S18.keep (by omega) Bn
                  replace B18 := S18.keep (by omega) B18
                  replace E := S18.step E (by first | exact Or.inl (by omega) | exact Or.inr rfl | exact Or.inr (by assumption) | exact Or.inr (by simp) | exact Or.inr (by omega) | exact Or.inr (by dsimp only; omega))
                  replace Mm := H18
                  refine WpL_nil ?_
                  refine Wp_region ?_
                  refine WpL_val rfl rfl (by decide) (r_move (v := (.slice sa sn sc2)) rfl) ?_
                  refine WpL_val rfl rfl (by decide) (r_indexArr (b := b18) (o := 0) (i := 0) (o' := 0) rfl rfl rfl Try.underlying75 siz3 (by omega) (by omega)) ?_
                  refine WpL_val rfl rfl (by decide) (r_load (v := (.int .i64 (toD a p.1 x))) rfl flat3 (B18.cell rfl)) ?_
                  refine WpL_val rfl rfl (by decide) (r_indexArr (b := b18) (o := 0) (i := 1) (o' := 1) rfl rfl rfl Try.underlying75 siz3 (by omega) (by omega)) ?_
                  refine WpL_val rfl rfl (by decide) (r_load (v := (.int .i64 (toD b p.2 x))) rfl flat3 (B18.cell rfl)) ?_
                  refine WpL_val rfl rfl (by decide) (r_move (v := (.int .i64 ((i : Nat) : Int))) rfl) ?_
                  refine WpL_val rfl rfl (by decide) (r_move (v := (.int .i64 ((x : Nat) : Int))) rfl) ?_
                  refine WpL_val rfl rfl (by decide) (r_build (ps := [(0, (.int .i64 (toD a p.1 x))), (1, (.int .i64 (toD b p.2 x))), (2, (.int .i64 ((i : Nat) : Int))), (3, (.int .i64 ((x : Nat) : Int)))]) (v := (.agg #[(.int .i64 (toD a p.1 x)), (.int .i64 (toD b p.2 x)), (.int .i64 ((i : Nat) : Int)), (.int .i64 ((x : Nat) : Int))])) rfl (by kernel_rfl)) ?_
                  refine s_buildSlice (ps := [(0, (.agg #[(.int .i64 (toD a p.1 x)), (.int .i64 (toD b p.2 x)), (.int .i64 ((i : Nat) : Int)), (.int .i64 ((x : Nat) : Int))]))]) (c := #[(.int .i64 (toD a p.1 x)), (.int .i64 (toD b p.2 x)), (.int .i64 ((i : Nat) : Int)), (.int .i64 ((x : Nat) : Int))]) (by decide) rfl Try.underlying74 siz73 zer73 (by decide) (by decide) (by kernel_rfl) ?_
                  intro b19 w19 N19
                  have F19 := N19.ge E
                  have O19_bp := N19.lt Bp
                  have O19_bq := N19.lt Bq
                  have O19_bm := N19.ltM Mm
                  have O19_bn := N19.lt Bn
                  have O19_b18 := N19.lt B18
                  replace Bp := N19.keep Bp
                  replace Bq := N19.keep Bq
                  replace Mm := N19.keepM Mm
                  replace Bn := N19.keep Bn
                  replace B18 := N19.keep B18
                  replace hS := own_ext hS N19.ext
                  replace hsz := Nat.le_trans hsz N19.ext.size
                  replace E := E.ext N19.ext
                  have B19 := N19.blk
                  have hbn9 : bn < (w19).heap.size ∧ bm < (w19).heap.size := ⟨Bn.lt, Mm.lt⟩
                  refine s_append (base := n1) (n := sn) (m := 1) (xs := (nds.map ndC).flatten) (news := [(.int .i64 (toD a p.1 x)), (.int .i64 (toD b p.2 x)), (.int .i64 ((i : Nat) : Int)), (.int .i64 ((x : Nat) : Int))]) (size := 4) (bytes := 32) (v := (.slice sa sn sc2)) (by decide) Try.underlying74 siz73 byt73 zer73 rfl (by decide) rfl hS rfl (rfl) (B19.cells rfl) (by simp [Value.oneCell']) (by unfold maxLen; omega) (by omega) ((by omega)) ?_
                  intro v7 w59 Ov7 Cv7 Dv7
                  replace Bp := Cv7.keep (fun h => by have := (hS.lt _ h).1; omega) Bp
                  replace Bq := Cv7.keep (fun h => by have := (hS.lt _ h).1; omega) Bq
                  replace Mm := Cv7.keepM (fun h => (hap _ h).1 rfl) Mm
                  replace Bn := Cv7.keep (fun h => (hap _ h).2 rfl) Bn
                  replace E := E.step Cv7 (fun x hx h => absurd (hS.lt x h).1 (by omega))
                  obtain ⟨sa3, sc3, rfl⟩ := own_form Ov7
                  replace Mm : MapAt (w59) bm kPair kBool (putM (seenM work) (toD a p.1 x, toD b p.2 x) true) := Mm
                  rw [seenM_put hnm] at Mm
                  refine WpL_val rfl rfl (by decide) (r_assign (v := (.slice sa3 (sn + 1) sc3)) rfl) ?_
                  refine WpL_nil ?_
                  refine inB_normal ?_
                  refine thn_normal ?_
                  refine Wp_region ?_
                  refine WpL_val rfl rfl (by decide) (r_add (k := .i64) (a := ((x : Nat) : Int)) (b := 1) (c := ((x : Nat) : Int) + 1) rfl rfl (wI64 (by omega))) ?_
                  refine WpL_val rfl rfl (by decide) (r_move (v := (.int .i64 (((x : Nat) : Int) + 1))) rfl) ?_
                  refine WpL_nil ?_
                  refine thn_normal ?_
                  exact ⟨c - (x + 1), by omega, x + 1, work ++ [(toD a p.1 x, toD b p.2 x)], wd ++ [v ++ [x]], ps ++ [(i, x)], nds ++ [(toD a p.1 x, toD b p.2 x, ((i : Nat) : Int), ((x : Nat) : Int))], sa3, sc3, (sn + 1), Fits.out ⟨rfl, rfl, rfl, rfl, rfl, rfl, rfl, rfl, rfl, rfl, trivial⟩, E, Bp, Bq, Mm, Bn, (by omega), hBn, hRn, hndn, (fun j t9 hj ht9 => hno j t9 hj (by rwa [List.getElem?_append_left (by have := lt_of_get hpi; omega)] at ht9)), (fun t9 h9 => by rcases List.mem_append.1 h9 with h8 | h8; exact hsl t9 h8; rw [List.mem_singleton] at h8; subst h8; exact ⟨oka.to, okb.to⟩), (by rw [List.getElem?_append_left (lt_of_get hpi)]; exact hpi), (by rw [List.getElem?_append_left (lt_of_get hvi)]; exact hvi), (by simp [hsn]), (by rw [List.map_append, List.flatten_append]; exact Ov7), (fun b hb => by rcases Dv7 b hb with h9 | h9; exact hap b h9; exact ⟨by omega, by omega⟩), Nat.le_trans hsz Cv7.size, rfl⟩
                · have khnew := hnew
                  replace hnew := by simpa using hnew
                  have hmm : (toD a p.1 x, toD b p.2 x) ∈ work := Classical.byContradiction fun h9 => by rw [seenM_get, decide_eq_false h9] at khnew; cases khnew
                  have htgp := hno i p (by omega) hpi
                  refine Wp_skip ?_
                  refine inB_normal ?_
                  refine thn_normal ?_
                  refine Wp_region ?_
                  refine WpL_val rfl rfl (by decide) (r_add (k := .i64) (a := ((x : Nat) : Int)) (b := 1) (c := ((x : Nat) : Int) + 1) rfl rfl (wI64 (by omega))) ?_
                  refine WpL_val rfl rfl (by decide) (r_move (v := (.int .i64 (((x : Nat) : Int) + 1))) rfl) ?_
                  refine WpL_nil ?_
                  refine thn_normal ?_
                  exact ⟨c - (x + 1), by omega, x + 1, work, wd, ps, nds, sa, sc2, sn, Fits.out ⟨rfl, rfl, rfl, rfl, rfl, rfl, rfl, rfl, rfl, rfl, trivial⟩, E, Bp, Bq, Mm, Bn, (by omega), hB.old hpi rfl hmm, hR.step (nextB_old hpi hvi (by omega) htgp rfl hmm), hnd, hno, hsl, hpi, hvi, hsn, hS, hap, hsz, rfl⟩
            · have khlt2 := hlt2
              replace hlt2 := of_decide_eq_false hlt2
              have hxc : x = c := by omega
              rw [hxc] at hB hR
              have hil := lt_of_get hpi
              have htgp := hno i p (by omega) hpi
              refine Wp_exit ?_
              refine thn_exit ?_
              refine thn_exit ?_
              refine inB_here ?_
              refine inB_normal ?_
              refine thn_normal ?_
              refine Wp_region ?_
              refine WpL_val rfl rfl (by decide) (r_move (v := (.int .i64 ((i : Nat) : Int))) rfl) ?_
              refine WpL_val rfl rfl (by decide) (r_add (k := .i64) (a := ((i : Nat) : Int)) (b := 1) (c := ((i : Nat) : Int) + 1) rfl rfl (wI64 (by omega))) ?_
              refine WpL_val rfl rfl (by decide) (r_assign (v := (.int .i64 (((i : Nat) : Int) + 1))) rfl) ?_
              refine WpL_nil ?_
              refine thn_normal ?_
              exact ⟨mx - (i + 1), by omega, i + 1, work, wd, ps, nds, sa, sc2, sn, Fits.out ⟨rfl, rfl, rfl, rfl, rfl, rfl, rfl, trivial⟩, E, Bp, Bq, Mm, hB.row, hR.step (nextB_row hpi hvi htgp), hnd, hno, hsl, hsn, (by omega), hS, (fun b hb => (hap b hb).1), hsz, rfl⟩
    · have khlt := hlt
      replace hlt := of_decide_eq_false hlt
      refine Wp_exit ?_
      refine thn_exit ?_
      refine thn_exit ?_
      refine inB_here ?_
      refine thn_normal ?_
      refine Wp_seq_region ?_
      refine WpL_val rfl rfl (by decide) (r_assign (v := (.bool true)) rfl) ?_
      refine WpL_val rfl rfl (by decide) (r_assign (v := (.slice none 0 0)) rfl) ?_
      refine WpL_val rfl rfl (by decide) (r_assign (v := (.int .i64 0)) rfl) ?_
      refine WpL_nil ?_
      refine Wp_ret ?_
      refine fin_tmp3 Try.results11 (v := (.bool true)) (v' := (.slice none 0 0)) (v'' := (.int .i64 0)) rfl rfl rfl ?_
      exact ⟨⟨true, [], none, 0, rfl, SlAt.nil _ _ _ _, ⟨fun _ => ⟨rfl, hB.same_yes hno (by omega)⟩, (fun h => by cases h), ⟨_, hR, nextB_end (List.getElem?_eq_none (by show work.length ≤ i; omega)), (fun h => by cases h), by symm; rw [decide_eq_true_iff]; show work.length ≤ i; omega⟩⟩, Nat.zero_le _⟩, E⟩
end Go.Proofs
namespace Go.Proofs
open Go Go.Eng Go.Sort
set_option maxRecDepth 100000
def evnF : Fct := fun v w => ∃ aa ac na nc, v = .agg #[.int .i64 0, .slice aa 2 ac, .slice na 2 nc] ∧ DfaAt w evnD [.int .i64 0, .slice aa 2 ac, .slice na 2 nc]
theorem evnF_ext : ∀ v w w', Ext w w' → evnF v w → evnF v w' := by
  rintro v w w' e ⟨aa, ac, na, nc, h1, h2⟩
  exact ⟨aa, ac, na, nc, h1, h2.ext e⟩
end Go.Proofs
namespace Go.Proofs
open Go Go.Eng Go.Sort
set_option maxRecDepth 100000
--BEGIN
def stR (d : Dfa) : Bool := decide ((0 : Int) ≤ d.start) && decide (d.start < ((d.next.length : Nat) : Int))
def accR (x : Int) : Bool := decide ((-1 : Int) ≤ x)
def rngR (n : Nat) (x : Int) : Bool := decide ((-1 : Int) ≤ x) && decide (x < ((n : Nat) : Int))
def okR (d : Dfa) (k : Nat) : Bool := stR d && ((d.accept.take k).all accR && (d.next.take k).all (fun r => r.all (rngR d.next.length)))
theorem okR_succ {d : Dfa} {k : Nat} {y : Int} {row : List Int} (hy : d.accept[k]? = some y) (hr : d.next[k]? = some row) : okR d (k + 1) = ((okR d k && accR y) && row.all (rngR d.next.length)) := by
  unfold okR
  rw [List.take_add_one, List.take_add_one, hy, hr, List.all_append, List.all_append]
  simp only [Option.toList_some, List.all_cons, List.all_nil, Bool.and_true]
  cases stR d <;> cases (List.take k d.accept).all accR <;> cases (List.take k d.next).all (fun r => r.all (rngR d.next.length)) <;> cases accR y <;> simp
theorem okR_bad {d : Dfa} (hl : d.accept.length = d.next.length) (ha : d.accept ≠ []) (hr : ∀ row ∈ d.next, row ≠ []) : okR d d.next.length = !(bad0 d || d.next.any (badRow d.next.length)) := by
  have e1 : d.accept.take d.next.length = d.accept := by rw [← hl, List.take_length]
  rw [Bool.eq_iff_iff, Bool.not_eq_true', Bool.or_eq_false_iff]
  unfold okR bad0 stR
  rw [List.take_length, e1]
  simp only [Bool.and_eq_true, Bool.or_eq_false_iff, decide_eq_true_eq, decide_eq_false_iff_not, List.all_eq_true, List.any_eq_false, Int.not_lt, Int.not_le]
  have h1 := minL_lt ha (z := -1)
  constructor
  · rintro ⟨⟨h2, h3⟩, h4, h5⟩
    refine ⟨⟨⟨h2, h3⟩, h1.2 fun x hx => by simpa [accR] using h4 x hx⟩, fun row hrow => ?_⟩
    have h6 := h5 row hrow
    simp only [rngR, Bool.and_eq_true, decide_eq_true_eq] at h6
    have h7 := (minL_lt (hr row hrow) (z := -1)).2 fun x hx => (h6 x hx).1
    have h8 := (maxL_lt (hr row hrow) (z := ((d.next.length : Nat) : Int))).2 fun x hx => (h6 x hx).2
    unfold badRow
    simp only [Bool.or_eq_true, decide_eq_true_eq]
    omega
  · rintro ⟨⟨⟨h2, h3⟩, h4⟩, h5⟩
    refine ⟨⟨h2, h3⟩, fun x hx => by simpa [accR] using h1.1 h4 x hx, fun row hrow x hx => ?_⟩
    have h6 := h5 row hrow
    unfold badRow at h6
    simp only [Bool.or_eq_true, decide_eq_true_eq, not_or, Int.not_lt, Int.not_le] at h6
    have h7 := (minL_lt (hr row hrow) (z := -1)).1 h6.1 x hx
    have h8 := (maxL_lt (hr row hrow) (z := ((d.next.length : Nat) : Int))).1 h6.2 x hx
    simp only [rngR, Bool.and_eq_true, decide_eq_true_eq]
    exact ⟨h7, h8⟩
--END
set_option maxHeartbeats 4000000 in
theorem rcheckd_c (w0 : World) (d : Dfa) (vs : List Value) (hd : DfaAt w0 d vs) : Ret Try.prog 13 #[.agg vs.toArray] w0 fun r w => r = .int .i64 (checkD d) ∧ Ext w0 w := by
  obtain ⟨aa, ac, na, nc, rfl, ha, hn⟩ := hd
  have hal : d.accept.length ≤ 9223372036854775807 := by simpa using SlAt.le ha
  obtain ⟨_, _, hv, hcap, hle⟩ := hn.form
  simp only [Value.slice.injEq] at hv
  obtain ⟨rfl, _, rfl⟩ := hv
  refine Ret_of Try.func13 rfl Try.ntmps13 (Nat.le_of_ble_eq_true rfl) ?_
  have E : Chg none1 w0 w0 := Chg.refl _ _
  refine Wp_seq_region ?_
  refine s_box (v := (.agg #[(.int .i64 d.start), (.slice aa d.accept.length ac), (.slice na d.next.length nc)])) (c := #[(.int .i64 d.start), (.slice aa d.accept.length ac), (.slice na d.next.length nc)]) (by decide) rfl rfl ?_
  intro br wr Nr
  have Fr := Nr.ge E
  replace E := E.ext Nr.ext
  have Br := Nr.blk
  refine WpL_val rfl rfl (by decide) (r_assign (v := (.int .i64 0)) rfl) ?_
  refine WpL_nil ?_
  refine Wp_seq_region ?_
  refine WpL_val rfl rfl (by decide) (r_fieldAddr (b := br) (o := 0) (o' := 2) rfl Try.underlying25 rfl siz23 rfl) ?_
  refine WpL_val rfl rfl (by decide) (r_load (v := (.slice na d.next.length nc)) rfl flat23 (Br.cell rfl)) ?_
  refine WpL_val rfl rfl (by decide) (r_lenSlice (ad := na) (n := d.next.length) (cap := nc) Try.underlying23 rfl) ?_
  refine WpL_val rfl rfl (by decide) (r_assign (v := (.int .i64 ((d.next.length : Nat) : Int))) rfl) ?_
  refine WpL_nil ?_
  refine Wp_seq ?_
  refine Wp_seq_region ?_
  refine WpL_val rfl rfl (by decide) (r_move (v := (.int .i64 ((d.next.length : Nat) : Int))) rfl) ?_
  refine WpL_val rfl rfl (by decide) (r_gtr (k := .i64) (a := ((d.next.length : Nat) : Int)) (b := 200) rfl rfl) ?_
  refine WpL_nil ?_
  refine Wp_cond (b := decide ((200 : Int) < ((d.next.length : Nat) : Int))) rfl (fun h1 => ?_) (fun h1 => ?_)
  · have kh1 := h1
    replace h1 := of_decide_eq_true h1
    refine Wp_seq_region ?_
    refine WpL_val rfl rfl (by decide) (r_assign (v := (.int .i64 2)) rfl) ?_
    refine WpL_nil ?_
    refine Wp_ret ?_
    refine thn_ret ?_
    refine fin_tmp Try.results13 (v := (.int .i64 2)) rfl ?_
    exact ⟨int_eq (by unfold checkD; rw [if_pos (by omega)]), E⟩
  · have kh1 := h1
    replace h1 := of_decide_eq_false h1
    refine Wp_skip ?_
    refine thn_normal ?_
    refine Wp_seq ?_
    refine Wp_seq_region ?_
    refine WpL_val rfl rfl (by decide) (r_move (v := (.int .i64 ((d.next.length : Nat) : Int))) rfl) ?_
    obtain ⟨e2, he2⟩ : ∃ e, (decide ((((d.next.length : Nat) : Int) : Int) = 0)) = e := ⟨_, rfl⟩
    refine WpL_val rfl rfl (by decide) ((r_eql (k := .i64) (a := ((d.next.length : Nat) : Int)) (b := 0) rfl rfl).trans (by rw [he2]; try rfl)) ?_
    refine WpL_val rfl rfl (by decide) (r_move (v := (.bool e2)) rfl) ?_
    refine WpL_guard_any (oj := _) (gv := (.bool e2)) (u := (bif e2 then undef else (.pointer (some ⟨br, 1, none⟩)))) rfl rfl (by decide) (by decide) rfl (by cases e2 <;> first | exact Or.inr ⟨Or.inl rfl, rfl⟩ | exact Or.inr ⟨Or.inr rfl, rfl⟩ | exact Or.inl ⟨rfl, r_fieldAddr (b := br) (o := 0) (o' := 1) rfl Try.underlying25 rfl siz22 rfl⟩) ?_
    refine WpL_guard_any (oj := _) (gv := (.bool e2)) (u := (bif e2 then undef else (.slice aa d.accept.length ac))) rfl rfl (by decide) (by decide) rfl (by cases e2 <;> first | exact Or.inr ⟨Or.inl rfl, rfl⟩ | exact Or.inr ⟨Or.inr rfl, rfl⟩ | exact Or.inl ⟨rfl, r_load (v := (.slice aa d.accept.length ac)) rfl flat22 (Br.cell rfl)⟩) ?_
    refine WpL_guard_any (oj := _) (gv := (.bool e2)) (u := (bif e2 then undef else (.int .i64 ((d.accept.length : Nat) : Int)))) rfl rfl (by decide) (by decide) rfl (by cases e2 <;> first | exact Or.inr ⟨Or.inl rfl, rfl⟩ | exact Or.inr ⟨Or.inr rfl, rfl⟩ | exact Or.inl ⟨rfl, r_lenSlice (ad := aa) (n := d.accept.length) (cap := ac) Try.underlying22 rfl⟩) ?_
    refine WpL_guard_any (oj := _) (gv := (.bool e2)) (u := (bif e2 then undef else (.int .i64 ((d.next.length : Nat) : Int)))) rfl rfl (by decide) (by decide) rfl (by cases e2 <;> first | exact Or.inr ⟨Or.inl rfl, rfl⟩ | exact Or.inr ⟨Or.inr rfl, rfl⟩ | exact Or.inl ⟨rfl, r_move (v := (.int .i64 ((d.next.length : Nat) : Int))) rfl⟩) ?_
    obtain ⟨e3, he3⟩ : ∃ e, (decide ((((d.accept.length : Nat) : Int) : Int) ≠ ((d.next.length : Nat) : Int))) = e := ⟨_, rfl⟩
    refine WpL_guard_any (oj := _) (gv := (.bool e2)) (u := (bif e2 then undef else (.bool e3))) rfl rfl (by decide) (by decide) rfl (by cases e2 <;> first | exact Or.inr ⟨Or.inl rfl, rfl⟩ | exact Or.inr ⟨Or.inr rfl, rfl⟩ | exact Or.inl ⟨rfl, (r_neq (k := .i64) (a := ((d.accept.length : Nat) : Int)) (b := ((d.next.length : Nat) : Int)) rfl rfl).trans (by rw [he3]; try rfl)⟩) ?_
    obtain ⟨e4, he4⟩ : ∃ e, (e2 || e3) = e := ⟨_, rfl⟩
    refine WpL_val rfl rfl (by decide) (r_pick (b := e2) (v := .bool e4) rfl (by rw [← he4]; cases e2 <;> rfl)) ?_
    refine WpL_nil ?_
    subst he4
    subst he3
    subst he2
    refine Wp_cond (b := ((decide ((((d.next.length : Nat) : Int) : Int) = 0)) || (decide ((((d.accept.length : Nat) : Int) : Int) ≠ ((d.next.length : Nat) : Int))))) rfl (fun h2 => ?_) (fun h2 => ?_)
    · have kh2 := h2
      refine Wp_seq_region ?_
      refine WpL_val rfl rfl (by decide) (r_assign (v := (.int .i64 3)) rfl) ?_
      refine WpL_nil ?_
      refine Wp_ret ?_
      refine thn_ret ?_
      refine fin_tmp Try.results13 (v := (.int .i64 3)) rfl ?_
      exact ⟨int_eq (by unfold checkD; rw [if_neg (by omega), if_pos (by simp only [Bool.or_eq_true, decide_eq_true_eq] at h2; omega)]), E⟩
    · have kh2 := h2
      simp only [Bool.or_eq_false_iff, decide_eq_false_iff_not] at h2
      have h20 : ¬ (d.next.length = 0 ∨ d.accept.length ≠ d.next.length) := by omega
      obtain ⟨row0, hrow0⟩ := get_of_lt (l := d.next) (i := 0) (by omega)
      have hc0 : colsD d = row0.length := by unfold colsD; cases hq : d.next with | nil => rw [hq] at hrow0; simp at hrow0 | cons y l => rw [hq] at hrow0; simp at hrow0; simp [hrow0]
      obtain ⟨nb, no, hna, hncl⟩ := intss_cells hn (by omega)
      subst hna
      obtain ⟨ab, ao, haa, hax⟩ := ints_cells ha (by omega)
      subst haa
      obtain ⟨ra0, rc0, hcell0, hints0⟩ := hncl 0 row0 hrow0
      refine Wp_skip ?_
      refine thn_normal ?_
      refine Wp_seq ?_
      refine Wp_seq_region ?_
      refine WpL_val rfl rfl (by decide) (r_fieldAddr (b := br) (o := 0) (o' := 2) rfl Try.underlying25 rfl siz23 rfl) ?_
      refine WpL_val rfl rfl (by decide) (r_load (v := (.slice (some ⟨nb, no, none⟩) d.next.length nc)) rfl flat23 (Br.cell rfl)) ?_
      refine WpL_val rfl rfl (by decide) (r_indexSlice (b := nb) (o := no) (len := d.next.length) (cap := nc) (i := 0) (o' := no + 0) rfl rfl rfl Try.underlying23 siz22 (by omega) (by omega)) ?_
      refine WpL_val rfl rfl (by decide) (r_load (v := (.slice ra0 row0.length rc0)) rfl flat22 (E.cell (fun f => f) hcell0)) ?_
      refine WpL_val rfl rfl (by decide) (r_lenSlice (ad := ra0) (n := row0.length) (cap := rc0) Try.underlying22 rfl) ?_
      refine WpL_val rfl rfl (by decide) (r_gtr (k := .i64) (a := ((row0.length : Nat) : Int)) (b := 16) rfl rfl) ?_
      refine WpL_nil ?_
      refine Wp_cond (b := decide ((16 : Int) < ((row0.length : Nat) : Int))) rfl (fun h3 => ?_) (fun h3 => ?_)
      · have kh3 := h3
        replace h3 := of_decide_eq_true h3
        refine Wp_seq_region ?_
        refine WpL_val rfl rfl (by decide) (r_assign (v := (.int .i64 2)) rfl) ?_
        refine WpL_nil ?_
        refine Wp_ret ?_
        refine thn_ret ?_
        refine fin_tmp Try.results13 (v := (.int .i64 2)) rfl ?_
        exact ⟨int_eq (by unfold checkD; rw [if_neg (by omega), if_neg h20, if_pos (by omega)]), E⟩
      · have kh3 := h3
        replace h3 := of_decide_eq_false h3
        refine Wp_skip ?_
        refine thn_normal ?_
        refine Wp_seq ?_
        refine Wp_seq_region ?_
        refine WpL_val rfl rfl (by decide) (r_fieldAddr (b := br) (o := 0) (o' := 2) rfl Try.underlying25 rfl siz23 rfl) ?_
        refine WpL_val rfl rfl (by decide) (r_load (v := (.slice (some ⟨nb, no, none⟩) d.next.length nc)) rfl flat23 (Br.cell rfl)) ?_
        refine WpL_val rfl rfl (by decide) (r_lenSlice (ad := some ⟨nb, no, none⟩) (n := d.next.length) (cap := nc) Try.underlying23 rfl) ?_
        refine WpL_val rfl rfl (by decide) (r_move (v := (.int .i64 0)) rfl) ?_
        refine WpL_nil ?_
        refine Wp_block ?_
        refine Wp_loop (fun nn_ σ W7 => ∃ (k : Nat), (∃ jj_, σ = upds jj_ [(1, (.pointer (some ⟨br, 0, none⟩))), (3, (.int .i64 ((d.next.length : Nat) : Int))), (32, (.slice (some ⟨nb, no, none⟩) d.next.length nc)), (33, (.int .i64 ((d.next.length : Nat) : Int))), (34, (.int .i64 ((k : Nat) : Int)))]) ∧ Chg none1 w0 W7 ∧ Blk W7 br #[(.int .i64 d.start), (.slice (some ⟨ab, ao, none⟩) d.accept.length ac), (.slice (some ⟨nb, no, none⟩) d.next.length nc)] 25 ∧ (k ≤ d.next.length) ∧ ((d.next.take k).any (formRow (colsD d)) = false) ∧ nn_ = d.next.length - k) (n := d.next.length - 0) ?_ ?_
        · exact ⟨0, Fits.out ⟨rfl, rfl, rfl, rfl, rfl, trivial⟩, E, Br, Nat.zero_le _, rfl, rfl⟩
        · clear E Br
          rintro _ _ W7 ⟨k, ⟨j7, rfl⟩, E, Br, hk, hno, rfl⟩
          refine Wp_seq_region ?_
          refine WpL_val rfl rfl (by decide) (r_lss (k := .i64) (a := ((k : Nat) : Int)) (b := ((d.next.length : Nat) : Int)) rfl rfl) ?_
          refine WpL_nil ?_
          refine Wp_seq ?_
          refine Wp_cond (b := decide ((((k : Nat) : Int) : Int) < ((d.next.length : Nat) : Int))) rfl (fun hlt => ?_) (fun hlt => ?_)
          · have khlt := hlt
            replace hlt := of_decide_eq_true hlt
            obtain ⟨row, hrow⟩ := get_of_lt (l := d.next) (i := k) (by omega)
            obtain ⟨ra, rc, hcell, hints⟩ := hncl k row hrow
            have hrl : row.length ≤ 9223372036854775807 := by simpa using SlAt.le hints
            refine Wp_skip ?_
            refine thn_normal ?_
            refine Wp_seq ?_
            refine Wp_block ?_
            refine Wp_seq_region ?_
            refine WpL_val rfl rfl (by decide) (r_indexSlice (b := nb) (o := no) (len := d.next.length) (cap := nc) (i := k) (o' := no + k) rfl rfl rfl Try.underlying23 siz22 (by omega) (by omega)) ?_
            refine WpL_val rfl rfl (by decide) (r_load (v := (.slice ra row.length rc)) rfl flat22 (E.cell (fun f => f) hcell)) ?_
            refine WpL_val rfl rfl (by decide) (r_assign (v := (.slice ra row.length rc)) rfl) ?_
            refine WpL_nil ?_
            refine Wp_seq_region ?_
            refine WpL_val rfl rfl (by decide) (r_move (v := (.slice ra row.length rc)) rfl) ?_
            refine WpL_val rfl rfl (by decide) (r_lenSlice (ad := ra) (n := row.length) (cap := rc) Try.underlying22 rfl) ?_
            refine WpL_val rfl rfl (by decide) (r_fieldAddr (b := br) (o := 0) (o' := 2) rfl Try.underlying25 rfl siz23 rfl) ?_
            refine WpL_val rfl rfl (by decide) (r_load (v := (.slice (some ⟨nb, no, none⟩) d.next.length nc)) rfl flat23 (Br.cell rfl)) ?_
            refine WpL_val rfl rfl (by decide) (r_indexSlice (b := nb) (o := no) (len := d.next.length) (cap := nc) (i := 0) (o' := no + 0) rfl rfl rfl Try.underlying23 siz22 (by omega) (by omega)) ?_
            refine WpL_val rfl rfl (by decide) (r_load (v := (.slice ra0 row0.length rc0)) rfl flat22 (E.cell (fun f => f) hcell0)) ?_
            refine WpL_val rfl rfl (by decide) (r_lenSlice (ad := ra0) (n := row0.length) (cap := rc0) Try.underlying22 rfl) ?_
            obtain ⟨e9, he9⟩ : ∃ e, (decide ((((row.length : Nat) : Int) : Int) ≠ ((row0.length : Nat) : Int))) = e := ⟨_, rfl⟩
            refine WpL_val rfl rfl (by decide) ((r_neq (k := .i64) (a := ((row.length : Nat) : Int)) (b := ((row0.length : Nat) : Int)) rfl rfl).trans (by rw [he9]; try rfl)) ?_
            refine WpL_val rfl rfl (by decide) (r_move (v := (.bool e9)) rfl) ?_
            refine WpL_guard_any (oj := _) (gv := (.bool e9)) (u := (bif e9 then undef else (.slice ra row.length rc))) rfl rfl (by decide) (by decide) rfl (by cases e9 <;> first | exact Or.inr ⟨Or.inl rfl, rfl⟩ | exact Or.inr ⟨Or.inr rfl, rfl⟩ | exact Or.inl ⟨rfl, r_move (v := (.slice ra row.length rc)) rfl⟩) ?_
            refine WpL_guard_any (oj := _) (gv := (.bool e9)) (u := (bif e9 then undef else (.int .i64 ((row.length : Nat) : Int)))) rfl rfl (by decide) (by decide) rfl (by cases e9 <;> first | exact Or.inr ⟨Or.inl rfl, rfl⟩ | exact Or.inr ⟨Or.inr rfl, rfl⟩ | exact Or.inl ⟨rfl, r_lenSlice (ad := ra) (n := row.length) (cap := rc) Try.underlying22 rfl⟩) ?_
            obtain ⟨e10, he10⟩ : ∃ e, (decide ((((row.length : Nat) : Int) : Int) = 0)) = e := ⟨_, rfl⟩
            refine WpL_guard_any (oj := _) (gv := (.bool e9)) (u := (bif e9 then undef else (.bool e10))) rfl rfl (by decide) (by decide) rfl (by cases e9 <;> first | exact Or.inr ⟨Or.inl rfl, rfl⟩ | exact Or.inr ⟨Or.inr rfl, rfl⟩ | exact Or.inl ⟨rfl, (r_eql (k := .i64) (a := ((row.length : Nat) : Int)) (b := 0) rfl rfl).trans (by rw [he10]; try rfl)⟩) ?_
            obtain ⟨e11, he11⟩ : ∃ e, (e9 || e10) = e := ⟨_, rfl⟩
            refine WpL_val rfl rfl (by decide) (r_pick (b := e9) (v := .bool e11) rfl (by rw [← he11]; cases e9 <;> rfl)) ?_
            refine WpL_nil ?_
            subst he11
            subst he10
            subst he9
            refine Wp_cond (b := ((decide ((((row.length : Nat) : Int) : Int) ≠ ((row0.length : Nat) : Int))) || (decide ((((row.length : Nat) : Int) : Int) = 0)))) rfl (fun hf => ?_) (fun hf => ?_)
            · have khf := hf
              refine Wp_seq_region ?_
              refine WpL_val rfl rfl (by decide) (r_assign (v := (.int .i64 3)) rfl) ?_
              refine WpL_nil ?_
              refine Wp_ret ?_
              refine inB_ret ?_
              refine thn_ret ?_
              refine thn_ret ?_
              refine inB_ret ?_
              refine thn_ret ?_
              refine fin_tmp Try.results13 (v := (.int .i64 3)) rfl ?_
              refine ⟨int_eq ?_, E⟩
              unfold checkD
              rw [if_neg (by omega), if_neg h20, if_neg (by omega), if_pos]
              exact List.any_eq_true.2 ⟨row, List.mem_of_getElem? hrow, by unfold formRow; rw [hc0, Bool.or_comm]; simpa using hf⟩
            · have khf := hf
              refine Wp_skip ?_
              refine inB_normal ?_
              refine thn_normal ?_
              refine Wp_region ?_
              refine WpL_val rfl rfl (by decide) (r_add (k := .i64) (a := ((k : Nat) : Int)) (b := 1) (c := ((k : Nat) : Int) + 1) rfl rfl (wI64 (by omega))) ?_
              refine WpL_val rfl rfl (by decide) (r_move (v := (.int .i64 (((k : Nat) : Int) + 1))) rfl) ?_
              refine WpL_nil ?_
              refine thn_normal ?_
              exact ⟨d.next.length - (k + 1), by omega, k + 1, Fits.out ⟨rfl, rfl, rfl, rfl, rfl, trivial⟩, E, Br, (by omega), (by rw [List.take_add_one, hrow, List.any_append, hno]; simp only [Option.toList_some, List.any_cons, List.any_nil, Bool.or_false, Bool.false_or]; unfold formRow; rw [hc0, Bool.or_comm]; simpa using hf), rfl⟩
          · have khlt := hlt
            replace hlt := of_decide_eq_false hlt
            have hkk : k = d.next.length := by omega
            rw [hkk, List.take_length] at hno
            have hrows : ∀ row ∈ d.next, row ≠ [] := fun row hr he => by have := (List.any_eq_false.1 hno) row hr; simp [formRow, he] at this
            have hane : d.accept ≠ [] := fun he => by rw [he] at h20; simp at h20; omega
            have hfin := okR_bad (d := d) (by omega) hane hrows
            refine Wp_exit ?_
            refine thn_exit ?_
            refine thn_exit ?_
            refine inB_here ?_
            refine thn_normal ?_
            refine Wp_seq_region ?_
            refine WpL_val rfl rfl (by decide) (r_fieldAddr (b := br) (o := 0) (o' := 0) rfl Try.underlying25 rfl siz3 rfl) ?_
            refine WpL_val rfl rfl (by decide) (r_load (v := (.int .i64 d.start)) rfl flat3 (Br.cell rfl)) ?_
            obtain ⟨e13, he13⟩ : ∃ e, (decide ((0 : Int) ≤ d.start)) = e := ⟨_, rfl⟩
            refine WpL_val rfl rfl (by decide) ((r_geq (k := .i64) (a := d.start) (b := 0) rfl rfl).trans (by rw [he13]; try rfl)) ?_
            refine WpL_val rfl rfl (by decide) (r_move (v := (.bool e13)) rfl) ?_
            refine WpL_guard_any (oj := _) (gv := (.bool e13)) (u := (bif e13 then (.pointer (some ⟨br, 0, none⟩)) else undef)) rfl rfl (by decide) (by decide) rfl (by cases e13 <;> first | exact Or.inr ⟨Or.inl rfl, rfl⟩ | exact Or.inr ⟨Or.inr rfl, rfl⟩ | exact Or.inl ⟨rfl, r_fieldAddr (b := br) (o := 0) (o' := 0) rfl Try.underlying25 rfl siz3 rfl⟩) ?_
            refine WpL_guard_any (oj := _) (gv := (.bool e13)) (u := (bif e13 then (.int .i64 d.start) else undef)) rfl rfl (by decide) (by decide) rfl (by cases e13 <;> first | exact Or.inr ⟨Or.inl rfl, rfl⟩ | exact Or.inr ⟨Or.inr rfl, rfl⟩ | exact Or.inl ⟨rfl, r_load (v := (.int .i64 d.start)) rfl flat3 (Br.cell rfl)⟩) ?_
            refine WpL_guard_any (oj := _) (gv := (.bool e13)) (u := (bif e13 then (.int .i64 ((d.next.length : Nat) : Int)) else undef)) rfl rfl (by decide) (by decide) rfl (by cases e13 <;> first | exact Or.inr ⟨Or.inl rfl, rfl⟩ | exact Or.inr ⟨Or.inr rfl, rfl⟩ | exact Or.inl ⟨rfl, r_move (v := (.int .i64 ((d.next.length : Nat) : Int))) rfl⟩) ?_
            obtain ⟨e14, he14⟩ : ∃ e, (decide ((d.start : Int) < ((d.next.length : Nat) : Int))) = e := ⟨_, rfl⟩
            refine WpL_guard_any (oj := _) (gv := (.bool e13)) (u := (bif e13 then (.bool e14) else undef)) rfl rfl (by decide) (by decide) rfl (by cases e13 <;> first | exact Or.inr ⟨Or.inl rfl, rfl⟩ | exact Or.inr ⟨Or.inr rfl, rfl⟩ | exact Or.inl ⟨rfl, (r_lss (k := .i64) (a := d.start) (b := ((d.next.length : Nat) : Int)) rfl rfl).trans (by rw [he14]; try rfl)⟩) ?_
            obtain ⟨e15, he15⟩ : ∃ e, (e13 && e14) = e := ⟨_, rfl⟩
            refine WpL_val rfl rfl (by decide) (r_pick (b := e13) (v := .bool e15) rfl (by rw [← he15]; cases e13 <;> rfl)) ?_
            refine WpL_val rfl rfl (by decide) (r_assign (v := (.bool e15)) rfl) ?_
            refine WpL_nil ?_
            subst he15
            subst he14
            subst he13
            refine Wp_seq ?_
            refine Wp_seq_region ?_
            refine WpL_val rfl rfl (by decide) (r_fieldAddr (b := br) (o := 0) (o' := 2) rfl Try.underlying25 rfl siz23 rfl) ?_
            refine WpL_val rfl rfl (by decide) (r_load (v := (.slice (some ⟨nb, no, none⟩) d.next.length nc)) rfl flat23 (Br.cell rfl)) ?_
            refine WpL_val rfl rfl (by decide) (r_lenSlice (ad := some ⟨nb, no, none⟩) (n := d.next.length) (cap := nc) Try.underlying23 rfl) ?_
            refine WpL_val rfl rfl (by decide) (r_move (v := (.int .i64 0)) rfl) ?_
            refine WpL_nil ?_
            refine Wp_block ?_
            refine Wp_loop (fun nn_ σ W16 => ∃ (q : Nat) (ok1 : Bool), (∃ jj_, σ = upds jj_ [(1, (.pointer (some ⟨br, 0, none⟩))), (3, (.int .i64 ((d.next.length : Nat) : Int))), (62, (.slice (some ⟨nb, no, none⟩) d.next.length nc)), (63, (.int .i64 ((d.next.length : Nat) : Int))), (64, (.int .i64 ((q : Nat) : Int))), (6, (.bool ok1))]) ∧ Chg none1 w0 W16 ∧ Blk W16 br #[(.int .i64 d.start), (.slice (some ⟨ab, ao, none⟩) d.accept.length ac), (.slice (some ⟨nb, no, none⟩) d.next.length nc)] 25 ∧ (q ≤ d.next.length) ∧ (ok1 = okR d q) ∧ nn_ = d.next.length - q) (n := d.next.length - 0) ?_ ?_
            · exact ⟨0, (decide ((0 : Int) ≤ d.start) && decide (d.start < ((d.next.length : Nat) : Int))), Fits.out ⟨rfl, rfl, rfl, rfl, rfl, rfl, trivial⟩, E, Br, Nat.zero_le _, (by unfold okR stR; simp), rfl⟩
            · clear E Br
              rintro _ _ W16 ⟨q, ok1, ⟨j16, rfl⟩, E, Br, hq, hok1, rfl⟩
              refine Wp_seq_region ?_
              refine WpL_val rfl rfl (by decide) (r_lss (k := .i64) (a := ((q : Nat) : Int)) (b := ((d.next.length : Nat) : Int)) rfl rfl) ?_
              refine WpL_nil ?_
              refine Wp_seq ?_
              refine Wp_cond (b := decide ((((q : Nat) : Int) : Int) < ((d.next.length : Nat) : Int))) rfl (fun hltq => ?_) (fun hltq => ?_)
              · have khltq := hltq
                replace hltq := of_decide_eq_true hltq
                obtain ⟨row, hrow⟩ := get_of_lt (l := d.next) (i := q) (by omega)
                obtain ⟨y, hy⟩ := get_of_lt (l := d.accept) (i := q) (by omega)
                obtain ⟨ra, rc, hcell, hints⟩ := hncl q row hrow
                have hrl : row.length ≤ 9223372036854775807 := by simpa using SlAt.le hints
                have hrpos : 0 < row.length := List.length_pos_iff.2 (hrows row (List.mem_of_getElem? hrow))
                obtain ⟨rb, ro, hra, hrx⟩ := ints_cells hints hrpos
                subst hra
                refine Wp_skip ?_
                refine thn_normal ?_
                refine Wp_seq ?_
                refine Wp_block ?_
                refine Wp_seq_region ?_
                refine WpL_val rfl rfl (by decide) (r_move (v := (.int .i64 ((q : Nat) : Int))) rfl) ?_
                refine WpL_val rfl rfl (by decide) (r_indexSlice (b := nb) (o := no) (len := d.next.length) (cap := nc) (i := q) (o' := no + q) rfl rfl rfl Try.underlying23 siz22 (by omega) (by omega)) ?_
                refine WpL_val rfl rfl (by decide) (r_load (v := (.slice (some ⟨rb, ro, none⟩) row.length rc)) rfl flat22 (E.cell (fun f => f) hcell)) ?_
                refine WpL_val rfl rfl (by decide) (r_assign (v := (.int .i64 ((q : Nat) : Int))) rfl) ?_
                refine WpL_val rfl rfl (by decide) (r_assign (v := (.slice (some ⟨rb, ro, none⟩) row.length rc)) rfl) ?_
                refine WpL_nil ?_
                refine Wp_seq_region ?_
                refine WpL_val rfl rfl (by decide) (r_move (v := (.bool ok1)) rfl) ?_
                refine WpL_val rfl rfl (by decide) (r_move (v := (.bool ok1)) rfl) ?_
                refine WpL_guard_any (oj := _) (gv := (.bool ok1)) (u := (bif ok1 then (.pointer (some ⟨br, 1, none⟩)) else undef)) rfl rfl (by decide) (by decide) rfl (by cases ok1 <;> first | exact Or.inr ⟨Or.inl rfl, rfl⟩ | exact Or.inr ⟨Or.inr rfl, rfl⟩ | exact Or.inl ⟨rfl, r_fieldAddr (b := br) (o := 0) (o' := 1) rfl Try.underlying25 rfl siz22 rfl⟩) ?_
                refine WpL_guard_any (oj := _) (gv := (.bool ok1)) (u := (bif ok1 then (.slice (some ⟨ab, ao, none⟩) d.accept.length ac) else undef)) rfl rfl (by decide) (by decide) rfl (by cases ok1 <;> first | exact Or.inr ⟨Or.inl rfl, rfl⟩ | exact Or.inr ⟨Or.inr rfl, rfl⟩ | exact Or.inl ⟨rfl, r_load (v := (.slice (some ⟨ab, ao, none⟩) d.accept.length ac)) rfl flat22 (Br.cell rfl)⟩) ?_
                refine WpL_guard_any (oj := _) (gv := (.bool ok1)) (u := (bif ok1 then (.int .i64 ((q : Nat) : Int)) else undef)) rfl rfl (by decide) (by decide) rfl (by cases ok1 <;> first | exact Or.inr ⟨Or.inl rfl, rfl⟩ | exact Or.inr ⟨Or.inr rfl, rfl⟩ | exact Or.inl ⟨rfl, r_move (v := (.int .i64 ((q : Nat) : Int))) rfl⟩) ?_
                refine WpL_guard_any (oj := _) (gv := (.bool ok1)) (u := (bif ok1 then (.pointer (some ⟨ab, ao + q, none⟩)) else undef)) rfl rfl (by decide) (by decide) rfl (by cases ok1 <;> first | exact Or.inr ⟨Or.inl rfl, rfl⟩ | exact Or.inr ⟨Or.inr rfl, rfl⟩ | exact Or.inl ⟨rfl, r_indexSlice (b := ab) (o := ao) (len := d.accept.length) (cap := ac) (i := q) (o' := ao + q) rfl rfl rfl Try.underlying22 siz3 (by omega) (by omega)⟩) ?_
                refine WpL_guard_any (oj := _) (gv := (.bool ok1)) (u := (bif ok1 then (.int .i64 y) else undef)) rfl rfl (by decide) (by decide) rfl (by cases ok1 <;> first | exact Or.inr ⟨Or.inl rfl, rfl⟩ | exact Or.inr ⟨Or.inr rfl, rfl⟩ | exact Or.inl ⟨rfl, r_load (v := (.int .i64 y)) rfl flat3 (E.cell (fun f => f) (hax q y hy))⟩) ?_
                obtain ⟨e18, he18⟩ : ∃ e, (decide (((-1) : Int) ≤ y)) = e := ⟨_, rfl⟩
                refine WpL_guard_any (oj := _) (gv := (.bool ok1)) (u := (bif ok1 then (.bool e18) else undef)) rfl rfl (by decide) (by decide) rfl (by cases ok1 <;> first | exact Or.inr ⟨Or.inl rfl, rfl⟩ | exact Or.inr ⟨Or.inr rfl, rfl⟩ | exact Or.inl ⟨rfl, (r_geq (k := .i64) (a := y) (b := (-1)) rfl rfl).trans (by rw [he18]; try rfl)⟩) ?_
                obtain ⟨e19, he19⟩ : ∃ e, (ok1 && e18) = e := ⟨_, rfl⟩
                refine WpL_val rfl rfl (by decide) (r_pick (b := ok1) (v := .bool e19) rfl (by rw [← he19]; cases ok1 <;> rfl)) ?_
                refine WpL_val rfl rfl (by decide) (r_assign (v := (.bool e19)) rfl) ?_
                refine WpL_nil ?_
                subst he19
                subst he18
                refine Wp_seq_region ?_
                refine WpL_val rfl rfl (by decide) (r_move (v := (.slice (some ⟨rb, ro, none⟩) row.length rc)) rfl) ?_
                refine WpL_val rfl rfl (by decide) (r_lenSlice (ad := some ⟨rb, ro, none⟩) (n := row.length) (cap := rc) Try.underlying22 rfl) ?_
                refine WpL_val rfl rfl (by decide) (r_move (v := (.int .i64 0)) rfl) ?_
                refine WpL_nil ?_
                refine Wp_block ?_
                refine Wp_loop (fun nn_ σ W20 => ∃ (j : Nat) (ok3 : Bool), (∃ jj_, σ = upds jj_ [(1, (.pointer (some ⟨br, 0, none⟩))), (3, (.int .i64 ((d.next.length : Nat) : Int))), (62, (.slice (some ⟨nb, no, none⟩) d.next.length nc)), (63, (.int .i64 ((d.next.length : Nat) : Int))), (64, (.int .i64 ((q : Nat) : Int))), (78, (.slice (some ⟨rb, ro, none⟩) row.length rc)), (79, (.int .i64 ((row.length : Nat) : Int))), (80, (.int .i64 ((j : Nat) : Int))), (6, (.bool ok3))]) ∧ Chg none1 w0 W20 ∧ Blk W20 br #[(.int .i64 d.start), (.slice (some ⟨ab, ao, none⟩) d.accept.length ac), (.slice (some ⟨nb, no, none⟩) d.next.length nc)] 25 ∧ (j ≤ row.length) ∧ (ok3 = ((okR d q && accR y) && (row.take j).all (rngR d.next.length))) ∧ nn_ = row.length - j) (n := row.length - 0) ?_ ?_
                · exact ⟨0, (ok1 && decide ((-1 : Int) ≤ y)), Fits.out ⟨rfl, rfl, rfl, rfl, rfl, rfl, rfl, rfl, rfl, trivial⟩, E, Br, Nat.zero_le _, (by rw [← hok1]; simp [accR]), rfl⟩
                · clear E Br
                  rintro _ _ W20 ⟨j, ok3, ⟨j20, rfl⟩, E, Br, hj, hok3, rfl⟩
                  refine Wp_seq_region ?_
                  refine WpL_val rfl rfl (by decide) (r_lss (k := .i64) (a := ((j : Nat) : Int)) (b := ((row.length : Nat) : Int)) rfl rfl) ?_
                  refine WpL_nil ?_
                  refine Wp_seq ?_
                  refine Wp_cond (b := decide ((((j : Nat) : Int) : Int) < ((row.length : Nat) : Int))) rfl (fun hltj => ?_) (fun hltj => ?_)
                  · have khltj := hltj
                    replace hltj := of_decide_eq_true hltj
                    obtain ⟨x, hx⟩ := get_of_lt (l := row) (i := j) (by omega)
                    have hsx : ((okR d q && accR y) && (row.take (j + 1)).all (rngR d.next.length)) = (ok3 && rngR d.next.length x) := by rw [List.take_add_one, hx, List.all_append, hok3]; simp [Bool.and_assoc]
                    refine Wp_skip ?_
                    refine thn_normal ?_
                    refine Wp_seq ?_
                    refine Wp_block ?_
                    refine Wp_seq_region ?_
                    refine WpL_val rfl rfl (by decide) (r_indexSlice (b := rb) (o := ro) (len := row.length) (cap := rc) (i := j) (o' := ro + j) rfl rfl rfl Try.underlying22 siz3 (by omega) (by omega)) ?_
                    refine WpL_val rfl rfl (by decide) (r_load (v := (.int .i64 x)) rfl flat3 (E.cell (fun f => f) (hrx j x hx))) ?_
                    refine WpL_val rfl rfl (by decide) (r_assign (v := (.int .i64 x)) rfl) ?_
                    refine WpL_nil ?_
                    refine Wp_region ?_
                    refine WpL_val rfl rfl (by decide) (r_move (v := (.bool ok3)) rfl) ?_
                    refine WpL_val rfl rfl (by decide) (r_move (v := (.bool ok3)) rfl) ?_
                    refine WpL_guard_any (oj := _) (gv := (.bool ok3)) (u := (bif ok3 then (.int .i64 x) else undef)) rfl rfl (by decide) (by decide) rfl (by cases ok3 <;> first | exact Or.inr ⟨Or.inl rfl, rfl⟩ | exact Or.inr ⟨Or.inr rfl, rfl⟩ | exact Or.inl ⟨rfl, r_move (v := (.int .i64 x)) rfl⟩) ?_
                    obtain ⟨e22, he22⟩ : ∃ e, (decide (((-1) : Int) ≤ x)) = e := ⟨_, rfl⟩
                    refine WpL_guard_any (oj := _) (gv := (.bool ok3)) (u := (bif ok3 then (.bool e22) else undef)) rfl rfl (by decide) (by decide) rfl (by cases ok3 <;> first | exact Or.inr ⟨Or.inl rfl, rfl⟩ | exact Or.inr ⟨Or.inr rfl, rfl⟩ | exact Or.inl ⟨rfl, (r_geq (k := .i64) (a := x) (b := (-1)) rfl rfl).trans (by rw [he22]; try rfl)⟩) ?_
                    obtain ⟨e23, he23⟩ : ∃ e, (ok3 && e22) = e := ⟨_, rfl⟩
                    refine WpL_val rfl rfl (by decide) (r_pick (b := ok3) (v := .bool e23) rfl (by rw [← he23]; cases ok3 <;> rfl)) ?_
                    refine WpL_val rfl rfl (by decide) (r_move (v := (.bool e23)) rfl) ?_
                    refine WpL_guard_any (oj := _) (gv := (.bool e23)) (u := (bif e23 then (.int .i64 x) else undef)) rfl rfl (by decide) (by decide) rfl (by cases e23 <;> first | exact Or.inr ⟨Or.inl rfl, rfl⟩ | exact Or.inr ⟨Or.inr rfl, rfl⟩ | exact Or.inl ⟨rfl, r_move (v := (.int .i64 x)) rfl⟩) ?_
                    refine WpL_guard_any (oj := _) (gv := (.bool e23)) (u := (bif e23 then (.int .i64 ((d.next.length : Nat) : Int)) else undef)) rfl rfl (by decide) (by decide) rfl (by cases e23 <;> first | exact Or.inr ⟨Or.inl rfl, rfl⟩ | exact Or.inr ⟨Or.inr rfl, rfl⟩ | exact Or.inl ⟨rfl, r_move (v := (.int .i64 ((d.next.length : Nat) : Int))) rfl⟩) ?_
                    obtain ⟨e24, he24⟩ : ∃ e, (decide ((x : Int) < ((d.next.length : Nat) : Int))) = e := ⟨_, rfl⟩
                    refine WpL_guard_any (oj := _) (gv := (.bool e23)) (u := (bif e23 then (.bool e24) else undef)) rfl rfl (by decide) (by decide) rfl (by cases e23 <;> first | exact Or.inr ⟨Or.inl rfl, rfl⟩ | exact Or.inr ⟨Or.inr rfl, rfl⟩ | exact Or.inl ⟨rfl, (r_lss (k := .i64) (a := x) (b := ((d.next.length : Nat) : Int)) rfl rfl).trans (by rw [he24]; try rfl)⟩) ?_
                    obtain ⟨e25, he25⟩ : ∃ e, (e23 && e24) = e := ⟨_, rfl⟩
                    refine WpL_val rfl rfl (by decide) (r_pick (b := e23) (v := .bool e25) rfl (by rw [← he25]; cases e23 <;> rfl)) ?_
                    refine WpL_val rfl rfl (by decide) (r_assign (v := (.bool e25)) rfl) ?_
                    refine WpL_nil ?_
                    subst he25
                    subst he24
                    subst he23
                    subst he22
                    refine inB_normal ?_
                    refine thn_normal ?_
                    refine Wp_region ?_
                    refine WpL_val rfl rfl (by decide) (r_add (k := .i64) (a := ((j : Nat) : Int)) (b := 1) (c := ((j : Nat) : Int) + 1) rfl rfl (wI64 (by omega))) ?_
                    refine WpL_val rfl rfl (by decide) (r_move (v := (.int .i64 (((j : Nat) : Int) + 1))) rfl) ?_
                    refine WpL_nil ?_
                    refine thn_normal ?_
                    exact ⟨row.length - (j + 1), by omega, j + 1, ((ok3 && decide ((-1 : Int) ≤ x)) && decide (x < ((d.next.length : Nat) : Int))), Fits.out ⟨rfl, rfl, rfl, rfl, rfl, rfl, rfl, rfl, rfl, trivial⟩, E, Br, (by omega), (by rw [hsx, Bool.and_assoc]; rfl), rfl⟩
                  · have khltj := hltj
                    replace hltj := of_decide_eq_false hltj
                    have hjj : j = row.length := by omega
                    rw [hjj, List.take_length] at hok3
                    refine Wp_exit ?_
                    refine thn_exit ?_
                    refine thn_exit ?_
                    refine inB_here ?_
                    refine inB_normal ?_
                    refine thn_normal ?_
                    refine Wp_region ?_
                    refine WpL_val rfl rfl (by decide) (r_add (k := .i64) (a := ((q : Nat) : Int)) (b := 1) (c := ((q : Nat) : Int) + 1) rfl rfl (wI64 (by omega))) ?_
                    refine WpL_val rfl rfl (by decide) (r_move (v := (.int .i64 (((q : Nat) : Int) + 1))) rfl) ?_
                    refine WpL_nil ?_
                    refine thn_normal ?_
                    exact ⟨d.next.length - (q + 1), by omega, q + 1, ok3, Fits.out ⟨rfl, rfl, rfl, rfl, rfl, rfl, trivial⟩, E, Br, (by omega), (by rw [hok3, okR_succ hy hrow]), rfl⟩
              · have khltq := hltq
                replace hltq := of_decide_eq_false hltq
                have hqq : q = d.next.length := by omega
                rw [hqq, hfin] at hok1
                refine Wp_exit ?_
                refine thn_exit ?_
                refine thn_exit ?_
                refine inB_here ?_
                refine thn_normal ?_
                refine Wp_seq ?_
                refine Wp_seq_region ?_
                refine WpL_val rfl rfl (by decide) (r_move (v := (.bool ok1)) rfl) ?_
                refine WpL_val rfl rfl (by decide) (r_not (b := ok1) rfl) ?_
                refine WpL_nil ?_
                refine Wp_cond (b := !ok1) rfl (fun hb => ?_) (fun hb => ?_)
                · have khb := hb
                  replace hb := by simpa using hb
                  refine Wp_seq_region ?_
                  refine WpL_val rfl rfl (by decide) (r_assign (v := (.int .i64 1)) rfl) ?_
                  refine WpL_nil ?_
                  refine Wp_ret ?_
                  refine thn_ret ?_
                  refine fin_tmp Try.results13 (v := (.int .i64 1)) rfl ?_
                  exact ⟨int_eq (by unfold checkD; rw [if_neg (by omega), if_neg h20, if_neg (by omega), if_neg (by rw [hno]; simp), if_pos (by rw [hb] at hok1; have h9 := hok1.symm; rwa [Bool.not_eq_false'] at h9)]), E⟩
                · have khb := hb
                  replace hb := by simpa using hb
                  refine Wp_skip ?_
                  refine thn_normal ?_
                  refine Wp_seq_region ?_
                  refine WpL_val rfl rfl (by decide) (r_assign (v := (.int .i64 0)) rfl) ?_
                  refine WpL_nil ?_
                  refine Wp_ret ?_
                  refine fin_tmp Try.results13 (v := (.int .i64 0)) rfl ?_
                  exact ⟨int_eq (by unfold checkD; rw [if_neg (by omega), if_neg h20, if_neg (by omega), if_neg (by rw [hno]; simp), if_neg (by rw [hb] at hok1; simpa using hok1.symm)]), E⟩
theorem rsmall_c (w0 : World) (d : Dfa) (vs : List Value) (hd : DfaAt w0 d vs) : Ret Try.prog 14 #[.agg vs.toArray] w0 fun r w => r = .bool (decide (((d.next.length : Nat) : Int) ≤ 12)) ∧ Ext w0 w := by
  obtain ⟨aa, ac, na, nc, rfl, ha, hn⟩ := hd
  refine Ret_of Try.func14 rfl Try.ntmps14 (Nat.le_of_ble_eq_true rfl) ?_
  have E : Chg none1 w0 w0 := Chg.refl _ _
  refine Wp_seq_region ?_
  refine s_box (v := (.agg #[(.int .i64 d.start), (.slice aa d.accept.length ac), (.slice na d.next.length nc)])) (c := #[(.int .i64 d.start), (.slice aa d.accept.length ac), (.slice na d.next.length nc)]) (by decide) rfl rfl ?_
  intro br wr Nr
  have Fr := Nr.ge E
  replace E := E.ext Nr.ext
  have Br := Nr.blk
  refine WpL_val rfl rfl (by decide) (r_assign (v := (.bool false)) rfl) ?_
  refine WpL_nil ?_
  refine Wp_seq_region ?_
  refine WpL_val rfl rfl (by decide) (r_fieldAddr (b := br) (o := 0) (o' := 2) rfl Try.underlying25 rfl siz23 rfl) ?_
  refine WpL_val rfl rfl (by decide) (r_load (v := (.slice na d.next.length nc)) rfl flat23 (Br.cell rfl)) ?_
  refine WpL_val rfl rfl (by decide) (r_lenSlice (ad := na) (n := d.next.length) (cap := nc) Try.underlying23 rfl) ?_
  refine WpL_val rfl rfl (by decide) (r_leq (k := .i64) (a := ((d.next.length : Nat) : Int)) (b := 12) rfl rfl) ?_
  refine WpL_val rfl rfl (by decide) (r_assign (v := (.bool (decide ((((d.next.length : Nat) : Int) : Int) ≤ 12)))) rfl) ?_
  refine WpL_nil ?_
  refine Wp_ret ?_
  refine fin_tmp Try.results14 (v := (.bool (decide ((((d.next.length : Nat) : Int) : Int) ≤ 12)))) rfl ?_
  exact ⟨rfl, E⟩
theorem rrun0_c (w0 : World) (n c : Nat) (d : Dfa) (dv : List Value) (s : Int) (ok : OkD n c d) (h : DfaAt w0 d dv) (hs : -1 ≤ s ∧ s < n) : Ret Try.prog 18 #[.agg dv.toArray, .int .i64 s, .slice none 0 0] w0 fun r w => r = .int .i64 (atD d s) ∧ Ext w0 w := by
  have hst := ok.st
  have hal := ok.al
  obtain ⟨aa, ac, na, nc, rfl, ha, hn⟩ := h
  obtain ⟨ab, ao, rfl, hax⟩ := ints_cells ha (by omega)
  refine Ret_of Try.func18 rfl Try.ntmps18 (Nat.le_of_ble_eq_true rfl) ?_
  have E : Chg none1 w0 w0 := Chg.refl _ _
  refine Wp_seq_region ?_
  refine s_box (v := (.agg #[(.int .i64 d.start), (.slice (some ⟨ab, ao, none⟩) d.accept.length ac), (.slice na d.next.length nc)])) (c := #[(.int .i64 d.start), (.slice (some ⟨ab, ao, none⟩) d.accept.length ac), (.slice na d.next.length nc)]) (by decide) rfl rfl ?_
  intro br wr Nr
  have Fr := Nr.ge E
  replace E := E.ext Nr.ext
  have Br := Nr.blk
  refine WpL_val rfl rfl (by decide) (r_assign (v := (.int .i64 0)) rfl) ?_
  refine WpL_nil ?_
  refine Wp_seq ?_
  refine Wp_seq_region ?_
  refine WpL_val rfl rfl (by decide) (r_move (v := (.slice none 0 0)) rfl) ?_
  refine WpL_val rfl rfl (by decide) (r_lenSlice (ad := none) (n := 0) (cap := 0) Try.underlying22 rfl) ?_
  refine WpL_val rfl rfl (by decide) (r_move (v := (.int .i64 0)) rfl) ?_
  refine WpL_nil ?_
  refine Wp_block ?_
  refine Wp_loop (fun nn_ σ W1 => ∃ (k : Nat), (∃ jj_, σ = upds jj_ [(3, (.pointer (some ⟨br, 0, none⟩))), (9, (.slice none 0 0)), (10, (.int .i64 0)), (11, (.int .i64 ((k : Nat) : Int))), (1, (.int .i64 s))]) ∧ Chg none1 w0 W1 ∧ Blk W1 br #[(.int .i64 d.start), (.slice (some ⟨ab, ao, none⟩) d.accept.length ac), (.slice na d.next.length nc)] 25 ∧ (k = 0) ∧ nn_ = 0 - k) (n := 0 - 0) ?_ ?_
  · exact ⟨0, Fits.out ⟨rfl, rfl, rfl, rfl, rfl, trivial⟩, E, Br, rfl, rfl⟩
  · clear E Br
    rintro _ _ W1 ⟨k, ⟨j1, rfl⟩, E, Br, hk, rfl⟩
    refine Wp_seq_region ?_
    refine WpL_val rfl rfl (by decide) (r_lss (k := .i64) (a := ((k : Nat) : Int)) (b := 0) rfl rfl) ?_
    refine WpL_nil ?_
    refine Wp_seq ?_
    have hc2 : (decide ((((k : Nat) : Int) : Int) < 0)) = false := decide_eq_false (by omega)
    refine Wp_cond_false (congrArg Value.bool hc2) ?_
    refine Wp_exit ?_
    refine thn_exit ?_
    refine thn_exit ?_
    refine inB_here ?_
    refine thn_normal ?_
    refine Wp_seq ?_
    refine Wp_seq_region ?_
    refine WpL_val rfl rfl (by decide) (r_move (v := (.int .i64 s)) rfl) ?_
    refine WpL_val rfl rfl (by decide) (r_lss (k := .i64) (a := s) (b := 0) rfl rfl) ?_
    refine WpL_nil ?_
    refine Wp_cond (b := decide ((s : Int) < 0)) rfl (fun hneg => ?_) (fun hneg => ?_)
    · have khneg := hneg
      replace hneg := of_decide_eq_true hneg
      refine Wp_seq_region ?_
      refine WpL_val rfl rfl (by decide) (r_assign (v := (.int .i64 (-1))) rfl) ?_
      refine WpL_nil ?_
      refine Wp_ret ?_
      refine thn_ret ?_
      refine fin_tmp Try.results18 (v := (.int .i64 (-1))) rfl ?_
      exact ⟨int_eq (by unfold atD; rw [if_pos hneg]), E⟩
    · have khneg := hneg
      replace hneg := of_decide_eq_false hneg
      obtain ⟨sN, hsN⟩ := Int.eq_ofNat_of_zero_le (show 0 ≤ s by omega)
      have hat := acc_at ok (show sN < n by omega)
      rw [← hsN] at hat
      refine Wp_skip ?_
      refine thn_normal ?_
      refine Wp_seq_region ?_
      refine WpL_val rfl rfl (by decide) (r_fieldAddr (b := br) (o := 0) (o' := 1) rfl Try.underlying25 rfl siz22 rfl) ?_
      refine WpL_val rfl rfl (by decide) (r_load (v := (.slice (some ⟨ab, ao, none⟩) d.accept.length ac)) rfl flat22 (Br.cell rfl)) ?_
      refine WpL_val rfl rfl (by decide) (r_move (v := (.int .i64 s)) rfl) ?_
      refine WpL_val rfl rfl (by decide) (r_indexSlice (b := ab) (o := ao) (len := d.accept.length) (cap := ac) (i := sN) (o' := ao + sN) rfl rfl (by omega) Try.underlying22 siz3 (by omega) (by omega)) ?_
      refine WpL_val rfl rfl (by decide) (r_load (v := (.int .i64 (atD d s))) rfl flat3 (E.cell (fun f => f) (hax sN _ hat))) ?_
      refine WpL_val rfl rfl (by decide) (r_assign (v := (.int .i64 (atD d s))) rfl) ?_
      refine WpL_nil ?_
      refine Wp_ret ?_
      refine fin_tmp Try.results18 (v := (.int .i64 (atD d s))) rfl ?_
      exact ⟨rfl, E⟩
theorem reqi_c (w0 : World) (v1 v2 : Value) (l1 l2 : List Int) (h1 : IntsAt w0 v1 l1) (h2 : IntsAt w0 v2 l2) :
    Ret Try.prog 19 #[v1, v2] w0 fun v w => v = .bool (decide (l1 = l2)) ∧ Ext w0 w := by
  obtain ⟨a1, c1, rfl⟩ := SlAt.form h1
  obtain ⟨a2, c2, rfl⟩ := SlAt.form h2
  have hb1 : l1.length ≤ 9223372036854775807 := by simpa using SlAt.le h1
  simp only [List.length_map] at h1 h2 ⊢
  refine Ret_of Try.func19 rfl Try.ntmps19 (Nat.le_of_ble_eq_true rfl) ?_
  have E : Chg none1 w0 w0 := Chg.refl _ _
  refine Wp_seq_region ?_
  refine WpL_val rfl rfl (by decide) (r_assign (v := (.bool false)) rfl) ?_
  refine WpL_nil ?_
  refine Wp_seq ?_
  refine Wp_seq_region ?_
  refine WpL_val rfl rfl (by decide) (r_move (v := (.slice a1 l1.length c1)) rfl) ?_
  refine WpL_val rfl rfl (by decide) (r_lenSlice (ad := a1) (n := l1.length) (cap := c1) Try.underlying22 rfl) ?_
  refine WpL_val rfl rfl (by decide) (r_move (v := (.slice a2 l2.length c2)) rfl) ?_
  refine WpL_val rfl rfl (by decide) (r_lenSlice (ad := a2) (n := l2.length) (cap := c2) Try.underlying22 rfl) ?_
  refine WpL_val rfl rfl (by decide) (r_neq (k := .i64) (a := ((l1.length : Nat) : Int)) (b := ((l2.length : Nat) : Int)) rfl rfl) ?_
  refine WpL_nil ?_
  refine Wp_cond (b := decide ((((l1.length : Nat) : Int) : Int) ≠ ((l2.length : Nat) : Int))) rfl (fun hl => ?_) (fun hl => ?_)
  · have khl := hl
    replace hl := of_decide_eq_true hl
    refine Wp_seq_region ?_
    refine WpL_val rfl rfl (by decide) (r_assign (v := (.bool false)) rfl) ?_
    refine WpL_nil ?_
    refine Wp_ret ?_
    refine thn_ret ?_
    refine fin_tmp Try.results19 (v := (.bool false)) rfl ?_
    exact ⟨bool_eq (by symm; rw [decide_eq_false_iff_not]; intro h; rw [h] at hl; exact hl rfl), E⟩
  · have khl := hl
    replace hl := of_decide_eq_false hl
    refine Wp_skip ?_
    refine thn_normal ?_
    refine Wp_seq ?_
    refine Wp_seq_region ?_
    refine WpL_val rfl rfl (by decide) (r_move (v := (.slice a1 l1.length c1)) rfl) ?_
    refine WpL_val rfl rfl (by decide) (r_lenSlice (ad := a1) (n := l1.length) (cap := c1) Try.underlying22 rfl) ?_
    refine WpL_val rfl rfl (by decide) (r_move (v := (.int .i64 0)) rfl) ?_
    refine WpL_nil ?_
    refine Wp_block ?_
    refine Wp_loop (fun nn_ σ W2 => ∃ (k : Nat), (∃ jj_, σ = upds jj_ [(0, (.slice a1 l1.length c1)), (1, (.slice a2 l2.length c2)), (12, (.int .i64 ((l1.length : Nat) : Int))), (13, (.int .i64 ((k : Nat) : Int)))]) ∧ Chg none1 w0 W2 ∧ (k ≤ l1.length) ∧ (∀ (i : Nat), i < k → l1[i]? = l2[i]?) ∧ nn_ = l1.length - k) (n := l1.length - 0) ?_ ?_
    · exact ⟨0, Fits.out ⟨rfl, rfl, rfl, rfl, trivial⟩, E, Nat.zero_le _, (fun i h => absurd h (Nat.not_lt_zero _)), rfl⟩
    · clear E
      rintro _ _ W2 ⟨k, ⟨j2, rfl⟩, E, hk, heq, rfl⟩
      refine Wp_seq_region ?_
      refine WpL_val rfl rfl (by decide) (r_lss (k := .i64) (a := ((k : Nat) : Int)) (b := ((l1.length : Nat) : Int)) rfl rfl) ?_
      refine WpL_nil ?_
      refine Wp_seq ?_
      refine Wp_cond (b := decide ((((k : Nat) : Int) : Int) < ((l1.length : Nat) : Int))) rfl (fun hlt => ?_) (fun hlt => ?_)
      · have khlt := hlt
        replace hlt := of_decide_eq_true hlt
        obtain ⟨p, hp⟩ := get_of_lt (l := l1) (i := k) (by omega)
        obtain ⟨q, hq⟩ := get_of_lt (l := l2) (i := k) (by omega)
        obtain ⟨b1, o1, rfl, hc1⟩ := ints_cells h1 (by omega)
        obtain ⟨b2, o2, rfl, hc2⟩ := ints_cells h2 (by omega)
        refine Wp_skip ?_
        refine thn_normal ?_
        refine Wp_seq ?_
        refine Wp_block ?_
        refine Wp_seq_region ?_
        refine WpL_val rfl rfl (by decide) (r_move (v := (.int .i64 ((k : Nat) : Int))) rfl) ?_
        refine WpL_val rfl rfl (by decide) (r_assign (v := (.int .i64 ((k : Nat) : Int))) rfl) ?_
        refine WpL_nil ?_
        refine Wp_seq_draw 8 mixed (by kernel_rfl) ?_
        intro w4 X4 _
        replace E := E.ext X4
        refine WpT_val rfl rfl (by decide) (r_move (v := (.slice (some ⟨b1, o1, none⟩) l1.length c1)) rfl) ?_
        refine WpT_val rfl rfl (by decide) (r_move (v := (.int .i64 ((k : Nat) : Int))) rfl) ?_
        refine WpT_val rfl rfl (by decide) (r_indexSlice (b := b1) (o := o1) (len := l1.length) (cap := c1) (i := k) (o' := o1 + k) rfl rfl rfl Try.underlying22 siz3 (by omega) (by omega)) ?_
        refine WpT_val rfl rfl (by decide) (r_load (v := (.int .i64 p)) rfl flat3 (E.cell (fun f => f) (hc1 k p hp))) ?_
        refine WpT_val rfl rfl (by decide) (r_move (v := (.slice (some ⟨b2, o2, none⟩) l2.length c2)) rfl) ?_
        refine WpT_val rfl rfl (by decide) (r_move (v := (.int .i64 ((k : Nat) : Int))) rfl) ?_
        refine WpT_val rfl rfl (by decide) (r_indexSlice (b := b2) (o := o2) (len := l2.length) (cap := c2) (i := k) (o' := o2 + k) rfl rfl rfl Try.underlying22 siz3 (by omega) (by omega)) ?_
        refine WpT_val rfl rfl (by decide) (r_load (v := (.int .i64 q)) rfl flat3 (E.cell (fun f => f) (hc2 k q hq))) ?_
        refine WpT_zero ?_
        refine WpL_val rfl rfl (by decide) (r_neq (k := .i64) (a := p) (b := q) rfl rfl) ?_
        refine WpL_nil ?_
        refine Wp_cond (b := decide ((p : Int) ≠ q)) rfl (fun hpq => ?_) (fun hpq => ?_)
        · have khpq := hpq
          replace hpq := of_decide_eq_true hpq
          refine Wp_seq_region ?_
          refine WpL_val rfl rfl (by decide) (r_assign (v := (.bool false)) rfl) ?_
          refine WpL_nil ?_
          refine Wp_ret ?_
          refine inB_ret ?_
          refine thn_ret ?_
          refine thn_ret ?_
          refine inB_ret ?_
          refine thn_ret ?_
          refine fin_tmp Try.results19 (v := (.bool false)) rfl ?_
          exact ⟨bool_eq (by symm; rw [decide_eq_false_iff_not]; intro h; subst h; rw [hp] at hq; cases hq; exact hpq rfl), E⟩
        · have khpq := hpq
          replace hpq := of_decide_eq_false hpq
          have hpq2 : p = q := by omega
          refine Wp_skip ?_
          refine inB_normal ?_
          refine thn_normal ?_
          refine Wp_region ?_
          refine WpL_val rfl rfl (by decide) (r_add (k := .i64) (a := ((k : Nat) : Int)) (b := 1) (c := ((k : Nat) : Int) + 1) rfl rfl (wI64 (by omega))) ?_
          refine WpL_val rfl rfl (by decide) (r_move (v := (.int .i64 (((k : Nat) : Int) + 1))) rfl) ?_
          refine WpL_nil ?_
          refine thn_normal ?_
          exact ⟨l1.length - (k + 1), by omega, k + 1, Fits.out ⟨rfl, rfl, rfl, rfl, trivial⟩, E, (by omega), (fun i hi => by rcases Nat.lt_or_ge i k with h | h; exact heq i h; obtain rfl : i = k := (by omega); rw [hp, hq, hpq2]), rfl⟩
      · have khlt := hlt
        replace hlt := of_decide_eq_false hlt
        have hkk : k = l1.length := by omega
        refine Wp_exit ?_
        refine thn_exit ?_
        refine thn_exit ?_
        refine inB_here ?_
        refine thn_normal ?_
        refine Wp_seq_region ?_
        refine WpL_val rfl rfl (by decide) (r_assign (v := (.bool true)) rfl) ?_
        refine WpL_nil ?_
        refine Wp_ret ?_
        refine fin_tmp Try.results19 (v := (.bool true)) rfl ?_
        exact ⟨bool_eq (by symm; rw [decide_eq_true_eq]; exact get_ext (by omega) (fun i hi => heq i (by omega))), E⟩
theorem okD_of_check {d : Dfa} (h : checkD d = 0) : OkD d.next.length (colsD d) d ∧ (1 ≤ d.next.length ∧ d.next.length ≤ 200) ∧ (1 ≤ colsD d ∧ colsD d ≤ 16) := by
  unfold checkD at h
  split at h
  · omega
  split at h
  · omega
  split at h
  · omega
  split at h
  · omega
  rename_i h1 h2 h3 h4
  split at h
  · omega
  rename_i h5
  have hr : ∀ row ∈ d.next, row.length = colsD d ∧ row ≠ [] := fun row hrow => by
    have h6 := (List.any_eq_false.1 (Bool.eq_false_iff.2 h4)) row hrow
    unfold formRow at h6
    simp only [Bool.or_eq_true, decide_eq_true_eq, not_or] at h6
    exact ⟨by omega, fun e => by rw [e] at h6; simp at h6⟩
  have hne : d.accept ≠ [] := fun e => by have e2 : d.accept.length = 0 := by rw [e]; rfl
                                          omega
  have h7 := okR_bad (d := d) (by omega) hne (fun row hrow => (hr row hrow).2)
  rw [Bool.eq_false_iff.2 h5] at h7
  unfold okR stR at h7
  rw [List.take_length, show d.accept.take d.next.length = d.accept from by rw [show d.next.length = d.accept.length from by omega, List.take_length]] at h7
  simp only [Bool.not_false, Bool.and_eq_true, decide_eq_true_eq, List.all_eq_true] at h7
  obtain ⟨⟨h8, h9⟩, h10, h11⟩ := h7
  obtain ⟨row0, hrow0⟩ := get_of_lt (l := d.next) (i := 0) (by omega)
  have hc0 : colsD d = row0.length := by unfold colsD; cases hq : d.next with | nil => rw [hq] at hrow0; simp at hrow0 | cons y l => rw [hq] at hrow0; simp at hrow0; simp [hrow0]
  have h12 := List.length_pos_iff.2 (hr row0 (List.mem_of_getElem? hrow0)).2
  refine ⟨⟨rfl, by omega, ⟨h8, h9⟩, fun x hx => by simpa [accR] using h10 x hx, fun row hrow => ⟨(hr row hrow).1, fun x hx => ?_⟩⟩, by omega, by omega⟩
  have h13 := h11 row hrow x hx
  simpa [rngR] using h13
def errD (a b : Dfa) : Int := if checkD a ≠ 0 then checkD a else if checkD b ≠ 0 then checkD b else if colsD a ≠ colsD b then 3 else 0
theorem same_bad (w0 : World) (a b : Dfa) (av bv : List Value) (ha : DfaAt w0 a av) (hb : DfaAt w0 b bv) (he : errD a b ≠ 0) :
    Ret Try.prog 11 #[.agg av.toArray, .agg bv.toArray] w0 fun r w => r = .tuple #[.bool false, .slice none 0 0, .int .i64 (errD a b)] ∧ Ext w0 w := by
  by_cases h1 : checkD a = 0
  · by_cases h2 : checkD b = 0
    · obtain ⟨oka, hn, hc⟩ := okD_of_check h1
      obtain ⟨okb, hm, hcb⟩ := okD_of_check h2
      have h3 : errD a b = 3 ∧ colsD a ≠ colsD b := by unfold errD at he ⊢; rw [if_neg (by omega), if_neg (by omega)] at he ⊢; split at he; exact ⟨by rw [if_pos (by assumption)], by assumption⟩; exact absurd rfl he
      obtain ⟨nb, no, nc, aa, ac, ra, rc, rfl, hcell⟩ := okD_row0 oka ha hn.1
      obtain ⟨nb2, no2, nc2, aa2, ac2, ra2, rc2, rfl, hcell2⟩ := okD_row0 okb hb hm.1
      have h4 := h3.2
      refine Ret_of Try.func11 rfl Try.ntmps11 (Nat.le_of_ble_eq_true rfl) ?_
      have E : Chg none1 w0 w0 := Chg.refl _ _
      refine Wp_seq_region ?_
      refine s_box (v := (.agg #[(.int .i64 a.start), (.slice aa a.accept.length ac), (.slice (some ⟨nb, no, none⟩) a.next.length nc)])) (c := #[(.int .i64 a.start), (.slice aa a.accept.length ac), (.slice (some ⟨nb, no, none⟩) a.next.length nc)]) (by decide) rfl rfl ?_
      intro bp wp Np
      have Fp := Np.ge E
      replace E := E.ext Np.ext
      have Bp := Np.blk
      refine s_box (v := (.agg #[(.int .i64 b.start), (.slice aa2 b.accept.length ac2), (.slice (some ⟨nb2, no2, none⟩) b.next.length nc2)])) (c := #[(.int .i64 b.start), (.slice aa2 b.accept.length ac2), (.slice (some ⟨nb2, no2, none⟩) b.next.length nc2)]) (by decide) rfl rfl ?_
      intro bq wq Nq
      have Fq := Nq.ge E
      have Oq_bp := Nq.lt Bp
      replace Bp := Nq.keep Bp
      replace E := E.ext Nq.ext
      have Bq := Nq.blk
      refine WpL_val rfl rfl (by decide) (r_assign (v := (.bool false)) rfl) ?_
      refine WpL_val rfl rfl (by decide) (r_assign (v := (.slice none 0 0)) rfl) ?_
      refine WpL_val rfl rfl (by decide) (r_assign (v := (.int .i64 0)) rfl) ?_
      refine WpL_nil ?_
      refine Wp_seq ?_
      refine Wp_seq_region ?_
      refine WpL_val rfl rfl (by decide) (r_loadAgg (vs := [(.int .i64 a.start), (.slice aa a.accept.length ac), (.slice (some ⟨nb, no, none⟩) a.next.length nc)]) rfl agg25 siz25 rfl (Bp.cells rfl)) ?_
      refine WpL_enter rfl rfl (by decide) (r_callF (vs := [(.agg #[(.int .i64 a.start), (.slice aa a.accept.length ac), (.slice (some ⟨nb, no, none⟩) a.next.length nc)])]) Try.func50 nm50 bd50 rfl) (dcheck_c _ a _ (ha.ext E)) ?_
      rintro _ w9 ⟨rfl, X9⟩
      replace Bp := X9.keep Bp
      replace Bq := X9.keep Bq
      replace E := E.ext X9
      refine WpL_val rfl rfl (by decide) (r_assign (v := (.int .i64 (checkD a))) rfl) ?_
      refine WpL_nil ?_
      refine Wp_seq_region ?_
      refine WpL_val rfl rfl (by decide) (r_move (v := (.int .i64 (checkD a))) rfl) ?_
      refine WpL_val rfl rfl (by decide) (r_neq (k := .i64) (a := checkD a) (b := 0) rfl rfl) ?_
      refine WpL_nil ?_
      have hc1 : (decide ((checkD a : Int) ≠ 0)) = false := decide_eq_false (by omega)
      refine Wp_cond_false (congrArg Value.bool hc1) ?_
      refine Wp_skip ?_
      refine thn_normal ?_
      refine Wp_seq ?_
      refine Wp_seq_region ?_
      refine WpL_val rfl rfl (by decide) (r_loadAgg (vs := [(.int .i64 b.start), (.slice aa2 b.accept.length ac2), (.slice (some ⟨nb2, no2, none⟩) b.next.length nc2)]) rfl agg25 siz25 rfl (Bq.cells rfl)) ?_
      refine WpL_enter rfl rfl (by decide) (r_callF (vs := [(.agg #[(.int .i64 b.start), (.slice aa2 b.accept.length ac2), (.slice (some ⟨nb2, no2, none⟩) b.next.length nc2)])]) Try.func50 nm50 bd50 rfl) (dcheck_c _ b _ (hb.ext E)) ?_
      rintro _ w19 ⟨rfl, X19⟩
      replace Bp := X19.keep Bp
      replace Bq := X19.keep Bq
      replace E := E.ext X19
      refine WpL_val rfl rfl (by decide) (r_assign (v := (.int .i64 (checkD b))) rfl) ?_
      refine WpL_nil ?_
      refine Wp_seq_region ?_
      refine WpL_val rfl rfl (by decide) (r_move (v := (.int .i64 (checkD b))) rfl) ?_
      refine WpL_val rfl rfl (by decide) (r_neq (k := .i64) (a := checkD b) (b := 0) rfl rfl) ?_
      refine WpL_nil ?_
      have hc2 : (decide ((checkD b : Int) ≠ 0)) = false := decide_eq_false (by omega)
      refine Wp_cond_false (congrArg Value.bool hc2) ?_
      refine Wp_skip ?_
      refine thn_normal ?_
      refine Wp_seq ?_
      refine Wp_seq_draw 10 mixed (by kernel_rfl) ?_
      intro w3 X3 _
      replace Bp := X3.keep Bp
      replace Bq := X3.keep Bq
      replace E := E.ext X3
      refine WpT_val rfl rfl (by decide) (r_fieldAddr (b := bp) (o := 0) (o' := 2) rfl Try.underlying25 rfl siz23 rfl) ?_
      refine WpT_val rfl rfl (by decide) (r_load (v := (.slice (some ⟨nb, no, none⟩) a.next.length nc)) rfl flat23 (Bp.cell rfl)) ?_
      refine WpT_val rfl rfl (by decide) (r_indexSlice (b := nb) (o := no) (len := a.next.length) (cap := nc) (i := 0) (o' := no + 0) rfl rfl rfl Try.underlying23 siz22 (by omega) (by omega)) ?_
      refine WpT_val rfl rfl (by decide) (r_load (v := (.slice ra (colsD a) rc)) rfl flat22 (E.cell (fun f => f) hcell)) ?_
      refine WpT_val rfl rfl (by decide) (r_lenSlice (ad := ra) (n := colsD a) (cap := rc) Try.underlying22 rfl) ?_
      refine WpT_val rfl rfl (by decide) (r_fieldAddr (b := bq) (o := 0) (o' := 2) rfl Try.underlying25 rfl siz23 rfl) ?_
      refine WpT_val rfl rfl (by decide) (r_load (v := (.slice (some ⟨nb2, no2, none⟩) b.next.length nc2)) rfl flat23 (Bq.cell rfl)) ?_
      refine WpT_val rfl rfl (by decide) (r_indexSlice (b := nb2) (o := no2) (len := b.next.length) (cap := nc2) (i := 0) (o' := no2 + 0) rfl rfl rfl Try.underlying23 siz22 (by omega) (by omega)) ?_
      refine WpT_val rfl rfl (by decide) (r_load (v := (.slice ra2 (colsD b) rc2)) rfl flat22 (E.cell (fun f => f) hcell2)) ?_
      refine WpT_val rfl rfl (by decide) (r_lenSlice (ad := ra2) (n := colsD b) (cap := rc2) Try.underlying22 rfl) ?_
      refine WpT_zero ?_
      refine WpL_val rfl rfl (by decide) (r_neq (k := .i64) (a := ((colsD a : Nat) : Int)) (b := ((colsD b : Nat) : Int)) rfl rfl) ?_
      refine WpL_nil ?_
      have hc4 : (decide ((((colsD a : Nat) : Int) : Int) ≠ ((colsD b : Nat) : Int))) = true := decide_eq_true (by omega)
      refine Wp_cond_true (congrArg Value.bool hc4) ?_
      refine Wp_seq_region ?_
      refine WpL_val rfl rfl (by decide) (r_assign (v := (.bool false)) rfl) ?_
      refine WpL_val rfl rfl (by decide) (r_assign (v := (.slice none 0 0)) rfl) ?_
      refine WpL_val rfl rfl (by decide) (r_assign (v := (.int .i64 3)) rfl) ?_
      refine WpL_nil ?_
      refine Wp_ret ?_
      refine thn_ret ?_
      refine fin_tmp3 Try.results11 (v := (.bool false)) (v' := (.slice none 0 0)) (v'' := (.int .i64 3)) rfl rfl rfl ?_
      exact ⟨by rw [h3.1], E⟩
    · have h3 : errD a b = checkD b := by unfold errD; rw [if_neg (by omega), if_pos h2]
      obtain ⟨aa, ac, na, nc, rfl, _, _⟩ := id ha
      obtain ⟨aa2, ac2, na2, nc2, rfl, _, _⟩ := id hb
      refine Ret_of Try.func11 rfl Try.ntmps11 (Nat.le_of_ble_eq_true rfl) ?_
      have E : Chg none1 w0 w0 := Chg.refl _ _
      refine Wp_seq_region ?_
      refine s_box (v := (.agg #[(.int .i64 a.start), (.slice aa a.accept.length ac), (.slice na a.next.length nc)])) (c := #[(.int .i64 a.start), (.slice aa a.accept.length ac), (.slice na a.next.length nc)]) (by decide) rfl rfl ?_
      intro bp wp Np
      have Fp := Np.ge E
      replace E := E.ext Np.ext
      have Bp := Np.blk
      refine s_box (v := (.agg #[(.int .i64 b.start), (.slice aa2 b.accept.length ac2), (.slice na2 b.next.length nc2)])) (c := #[(.int .i64 b.start), (.slice aa2 b.accept.length ac2), (.slice na2 b.next.length nc2)]) (by decide) rfl rfl ?_
      intro bq wq Nq
      have Fq := Nq.ge E
      have Oq_bp := Nq.lt Bp
      replace Bp := Nq.keep Bp
      replace E := E.ext Nq.ext
      have Bq := Nq.blk
      refine WpL_val rfl rfl (by decide) (r_assign (v := (.bool false)) rfl) ?_
      refine WpL_val rfl rfl (by decide) (r_assign (v := (.slice none 0 0)) rfl) ?_
      refine WpL_val rfl rfl (by decide) (r_assign (v := (.int .i64 0)) rfl) ?_
      refine WpL_nil ?_
      refine Wp_seq ?_
      refine Wp_seq_region ?_
      refine WpL_val rfl rfl (by decide) (r_loadAgg (vs := [(.int .i64 a.start), (.slice aa a.accept.length ac), (.slice na a.next.length nc)]) rfl agg25 siz25 rfl (Bp.cells rfl)) ?_
      refine WpL_enter rfl rfl (by decide) (r_callF (vs := [(.agg #[(.int .i64 a.start), (.slice aa a.accept.length ac), (.slice na a.next.length nc)])]) Try.func50 nm50 bd50 rfl) (dcheck_c _ a _ (ha.ext E)) ?_
      rintro _ w9 ⟨rfl, X9⟩
      replace Bp := X9.keep Bp
      replace Bq := X9.keep Bq
      replace E := E.ext X9
      refine WpL_val rfl rfl (by decide) (r_assign (v := (.int .i64 (checkD a))) rfl) ?_
      refine WpL_nil ?_
      refine Wp_seq_region ?_
      refine WpL_val rfl rfl (by decide) (r_move (v := (.int .i64 (checkD a))) rfl) ?_
      refine WpL_val rfl rfl (by decide) (r_neq (k := .i64) (a := checkD a) (b := 0) rfl rfl) ?_
      refine WpL_nil ?_
      have hc1 : (decide ((checkD a : Int) ≠ 0)) = false := decide_eq_false (by omega)
      refine Wp_cond_false (congrArg Value.bool hc1) ?_
      refine Wp_skip ?_
      refine thn_normal ?_
      refine Wp_seq ?_
      refine Wp_seq_region ?_
      refine WpL_val rfl rfl (by decide) (r_loadAgg (vs := [(.int .i64 b.start), (.slice aa2 b.accept.length ac2), (.slice na2 b.next.length nc2)]) rfl agg25 siz25 rfl (Bq.cells rfl)) ?_
      refine WpL_enter rfl rfl (by decide) (r_callF (vs := [(.agg #[(.int .i64 b.start), (.slice aa2 b.accept.length ac2), (.slice na2 b.next.length nc2)])]) Try.func50 nm50 bd50 rfl) (dcheck_c _ b _ (hb.ext E)) ?_
      rintro _ w19 ⟨rfl, X19⟩
      replace Bp := X19.keep Bp
      replace Bq := X19.keep Bq
      replace E := E.ext X19
      refine WpL_val rfl rfl (by decide) (r_assign (v := (.int .i64 (checkD b))) rfl) ?_
      refine WpL_nil ?_
      refine Wp_seq_region ?_
      refine WpL_val rfl rfl (by decide) (r_move (v := (.int .i64 (checkD b))) rfl) ?_
      refine WpL_val rfl rfl (by decide) (r_neq (k := .i64) (a := checkD b) (b := 0) rfl rfl) ?_
      refine WpL_nil ?_
      have hc2 : (decide ((checkD b : Int) ≠ 0)) = true := decide_eq_true (by omega)
      refine Wp_cond_true (congrArg Value.bool hc2) ?_
      refine Wp_seq_region ?_
      refine WpL_val rfl rfl (by decide) (r_move (v := (.int .i64 (checkD b))) rfl) ?_
      refine WpL_val rfl rfl (by decide) (r_assign (v := (.bool false)) rfl) ?_
      refine WpL_val rfl rfl (by decide) (r_assign (v := (.slice none 0 0)) rfl) ?_
      refine WpL_val rfl rfl (by decide) (r_assign (v := (.int .i64 (checkD b))) rfl) ?_
      refine WpL_nil ?_
      refine Wp_ret ?_
      refine thn_ret ?_
      refine fin_tmp3 Try.results11 (v := (.bool false)) (v' := (.slice none 0 0)) (v'' := (.int .i64 (checkD b))) rfl rfl rfl ?_
      exact ⟨by rw [h3], E⟩
  · have h3 : errD a b = checkD a := by unfold errD; rw [if_pos h1]
    obtain ⟨aa, ac, na, nc, rfl, _, _⟩ := id ha
    obtain ⟨aa2, ac2, na2, nc2, rfl, _, _⟩ := id hb
    refine Ret_of Try.func11 rfl Try.ntmps11 (Nat.le_of_ble_eq_true rfl) ?_
    have E : Chg none1 w0 w0 := Chg.refl _ _
    refine Wp_seq_region ?_
    refine s_box (v := (.agg #[(.int .i64 a.start), (.slice aa a.accept.length ac), (.slice na a.next.length nc)])) (c := #[(.int .i64 a.start), (.slice aa a.accept.length ac), (.slice na a.next.length nc)]) (by decide) rfl rfl ?_
    intro bp wp Np
    have Fp := Np.ge E
    replace E := E.ext Np.ext
    have Bp := Np.blk
    refine s_box (v := (.agg #[(.int .i64 b.start), (.slice aa2 b.accept.length ac2), (.slice na2 b.next.length nc2)])) (c := #[(.int .i64 b.start), (.slice aa2 b.accept.length ac2), (.slice na2 b.next.length nc2)]) (by decide) rfl rfl ?_
    intro bq wq Nq
    have Fq := Nq.ge E
    have Oq_bp := Nq.lt Bp
    replace Bp := Nq.keep Bp
    replace E := E.ext Nq.ext
    have Bq := Nq.blk
    refine WpL_val rfl rfl (by decide) (r_assign (v := (.bool false)) rfl) ?_
    refine WpL_val rfl rfl (by decide) (r_assign (v := (.slice none 0 0)) rfl) ?_
    refine WpL_val rfl rfl (by decide) (r_assign (v := (.int .i64 0)) rfl) ?_
    refine WpL_nil ?_
    refine Wp_seq ?_
    refine Wp_seq_region ?_
    refine WpL_val rfl rfl (by decide) (r_loadAgg (vs := [(.int .i64 a.start), (.slice aa a.accept.length ac), (.slice na a.next.length nc)]) rfl agg25 siz25 rfl (Bp.cells rfl)) ?_
    refine WpL_enter rfl rfl (by decide) (r_callF (vs := [(.agg #[(.int .i64 a.start), (.slice aa a.accept.length ac), (.slice na a.next.length nc)])]) Try.func50 nm50 bd50 rfl) (dcheck_c _ a _ (ha.ext E)) ?_
    rintro _ w9 ⟨rfl, X9⟩
    replace Bp := X9.keep Bp
    replace Bq := X9.keep Bq
    replace E := E.ext X9
    refine WpL_val rfl rfl (by decide) (r_assign (v := (.int .i64 (checkD a))) rfl) ?_
    refine WpL_nil ?_
    refine Wp_seq_region ?_
    refine WpL_val rfl rfl (by decide) (r_move (v := (.int .i64 (checkD a))) rfl) ?_
    refine WpL_val rfl rfl (by decide) (r_neq (k := .i64) (a := checkD a) (b := 0) rfl rfl) ?_
    refine WpL_nil ?_
    have hc1 : (decide ((checkD a : Int) ≠ 0)) = true := decide_eq_true (by omega)
    refine Wp_cond_true (congrArg Value.bool hc1) ?_
    refine Wp_seq_region ?_
    refine WpL_val rfl rfl (by decide) (r_move (v := (.int .i64 (checkD a))) rfl) ?_
    refine WpL_val rfl rfl (by decide) (r_assign (v := (.bool false)) rfl) ?_
    refine WpL_val rfl rfl (by decide) (r_assign (v := (.slice none 0 0)) rfl) ?_
    refine WpL_val rfl rfl (by decide) (r_assign (v := (.int .i64 (checkD a))) rfl) ?_
    refine WpL_nil ?_
    refine Wp_ret ?_
    refine thn_ret ?_
    refine fin_tmp3 Try.results11 (v := (.bool false)) (v' := (.slice none 0 0)) (v'' := (.int .i64 (checkD a))) rfl rfl rfl ?_
    exact ⟨by rw [h3], E⟩
end Go.Proofs
