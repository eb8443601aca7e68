/- Contracts and plain lemmas, part 3. -/
import Derived.Tactics
import Derived.Deep.Quiet
import Derived.Laws.AppendOwn
import Derived.KernelRfl
import Derived.Laws.Entries
import Derived.Laws.Build
import Derived.Below
import Derived.RowKit3
import Derived.StillTail
import Derived.Sort.Grow
import Derived.Deep.Draws
import Derived.Test.YtllhcafmcbibbaaChecked
import Derived.Laws.StructEq
import Derived.MapKept
import Derived.Laws.BytesArg
import Derived.DeepKeys3
import Derived.Defers
import Derived.Recover
import Derived.Shelf.Sort.Plain
import Derived.Shelf.Slices.CompactI
import Derived.Test.YtllhcafmcbibbaaProg
import Derived.Shelf.Small.Bits
import Derived.OpenShut
import Derived.ChangeSlices
import Derived.Test.YtllhcafmcbibbaaRows
import Derived.Test.YtllhcafmcbibbaaZm2
namespace Go.Proofs
open Go Go.Eng
set_option maxRecDepth 100000
theorem ieqr_c (w0 : World) (v1 v2 : Value) (l1 l2 : List Int) (h1 : IntsAt w0 v1 l1) (h2 : IntsAt w0 v2 l2) :
  Ret Try.prog 39 #[v1, v2] w0 fun v w => v = .bool (decide (l1 = l2)) ∧ Ext w0 w := by
 obtain ⟨a1, c1, rfl⟩ := SlAt.form h1
 obtain ⟨a2, c2, rfl⟩ := SlAt.form h2
 have hb1 : l1.length ≤ 9223372036854775807 := by simpa using SlAt.le h1
 simp only [List.length_map] at h1 h2 ⊢
 refine Ret_of Try.func39 rfl Try.ntmps39 (Nat.le_of_ble_eq_true rfl) ?_
 have E : Chg none1 w0 w0 := Chg.refl _ _
 refine Wp_seq_region ?_
 refine qA _ rfl ?_
 refine WpL_nil (Wp_seq (Wp_seq_region ?_))
 refine qM _ rfl ?_
 refine qV (r_lenSlice Try.underlying26 rfl) ?_
 refine qM _ rfl ?_
 refine qV (r_lenSlice Try.underlying26 rfl) ?_
 refine qV (r_neq rfl rfl) ?_
 refine WpL_nil ?_
 refine Wp_cond rfl (fun hl => ?_) (fun hl => ?_)
 ·have khl := hl
  replace hl := of_decide_eq_true hl
  refine Wp_seq_region ?_
  refine qA _ rfl ?_
  refine WpL_nil (Wp_ret (thn_ret ?_))
  refine fin_tmp Try.results39 (v := (.bool false)) rfl ?_
  exact ⟨bool_eq (by symm; rw [decide_eq_false_iff_not]; intro h; rw [h] at hl; exact hl rfl), E⟩
 ·have khl := hl
  replace hl := of_decide_eq_false hl
  refine Wp_skip (thn_normal (Wp_seq (Wp_seq_region ?_)))
  refine qM _ rfl ?_
  refine qV (r_lenSlice Try.underlying26 rfl) ?_
  refine qM _ rfl ?_
  refine WpL_nil (Wp_block ?_)
  refine Wp_loop (fun nn_ σ W2 => ∃ (k : Nat), (∃ jj_, σ = upds jj_ [(0, (.slice a1 l1.length c1)), (1, (.slice a2 l2.length c2)), (12, (I6 (l1.length : Int))), (13, (I6 (k : Int)))]) ∧ Chg none1 w0 W2 ∧ (k ≤ l1.length) ∧ (∀ (i : Nat), i < k → l1[i]? = l2[i]?) ∧ nn_ = l1.length - k) (n := l1.length - 0) ?_ ?_
  ·exact ⟨0, Fits.out ⟨rfl, rfl, rfl, rfl, trivial⟩, E, Nat.zero_le _, (fun i h => absurd h (Nat.not_lt_zero _)), rfl⟩
  ·clear E
   rintro _ _ W2 ⟨k, ⟨j2, rfl⟩, E, hk, heq, rfl⟩
   refine Wp_seq_region ?_
   refine qV (r_lss rfl rfl) ?_
   refine WpL_nil (Wp_seq ?_)
   refine Wp_cond rfl (fun hlt => ?_) (fun hlt => ?_)
   ·have khlt := hlt
    replace hlt := of_decide_eq_true hlt
    obtain ⟨p, hp⟩ := get_of_lt (l := l1) (i := k) (by omega)
    obtain ⟨q, hq⟩ := get_of_lt (l := l2) (i := k) (by omega)
    obtain ⟨b1, o1, rfl, hc1⟩ := ints_cells h1 (by omega)
    obtain ⟨b2, o2, rfl, hc2⟩ := ints_cells h2 (by omega)
    refine Wp_skip (thn_normal (Wp_seq (Wp_block (Wp_seq_region ?_))))
    refine qM _ rfl ?_
    refine qA _ rfl ?_
    refine WpL_nil ?_
    refine Wp_seq_draw 8 mixed (by kernel_rfl) ?_
    intro w4 X4 _
    replace E := E.ext X4
    refine qT (r_move rfl) ?_
    refine qT (r_move rfl) ?_
    refine qT (r_indexSlice (b := b1) (o := o1) (len := l1.length) (cap := c1) (i := k) (o' := o1 + k) rfl rfl rfl Try.underlying26 siz3 (by omega) (by omega)) ?_
    refine qT (r_load rfl flat3 (E.cell (fun f => f) (hc1 k p hp))) ?_
    refine qT (r_move rfl) ?_
    refine qT (r_move rfl) ?_
    refine qT (r_indexSlice (b := b2) (o := o2) (len := l2.length) (cap := c2) (i := k) (o' := o2 + k) rfl rfl rfl Try.underlying26 siz3 (by omega) (by omega)) ?_
    refine qT (r_load rfl flat3 (E.cell (fun f => f) (hc2 k q hq))) ?_
    refine WpT_zero ?_
    refine qV (r_neq rfl rfl) ?_
    refine WpL_nil ?_
    refine Wp_cond rfl (fun hpq => ?_) (fun hpq => ?_)
    ·have khpq := hpq
     replace hpq := of_decide_eq_true hpq
     refine Wp_seq_region ?_
     refine qA _ rfl ?_
     refine WpL_nil (Wp_ret (inB_ret (thn_ret (thn_ret (inB_ret (thn_ret ?_))))))
     refine fin_tmp Try.results39 (v := (.bool false)) rfl ?_
     exact ⟨bool_eq (by symm; rw [decide_eq_false_iff_not]; intro h; subst h; rw [hp] at hq; cases hq; exact hpq rfl), E⟩
    ·have khpq := hpq
     replace hpq := of_decide_eq_false hpq
     have hpq2 : p = q := by omega
     refine Wp_skip (inB_normal (thn_normal (Wp_region ?_)))
     refine qV (r_add rfl rfl (wI64 (by omega))) ?_
     refine qM _ rfl ?_
     refine WpL_nil (thn_normal ?_)
     exact ⟨l1.length - (k + 1), by omega, k + 1, Fits.out ⟨rfl, rfl, rfl, rfl, trivial⟩, E, (by omega), (fun i hi => by rcases Nat.lt_or_ge i k with h | h; exact heq i h; obtain rfl : i = k := (by omega); rw [hp, hq, hpq2]), rfl⟩
   ·have khlt := hlt
    replace hlt := of_decide_eq_false hlt
    have hkk : k = l1.length := by omega
    refine Wp_exit (thn_exit (thn_exit (inB_here (thn_normal (Wp_seq_region ?_)))))
    refine qA _ rfl ?_
    refine WpL_nil (Wp_ret ?_)
    refine fin_tmp Try.results39 (v := (.bool true)) rfl ?_
    exact ⟨bool_eq (by symm; rw [decide_eq_true_eq]; apply List.ext_getElem?; intro i; rcases Nat.lt_or_ge i l1.length with h | h; exact heq i (by omega); rw [List.getElem?_eq_none h, List.getElem?_eq_none (by omega)]), E⟩
end Go.Proofs
namespace Go.Proofs
open Go Go.Eng
abbrev Ed := Int × Int × List Sp
structure Nf where
 states : Int
 start : Int
 ends : List Int
 eps : List (Int × Int)
 edges : List Ed
inductive EpsR (eps : List (Int × Int)) : Int → Int → Prop
  | refl (s : Int) : EpsR eps s s
  | tail {s t u : Int} : EpsR eps s t → (t, u) ∈ eps → EpsR eps s u
theorem EpsR.trans {eps : List (Int × Int)} {s t u : Int} (h : EpsR eps s t) (k : EpsR eps t u) : EpsR eps s u := by
  induction k with
  | refl => exact h
  | tail _ h2 ih => exact .tail ih h2
theorem EpsR.head {eps : List (Int × Int)} {s t u : Int} (h : (s, t) ∈ eps) (k : EpsR eps t u) : EpsR eps s u := (EpsR.tail (.refl s) h).trans k
inductive Pth (n : Nf) : Int → List Int → Int → Prop
  | nil (s : Int) : Pth n s [] s
  | eps {s t u : Int} {w : List Int} : (s, t) ∈ n.eps → Pth n t w u → Pth n s w u
  | edge {s t u c : Int} {z : List Sp} {w : List Int} : (s, t, z) ∈ n.edges → inS z c = true → Pth n t w u → Pth n s (c :: w) u
def Acc (n : Nf) (w : List Int) : Prop := ∃ e ∈ n.ends, Pth n n.start w e
def cloP (eps : List (Int × Int)) (I : Int → Prop) : Int → Prop := fun t => ∃ s, I s ∧ EpsR eps s t
def stpP (n : Nf) (I : Int → Prop) (c : Int) : Int → Prop := fun t => ∃ e ∈ n.edges, I e.1 ∧ inS e.2.2 c = true ∧ e.2.1 = t
def setP (n : Nf) (I : Int → Prop) (w : List Int) : Int → Prop := w.foldl (fun J c => cloP n.eps (stpP n J c)) I
theorem cloP_self {eps : List (Int × Int)} {I : Int → Prop} {s : Int} (h : I s) : cloP eps I s := ⟨s, h, .refl s⟩
theorem cloP_step {eps : List (Int × Int)} {I : Int → Prop} {s t : Int} (h : cloP eps I s) (k : EpsR eps s t) : cloP eps I t := by
 obtain ⟨r, h1, h2⟩ := h; exact ⟨r, h1, h2.trans k⟩
theorem EpsR.pth {n : Nf} {s t u : Int} {w : List Int} (h : EpsR n.eps s t) : Pth n t w u → Pth n s w u := by
  induction h with
  | refl => exact id
  | tail _ k ih => exact fun h => ih (.eps k h)
theorem pth_nil {n : Nf} {s t : Int} {w : List Int} (h : Pth n s w t) (hw : w = []) : EpsR n.eps s t := by
  induction h with
  | nil s => exact .refl s
  | eps h _ ih => exact .head h (ih hw)
  | edge => cases hw
theorem pth_cons {n : Nf} {s t c : Int} {v w : List Int} (h : Pth n s v t) (hv : v = c :: w) : ∃ a e, EpsR n.eps s a ∧ e ∈ n.edges ∧ e.1 = a ∧ inS e.2.2 c = true ∧ Pth n e.2.1 w t := by
  induction h with
  | nil s => cases hv
  | eps h _ ih =>
    obtain ⟨a, e, h1, h2⟩ := ih hv
    exact ⟨a, e, .head h h1, h2⟩
  | @edge s t u c' z w' h hc hp _ =>
    cases hv
    exact ⟨s, (s, t, z), .refl s, h, rfl, hc, hp⟩
theorem setP_pth (n : Nf) (t : Int) : ∀ (w : List Int) (I : Int → Prop), (∀ a b, I a → EpsR n.eps a b → I b) → (setP n I w t ↔ ∃ s, I s ∧ Pth n s w t)
  | [], I, hI => by
    constructor
    · exact fun h => ⟨t, h, .nil t⟩
    · rintro ⟨s, h1, h2⟩
      exact hI s t h1 (pth_nil h2 rfl)
  | c :: w, I, hI => by
    have ih := setP_pth n t w (cloP n.eps (stpP n I c)) (fun a b h k => cloP_step h k)
    show setP n (cloP n.eps (stpP n I c)) w t ↔ _
    rw [ih]
    constructor
    · rintro ⟨s, ⟨r, ⟨e, he, hi, hc, hr⟩, hk⟩, hp⟩
      subst hr
      exact ⟨e.1, hi, .edge (z := e.2.2) he hc (hk.pth hp)⟩
    · rintro ⟨s, hi, hp⟩
      obtain ⟨a, e, h1, h2, h3, h4, h5⟩ := pth_cons hp rfl
      exact ⟨e.2.1, cloP_self ⟨e, h2, by rw [h3]; exact hI s a hi h1, h4, rfl⟩, h5⟩
theorem acc_set (n : Nf) (w : List Int) : Acc n w ↔ ∃ e ∈ n.ends, setP n (cloP n.eps fun s => s = n.start) w e := by
 unfold Acc
 have h := fun e => setP_pth n e w (cloP n.eps fun s => s = n.start) (fun a b h k => cloP_step h k)
 constructor
 ·rintro ⟨e, he, hp⟩
  exact ⟨e, he, (h e).2 ⟨n.start, cloP_self rfl, hp⟩⟩
 ·rintro ⟨e, he, hp⟩
  obtain ⟨s, ⟨r, h1, h2⟩, h3⟩ := (h e).1 hp
  exact ⟨e, he, by rw [← h1]; exact h2.pth h3⟩
def MarkOf (m : List Bool) (I : Int → Prop) : Prop := ∀ k : Nat, k < m.length → (m[k]? = some true ↔ I (k : Int))
/-- Closing under way: w waits, the states of o are at work. -/
structure CloSt (eps : List (Int × Int)) (n : Nat) (I : Int → Prop) (m : List Bool) (w o : List Int) : Prop where
 len : m.length = n
 mkd : ∀ k : Nat, m[k]? = some true → cloP eps I k
 st : ∀ k : Nat, k < n → I k → m[k]? = some true
 wm : ∀ s ∈ w, ∃ k : Nat, s = (k : Int) ∧ m[k]? = some true
 cl : ∀ k : Nat, m[k]? = some true → (k : Int) ∈ w ∨ (k : Int) ∈ o ∨ ∀ u : Nat, ((k : Int), (u : Int)) ∈ eps → m[u]? = some true
def cntT (m : List Bool) : Nat := m.countP fun b => !b
theorem cntT_set {m : List Bool} {k : Nat} (h : m[k]? = some false) : cntT (m.set k true) + 1 = cntT m := by
  induction m generalizing k with
  | nil => simp at h
  | cons b m ih =>
    cases k with
    | zero => simp at h; subst h; simp [cntT]
    | succ k =>
      have := ih (k := k) (by simpa using h)
      simp only [cntT, List.set_cons_succ, List.countP_cons] at this ⊢
      omega
theorem CloSt.start {eps : List (Int × Int)} {n : Nat} {m : List Bool} {I : Int → Prop} (hl : m.length = n) (h : MarkOf m I) {w : List Int} (hw : ∀ k : Nat, m[k]? = some true → (k : Int) ∈ w) (hw2 : ∀ s ∈ w, ∃ k : Nat, s = (k : Int) ∧ m[k]? = some true) : CloSt eps n I m w [] :=
 ⟨hl, fun k hk => cloP_self ((h k (lt_of_get hk)).1 hk), fun k hk hi => (h k (by omega)).2 hi, hw2, fun k hk => .inl (hw k hk)⟩
theorem CloSt.fin {eps : List (Int × Int)} {n : Nat} {m : List Bool} {I : Int → Prop} (h : CloSt eps n I m [] []) (hI : ∀ s, I s → 0 ≤ s ∧ s < n) (he : ∀ p ∈ eps, 0 ≤ p.2 ∧ p.2 < n) : MarkOf m (cloP eps I) := by
  intro k hk
  constructor
  · exact h.mkd k
  · rintro ⟨s, hs, hr⟩
    have : ∀ t, EpsR eps s t → ∃ u : Nat, t = (u : Int) ∧ m[u]? = some true := by
      intro t ht
      induction ht with
      | refl =>
        obtain ⟨h1, h2⟩ := hI s hs
        refine ⟨s.toNat, by omega, h.st _ (by omega) ?_⟩
        rw [Int.toNat_of_nonneg h1]; exact hs
      | @tail t u _ hp ih =>
        obtain ⟨q, rfl, hq⟩ := ih
        obtain ⟨h1, h2⟩ := he _ hp
        refine ⟨u.toNat, by omega, ?_⟩
        rcases h.cl q hq with h3 | h3 | h3
        · cases h3
        · cases h3
        · refine h3 u.toNat ?_
          rw [Int.toNat_of_nonneg h1]; exact hp
    obtain ⟨u, hu, hm⟩ := this _ hr
    rw [show k = u by omega]; exact hm
/-- The last of those that wait is taken. -/
theorem CloSt.pop {eps : List (Int × Int)} {n : Nat} {m : List Bool} {I : Int → Prop} {w : List Int} {s : Int} (h : CloSt eps n I m (w ++ [s]) []) : CloSt eps n I m w [s] :=
 ⟨h.len, h.mkd, h.st, fun t ht => h.wm t (List.mem_append_left _ ht), fun k hk => by
  rcases h.cl k hk with h1 | h1 | h1
  ·rcases List.mem_append.1 h1 with h2 | h2
   ·exact .inl h2
   ·exact .inr (.inl h2)
  ·cases h1
  ·exact .inr (.inr h1)⟩
theorem CloSt.mark {eps : List (Int × Int)} {n : Nat} {m : List Bool} {I : Int → Prop} {w : List Int} {s : Int} (h : CloSt eps n I m w [s]) {t : Nat} (ht : t < n) (hs : ∃ k : Nat, s = (k : Int) ∧ m[k]? = some true) (hp : (s, (t : Int)) ∈ eps) : CloSt eps n I (m.set t true) (w ++ [(t : Int)]) [s] := by
 have hg : ∀ k : Nat, (m.set t true)[k]? = some true ↔ (k = t ∨ m[k]? = some true) := by
  intro k
  rw [List.getElem?_set]
  by_cases e : t = k
  ·subst e; rw [if_pos rfl, if_pos (by rw [h.len]; exact ht)]; simp
  ·rw [if_neg e]; constructor
   ·exact .inr
   ·rintro (h1 | h1)
    ·exact absurd h1.symm e
    ·exact h1
 refine ⟨by rw [List.length_set]; exact h.len, fun k hk => ?_, fun k hk hi => (hg k).2 (.inr (h.st k hk hi)), fun u hu => ?_, fun k hk => ?_⟩
 ·rcases (hg k).1 hk with rfl | h1
  ·obtain ⟨q, rfl, hq⟩ := hs
   exact cloP_step (h.mkd q hq) (.tail (.refl _) hp)
  ·exact h.mkd k h1
 ·rcases List.mem_append.1 hu with h1 | h1
  ·obtain ⟨k, rfl, hk⟩ := h.wm u h1
   exact ⟨k, rfl, (hg k).2 (.inr hk)⟩
  ·exact ⟨t, List.mem_singleton.1 h1, (hg t).2 (.inl rfl)⟩
 ·rcases (hg k).1 hk with rfl | h1
  ·exact .inl (List.mem_append_right _ (List.mem_singleton_self _))
  ·rcases h.cl k h1 with h2 | h2 | h2
   ·exact .inl (List.mem_append_left _ h2)
   ·exact .inr (.inl h2)
   ·exact .inr (.inr fun u hu => (hg u).2 (.inr (h2 u hu)))
theorem CloSt.done {eps : List (Int × Int)} {n : Nat} {m : List Bool} {I : Int → Prop} {w : List Int} {s : Int} (h : CloSt eps n I m w [s]) (hp : ∀ u : Nat, (s, (u : Int)) ∈ eps → m[u]? = some true) : CloSt eps n I m w [] :=
 ⟨h.len, h.mkd, h.st, h.wm, fun k hk => by
  rcases h.cl k hk with h1 | h1 | h1
  ·exact .inl h1
  ·rw [List.mem_singleton.1 h1]; exact .inr (.inr hp)
  ·exact .inr (.inr h1)⟩
/-- What follows a state, in order. -/
def sucL (eps : List (Int × Int)) (s : Nat) : List Int := (eps.filter fun p => p.1 == (s : Int)).map (·.2)
theorem sucL_mem {eps : List (Int × Int)} {s : Nat} {t : Int} : t ∈ sucL eps s ↔ ((s : Int), t) ∈ eps := by
 unfold sucL
 simp only [List.mem_map, List.mem_filter, beq_iff_eq]
 constructor
 ·rintro ⟨⟨a, b⟩, ⟨h1, h2⟩, h3⟩
  simp only at h2 h3
  rw [← h2, ← h3]; exact h1
 ·exact fun h => ⟨((s : Int), t), ⟨h, rfl⟩, rfl⟩
theorem sucL_snoc {eps : List (Int × Int)} {p : Int × Int} {a s : Nat} (h : p.1 = (a : Int)) : sucL (eps ++ [p]) s = if s = a then sucL eps s ++ [p.2] else sucL eps s := by
 unfold sucL
 rw [List.filter_append, List.map_append]
 by_cases e : s = a
 ·subst e; rw [if_pos rfl]; simp [h]
 ·rw [if_neg e]
  have : ((p.1 == (s : Int)) = false) := by rw [h]; simp; omega
  simp [this]
theorem sucL_len (eps : List (Int × Int)) (s : Nat) : (sucL eps s).length ≤ eps.length := by
 unfold sucL; rw [List.length_map]; exact List.length_filter_le _ _
end Go.Proofs
namespace Go.Proofs
open Go Go.Eng
/-- What is built so far: the number of states, the steps for nothing, the edges. -/
structure ThS where
 n : Nat
 eps : List (Int × Int)
 edges : List Ed
abbrev TF := ThS → Option (ThS × Nat × Nat)
def newT (s : ThS) : Option (ThS × Nat) := if 500 < s.n + 1 then none else some (⟨s.n + 1, s.eps, s.edges⟩, s.n)
def epsT (s : ThS) (a b : Nat) : ThS := ⟨s.n, s.eps ++ [((a : Int), (b : Int))], s.edges⟩
def edgeT (s : ThS) (a b : Nat) (z : List Sp) : ThS := ⟨s.n, s.eps, s.edges ++ [((a : Int), (b : Int), z)]⟩
def catT : List TF → ThS → Nat → Option (ThS × Nat)
  | [], s, b => some (s, b)
  | f :: fs, s, b => (f s).bind fun (s1, x, y) => catT fs (epsT s1 b x) y
def altT (e : Nat) : List TF → ThS → Nat → Option ThS
  | [], s, _ => some s
  | f :: fs, s, a => (f s).bind fun (s1, x, y) =>
    if 2 ≤ fs.length then (newT (epsT (epsT s1 a x) y e)).bind fun (s2, q) => altT e fs (epsT s2 a q) q
    else altT e fs (epsT (epsT s1 a x) y e) a
def copyT (f : TF) (s : ThS) (b : Nat) (out : Bool) : Option (ThS × Nat) :=
 (f s).bind fun (s1, x, y) =>
  if out then (newT (epsT s1 b x)).bind fun (s2, e) => some (epsT (epsT s2 b e) y e, e)
  else some (epsT s1 b x, y)
/-- k copies are made, of which those before mn must be. -/
def repT (f : TF) (mn : Int) (s : ThS) (b : Nat) : Nat → Option (ThS × Nat)
  | 0 => some (s, b)
  | k + 1 => (repT f mn s b k).bind fun (s1, b1) => copyT f s1 b1 (decide (mn ≤ (k : Int)))
def nodeT (k : Int) (z : List Sp) (mn mx : Int) (fs : List TF) : TF := fun s =>
 (newT s).bind fun (s1, a) =>
  if k = 0 then (newT s1).bind fun (s2, b) => some (s2, a, b)
  else if k = 1 then some (s1, a, a)
  else if k = 2 then (newT s1).bind fun (s2, b) => some (edgeT s2 a b z, a, b)
  else if k = 3 then (catT fs s1 a).bind fun (s2, b) => some (s2, a, b)
  else if k = 4 then (newT s1).bind fun (s2, e) => (altT e fs s2 a).bind fun s3 => some (s3, a, e)
  else if k = 9 then (match fs with | f :: _ => (f s1).bind fun (s2, x, y) => some (epsT s2 a x, a, y) | [] => none)
  else if k = 5 then (match fs with | f :: _ => (f s1).bind fun (s2, x, y) => (newT s2).bind fun (s3, e) => some (epsT (epsT (epsT s3 a x) a e) y a, a, e) | [] => none)
  else (match fs with | f :: _ => (repT f mn s1 a mx.toNat).bind fun (s2, b) => some (s2, a, b) | [] => if mx ≤ 0 then some (s1, a, a) else none)
mutual
def tmO : Re → TF
  | .mk k z a mn mx _ => nodeT k z mn mx (tmL a)
def tmL : List Re → List TF
  | [] => []
  | x :: l => tmO x :: tmL l
end
theorem tmL_map : ∀ l : List Re, tmL l = l.map tmO
  | [] => rfl
  | x :: l => by rw [tmL, tmL_map l]; rfl
def epN (s : ThS) (q : Int) : Nat := s.eps.countP fun p => p.1 == q
def edN (s : ThS) (q : Int) : Nat := s.edges.countP fun e => e.1 == q
/-- The states that begin steps are few-branched, and there. -/
structure Shp (Z : List Sp → Prop) (s : ThS) : Prop where
 nl : s.n ≤ 500
 ep : ∀ p ∈ s.eps, (0 ≤ p.1 ∧ p.1 < s.n) ∧ 0 ≤ p.2 ∧ p.2 < s.n
 ed : ∀ e ∈ s.edges, (0 ≤ e.1 ∧ e.1 < s.n) ∧ (0 ≤ e.2.1 ∧ e.2.1 < s.n) ∧ Z e.2.2
 dg : ∀ q : Nat, edN s q ≤ 1 ∧ epN s q ≤ 2 ∧ ¬ (0 < edN s q ∧ 0 < epN s q)
def zero (s : ThS) (q : Nat) : Prop := epN s q = 0 ∧ edN s q = 0
/-- A step of building: no old state begins more steps, apart from a. -/
structure Stp (Z : List Sp → Prop) (s s' : ThS) (a : Nat) : Prop where
 sh : Shp Z s'
 le : s.n ≤ s'.n
 old : ∀ q : Nat, q < s.n → q ≠ a → epN s' q = epN s q ∧ edN s' q = edN s q
def FragOk (Z : List Sp → Prop) (f : TF) : Prop := ∀ s s' a b, Shp Z s → f s = some (s', a, b) → Stp Z s s' s.n ∧ a = s.n ∧ s.n < s'.n ∧ b < s'.n ∧ s.n ≤ b ∧ zero s' b
theorem edN_nil {Z : List Sp → Prop} {s : ThS} (h : Shp Z s) {q : Nat} (hq : s.n ≤ q) : zero s q := by
 constructor
 ·unfold epN; rw [List.countP_eq_zero]
  intro p hp; have := (h.ep p hp).1; simp only [beq_iff_eq]; omega
 ·unfold edN; rw [List.countP_eq_zero]
  intro p hp; have := (h.ed p hp).1; simp only [beq_iff_eq]; omega
theorem epN_eps (s : ThS) (a b : Nat) (q : Nat) : epN (epsT s a b) q = epN s q + (if q = a then 1 else 0) := by
 unfold epN epsT
 rw [List.countP_append, List.countP_singleton]
 congr 1
 by_cases h : q = a
 ·subst h; simp
 ·rw [if_neg h]; simp; omega
theorem edN_eps (s : ThS) (a b : Nat) (q : Int) : edN (epsT s a b) q = edN s q := rfl
theorem Shp.eps {Z : List Sp → Prop} {s : ThS} (h : Shp Z s) {a b : Nat} (ha : a < s.n) (hb : b < s.n) (h1 : epN s a ≤ 1) (h2 : edN s a = 0) : Shp Z (epsT s a b) := by
 refine ⟨h.nl, fun p hp => ?_, h.ed, fun q => ?_⟩
 ·rcases List.mem_append.1 hp with h3 | h3
  ·exact h.ep p h3
  ·rw [List.mem_singleton.1 h3]
   show (0 ≤ (a : Int) ∧ (a : Int) < (s.n : Int)) ∧ 0 ≤ (b : Int) ∧ (b : Int) < (s.n : Int)
   omega
 ·rw [epN_eps, edN_eps]
  have := h.dg q
  split
  ·rename_i e; subst e; omega
  ·omega
theorem newT_some {s s' : ThS} {a : Nat} (h : newT s = some (s', a)) : a = s.n ∧ s' = ⟨s.n + 1, s.eps, s.edges⟩ ∧ s.n + 1 ≤ 500 := by
 unfold newT at h
 split at h
 ·cases h
 ·cases h; exact ⟨rfl, rfl, by omega⟩
theorem Shp.new {Z : List Sp → Prop} {s s' : ThS} {a : Nat} (h : Shp Z s) (e : newT s = some (s', a)) : Shp Z s' ∧ a = s.n ∧ s'.n = s.n + 1 ∧ (∀ q : Nat, epN s' q = epN s q ∧ edN s' q = edN s q) ∧ zero s' a := by
 obtain ⟨rfl, rfl, hn⟩ := newT_some e
 have hz := edN_nil h (Nat.le_refl s.n)
 refine ⟨⟨hn, fun p hp => ?_, fun p hp => ?_, h.dg⟩, rfl, rfl, fun q => ⟨rfl, rfl⟩, hz⟩
 ·have := h.ep p hp
  show (0 ≤ p.1 ∧ p.1 < ((s.n + 1 : Nat) : Int)) ∧ 0 ≤ p.2 ∧ p.2 < ((s.n + 1 : Nat) : Int)
  omega
 ·have := h.ed p hp
  show (0 ≤ p.1 ∧ p.1 < ((s.n + 1 : Nat) : Int)) ∧ (0 ≤ p.2.1 ∧ p.2.1 < ((s.n + 1 : Nat) : Int)) ∧ Z p.2.2
  exact ⟨by omega, by omega, this.2.2⟩
/-- A fragment is built behind b, which begins nothing yet or one step. -/
theorem frag_at {Z : List Sp → Prop} {f : TF} (hf : FragOk Z f) {s s1 : ThS} {x y b : Nat} (h : Shp Z s) (e : f s = some (s1, x, y)) (hb : b < s.n) (h1 : epN s b ≤ 1) (h2 : edN s b = 0) :
  Shp Z (epsT s1 b x) ∧ s.n < s1.n ∧ x = s.n ∧ s.n ≤ y ∧ y < s1.n ∧ zero (epsT s1 b x) y ∧ (∀ q : Nat, q < s.n → epN (epsT s1 b x) q = epN s q + (if q = b then 1 else 0) ∧ edN (epsT s1 b x) q = edN s q) := by
 obtain ⟨k1, k2, k3, k4, k5, k6⟩ := hf s s1 x y h e
 have ho := fun q hq => k1.old q hq (by omega : q ≠ s.n)
 have hob := ho b hb
 refine ⟨k1.sh.eps (by omega) (by omega) (by omega) (by omega), k3, k2, k5, k4, ⟨?_, k6.2⟩, fun q hq => ⟨?_, (ho q hq).2⟩⟩
 ·rw [epN_eps, if_neg (by omega), k6.1]
 ·rw [epN_eps, (ho q hq).1]
theorem cat_ok {Z : List Sp → Prop} : ∀ (fs : List TF), (∀ f ∈ fs, FragOk Z f) → ∀ (s s' : ThS) (a b b' : Nat), Shp Z s → catT fs s b = some (s', b') → b < s.n → a ≤ b → zero s b → (∀ q : Nat, q < s.n → q ≠ b → True) →
    Shp Z s' ∧ s.n ≤ s'.n ∧ b' < s'.n ∧ (b' = b ∨ s.n ≤ b') ∧ zero s' b' ∧ (∀ q : Nat, q < s.n → q ≠ b → epN s' q = epN s q ∧ edN s' q = edN s q)
  | [], _, s, s', a, b, b', h, e, hb, hab, hz, _ => by
    simp only [catT, Option.some.injEq, Prod.mk.injEq] at e
    obtain ⟨rfl, rfl⟩ := e
    exact ⟨h, Nat.le_refl _, hb, .inl rfl, hz, fun q _ _ => ⟨rfl, rfl⟩⟩
  | f :: fs, hf, s, s', a, b, b', h, e, hb, hab, hz, _ => by
    rw [catT] at e
    obtain ⟨⟨s1, x, y⟩, e1, e2⟩ := Option.bind_eq_some_iff.1 e
    simp only at e2
    obtain ⟨k1, k2, k3, k4, k5, k6, k7⟩ := frag_at (hf f List.mem_cons_self) h e1 hb (by rw [hz.1]; omega) hz.2
    obtain ⟨m1, m2, m3, m4, m5, m6⟩ := cat_ok fs (fun g hg => hf g (List.mem_cons_of_mem _ hg)) _ _ 0 _ _ k1 e2 k5 (Nat.zero_le _) k6 (fun _ _ _ => trivial)
    have hn : (epsT s1 b x).n = s1.n := rfl
    rw [hn] at m2 m4 m6
    refine ⟨m1, by omega, m3, by omega, m5, fun q hq hqb => ?_⟩
    have h1 := m6 q (by omega) (by omega)
    have h2 := k7 q hq
    rw [if_neg hqb] at h2
    omega
theorem alt_ok {Z : List Sp → Prop} (e : Nat) : ∀ (fs : List TF), (∀ f ∈ fs, FragOk Z f) → ∀ (s s' : ThS) (a : Nat), Shp Z s → altT e fs s a = some s' → a < s.n → e < s.n → e ≠ a → edN s a = 0 → epN s a + min fs.length 2 ≤ 2 → zero s e →
    Shp Z s' ∧ s.n ≤ s'.n ∧ zero s' e ∧ (∀ q : Nat, q < s.n → q ≠ a → epN s' q = epN s q ∧ edN s' q = edN s q)
  | [], _, s, s', a, h, h1, _, _, _, _, _, hz => by
    simp only [altT, Option.some.injEq] at h1
    subst h1
    exact ⟨h, Nat.le_refl _, hz, fun q _ _ => ⟨rfl, rfl⟩⟩
  | f :: fs, hf, s, s', a, h, h1, ha, he, hea, hda, hpa, hz => by
    rw [altT] at h1
    obtain ⟨⟨s1, x, y⟩, e1, e2⟩ := Option.bind_eq_some_iff.1 h1
    simp only at e2
    rw [List.length_cons] at hpa
    obtain ⟨k1, k2, k3, k4, k5, k6, k7⟩ := frag_at (hf f List.mem_cons_self) h e1 ha (by omega) hda
    have hn : (epsT s1 a x).n = s1.n := rfl
    have hke := k7 e he
    rw [if_neg hea] at hke
    have hka := k7 a ha
    rw [if_pos rfl] at hka
    have k8 := k1.eps (a := y) (b := e) (by omega) (by omega) (by rw [k6.1]; omega) k6.2
    have k9 : ∀ q : Nat, q < s.n → epN (epsT (epsT s1 a x) y e) q = epN s q + (if q = a then 1 else 0) ∧ edN (epsT (epsT s1 a x) y e) q = edN s q := by
      intro q hq
      have := k7 q hq
      rw [epN_eps, edN_eps, if_neg (by omega)]
      omega
    have hn2 : (epsT (epsT s1 a x) y e).n = s1.n := rfl
    have ih := alt_ok (Z := Z) e fs (fun g hg => hf g (List.mem_cons_of_mem _ hg))
    split at e2
    · rename_i hlen
      obtain ⟨⟨s2, q0⟩, e3, e4⟩ := Option.bind_eq_some_iff.1 e2
      simp only at e4
      obtain ⟨n1, n2, n3, n4, n5⟩ := k8.new e3
      have ha9 := k9 a ha
      rw [if_pos rfl] at ha9
      have he9 := k9 e he
      rw [if_neg hea] at he9
      have n6 := n1.eps (a := a) (b := q0) (by omega) (by omega) (by rw [(n4 a).1]; omega) (by rw [(n4 a).2]; omega)
      have hn3 : (epsT s2 a q0).n = s2.n := rfl
      have hq0 : epN (epsT s2 a q0) q0 = 0 ∧ edN (epsT s2 a q0) q0 = 0 := ⟨by rw [epN_eps, if_neg (by omega)]; exact n5.1, n5.2⟩
      obtain ⟨m1, m2, m3, m4⟩ := ih _ _ _ n6 e4 (by omega) (by omega) (by omega) hq0.2 (by rw [hq0.1]; omega) ⟨by rw [epN_eps, if_neg (by omega), (n4 e).1, he9.1, hz.1], by rw [edN_eps, (n4 e).2, he9.2, hz.2]⟩
      refine ⟨m1, by omega, m3, fun q hq hqa => ?_⟩
      have g1 := m4 q (by omega) (by omega)
      have g2 := n4 q
      have g3 := k9 q hq
      rw [if_neg hqa] at g3
      rw [epN_eps, edN_eps, if_neg hqa] at g1
      omega
    · rename_i hlen
      have ha9 := k9 a ha
      rw [if_pos rfl] at ha9
      have he9 := k9 e he
      rw [if_neg hea] at he9
      obtain ⟨m1, m2, m3, m4⟩ := ih _ _ _ k8 e2 (by omega) (by omega) hea (by omega) (by omega) ⟨by rw [he9.1, hz.1], by rw [he9.2, hz.2]⟩
      refine ⟨m1, by omega, m3, fun q hq hqa => ?_⟩
      have g1 := m4 q (by omega) hqa
      have g3 := k9 q hq
      rw [if_neg hqa] at g3
      omega
theorem copy_ok {Z : List Sp → Prop} {f : TF} (hf : FragOk Z f) {s s' : ThS} {b b' : Nat} {out : Bool} (h : Shp Z s) (e : copyT f s b out = some (s', b')) (hb : b < s.n) (hz : zero s b) :
  Shp Z s' ∧ s.n ≤ s'.n ∧ b' < s'.n ∧ s.n ≤ b' ∧ zero s' b' ∧ (∀ q : Nat, q < s.n → q ≠ b → epN s' q = epN s q ∧ edN s' q = edN s q) := by
 unfold copyT at e
 obtain ⟨⟨s1, x, y⟩, e1, e2⟩ := Option.bind_eq_some_iff.1 e
 simp only at e2
 obtain ⟨k1, k2, k3, k4, k5, k6, k7⟩ := frag_at hf h e1 hb (by rw [hz.1]; omega) hz.2
 have hn : (epsT s1 b x).n = s1.n := rfl
 split at e2
 ·obtain ⟨⟨s2, q0⟩, e3, e4⟩ := Option.bind_eq_some_iff.1 e2
  simp only [Option.some.injEq, Prod.mk.injEq] at e4
  obtain ⟨rfl, rfl⟩ := e4
  obtain ⟨n1, n2, n3, n4, n5⟩ := k1.new e3
  have hb7 := k7 b hb
  rw [if_pos rfl] at hb7
  have n6 := n1.eps (a := b) (b := q0) (by omega) (by omega) (by rw [(n4 b).1, hb7.1, hz.1]; omega) (by rw [(n4 b).2, hb7.2, hz.2])
  have hn3 : (epsT s2 b q0).n = s2.n := rfl
  have n7 := n6.eps (a := y) (b := q0) (by omega) (by omega) (by rw [epN_eps, if_neg (by omega), (n4 y).1, k6.1]; omega) (by rw [edN_eps, (n4 y).2, k6.2])
  have hn4 : (epsT (epsT s2 b q0) y q0).n = s2.n := rfl
  refine ⟨n7, by omega, by omega, by omega, ⟨by rw [epN_eps, epN_eps, if_neg (by omega), if_neg (by omega)]; exact n5.1, n5.2⟩, fun q hq hqb => ?_⟩
  have g1 := k7 q hq
  rw [if_neg hqb] at g1
  have g2 := n4 q
  rw [epN_eps, epN_eps, edN_eps, edN_eps, if_neg hqb, if_neg (by omega)]
  omega
 ·simp only [Option.some.injEq, Prod.mk.injEq] at e2
  obtain ⟨rfl, rfl⟩ := e2
  refine ⟨k1, by omega, by omega, k4, k6, fun q hq hqb => ?_⟩
  have g1 := k7 q hq
  rw [if_neg hqb] at g1
  omega
theorem rep_ok {Z : List Sp → Prop} {f : TF} (hf : FragOk Z f) {mn : Int} {s : ThS} {b : Nat} (h : Shp Z s) (hb : b < s.n) (hz : zero s b) : ∀ (k : Nat) (s' : ThS) (b' : Nat), repT f mn s b k = some (s', b') →
    Shp Z s' ∧ s.n ≤ s'.n ∧ b' < s'.n ∧ (b' = b ∨ s.n ≤ b') ∧ zero s' b' ∧ (∀ q : Nat, q < s.n → q ≠ b → epN s' q = epN s q ∧ edN s' q = edN s q)
  | 0, s', b', e => by
    simp only [repT, Option.some.injEq, Prod.mk.injEq] at e
    obtain ⟨rfl, rfl⟩ := e
    exact ⟨h, Nat.le_refl _, hb, .inl rfl, hz, fun q _ _ => ⟨rfl, rfl⟩⟩
  | k + 1, s', b', e => by
    rw [repT] at e
    obtain ⟨⟨s1, b1⟩, e1, e2⟩ := Option.bind_eq_some_iff.1 e
    simp only at e2
    obtain ⟨k1, k2, k3, k4, k5, k6⟩ := rep_ok hf h hb hz k s1 b1 e1
    obtain ⟨m1, m2, m3, m4, m5, m6⟩ := copy_ok hf k1 e2 k3 k5
    refine ⟨m1, by omega, m3, by omega, m5, fun q hq hqb => ?_⟩
    have g1 := k6 q hq hqb
    have g2 := m6 q (by omega) (by omega)
    omega
theorem node_frag {Z : List Sp → Prop} {k : Int} {z : List Sp} {mn mx : Int} {fs : List TF} (hz : k = 2 → Z z) (hf : ∀ f ∈ fs, FragOk Z f) : FragOk Z (nodeT k z mn mx fs) := by
  intro s s' a b h e
  unfold nodeT at e
  obtain ⟨⟨s1, a1⟩, e1, e2⟩ := Option.bind_eq_some_iff.1 e
  simp only at e2
  obtain ⟨n1, n2, n3, n4, n5⟩ := h.new e1
  subst n2
  have old : ∀ s2 : ThS, Shp Z s2 → s1.n ≤ s2.n → (∀ q : Nat, q < s1.n → q ≠ s.n → epN s2 q = epN s1 q ∧ edN s2 q = edN s1 q) → Stp Z s s2 s.n := fun s2 g1 g2 g3 => ⟨g1, by omega, fun q hq hqa => by
    have g4 := g3 q (by omega) hqa
    have g5 := n4 q
    omega⟩
  split at e2
  · obtain ⟨⟨s2, b2⟩, e3, e4⟩ := Option.bind_eq_some_iff.1 e2
    simp only [Option.some.injEq, Prod.mk.injEq] at e4
    obtain ⟨rfl, rfl, rfl⟩ := e4
    obtain ⟨m1, m2, m3, m4, m5⟩ := n1.new e3
    exact ⟨old _ m1 (by omega) fun q _ _ => m4 q, rfl, by omega, by omega, by omega, m5⟩
  split at e2
  · simp only [Option.some.injEq, Prod.mk.injEq] at e2
    obtain ⟨rfl, rfl, rfl⟩ := e2
    exact ⟨old _ n1 (Nat.le_refl _) fun q _ _ => ⟨rfl, rfl⟩, rfl, by omega, by omega, Nat.le_refl _, n5⟩
  split at e2
  · rename_i hk
    obtain ⟨⟨s2, b2⟩, e3, e4⟩ := Option.bind_eq_some_iff.1 e2
    simp only [Option.some.injEq, Prod.mk.injEq] at e4
    obtain ⟨rfl, rfl, rfl⟩ := e4
    obtain ⟨m1, m2, m3, m4, m5⟩ := n1.new e3
    have hed : ∀ q : Nat, edN (edgeT s2 s.n b2 z) q = edN s2 q + (if q = s.n then 1 else 0) := by
      intro q
      unfold edN edgeT
      rw [List.countP_append, List.countP_singleton]
      congr 1
      by_cases h : q = s.n
      · subst h; simp
      · rw [if_neg h]; simp; omega
    have hep : ∀ q : Nat, epN (edgeT s2 s.n b2 z) q = epN s2 q := fun q => rfl
    have h0 := m4 s.n
    refine ⟨old _ ⟨m1.nl, m1.ep, fun p hp => ?_, fun q => ?_⟩ (by show s1.n ≤ s2.n; omega) fun q _ hq => ?_, rfl, by show s.n < s2.n; omega, by show b2 < s2.n; omega, by omega, ⟨m5.1, ?_⟩⟩
    · rcases List.mem_append.1 hp with h3 | h3
      · exact m1.ed p h3
      · rw [List.mem_singleton.1 h3]
        refine ⟨?_, ?_, hz hk⟩
        · show 0 ≤ (s.n : Int) ∧ (s.n : Int) < (s2.n : Int); omega
        · show 0 ≤ (b2 : Int) ∧ (b2 : Int) < (s2.n : Int); omega
    · have := m1.dg q
      rw [hed, hep]
      split
      · rename_i e; subst e
        have := n5.1; have := n5.2
        omega
      · omega
    · have := m4 q
      rw [hed, hep, if_neg hq]
      omega
    · rw [hed, if_neg (by omega)]; exact m5.2
  split at e2
  · obtain ⟨⟨s2, b2⟩, e3, e4⟩ := Option.bind_eq_some_iff.1 e2
    simp only [Option.some.injEq, Prod.mk.injEq] at e4
    obtain ⟨rfl, rfl, rfl⟩ := e4
    obtain ⟨m1, m2, m3, m4, m5, m6⟩ := cat_ok fs hf _ _ 0 _ _ n1 e3 (by omega) (Nat.zero_le _) n5 (fun _ _ _ => trivial)
    exact ⟨old _ m1 m2 m6, rfl, by omega, m3, by omega, m5⟩
  split at e2
  · obtain ⟨⟨s2, b2⟩, e3, e4⟩ := Option.bind_eq_some_iff.1 e2
    simp only at e4
    obtain ⟨s3, e5, e6⟩ := Option.bind_eq_some_iff.1 e4
    simp only [Option.some.injEq, Prod.mk.injEq] at e6
    obtain ⟨rfl, rfl, rfl⟩ := e6
    obtain ⟨m1, m2, m3, m4, m5⟩ := n1.new e3
    have h0 := m4 s.n
    have hz5 := n5.1
    have hz6 := n5.2
    obtain ⟨q1, q2, q3, q4⟩ := alt_ok b2 fs hf _ _ _ m1 e5 (by omega) (by omega) (by omega) (by omega) (by omega) m5
    exact ⟨old _ q1 (by omega) fun q hq hqa => by have g1 := q4 q (by omega) hqa; have g2 := m4 q; omega, rfl, by omega, by omega, by omega, q3⟩
  split at e2
  · cases fs with
    | nil => cases e2
    | cons f fs =>
      simp only at e2
      obtain ⟨⟨s2, x, y⟩, e3, e4⟩ := Option.bind_eq_some_iff.1 e2
      simp only [Option.some.injEq, Prod.mk.injEq] at e4
      obtain ⟨rfl, rfl, rfl⟩ := e4
      obtain ⟨k1, k2, k3, k4, k5, k6, k7⟩ := frag_at (hf f List.mem_cons_self) n1 e3 (by omega) (by rw [n5.1]; omega) n5.2
      have hn : (epsT s2 s.n x).n = s2.n := rfl
      exact ⟨old _ k1 (by omega) fun q hq hqa => by have g := k7 q hq; rw [if_neg hqa] at g; omega, rfl, by omega, by omega, by omega, k6⟩
  split at e2
  · cases fs with
    | nil => cases e2
    | cons f fs =>
      simp only at e2
      obtain ⟨⟨s2, x, y⟩, e3, e4⟩ := Option.bind_eq_some_iff.1 e2
      simp only at e4
      obtain ⟨⟨s3, q0⟩, e5, e6⟩ := Option.bind_eq_some_iff.1 e4
      simp only [Option.some.injEq, Prod.mk.injEq] at e6
      obtain ⟨rfl, rfl, rfl⟩ := e6
      obtain ⟨k1, k2, k3, k4, k5, k6⟩ := hf f List.mem_cons_self s1 s2 x y n1 e3
      obtain ⟨m1, m2, m3, m4, m5⟩ := k1.sh.new e5
      have ho := k1.old s.n (by omega) (by omega)
      have hz5 := n5.1
      have hz6 := n5.2
      have h0 := m4 s.n
      have g1 := m1.eps (a := s.n) (b := x) (by omega) (by omega) (by omega) (by omega)
      have hn1 : (epsT s3 s.n x).n = s3.n := rfl
      have g2 := g1.eps (a := s.n) (b := q0) (by omega) (by omega) (by rw [epN_eps, if_pos rfl]; omega) (by rw [edN_eps]; omega)
      have hn2 : (epsT (epsT s3 s.n x) s.n q0).n = s3.n := rfl
      have hy := m4 y
      have hy1 := k6.1
      have hy2 := k6.2
      have g3 := g2.eps (a := y) (b := s.n) (by omega) (by omega) (by rw [epN_eps, epN_eps, if_neg (by omega)]; omega) (by rw [edN_eps, edN_eps]; omega)
      have hn3 : (epsT (epsT (epsT s3 s.n x) s.n q0) y s.n).n = s3.n := rfl
      refine ⟨old _ g3 (by omega) fun q hq hqa => ?_, rfl, by omega, by omega, by omega, ⟨by rw [epN_eps, epN_eps, epN_eps, if_neg (by omega), if_neg (by omega)]; exact m5.1, m5.2⟩⟩
      have t1 := k1.old q hq (by omega)
      have t2 := m4 q
      rw [epN_eps, epN_eps, epN_eps, edN_eps, edN_eps, edN_eps, if_neg hqa, if_neg (by omega)]
      omega
  · cases fs with
    | nil =>
      simp only at e2
      split at e2
      · simp only [Option.some.injEq, Prod.mk.injEq] at e2
        obtain ⟨rfl, rfl, rfl⟩ := e2
        exact ⟨old _ n1 (Nat.le_refl _) fun q _ _ => ⟨rfl, rfl⟩, rfl, by omega, by omega, Nat.le_refl _, n5⟩
      · cases e2
    | cons f fs =>
      simp only at e2
      obtain ⟨⟨s2, b2⟩, e3, e4⟩ := Option.bind_eq_some_iff.1 e2
      simp only [Option.some.injEq, Prod.mk.injEq] at e4
      obtain ⟨rfl, rfl, rfl⟩ := e4
      obtain ⟨m1, m2, m3, m4, m5, m6⟩ := rep_ok (hf f List.mem_cons_self) n1 (by omega) n5 _ _ _ e3
      exact ⟨old _ m1 m2 m6, rfl, by omega, m3, by omega, m5⟩
end Go.Proofs
namespace Go.Proofs
open Go Go.Eng
/-- What Check takes. -/
structure OkN (n : Nf) : Prop where
 st : n.states ≤ 500
 s0 : 0 ≤ n.start ∧ n.start < n.states
 el : n.ends.length ≤ 500
 pl : n.eps.length ≤ 20000
 xl : n.edges.length ≤ 20000
 en : ∀ s ∈ n.ends, 0 ≤ s ∧ s < n.states
 ep : ∀ p ∈ n.eps, (0 ≤ p.1 ∧ p.1 < n.states) ∧ 0 ≤ p.2 ∧ p.2 < n.states
 ed : ∀ e ∈ n.edges, (0 ≤ e.1 ∧ e.1 < n.states) ∧ (0 ≤ e.2.1 ∧ e.2.1 < n.states) ∧ checkE e.2.2 = 0
abbrev ZOk : List Sp → Prop := fun z => checkE z = 0
theorem node_chk {t : Re} (h : nodeE t = 0) (hk : t.kind = 2) : checkE t.set = 0 := by
 unfold nodeE at h
 split at h
 ·cases h
 split at h
 ·cases h
 split at h
 ·assumption
 ·rename_i hc
  exact Classical.byContradiction hc
mutual
theorem frag_all : ∀ t : Re, okRe t → FragOk ZOk (tmO t)
  | .mk k z a mn mx g, h => by
    rw [tmO]
    exact node_frag (fun hk => node_chk (okRe_node h) hk) (frag_list a (okRe_args h))
theorem frag_list : ∀ l : List Re, okRes l → ∀ f ∈ tmL l, FragOk ZOk f
  | [], _, f, hf => by cases hf
  | x :: l, h, f, hf => by
    rw [tmL] at hf
    simp only [okRes] at h
    rcases List.mem_cons.1 hf with rfl | h1
    · exact frag_all x h.1
    · exact frag_list l h.2 f h1
end
theorem len_count {α : Type} (key : α → Int) (m : Nat) : ∀ (n : Nat) (l : List α), (∀ x ∈ l, 0 ≤ key x ∧ key x < n) → (∀ q : Nat, l.countP (fun x => key x == (q : Int)) ≤ m) → l.length ≤ n * m
  | 0, l, h, _ => by
    cases l with
    | nil => simp
    | cons x l => have := h x List.mem_cons_self; omega
  | n + 1, l, h, hq => by
    have h1 := len_count key m n (l.filter fun x => !(key x == (n : Int))) (fun x hx => by
      rw [List.mem_filter] at hx
      have := h x hx.1
      have h2 : ¬ key x = (n : Int) := by simpa using hx.2
      omega) (fun q => Nat.le_trans (by rw [List.countP_filter]; exact List.countP_mono_left fun x _ hx => by simp only [Bool.and_eq_true] at hx; exact hx.1) (hq q))
    have h2 := hq n
    have h3 := List.length_eq_countP_add_countP (fun x => key x == (n : Int)) (l := l)
    rw [List.countP_eq_length_filter] at h2 h3
    rw [List.countP_eq_length_filter] at h3
    rw [Nat.add_mul, Nat.one_mul]
    have h4 : (l.filter fun x => decide ¬ (key x == (n : Int)) = true) = l.filter fun x => !(key x == (n : Int)) := by
      congr 1; funext x; by_cases e : key x = (n : Int) <;> simp [e]
    rw [h4] at h3
    omega
/-- The automaton that is built. -/
def nfT (s : ThS) (a b : Nat) : Nf := ⟨(s.n : Int), (a : Int), [(b : Int)], s.eps, s.edges⟩
theorem thom_ok {t : Re} (h : okRe t) {s : ThS} {a b : Nat} (e : tmO t ⟨0, [], []⟩ = some (s, a, b)) : OkN (nfT s a b) ∧ Shp ZOk s := by
 have h0 : Shp ZOk ⟨0, [], []⟩ := ⟨by simp, fun p hp => (by cases hp), fun p hp => (by cases hp), fun q => by simp [edN, epN]⟩
 obtain ⟨k1, k2, k3, k4, k5, k6⟩ := frag_all t h _ _ _ _ h0 e
 have hs := k1.sh
 have hn := hs.nl
 simp only at k2 k3
 have l1 := len_count (fun p : Int × Int => p.1) 2 s.n s.eps (fun p hp => (hs.ep p hp).1) (fun q => (hs.dg q).2.1)
 have l2 := len_count (fun p : Ed => p.1) 1 s.n s.edges (fun p hp => (hs.ed p hp).1) (fun q => (hs.dg q).1)
 refine ⟨⟨?_, ?_, ?_, ?_, ?_, fun x hx => ?_, hs.ep, hs.ed⟩, hs⟩
 ·show ((s.n : Nat) : Int) ≤ 500; omega
 ·show 0 ≤ ((a : Nat) : Int) ∧ ((a : Nat) : Int) < ((s.n : Nat) : Int); omega
 ·simp [nfT]
 ·show s.eps.length ≤ 20000; omega
 ·show s.edges.length ≤ 20000; omega
 ·rw [List.mem_singleton.1 hx]
  show 0 ≤ ((b : Nat) : Int) ∧ ((b : Nat) : Int) < ((s.n : Nat) : Int); omega
end Go.Proofs
namespace Go.Proofs
open Go Go.Eng Go.Sort
set_option maxRecDepth 100000
abbrev TEd : Nat := 76
abbrev TPr : Nat := 88
def edRow (e : Ed) (u : Value) : List Value := [.int .i64 e.1, .int .i64 e.2.1, u]
def EdgesAt (w : World) (v : Value) (es : List Ed) : Prop := ∃ rows : List (List Value), SlAt w 3 v rows ∧ rows.length = es.length ∧ ∀ (i : Nat) e row, es[i]? = some e → rows[i]? = some row → ∃ u, row = edRow e u ∧ SpansAt w u e.2.2
theorem EdgesAt.ext {w w' : World} {v : Value} {es : List Ed} (h : EdgesAt w v es) (x : Ext w w') : EdgesAt w' v es := by
 obtain ⟨rows, h1, h2, h3⟩ := h
 exact ⟨rows, h1.ext x, h2, fun i e row he hr => let ⟨u, h4, h5⟩ := h3 i e row he hr; ⟨u, h4, h5.ext x⟩⟩
theorem EdgesAt.form {w : World} {v : Value} {es : List Ed} (h : EdgesAt w v es) : ∃ a c, v = .slice a es.length c ∧ es.length ≤ c ∧ es.length ≤ 9223372036854775807 := by
 obtain ⟨rows, h1, h2, _⟩ := h
 obtain ⟨a, c, rfl⟩ := SlAt.form h1
 have h4 := SlAt.cap h1
 have h5 := SlAt.le h1
 rw [← h2]
 exact ⟨a, c, rfl, h4.1, h5⟩
theorem edges_cells {w : World} {a : Option Addr} {n c : Nat} {es : List Ed} (h : EdgesAt w (.slice a n c) es) (hn : 0 < n) :
  ∃ b o, a = some ⟨b, o, none⟩ ∧ ∀ (i : Nat) e, es[i]? = some e → ∃ ra rc, CellsAt w b (o + i * 3) [.int .i64 e.1, .int .i64 e.2.1, .slice ra e.2.2.length rc] ∧ SpansAt w (.slice ra e.2.2.length rc) e.2.2 := by
 obtain ⟨rows, h1, h2, h3⟩ := h
 obtain ⟨b, o, ha, h4⟩ := SlAt.at h1 hn
 refine ⟨b, o, ha, fun i e he => ?_⟩
 obtain ⟨row, hr⟩ := get_of_lt (l := rows) (i := i) (by have := lt_of_get he; omega)
 obtain ⟨u, rfl, h5⟩ := h3 i e row he hr
 obtain ⟨ra, rc, rfl⟩ := SlAt.form h5
 rw [List.length_map] at h5
 exact ⟨ra, rc, by simpa [edRow] using h4 i _ hr, h5⟩
def NfAt (w : World) (n : Nf) (vs : List Value) : Prop := ∃ ea ec pa pc xa xc, vs = [.int .i64 n.states, .int .i64 n.start, .slice ea n.ends.length ec, .slice pa n.eps.length pc, .slice xa n.edges.length xc] ∧
 IntsAt w (.slice ea n.ends.length ec) n.ends ∧ SpansAt w (.slice pa n.eps.length pc) n.eps ∧ EdgesAt w (.slice xa n.edges.length xc) n.edges
theorem NfAt.ext {w w' : World} {n : Nf} {vs : List Value} (h : NfAt w n vs) (x : Ext w w') : NfAt w' n vs := by
 obtain ⟨ea, ec, pa, pc, xa, xc, h1, h2, h3, h4⟩ := h
 exact ⟨ea, ec, pa, pc, xa, xc, h1, h2.ext x, h3.ext x, h4.ext x⟩
def SucP (eps : List (Int × Int)) (n k : Nat) (to : List (List Int)) : Prop := to.length = n ∧ ∀ s : Nat, s < n → to[s]? = some (sucL (eps.take k) s)
theorem SucP.start (eps : List (Int × Int)) (n : Nat) : SucP eps n 0 (List.replicate n []) := by
 refine ⟨by simp, fun s hs => ?_⟩
 rw [List.getElem?_replicate, if_pos hs]; rfl
theorem SucP.add {eps : List (Int × Int)} {n k : Nat} {to : List (List Int)} (h : SucP eps n k to) {p : Int × Int} (hp : eps[k]? = some p) {a : Nat} (ha : p.1 = (a : Int)) {l : List Int} (hl : to[a]? = some l) : SucP eps n (k + 1) (to.set a (l ++ [p.2])) := by
 refine ⟨by rw [List.length_set]; exact h.1, fun s hs => ?_⟩
 have ht : eps.take (k + 1) = eps.take k ++ [p] := by rw [List.take_add_one, hp]; rfl
 have hal := lt_of_get hl
 rw [ht, sucL_snoc ha, List.getElem?_set]
 by_cases e : a = s
 ·subst e
  have := h.2 a hs
  rw [hl] at this
  rw [if_pos rfl, if_pos hal, if_pos rfl, Option.some.inj this]
 ·rw [if_neg e, if_neg (fun h => e h.symm)]
  exact h.2 s hs
theorem SucP.len {eps : List (Int × Int)} {n k : Nat} {to : List (List Int)} (h : SucP eps n k to) {s : Nat} {l : List Int} (hl : to[s]? = some l) : l.length ≤ eps.length := by
 have h1 := h.2 s (by rw [← h.1]; exact lt_of_get hl)
 rw [hl] at h1
 rw [Option.some.inj h1]
 exact Nat.le_trans (sucL_len _ _) (by rw [List.length_take]; exact Nat.min_le_right _ _)
theorem SucP.full {eps : List (Int × Int)} {n k : Nat} {to : List (List Int)} (h : SucP eps n k to) (hk : eps.length ≤ k) {s : Nat} {l : List Int} (hl : to[s]? = some l) (t : Int) : t ∈ l ↔ ((s : Int), t) ∈ eps := by
 have h1 := h.2 s (by rw [← h.1]; exact lt_of_get hl)
 rw [hl, List.take_of_length_le hk] at h1
 rw [Option.some.inj h1]
 exact sucL_mem
end Go.Proofs
namespace Go.Eng
open Go
theorem r_neqArr2 {P : Program} {σ : Env} {w : World} {dst : Option Tmp} {ty : TypeId} {pos : String} {af : Array Edge} {g : Option (Nat × Bool)} {t t' e : TypeId} {x y : Operand} {i : TypeInfo} {a b c f : Int} (hu : P.underlying t = some (.array 2 e)) (he : P.underlying e = some (.int .i64)) (hi : P.info? e = some i) (hc : P.cellsOf e = 1) (hm : P.eqGuardType P.depth t = false)
  (hx : ev σ x = .agg #[.int .i64 a, .int .i64 b]) (hy : ev σ y = .agg #[.int .i64 c, .int .i64 f]) :
  (execOp (ev σ) ⟨dst, .binOp .neq t x y t', ty, pos, af, g⟩).run P w = .ok (.value (.bool (!decide ((a, b) = (c, f))))) w := by
 have h : (Op.equalIn 10000 t (.agg #[.int .i64 a, .int .i64 b]) (.agg #[.int .i64 c, .int .i64 f])).run P w = .ok (decide ((a, b) = (c, f))) w := eqArr2 hu he hi hc w (a, b) (c, f)
 simp only [execOp, hx, hy, Sem.run_bind, run_eqGuard_agg w .neq t x y _ _ hm, Result.andThen_ok, run_neq_struct, h]
 rfl
end Go.Eng
namespace Go.Proofs
open Go Go.Eng
set_option maxRecDepth 100000
theorem eqgArr : Try.prog.eqGuardType Try.prog.depth 88 = false := by kernel_rfl
/-- A store into one of two new variables. -/
def twoF (sa sb n k : Nat) (T : TypeId) (vs : Array Value) : FctS := fun _ s _ w => ∃ b q, s sa = .pointer (some ⟨b, 0, none⟩) ∧ s sb = .pointer (some ⟨q, 0, none⟩) ∧ n ≤ b ∧ n ≤ q ∧ Blk w b vs T ∧ ∃ c : Array Value, Blk w q c T ∧ c.size = k
theorem StabS.two {Ms : Nat → Nat → Prop} {i : Nat} {ws : List Nat} {sa sb n k : Nat} {T : TypeId} {vs : Array Value} (hM : ∀ p y, p ≠ i → ws.contains p = false → Ms p y → False) : StabS Ms i ws (twoF sa sb n k T vs) :=
 fun p h1 h2 _ _ v w w' _ _ x h => by
  obtain ⟨b, q, h3, h4, h5, h6, h7, c, h8, h9⟩ := h
  have hx : Ext w w' := x.mono fun y _ hy => (hM p y h1 h2 hy).elim
  exact ⟨b, q, h3, h4, h5, h6, Ext.keep hx h7, c, Ext.keep hx h8, h9⟩
theorem LocS.two {ds ws : List Nat} {sa sb n k j1 j2 : Nat} {T : TypeId} {vs : Array Value} (hj : ws.contains j1 = true) (hd : ds[j1]? = some sa) (hj2 : ws.contains j2 = true) (hd2 : ds[j2]? = some sb) : LocS ds ws (twoF sa sb n k T vs) :=
 fun _ σ1 σ2 hs v w h => by
  obtain ⟨b, q, h3, h4, h5⟩ := h
  exact ⟨b, q, by rw [hs j1 sa hj hd]; exact h3, by rw [hs j2 sb hj2 hd2]; exact h4, h5⟩
theorem two_back {w w' : World} {b q : Nat} {xs ys : Array Value} {T : TypeId} (h : Blk w b xs T) (p : Put w w' q ys T) : Blk w' b xs T ∨ Blk w' b ys T := by
 by_cases e : b = q
 ·subst e; exact .inr p.blk
 ·exact .inl (p.keep e h)
theorem size3 {c : Array Value} (h : c.size = 3) : ∃ c1 c2 c3, c = #[c1, c2, c3] := by
  obtain ⟨l⟩ := c
  match l, h with
  | [a, b, d], _ => exact ⟨a, b, d, rfl⟩
theorem DoesT_two {M : Nat → Prop} {P : Program} {N : Nat} {σ : Env} {w : World} {ty : TypeId} {pos : String} {af : Array Edge} {g : Option (Nat × Bool)} {T : TypeId} {x y : Operand} {b q k : Nat} {vs c c2 : Array Value} {R : Value → World → Prop} (hx : ev σ x = .pointer (some ⟨b, 0, none⟩)) (hy : ev σ y = .agg vs) (hB : Blk w b c T) (hQ : Blk w q c2 T) (hc : c.size = k) (h2 : c2.size = k) (hs : Siz P T k) (hv : vs.size = k) (h1 : ∀ v ∈ vs.toList, v.oneCell' = true) (hM : M b)
  (hR : ∀ w', Blk w' b vs T → (∃ c : Array Value, Blk w' q c T ∧ c.size = k) → R undef w') : DoesT M P N ⟨none, .store T x y, ty, pos, af, g⟩ R σ w := by
 refine DoesT_storeAgg hx hy h1 hs hv hB (by omega) hM fun w' h => ?_
 have h3 := h.blk
 rw [List.take_zero, List.nil_append, Nat.zero_add, List.drop_of_length_le (by simp; omega), List.append_nil] at h3
 have h4 : Blk w' b vs T := by simpa using h3
 refine hR w' h4 ?_
 by_cases e : q = b
 ·subst e; exact ⟨vs, h4, hv⟩
 ·exact ⟨c2, h.keep e hQ, h2⟩
set_option maxHeartbeats 1000000 in
theorem nfeq_c (w0 : World) (n m : Nf) (vs us : List Value) (hnm : n = m) (h1 : NfAt w0 n vs) (h2 : NfAt w0 m us) :
  Ret Try.prog 13 #[.agg vs.toArray, .agg us.toArray] w0 fun v w => v = .bool true ∧ Ext w0 w := by
 obtain ⟨ea, ec, pa, pc, xa, xc, rfl, hen, hep, hed⟩ := h1
 obtain ⟨fa, fc, qa, qc, ya, yc, rfl, hfn, hfp, hfd⟩ := h2
 have hl1 : n.eps.length ≤ 9223372036854775807 := by simpa using SlAt.le hep
 obtain ⟨_, _, _, _, hl2⟩ := hed.form
 refine Ret_of Try.func13 rfl Try.ntmps13 (Nat.le_of_ble_eq_true rfl) ?_
 have E : Chg none1 w0 w0 := Chg.refl _ _
 refine Wp_seq_region ?_
 refine s_box (v := (.agg #[(I6 n.states), (I6 n.start), (.slice ea n.ends.length ec), (.slice pa n.eps.length pc), (.slice xa n.edges.length xc)])) (c := #[(I6 n.states), (I6 n.start), (.slice ea n.ends.length ec), (.slice pa n.eps.length pc), (.slice xa n.edges.length xc)]) (by decide) rfl rfl ?_
 intro bp wp Np
 have Fp := Np.ge E
 replace E := E.ext Np.ext
 have Bp := Np.blk
 refine s_box (v := (.agg #[(I6 m.states), (I6 m.start), (.slice fa m.ends.length fc), (.slice qa m.eps.length qc), (.slice ya m.edges.length yc)])) (c := #[(I6 m.states), (I6 m.start), (.slice fa m.ends.length fc), (.slice qa m.eps.length qc), (.slice ya m.edges.length yc)]) (by decide) rfl rfl ?_
 intro bq wq Nq
 have Fq := Nq.ge E
 have Oq_bp := Nq.lt Bp
 replace Bp := Nq.keep Bp
 replace E := E.ext Nq.ext
 have Bq := Nq.blk
 refine qA _ rfl ?_
 refine WpL_nil (Wp_seq (Wp_seq_region ?_))
 refine qF bp 0 0 rfl Try.underlying30 rfl siz3 rfl ?_
 refine qV (r_load rfl flat3 (Bp.cell rfl)) ?_
 refine qF bq 0 0 rfl Try.underlying30 rfl siz3 rfl ?_
 refine qV (r_load rfl flat3 (Bq.cell rfl)) ?_
 refine qV (r_neq rfl rfl) ?_
 refine qM _ rfl ?_
 rcases Bool.eq_false_or_eq_true (decide ((n.states : Int) ≠ m.states)) with g1 | g1
 ·have kg1 := g1
  replace kg1 := of_decide_eq_true kg1
  refine WpL_guard_no rfl rfl (by decide) (v := .bool true) (congrArg Value.bool g1) (Or.inl rfl) ?_
  refine WpL_guard_no rfl rfl (by decide) (v := .bool true) (congrArg Value.bool g1) (Or.inl rfl) ?_
  refine WpL_guard_no rfl rfl (by decide) (v := .bool true) (congrArg Value.bool g1) (Or.inl rfl) ?_
  refine WpL_guard_no rfl rfl (by decide) (v := .bool true) (congrArg Value.bool g1) (Or.inl rfl) ?_
  refine WpL_guard_no rfl rfl (by decide) (v := .bool true) (congrArg Value.bool g1) (Or.inl rfl) ?_
  refine qV (r_pick (v := (.bool true)) rfl (by rw [g1]; rfl)) ?_
  refine qM _ rfl ?_
  refine WpL_guard_no rfl rfl (by decide) (v := .bool true) rfl (Or.inl rfl) ?_
  refine WpL_guard_no rfl rfl (by decide) (v := .bool true) rfl (Or.inl rfl) ?_
  refine WpL_guard_no rfl rfl (by decide) (v := .bool true) rfl (Or.inl rfl) ?_
  refine WpL_guard_no rfl rfl (by decide) (v := .bool true) rfl (Or.inl rfl) ?_
  refine WpL_guard_no rfl rfl (by decide) (v := .bool true) rfl (Or.inl rfl) ?_
  refine WpL_guard_no rfl rfl (by decide) (v := .bool true) rfl (Or.inl rfl) ?_
  refine qV (r_pick rfl rfl) ?_
  refine qM _ rfl ?_
  refine WpL_guard_no rfl rfl (by decide) (v := .bool true) rfl (Or.inl rfl) ?_
  refine WpL_guard_no rfl rfl (by decide) (v := .bool true) rfl (Or.inl rfl) ?_
  refine WpL_guard_no rfl rfl (by decide) (v := .bool true) rfl (Or.inl rfl) ?_
  refine WpL_guard_no rfl rfl (by decide) (v := .bool true) rfl (Or.inl rfl) ?_
  refine WpL_guard_no rfl rfl (by decide) (v := .bool true) rfl (Or.inl rfl) ?_
  refine WpL_guard_no rfl rfl (by decide) (v := .bool true) rfl (Or.inl rfl) ?_
  refine WpL_guard_no rfl rfl (by decide) (v := .bool true) rfl (Or.inl rfl) ?_
  refine qV (r_pick rfl rfl) ?_
  refine qM _ rfl ?_
  refine WpL_guard_no rfl rfl (by decide) (v := .bool true) rfl (Or.inl rfl) ?_
  refine WpL_guard_no rfl rfl (by decide) (v := .bool true) rfl (Or.inl rfl) ?_
  refine WpL_guard_no rfl rfl (by decide) (v := .bool true) rfl (Or.inl rfl) ?_
  refine WpL_guard_no rfl rfl (by decide) (v := .bool true) rfl (Or.inl rfl) ?_
  refine WpL_guard_no rfl rfl (by decide) (v := .bool true) rfl (Or.inl rfl) ?_
  refine WpL_guard_no rfl rfl (by decide) (v := .bool true) rfl (Or.inl rfl) ?_
  refine WpL_guard_no rfl rfl (by decide) (v := .bool true) rfl (Or.inl rfl) ?_
  refine qV (r_pick rfl rfl) ?_
  refine WpL_nil ?_
  refine Wp_cond_true rfl ?_
  refine Wp_seq_region ?_
  refine qA _ rfl ?_
  refine WpL_nil (Wp_ret (thn_ret ?_))
  refine fin_tmp Try.results13 (v := (.bool false)) rfl ?_
  exact absurd (congrArg Nf.states hnm) kg1
 ·have kg1 := g1
  replace kg1 := of_decide_eq_false kg1
  refine WpL_guard_yes rfl rfl (by decide) (congrArg Value.bool g1) ?_
  refine qF bp 0 1 rfl Try.underlying30 rfl siz3 rfl ?_
  refine WpL_guard_yes rfl rfl (by decide) (congrArg Value.bool g1) ?_
  refine qV (r_load rfl flat3 (Bp.cell rfl)) ?_
  refine WpL_guard_yes rfl rfl (by decide) (congrArg Value.bool g1) ?_
  refine qF bq 0 1 rfl Try.underlying30 rfl siz3 rfl ?_
  refine WpL_guard_yes rfl rfl (by decide) (congrArg Value.bool g1) ?_
  refine qV (r_load rfl flat3 (Bq.cell rfl)) ?_
  refine WpL_guard_yes rfl rfl (by decide) (congrArg Value.bool g1) ?_
  refine qV (r_neq rfl rfl) ?_
  refine qV (r_pick (v := (.bool (decide ((n.start : Int) ≠ m.start)))) rfl (by rw [g1]; rfl)) ?_
  refine qM _ rfl ?_
  rcases Bool.eq_false_or_eq_true (decide ((n.start : Int) ≠ m.start)) with g2 | g2
  ·have kg2 := g2
   replace kg2 := of_decide_eq_true kg2
   refine WpL_guard_no rfl rfl (by decide) (v := .bool true) (congrArg Value.bool g2) (Or.inl rfl) ?_
   refine WpL_guard_no rfl rfl (by decide) (v := .bool true) (congrArg Value.bool g2) (Or.inl rfl) ?_
   refine WpL_guard_no rfl rfl (by decide) (v := .bool true) (congrArg Value.bool g2) (Or.inl rfl) ?_
   refine WpL_guard_no rfl rfl (by decide) (v := .bool true) (congrArg Value.bool g2) (Or.inl rfl) ?_
   refine WpL_guard_no rfl rfl (by decide) (v := .bool true) (congrArg Value.bool g2) (Or.inl rfl) ?_
   refine WpL_guard_no rfl rfl (by decide) (v := .bool true) (congrArg Value.bool g2) (Or.inl rfl) ?_
   refine qV (r_pick (v := (.bool true)) rfl (by rw [g2]; rfl)) ?_
   refine qM _ rfl ?_
   refine WpL_guard_no rfl rfl (by decide) (v := .bool true) rfl (Or.inl rfl) ?_
   refine WpL_guard_no rfl rfl (by decide) (v := .bool true) rfl (Or.inl rfl) ?_
   refine WpL_guard_no rfl rfl (by decide) (v := .bool true) rfl (Or.inl rfl) ?_
   refine WpL_guard_no rfl rfl (by decide) (v := .bool true) rfl (Or.inl rfl) ?_
   refine WpL_guard_no rfl rfl (by decide) (v := .bool true) rfl (Or.inl rfl) ?_
   refine WpL_guard_no rfl rfl (by decide) (v := .bool true) rfl (Or.inl rfl) ?_
   refine WpL_guard_no rfl rfl (by decide) (v := .bool true) rfl (Or.inl rfl) ?_
   refine qV (r_pick rfl rfl) ?_
   refine qM _ rfl ?_
   refine WpL_guard_no rfl rfl (by decide) (v := .bool true) rfl (Or.inl rfl) ?_
   refine WpL_guard_no rfl rfl (by decide) (v := .bool true) rfl (Or.inl rfl) ?_
   refine WpL_guard_no rfl rfl (by decide) (v := .bool true) rfl (Or.inl rfl) ?_
   refine WpL_guard_no rfl rfl (by decide) (v := .bool true) rfl (Or.inl rfl) ?_
   refine WpL_guard_no rfl rfl (by decide) (v := .bool true) rfl (Or.inl rfl) ?_
   refine WpL_guard_no rfl rfl (by decide) (v := .bool true) rfl (Or.inl rfl) ?_
   refine WpL_guard_no rfl rfl (by decide) (v := .bool true) rfl (Or.inl rfl) ?_
   refine qV (r_pick rfl rfl) ?_
   refine WpL_nil ?_
   refine Wp_cond_true rfl ?_
   refine Wp_seq_region ?_
   refine qA _ rfl ?_
   refine WpL_nil (Wp_ret (thn_ret ?_))
   refine fin_tmp Try.results13 (v := (.bool false)) rfl ?_
   exact absurd (congrArg Nf.start hnm) kg2
  ·have kg2 := g2
   replace kg2 := of_decide_eq_false kg2
   refine WpL_guard_yes rfl rfl (by decide) (congrArg Value.bool g2) ?_
   refine qF bp 0 2 rfl Try.underlying30 rfl siz26 rfl ?_
   refine WpL_guard_yes rfl rfl (by decide) (congrArg Value.bool g2) ?_
   refine qV (r_load rfl flat26 (Bp.cell rfl)) ?_
   refine WpL_guard_yes rfl rfl (by decide) (congrArg Value.bool g2) ?_
   refine qF bq 0 2 rfl Try.underlying30 rfl siz26 rfl ?_
   refine WpL_guard_yes rfl rfl (by decide) (congrArg Value.bool g2) ?_
   refine qV (r_load rfl flat26 (Bq.cell rfl)) ?_
   refine WpL_guard_yes rfl rfl (by decide) (congrArg Value.bool g2) ?_
   refine WpL_enter rfl rfl (by decide) (r_callF Try.func39 kQ kQ rfl) (ieqr_c _ _ _ _ _ (hen.ext E) (hfn.ext E)) ?_
   rintro _ w9 ⟨rfl, X9⟩
   replace Bp := X9.keep Bp
   replace Bq := X9.keep Bq
   replace E := E.ext X9
   refine WpL_guard_yes rfl rfl (by decide) (congrArg Value.bool g2) ?_
   refine qV (r_not rfl) ?_
   refine qV (r_pick (v := (.bool (!(decide (n.ends = m.ends))))) rfl (by rw [g2]; rfl)) ?_
   refine qM _ rfl ?_
   rcases Bool.eq_false_or_eq_true (!(decide (n.ends = m.ends))) with g3 | g3
   ·have kg3 := g3
    refine WpL_guard_no rfl rfl (by decide) (v := .bool true) (congrArg Value.bool g3) (Or.inl rfl) ?_
    refine WpL_guard_no rfl rfl (by decide) (v := .bool true) (congrArg Value.bool g3) (Or.inl rfl) ?_
    refine WpL_guard_no rfl rfl (by decide) (v := .bool true) (congrArg Value.bool g3) (Or.inl rfl) ?_
    refine WpL_guard_no rfl rfl (by decide) (v := .bool true) (congrArg Value.bool g3) (Or.inl rfl) ?_
    refine WpL_guard_no rfl rfl (by decide) (v := .bool true) (congrArg Value.bool g3) (Or.inl rfl) ?_
    refine WpL_guard_no rfl rfl (by decide) (v := .bool true) (congrArg Value.bool g3) (Or.inl rfl) ?_
    refine WpL_guard_no rfl rfl (by decide) (v := .bool true) (congrArg Value.bool g3) (Or.inl rfl) ?_
    refine qV (r_pick (v := (.bool true)) rfl (by rw [g3]; rfl)) ?_
    refine qM _ rfl ?_
    refine WpL_guard_no rfl rfl (by decide) (v := .bool true) rfl (Or.inl rfl) ?_
    refine WpL_guard_no rfl rfl (by decide) (v := .bool true) rfl (Or.inl rfl) ?_
    refine WpL_guard_no rfl rfl (by decide) (v := .bool true) rfl (Or.inl rfl) ?_
    refine WpL_guard_no rfl rfl (by decide) (v := .bool true) rfl (Or.inl rfl) ?_
    refine WpL_guard_no rfl rfl (by decide) (v := .bool true) rfl (Or.inl rfl) ?_
    refine WpL_guard_no rfl rfl (by decide) (v := .bool true) rfl (Or.inl rfl) ?_
    refine WpL_guard_no rfl rfl (by decide) (v := .bool true) rfl (Or.inl rfl) ?_
    refine qV (r_pick rfl rfl) ?_
    refine WpL_nil ?_
    refine Wp_cond_true rfl ?_
    refine Wp_seq_region ?_
    refine qA _ rfl ?_
    refine WpL_nil (Wp_ret (thn_ret ?_))
    refine fin_tmp Try.results13 (v := (.bool false)) rfl ?_
    exact absurd (congrArg Nf.ends hnm) (by simpa using kg3)
   ·have kg3 := g3
    refine WpL_guard_yes rfl rfl (by decide) (congrArg Value.bool g3) ?_
    refine qF bp 0 3 rfl Try.underlying30 rfl siz27 rfl ?_
    refine WpL_guard_yes rfl rfl (by decide) (congrArg Value.bool g3) ?_
    refine qV (r_load rfl flat27 (Bp.cell rfl)) ?_
    refine WpL_guard_yes rfl rfl (by decide) (congrArg Value.bool g3) ?_
    refine qV (r_lenSlice Try.underlying27 rfl) ?_
    refine WpL_guard_yes rfl rfl (by decide) (congrArg Value.bool g3) ?_
    refine qF bq 0 3 rfl Try.underlying30 rfl siz27 rfl ?_
    refine WpL_guard_yes rfl rfl (by decide) (congrArg Value.bool g3) ?_
    refine qV (r_load rfl flat27 (Bq.cell rfl)) ?_
    refine WpL_guard_yes rfl rfl (by decide) (congrArg Value.bool g3) ?_
    refine qV (r_lenSlice Try.underlying27 rfl) ?_
    refine WpL_guard_yes rfl rfl (by decide) (congrArg Value.bool g3) ?_
    refine qV (r_neq rfl rfl) ?_
    refine qV (r_pick (v := (.bool (decide (((n.eps.length : Int) : Int) ≠ (m.eps.length : Int))))) rfl (by rw [g3]; rfl)) ?_
    refine qM _ rfl ?_
    rcases Bool.eq_false_or_eq_true (decide ((((n.eps.length : Nat) : Int) : Int) ≠ ((m.eps.length : Nat) : Int))) with g4 | g4
    ·have kg4 := g4
     replace kg4 := of_decide_eq_true kg4
     refine WpL_guard_no rfl rfl (by decide) (v := .bool true) (congrArg Value.bool g4) (Or.inl rfl) ?_
     refine WpL_guard_no rfl rfl (by decide) (v := .bool true) (congrArg Value.bool g4) (Or.inl rfl) ?_
     refine WpL_guard_no rfl rfl (by decide) (v := .bool true) (congrArg Value.bool g4) (Or.inl rfl) ?_
     refine WpL_guard_no rfl rfl (by decide) (v := .bool true) (congrArg Value.bool g4) (Or.inl rfl) ?_
     refine WpL_guard_no rfl rfl (by decide) (v := .bool true) (congrArg Value.bool g4) (Or.inl rfl) ?_
     refine WpL_guard_no rfl rfl (by decide) (v := .bool true) (congrArg Value.bool g4) (Or.inl rfl) ?_
     refine WpL_guard_no rfl rfl (by decide) (v := .bool true) (congrArg Value.bool g4) (Or.inl rfl) ?_
     refine qV (r_pick (v := (.bool true)) rfl (by rw [g4]; rfl)) ?_
     refine WpL_nil ?_
     refine Wp_cond_true rfl ?_
     refine Wp_seq_region ?_
     refine qA _ rfl ?_
     refine WpL_nil (Wp_ret (thn_ret ?_))
     refine fin_tmp Try.results13 (v := (.bool false)) rfl ?_
     exact absurd (congrArg (fun x => ((x.eps.length : Nat) : Int)) hnm) kg4
    ·have kg4 := g4
     replace kg4 := of_decide_eq_false kg4
     refine WpL_guard_yes rfl rfl (by decide) (congrArg Value.bool g4) ?_
     refine qF bp 0 4 rfl Try.underlying30 rfl siz28 rfl ?_
     refine WpL_guard_yes rfl rfl (by decide) (congrArg Value.bool g4) ?_
     refine qV (r_load rfl flat28 (Bp.cell rfl)) ?_
     refine WpL_guard_yes rfl rfl (by decide) (congrArg Value.bool g4) ?_
     refine qV (r_lenSlice Try.underlying28 rfl) ?_
     refine WpL_guard_yes rfl rfl (by decide) (congrArg Value.bool g4) ?_
     refine qF bq 0 4 rfl Try.underlying30 rfl siz28 rfl ?_
     refine WpL_guard_yes rfl rfl (by decide) (congrArg Value.bool g4) ?_
     refine qV (r_load rfl flat28 (Bq.cell rfl)) ?_
     refine WpL_guard_yes rfl rfl (by decide) (congrArg Value.bool g4) ?_
     refine qV (r_lenSlice Try.underlying28 rfl) ?_
     refine WpL_guard_yes rfl rfl (by decide) (congrArg Value.bool g4) ?_
     refine qV (r_neq rfl rfl) ?_
     refine qV (r_pick (v := (.bool (decide (((n.edges.length : Int) : Int) ≠ (m.edges.length : Int))))) rfl (by rw [g4]; rfl)) ?_
     refine WpL_nil ?_
     refine Wp_cond rfl (fun g5 => ?_) (fun g5 => ?_)
     ·have kg5 := g5
      replace g5 := of_decide_eq_true g5
      refine Wp_seq_region ?_
      refine qA _ rfl ?_
      refine WpL_nil (Wp_ret (thn_ret ?_))
      refine fin_tmp Try.results13 (v := (.bool false)) rfl ?_
      exact absurd (congrArg (fun x => ((x.edges.length : Nat) : Int)) hnm) g5
     ·have kg5 := g5
      replace g5 := of_decide_eq_false g5
      refine Wp_skip (thn_normal (Wp_seq (Wp_seq_region ?_)))
      refine qF bp 0 3 rfl Try.underlying30 rfl siz27 rfl ?_
      refine qV (r_load rfl flat27 (Bp.cell rfl)) ?_
      refine qV (r_lenSlice Try.underlying27 rfl) ?_
      refine qM _ rfl ?_
      refine WpL_nil (Wp_block ?_)
      refine Wp_loop (fun nn_ σ W6 => ∃ (k : Nat), (∃ jj_, σ = upds jj_ [(2, (P6 bp 0)), (3, (P6 bq 0)), (49, (I6 (n.eps.length : Int))), (50, (I6 (k : Int)))]) ∧ Chg none1 w0 W6 ∧ Blk W6 bp #[(I6 n.states), (I6 n.start), (.slice ea n.ends.length ec), (.slice pa n.eps.length pc), (.slice xa n.edges.length xc)] 30 ∧ Blk W6 bq #[(I6 m.states), (I6 m.start), (.slice fa m.ends.length fc), (.slice qa m.eps.length qc), (.slice ya m.edges.length yc)] 30 ∧ (k ≤ n.eps.length) ∧ nn_ = n.eps.length - k) (n := n.eps.length - 0) ?_ ?_
      ·exact ⟨0, Fits.out ⟨rfl, rfl, rfl, rfl, trivial⟩, E, Bp, Bq, Nat.zero_le _, rfl⟩
      ·clear E Bp Bq
       rintro _ _ W6 ⟨k, ⟨j6, rfl⟩, E, Bp, Bq, hk, rfl⟩
       refine Wp_seq_region ?_
       refine qV (r_lss rfl rfl) ?_
       refine WpL_nil (Wp_seq ?_)
       refine Wp_cond rfl (fun hlt => ?_) (fun hlt => ?_)
       ·have khlt := hlt
        replace hlt := of_decide_eq_true hlt
        obtain ⟨x, hx⟩ := get_of_lt (l := n.eps) (i := k) (by omega)
        obtain ⟨y, hy⟩ := get_of_lt (l := m.eps) (i := k) (by omega)
        have hxy : x = y := by rw [hnm, hy] at hx; exact (Option.some.inj hx).symm
        obtain ⟨b1, o1, rfl, hc1⟩ := spans_cells hep (by omega)
        obtain ⟨b2, o2, rfl, hc2⟩ := spans_cells hfp (by omega)
        refine Wp_skip (thn_normal (Wp_seq (Wp_block (Wp_seq_region ?_))))
        refine qM _ rfl ?_
        refine qA _ rfl ?_
        refine WpL_nil ?_
        have hz_8 : w0.heap.size ≤ W6.heap.size := E.size
        have lz_8_bp : bp < W6.heap.size := Bp.lt
        have lz_8_bq : bq < W6.heap.size := Bq.lt
        refine Wp_seq ?_
        obtain ⟨Fs8, hFs8⟩ : ∃ Fs : List FctS, Fs = [(eF (P6 bp 3)), (eF (.slice (some ⟨b1, o1, none⟩) n.eps.length pc)), (eF (I6 (k : Int))), (eF (.pointer (some ⟨b1, o1 + k * 2, none⟩))), (eF (.agg #[(I6 x.1), (I6 x.2)])), (eF (P6 bq 3)), (eF (.slice (some ⟨b2, o2, none⟩) m.eps.length qc)), (eF (I6 (k : Int))), (eF (.pointer (some ⟨b2, o2 + k * 2, none⟩))), (eF (.agg #[(I6 y.1), (I6 y.2)])), (eF undef)] := ⟨_, rfl⟩
        refine Wp_dagS (MsL []) [true, true, true, true, true, true, true, true, true, true, false] [10] [53, 54, 55, 56, 57, 58, 59, 60, 61, 62, 112] [[], [0], [], [1, 2], [3], [], [5], [], [6, 7], [8], []] [[], [0], [], [1, 0, 2], [3, 1, 0, 2], [], [5], [], [6, 5, 7], [8, 6, 5, 7], []] Fs8 hFs8 (by kernel_rfl) mixed (by kernel_rfl) (by kernel_rfl) (by kernel_rfl) (by kernel_rfl) ?_ ?_
        ·intro wd X0
         refine qZ (fun S s' w' hi hN X U V H => ?_) ?_
         ·replace X := xN0 X
          exact DoesT_pure (r_fieldAddr (U 2 rfl) Try.underlying30 rfl siz27 rfl) rfl
         refine qZ (fun S s' w' hi hN X U V H => ?_) ?_
         ·replace X := xN0 X
          have e53 := (H 0 rfl).2 53 _ rfl (by rw [hFs8]; rfl)
          exact DoesT_pure (r_load e53 flat27 (((X0.trans X).keep Bp).cell rfl)) rfl
         refine qZ (fun S s' w' hi hN X U V H => ?_) ?_
         ·replace X := xN0 X
          exact DoesT_pure (r_move (U 5 rfl)) rfl
         refine qZ (fun S s' w' hi hN X U V H => ?_) ?_
         ·replace X := xN0 X
          have e54 := (H 1 rfl).2 54 _ rfl (by rw [hFs8]; rfl)
          have e55 := (H 2 rfl).2 55 _ rfl (by rw [hFs8]; rfl)
          exact DoesT_pure (r_indexSlice (i := k) e54 e55 rfl Try.underlying27 siz88 (by omega) (by omega)) rfl
         refine qZ (fun S s' w' hi hN X U V H => ?_) ?_
         ·replace X := xN0 X
          have e56 := (H 3 rfl).2 56 _ rfl (by rw [hFs8]; rfl)
          exact DoesT_pure (r_loadAgg e56 agg88 siz88 rfl ((hc1 k x hx).ext (Chg.ext E (X0.trans X)))) rfl
         refine qZ (fun S s' w' hi hN X U V H => ?_) ?_
         ·replace X := xN0 X
          exact DoesT_pure (r_fieldAddr (U 3 rfl) Try.underlying30 rfl siz27 rfl) rfl
         refine qZ (fun S s' w' hi hN X U V H => ?_) ?_
         ·replace X := xN0 X
          have e58 := (H 5 rfl).2 58 _ rfl (by rw [hFs8]; rfl)
          exact DoesT_pure (r_load e58 flat27 (((X0.trans X).keep Bq).cell rfl)) rfl
         refine qZ (fun S s' w' hi hN X U V H => ?_) ?_
         ·replace X := xN0 X
          exact DoesT_pure (r_move (U 5 rfl)) rfl
         refine qZ (fun S s' w' hi hN X U V H => ?_) ?_
         ·replace X := xN0 X
          have e59 := (H 6 rfl).2 59 _ rfl (by rw [hFs8]; rfl)
          have e60 := (H 7 rfl).2 60 _ rfl (by rw [hFs8]; rfl)
          exact DoesT_pure (r_indexSlice (i := k) e59 e60 rfl Try.underlying27 siz88 (by omega) (by omega)) rfl
         refine qZ (fun S s' w' hi hN X U V H => ?_) ?_
         ·replace X := xN0 X
          have e61 := (H 8 rfl).2 61 _ rfl (by rw [hFs8]; rfl)
          exact DoesT_pure (r_loadAgg e61 agg88 siz88 rfl ((hc2 k y hy).ext (Chg.ext E (X0.trans X)))) rfl
         refine DagStepsS.tail ?_
         exact DagStepsS.nil
        ·intro s' wd8 w8 X0 X8 U H
         replace X8 := X8.mono (M' := none1) (fun y _ h => by
           obtain ⟨j, hj, h⟩ := h
           exact h.elim)
         have e57 := H 4 rfl 57 _ rfl (by rw [hFs8]; rfl)
         have e62 := H 9 rfl 62 _ rfl (by rw [hFs8]; rfl)
         obtain ⟨j8, rfl⟩ := Fits.out (σ := s') (l := [(2, (.pointer (some ⟨bp, 0, none⟩))), (3, (.pointer (some ⟨bq, 0, none⟩))), (49, (.int .i64 ((n.eps.length : Nat) : Int))), (50, (.int .i64 ((k : Nat) : Int))), (57, (.agg #[(.int .i64 x.1), (.int .i64 x.2)])), (62, (.agg #[(.int .i64 y.1), (.int .i64 y.2)]))]) ⟨U 2 rfl, U 3 rfl, U 49 rfl, U 50 rfl, e57, e62, trivial⟩
         clear U H
         replace Bp := (X0.trans X8).keep Bp
         replace Bq := (X0.trans X8).keep Bq
         replace X8 := X0.trans X8
         replace E := E.ext X8
         obtain ⟨i9, hi9⟩ := info_int
         refine WpL_val (v := (.bool (!decide ((x.1, x.2) = (y.1, y.2))))) rfl rfl (by decide) (r_neqArr2 Try.underlying88 Try.underlying3 hi9 cells_int eqgArr rfl rfl) ?_
         refine WpL_nil (thn_normal ?_)
         refine Wp_cond rfl (fun hne => ?_) (fun hne => ?_)
         ·have khne := hne
          replace hne := by simpa using hne
          refine Wp_seq_region ?_
          refine qA _ rfl ?_
          refine WpL_nil (Wp_ret (inB_ret (thn_ret (thn_ret (inB_ret (thn_ret ?_))))))
          refine fin_tmp Try.results13 (v := (.bool false)) rfl ?_
          exact absurd hne (by rw [hxy]; simp)
         ·have khne := hne
          replace hne := by simpa using hne
          refine Wp_skip (inB_normal (thn_normal (Wp_region ?_)))
          refine qV (r_add rfl rfl (wI64 (by omega))) ?_
          refine qM _ rfl ?_
          refine WpL_nil (thn_normal ?_)
          exact ⟨n.eps.length - (k + 1), by omega, k + 1, Fits.out ⟨rfl, rfl, rfl, rfl, trivial⟩, E, Bp, Bq, (by omega), rfl⟩
       ·have khlt := hlt
        replace hlt := of_decide_eq_false hlt
        refine Wp_exit (thn_exit (thn_exit (inB_here (thn_normal (Wp_seq (Wp_seq_region ?_))))))
        refine qF bp 0 4 rfl Try.underlying30 rfl siz28 rfl ?_
        refine qV (r_load rfl flat28 (Bp.cell rfl)) ?_
        refine qV (r_lenSlice Try.underlying28 rfl) ?_
        refine qM _ rfl ?_
        refine WpL_nil (Wp_block ?_)
        refine Wp_loop (fun nn_ σ W10 => ∃ (j : Nat), (∃ jj_, σ = upds jj_ [(2, (P6 bp 0)), (3, (P6 bq 0)), (67, (I6 (n.edges.length : Int))), (68, (I6 (j : Int)))]) ∧ Chg none1 w0 W10 ∧ Blk W10 bp #[(I6 n.states), (I6 n.start), (.slice ea n.ends.length ec), (.slice pa n.eps.length pc), (.slice xa n.edges.length xc)] 30 ∧ Blk W10 bq #[(I6 m.states), (I6 m.start), (.slice fa m.ends.length fc), (.slice qa m.eps.length qc), (.slice ya m.edges.length yc)] 30 ∧ (j ≤ n.edges.length) ∧ nn_ = n.edges.length - j) (n := n.edges.length - 0) ?_ ?_
        ·exact ⟨0, Fits.out ⟨rfl, rfl, rfl, rfl, trivial⟩, E, Bp, Bq, Nat.zero_le _, rfl⟩
        ·clear E Bp Bq
         rintro _ _ W10 ⟨j, ⟨j10, rfl⟩, E, Bp, Bq, hj, rfl⟩
         refine Wp_seq_region ?_
         refine qV (r_lss rfl rfl) ?_
         refine WpL_nil (Wp_seq ?_)
         refine Wp_cond rfl (fun hlt2 => ?_) (fun hlt2 => ?_)
         ·have khlt2 := hlt2
          replace hlt2 := of_decide_eq_true hlt2
          obtain ⟨x, hx⟩ := get_of_lt (l := n.edges) (i := j) (by omega)
          obtain ⟨y, hy⟩ := get_of_lt (l := m.edges) (i := j) (by omega)
          obtain rfl : x = y := by rw [hnm, hy] at hx; exact (Option.some.inj hx).symm
          obtain ⟨b1, o1, rfl, hc1⟩ := edges_cells hed (by omega)
          obtain ⟨b2, o2, rfl, hc2⟩ := edges_cells hfd (by omega)
          obtain ⟨ra, rc, hr1, hr2⟩ := hc1 j x hx
          obtain ⟨ta, tc, ht1, ht2⟩ := hc2 j x hy
          refine Wp_skip (thn_normal (Wp_seq (Wp_block (Wp_seq_region ?_))))
          refine qM _ rfl ?_
          refine qA _ rfl ?_
          refine WpL_nil ?_
          obtain ⟨z9, hz9⟩ : ∃ z9, z9 = (W10).heap.size := ⟨_, rfl⟩
          have hz_12 : w0.heap.size ≤ W10.heap.size := E.size
          have lz_12_bp : bp < W10.heap.size := Bp.lt
          have lz_12_bq : bq < W10.heap.size := Bq.lt
          refine Wp_seq ?_
          obtain ⟨Fs12, hFs12⟩ : ∃ Fs : List FctS, Fs = [(eF (P6 bp 4)), (eF (.slice (some ⟨b1, o1, none⟩) n.edges.length xc)), (eF (I6 (j : Int))), (eF (.pointer (some ⟨b1, o1 + j * 3, none⟩))), (eF (.agg #[(I6 x.1), (I6 x.2.1), (.slice ra x.2.2.length rc)])), (eF (P6 bq 4)), (eF (.slice (some ⟨b2, o2, none⟩) m.edges.length yc)), (eF (I6 (j : Int))), (eF (.pointer (some ⟨b2, o2 + j * 3, none⟩))), (eF (.agg #[(I6 x.1), (I6 x.2.1), (.slice ta x.2.2.length tc)])), (fun S _ v w => S 12 = false → ((alF 76 #[(I6 0), (I6 0), (.slice none 0 0)] W10.heap.size)) v w), (fun S _ v w => S 12 = false → ((alF 76 #[(I6 0), (I6 0), (.slice none 0 0)] W10.heap.size)) v w), (fun S s v w => twoF 7 8 z9 3 TEd #[.int .i64 x.1, .int .i64 x.2.1, .slice ra x.2.2.length rc] S s v w), (eF undef)] := ⟨_, rfl⟩
          refine Wp_dagS (MsL [(12, (fun y => z9 ≤ y))]) [true, true, true, true, true, true, true, true, true, true, true, true, true, false] [13] [71, 72, 73, 74, 75, 76, 77, 78, 79, 80, 7, 8, 114, 115] [[], [0], [], [1, 2], [3], [], [5], [], [6, 7], [8], [], [], [0, 1, 2, 3, 4, 10, 11], []] [[], [0], [], [1, 0, 2], [3, 1, 0, 2], [], [5], [], [6, 5, 7], [8, 6, 5, 7], [], [], [0, 1, 2, 3, 4, 10, 11], []] Fs12 hFs12 (by kernel_rfl) mixed (by kernel_rfl) (by kernel_rfl) (by kernel_rfl) (by kernel_rfl) ?_ ?_
          ·intro wd X0
           refine qZ (fun S s' w' hi hN X U V H => ?_) ?_
           ·replace X := xN1 (hN 12 rfl) X
            exact DoesT_pure (r_fieldAddr (U 2 rfl) Try.underlying30 rfl siz28 rfl) rfl
           refine qZ (fun S s' w' hi hN X U V H => ?_) ?_
           ·replace X := xN1 (hN 12 rfl) X
            have e71 := (H 0 rfl).2 71 _ rfl (by rw [hFs12]; rfl)
            exact DoesT_pure (r_load e71 flat28 (((X0.trans X).keep Bp).cell rfl)) rfl
           refine qZ (fun S s' w' hi hN X U V H => ?_) ?_
           ·replace X := xN1 (hN 12 rfl) X
            exact DoesT_pure (r_move (U 6 rfl)) rfl
           refine qZ (fun S s' w' hi hN X U V H => ?_) ?_
           ·replace X := xN1 (hN 12 rfl) X
            have e72 := (H 1 rfl).2 72 _ rfl (by rw [hFs12]; rfl)
            have e73 := (H 2 rfl).2 73 _ rfl (by rw [hFs12]; rfl)
            exact DoesT_pure (r_indexSlice (i := j) e72 e73 rfl Try.underlying28 siz76 (by omega) (by omega)) rfl
           refine qZ (fun S s' w' hi hN X U V H => ?_) ?_
           ·replace X := xN1 (hN 12 rfl) X
            have e74 := (H 3 rfl).2 74 _ rfl (by rw [hFs12]; rfl)
            exact DoesT_pure (r_loadAgg e74 agg76 siz76 rfl (hr1.ext (Chg.ext E (X0.trans X)))) rfl
           refine qZ (fun S s' w' hi hN X U V H => ?_) ?_
           ·replace X := xM1 X
            exact DoesT_pure (r_fieldAddr (U 3 rfl) Try.underlying30 rfl siz28 rfl) rfl
           refine qZ (fun S s' w' hi hN X U V H => ?_) ?_
           ·replace X := xM1 X
            have e76 := (H 5 rfl).2 76 _ rfl (by rw [hFs12]; rfl)
            exact DoesT_pure (r_load e76 flat28 ((Chg.keep X kH (X0.keep Bq)).cell rfl)) rfl
           refine qZ (fun S s' w' hi hN X U V H => ?_) ?_
           ·replace X := xM1 X
            exact DoesT_pure (r_move (U 6 rfl)) rfl
           refine qZ (fun S s' w' hi hN X U V H => ?_) ?_
           ·replace X := xM1 X
            have e77 := (H 6 rfl).2 77 _ rfl (by rw [hFs12]; rfl)
            have e78 := (H 7 rfl).2 78 _ rfl (by rw [hFs12]; rfl)
            exact DoesT_pure (r_indexSlice (i := j) e77 e78 rfl Try.underlying28 siz76 (by omega) (by omega)) rfl
           refine qZ (fun S s' w' hi hN X U V H => ?_) ?_
           ·replace X := xM1 X
            have e79 := (H 8 rfl).2 79 _ rfl (by rw [hFs12]; rfl)
            exact DoesT_pure (r_loadAgg e79 agg76 siz76 rfl (ht1.ext (Chg.step (Chg.ext E X0) X (fun q hq h => by have h' : z9 ≤ q := h; have := Chg.size E; omega)))) rfl
           refine DagStepsS.cons (StabS.till (U := none1) (fun v w w' x h => alF_ext _ _ _ v w w' x h) (fun p y hp hw hpc h => by
              rcases MsL_or h with ⟨rfl, h0⟩ | h0
              ·exact absurd rfl hpc
              exact h0.elim)) (LocS.const) (fun S s' w' hi hN X U V H => Or.inl ⟨Guarded_none rfl, ?_⟩) ?_
           ·replace X := xN1 (hN 12 rfl) X
            exact DoesT_weakT (DoesT_alloc (c := #[(I6 0), (I6 0), (.slice none 0 0)]) (hs := W10.heap.size) zer76 rfl (by have := X0.size; have := X.size; omega)) (R' := fun v w => insS S 10 12 = false → (alF 76 #[(I6 0), (I6 0), (.slice none 0 0)] W10.heap.size) v w) (fun _ _ h _ => h)
           refine DagStepsS.cons (StabS.till (U := none1) (fun v w w' x h => alF_ext _ _ _ v w w' x h) (fun p y hp hw hpc h => by
              rcases MsL_or h with ⟨rfl, h0⟩ | h0
              ·exact absurd rfl hpc
              exact h0.elim)) (LocS.const) (fun S s' w' hi hN X U V H => Or.inl ⟨Guarded_none rfl, ?_⟩) ?_
           ·replace X := xN1 (hN 12 rfl) X
            exact DoesT_weakT (DoesT_alloc (c := #[(I6 0), (I6 0), (.slice none 0 0)]) (hs := W10.heap.size) zer76 rfl (by have := X0.size; have := X.size; omega)) (R' := fun v w => insS S 11 12 = false → (alF 76 #[(I6 0), (I6 0), (.slice none 0 0)] W10.heap.size) v w) (fun _ _ h _ => h)
           refine DagStepsS.cons (StabS.two (fun p y hp hw h => by rcases MsL_or h with ⟨h1, h0⟩ | h0; exact absurd h1 hp; exact h0.elim)) (LocS.two (j1 := 10) (j2 := 11) rfl rfl rfl rfl) (fun S s' w' hi hN X U V H => Or.inl ⟨Guarded_none rfl, ?_⟩) ?_
           ·replace X := xN1 hi X
            obtain ⟨b7, e7, B7, g7⟩ := (show ((alF 76 #[(.int .i64 0), (.int .i64 0), (.slice none 0 0)] W10.heap.size)) (s' 7) w' from ((H 10 rfl).2 7 (fun S _ v w => S 12 = false → ((alF 76 #[(.int .i64 0), (.int .i64 0), (.slice none 0 0)] W10.heap.size)) v w) rfl (by rw [hFs12]; rfl)) hi)
            have e75 := (H 4 rfl).2 75 _ rfl (by rw [hFs12]; rfl)
            exact (by obtain ⟨q1, eq1, Bq1, lq1⟩ := ((H 11 rfl).2 8 (fun S _ v w => S 12 = false → ((alF 76 #[(.int .i64 0), (.int .i64 0), (.slice none 0 0)] W10.heap.size)) v w) rfl (by rw [hFs12]; rfl)) hi; exact DoesT_two e7 e75 B7 Bq1 rfl rfl siz76 rfl (by simp [Value.oneCell']) (.inl ⟨rfl, by show z9 ≤ _; omega⟩) (fun w' h1 h2 => ⟨b7, q1, e7, eq1, by omega, by omega, h1, h2⟩))
           refine DagStepsS.tail ?_
           exact DagStepsS.nil
          ·intro s' wd12 w12 X0 X12 U H
           replace X12 := X12.mono (M' := (fun y => (fun y => z9 ≤ y) y)) (fun y _ h => by
             obtain ⟨j, hj, h⟩ := h
             rcases MsL_or h with ⟨rfl, h0⟩ | h0
             ·exact h0
             exact h0.elim)
           obtain ⟨b9, q9, e9b, e9q, l9b, l9q, h9, c9, B9q, hc9⟩ := (show ((fun S s v w => twoF 7 8 z9 3 TEd #[.int .i64 x.1, .int .i64 x.2.1, .slice ra x.2.2.length rc] S s v w) : FctS) (allS [true, true, true, true, true, true, true, true, true, true, true, true, true, false]) s' (s' 114) w12 from H 12 rfl 114 (fun S s v w => twoF 7 8 z9 3 TEd #[.int .i64 x.1, .int .i64 x.2.1, .slice ra x.2.2.length rc] S s v w) rfl (by rw [hFs12]; rfl))
           have e80 := H 9 rfl 80 _ rfl (by rw [hFs12]; rfl)
           obtain ⟨j12, rfl⟩ := Fits.out (σ := s') (l := [(2, (.pointer (some ⟨bp, 0, none⟩))), (3, (.pointer (some ⟨bq, 0, none⟩))), (67, (.int .i64 ((n.edges.length : Nat) : Int))), (68, (.int .i64 ((j : Nat) : Int))), (80, (.agg #[(.int .i64 x.1), (.int .i64 x.2.1), (.slice ta x.2.2.length tc)])), (7, (.pointer (some ⟨b9, 0, none⟩))), (8, (.pointer (some ⟨q9, 0, none⟩)))]) ⟨U 2 rfl, U 3 rfl, U 67 rfl, U 68 rfl, e80, e9b, e9q, trivial⟩
           clear U H
           replace Bp := Chg.keep X12 kH (X0.keep Bp)
           replace Bq := Chg.keep X12 kH (X0.keep Bq)
           replace E := (E.ext X0).step X12 (fun y hy h => by have h' : z9 ≤ y := h; have := E.size; omega)
           obtain ⟨c1, c2, c3, rfl⟩ := size3 hc9
           refine s_storeAgg (b := q9) (o := 0) (c' := #[(I6 x.1), (I6 x.2.1), (.slice ta x.2.2.length tc)]) rfl rfl (by simp [Value.oneCell']) siz76 rfl B9q (by first | (simp; done) | exact Nat.le_of_ble_eq_true rfl) rfl ?_
           intro w13 S13
           replace h9 := two_back h9 S13
           replace Bp := S13.keep (by omega) Bp
           replace Bq := S13.keep (by omega) Bq
           replace E := S13.step E (by first | exact Or.inl (by omega) | exact Or.inr rfl | exact Or.inr (by assumption) | exact Or.inr (by simp) | exact Or.inr (by omega) | exact Or.inr (by dsimp only; omega))
           replace B9q := S13.blk
           refine WpL_nil (thn_normal (Wp_seq_region ?_))
           refine qF b9 0 0 rfl Try.underlying76 rfl siz3 rfl ?_
           obtain ⟨r9, d9, h9b, h9s⟩ : ∃ r d, Blk (w13) b9 #[.int .i64 x.1, .int .i64 x.2.1, .slice r x.2.2.length d] TEd ∧ SpansAt w0 (.slice r x.2.2.length d) x.2.2 := by rcases h9 with h | h; exact ⟨ra, rc, h, hr2⟩; exact ⟨ta, tc, h, ht2⟩
           refine qV (r_load rfl flat3 (h9b.cell rfl)) ?_
           refine qF q9 0 0 rfl Try.underlying76 rfl siz3 rfl ?_
           refine qV (r_load rfl flat3 (B9q.cell rfl)) ?_
           refine qV (r_neq rfl rfl) ?_
           refine qM _ rfl ?_
           rcases Bool.eq_false_or_eq_true (decide ((x.1 : Int) ≠ x.1)) with g6 | g6
           ·have kg6 := g6
            replace kg6 := of_decide_eq_true kg6
            refine WpL_guard_no rfl rfl (by decide) (v := .bool true) (congrArg Value.bool g6) (Or.inl rfl) ?_
            refine WpL_guard_no rfl rfl (by decide) (v := .bool true) (congrArg Value.bool g6) (Or.inl rfl) ?_
            refine WpL_guard_no rfl rfl (by decide) (v := .bool true) (congrArg Value.bool g6) (Or.inl rfl) ?_
            refine WpL_guard_no rfl rfl (by decide) (v := .bool true) (congrArg Value.bool g6) (Or.inl rfl) ?_
            refine WpL_guard_no rfl rfl (by decide) (v := .bool true) (congrArg Value.bool g6) (Or.inl rfl) ?_
            refine qV (r_pick (v := (.bool true)) rfl (by rw [g6]; rfl)) ?_
            refine qM _ rfl ?_
            refine WpL_guard_no rfl rfl (by decide) (v := .bool true) rfl (Or.inl rfl) ?_
            refine WpL_guard_no rfl rfl (by decide) (v := .bool true) rfl (Or.inl rfl) ?_
            refine WpL_guard_no rfl rfl (by decide) (v := .bool true) rfl (Or.inl rfl) ?_
            refine WpL_guard_no rfl rfl (by decide) (v := .bool true) rfl (Or.inl rfl) ?_
            refine WpL_guard_no rfl rfl (by decide) (v := .bool true) rfl (Or.inl rfl) ?_
            refine WpL_guard_no rfl rfl (by decide) (v := .bool true) rfl (Or.inl rfl) ?_
            refine qV (r_pick rfl rfl) ?_
            refine WpL_nil ?_
            refine Wp_cond_true rfl ?_
            refine Wp_seq_region ?_
            refine qA _ rfl ?_
            refine WpL_nil (Wp_ret (inB_ret (thn_ret (thn_ret (inB_ret (thn_ret ?_))))))
            refine fin_tmp Try.results13 (v := (.bool false)) rfl ?_
            exact absurd rfl kg6
           ·have kg6 := g6
            replace kg6 := of_decide_eq_false kg6
            refine WpL_guard_yes rfl rfl (by decide) (congrArg Value.bool g6) ?_
            refine qF b9 0 1 rfl Try.underlying76 rfl siz3 rfl ?_
            refine WpL_guard_yes rfl rfl (by decide) (congrArg Value.bool g6) ?_
            refine qV (r_load rfl flat3 (h9b.cell rfl)) ?_
            refine WpL_guard_yes rfl rfl (by decide) (congrArg Value.bool g6) ?_
            refine qF q9 0 1 rfl Try.underlying76 rfl siz3 rfl ?_
            refine WpL_guard_yes rfl rfl (by decide) (congrArg Value.bool g6) ?_
            refine qV (r_load rfl flat3 (B9q.cell rfl)) ?_
            refine WpL_guard_yes rfl rfl (by decide) (congrArg Value.bool g6) ?_
            refine qV (r_neq rfl rfl) ?_
            refine qV (r_pick (v := (.bool (decide ((x.2.1 : Int) ≠ x.2.1)))) rfl (by rw [g6]; rfl)) ?_
            refine qM _ rfl ?_
            rcases Bool.eq_false_or_eq_true (decide ((x.2.1 : Int) ≠ x.2.1)) with g7 | g7
            ·have kg7 := g7
             replace kg7 := of_decide_eq_true kg7
             refine WpL_guard_no rfl rfl (by decide) (v := .bool true) (congrArg Value.bool g7) (Or.inl rfl) ?_
             refine WpL_guard_no rfl rfl (by decide) (v := .bool true) (congrArg Value.bool g7) (Or.inl rfl) ?_
             refine WpL_guard_no rfl rfl (by decide) (v := .bool true) (congrArg Value.bool g7) (Or.inl rfl) ?_
             refine WpL_guard_no rfl rfl (by decide) (v := .bool true) (congrArg Value.bool g7) (Or.inl rfl) ?_
             refine WpL_guard_no rfl rfl (by decide) (v := .bool true) (congrArg Value.bool g7) (Or.inl rfl) ?_
             refine WpL_guard_no rfl rfl (by decide) (v := .bool true) (congrArg Value.bool g7) (Or.inl rfl) ?_
             refine qV (r_pick (v := (.bool true)) rfl (by rw [g7]; rfl)) ?_
             refine WpL_nil ?_
             refine Wp_cond_true rfl ?_
             refine Wp_seq_region ?_
             refine qA _ rfl ?_
             refine WpL_nil (Wp_ret (inB_ret (thn_ret (thn_ret (inB_ret (thn_ret ?_))))))
             refine fin_tmp Try.results13 (v := (.bool false)) rfl ?_
             exact absurd rfl kg7
            ·have kg7 := g7
             replace kg7 := of_decide_eq_false kg7
             refine WpL_guard_yes rfl rfl (by decide) (congrArg Value.bool g7) ?_
             refine qF b9 0 2 rfl Try.underlying76 rfl siz22 rfl ?_
             refine WpL_guard_yes rfl rfl (by decide) (congrArg Value.bool g7) ?_
             refine qV (r_load rfl flat22 (h9b.cell rfl)) ?_
             refine WpL_guard_yes rfl rfl (by decide) (congrArg Value.bool g7) ?_
             refine qF q9 0 2 rfl Try.underlying76 rfl siz22 rfl ?_
             refine WpL_guard_yes rfl rfl (by decide) (congrArg Value.bool g7) ?_
             refine qV (r_load rfl flat22 (B9q.cell rfl)) ?_
             refine WpL_guard_yes rfl rfl (by decide) (congrArg Value.bool g7) ?_
             refine WpL_enter rfl rfl (by decide) (r_callF Try.func40 kQ kQ rfl) (rspeq_c _ _ _ x.2.2 x.2.2 (SlAt.ext h9s E) (SlAt.ext ht2 E)) ?_
             rintro _ w19 ⟨rfl, X19⟩
             replace Bp := X19.keep Bp
             replace Bq := X19.keep Bq
             replace B9q := X19.keep B9q
             replace h9b := X19.keep h9b
             replace E := E.ext X19
             refine WpL_guard_yes rfl rfl (by decide) (congrArg Value.bool g7) ?_
             refine qV (r_not rfl) ?_
             refine qV (r_pick (v := (.bool (!(decide (x.2.2 = x.2.2))))) rfl (by rw [g7]; rfl)) ?_
             refine WpL_nil ?_
             have hc16 : (!(decide (x.2.2 = x.2.2))) = false := by simp
             refine Wp_cond_false (congrArg Value.bool hc16) ?_
             refine Wp_skip (inB_normal (thn_normal (Wp_region ?_)))
             refine qV (r_add rfl rfl (wI64 (by omega))) ?_
             refine qM _ rfl ?_
             refine WpL_nil (thn_normal ?_)
             exact ⟨n.edges.length - (j + 1), by omega, j + 1, Fits.out ⟨rfl, rfl, rfl, rfl, trivial⟩, E, Bp, Bq, (by omega), rfl⟩
         ·have khlt2 := hlt2
          replace hlt2 := of_decide_eq_false hlt2
          refine Wp_exit (thn_exit (thn_exit (inB_here (thn_normal (Wp_seq_region ?_)))))
          refine qA _ rfl ?_
          refine WpL_nil (Wp_ret ?_)
          refine fin_tmp Try.results13 (v := (.bool true)) rfl ?_
          exact ⟨rfl, E⟩
end Go.Proofs
namespace Go.Proofs
open Go Go.Eng
set_option maxRecDepth 100000
def needF (k : Int) : Int := if k = 3 ∨ k = 4 ∨ k = 7 then 2 else if k = 5 ∨ k = 6 ∨ k = 8 ∨ k = 9 ∨ k = 10 then 1 else 0
def needA : Array Value := #[.int .i64 0, .int .i64 0, .int .i64 0, .int .i64 2, .int .i64 2, .int .i64 1, .int .i64 1, .int .i64 2, .int .i64 1, .int .i64 1, .int .i64 1]
theorem need_tab : ∀ i, i < 11 → needA[i]? = some (.int .i64 (needF ((i : Nat) : Int))) := by
  intro i h
  match i, h with
  | 0, _ => rfl
  | 1, _ => rfl
  | 2, _ => rfl
  | 3, _ => rfl
  | 4, _ => rfl
  | 5, _ => rfl
  | 6, _ => rfl
  | 7, _ => rfl
  | 8, _ => rfl
  | 9, _ => rfl
  | 10, _ => rfl
theorem need_c (k : Int) (h0 : 0 ≤ k) (h1 : k ≤ 10) (w0 : World) : Ret Try.prog 80 #[.int .i64 k] w0 fun v w => v = .int .i64 (needF k) ∧ Ext w0 w := by
 refine Ret_of Try.func80 rfl Try.ntmps80 (Nat.le_of_ble_eq_true rfl) ?_
 have E : Chg none1 w0 w0 := Chg.refl _ _
 refine Wp_seq_region ?_
 refine qA (I6 0) rfl ?_
 refine WpL_nil (Wp_seq_region ?_)
 refine s_buildSlice (ps := [(0, (I6 0)), (1, (I6 0)), (2, (I6 0)), (3, (I6 2)), (4, (I6 2)), (5, (I6 1)), (6, (I6 1)), (7, (I6 2)), (8, (I6 1)), (9, (I6 1)), (10, (I6 1))]) (c := #[(I6 0), (I6 0), (I6 0), (I6 2), (I6 2), (I6 1), (I6 1), (I6 2), (I6 1), (I6 1), (I6 1)]) (by decide) rfl Try.underlying26 siz3 zer3 (by decide) (by decide) (by kernel_rfl) ?_
 intro bq wq Nq
 have Fq := Nq.ge E
 replace E := E.ext Nq.ext
 have Bq := Nq.blk
 refine qM (I6 k) rfl ?_
 refine qV (r_indexSlice (b := bq) (o := 0) (len := 11) (cap := 11) (i := k.toNat) (o' := 0 + k.toNat) rfl rfl (by omega) Try.underlying26 siz3 (by omega) (by omega)) ?_
 refine qV (r_load (v := (I6 (needF k))) rfl flat3 (Bq.cell (by have := need_tab k.toNat (by omega); rw [Int.toNat_of_nonneg h0] at this; rw [Nat.zero_add]; exact this))) ?_
 refine qA (I6 (needF k)) rfl ?_
 refine WpL_nil (Wp_ret ?_)
 refine fin_tmp Try.results80 (v := (.int .i64 (needF k))) rfl ?_
 exact ⟨rfl, E⟩
theorem form_need {t : Re} (h0 : 0 ≤ t.kind) (h1 : t.kind ≤ 10) : okB t.kind t.args.length = !(decide ((t.args.length : Int) < needF t.kind) || (decide (needF t.kind < 2) && decide (needF t.kind < t.args.length))) := by
 unfold okB needF
 by_cases h3 : t.kind = 3 ∨ t.kind = 4 ∨ t.kind = 7
 ·simp only [if_pos h3]; rw [Bool.eq_iff_iff]; simp
 ·by_cases h5 : t.kind = 5 ∨ t.kind = 6 ∨ t.kind = 8 ∨ t.kind = 9 ∨ t.kind = 10
  ·simp only [if_neg h3, if_pos h5]; rw [Bool.eq_iff_iff]; simp; omega
  ·simp only [if_neg h3, if_neg h5]; rw [Bool.eq_iff_iff]; simp
set_option maxHeartbeats 2000000 in
theorem cnode_c (wb w0 : World) (t : Re) (vs : List Value) (ht : ReAt wb t vs) (hE : Ext wb w0) :
  Ret Try.prog 36 #[.agg vs.toArray] w0 fun v w => v = .int .i64 (nodeE t) ∧ Ext w0 w := by
 have ht0 := ht
 obtain ⟨sa, sc, aa, ac, rfl, hset, hlen, hargs⟩ := ht.form
 have hslen : t.set.length ≤ 9223372036854775807 := by simpa using SlAt.le hset
 refine Ret_of Try.func36 rfl Try.ntmps36 (Nat.le_of_ble_eq_true rfl) ?_
 have E : Chg none1 w0 w0 := Chg.refl _ _
 refine Wp_seq_region ?_
 refine s_box (v := (.agg (R6 t sa sc aa ac))) (c := (R6 t sa sc aa ac)) (by decide) rfl rfl ?_
 intro b1 w1 N1
 have F1 := N1.ge E
 replace E := E.ext N1.ext
 have B1 := N1.blk
 refine qA _ rfl ?_
 refine WpL_nil (Wp_seq (Wp_seq_region ?_))
 refine qF b1 0 0 rfl Try.underlying25 rfl siz3 rfl ?_
 refine qV (r_load rfl flat3 (B1.cell rfl)) ?_
 obtain ⟨e2, he2⟩ : ∃ e, (decide ((t.kind : Int) < 0)) = e := ⟨_, rfl⟩
 refine qV ((r_lss rfl rfl).trans (by rw [he2]; try rfl)) ?_
 refine qM _ rfl ?_
 refine qG (.bool e2) (nU e2 (P6 b1 0)) (by cases e2 <;> first | exact gA | exact gB | exact .inl ⟨rfl, r_fieldAddr rfl Try.underlying25 rfl siz3 rfl⟩) ?_
 refine qG (.bool e2) (nU e2 (I6 t.kind)) (by cases e2 <;> first | exact gA | exact gB | exact .inl ⟨rfl, r_load rfl flat3 (B1.cell rfl)⟩) ?_
 obtain ⟨e3, he3⟩ : ∃ e, (decide ((10 : Int) < t.kind)) = e := ⟨_, rfl⟩
 refine qG (.bool e2) (nU e2 (.bool e3)) (by cases e2 <;> first | exact gA | exact gB | exact .inl ⟨rfl, (r_gtr rfl rfl).trans (by rw [he3]; try rfl)⟩) ?_
 obtain ⟨e4, he4⟩ : ∃ e, (e2 || e3) = e := ⟨_, rfl⟩
 refine qV (r_pick (v := .bool e4) rfl (by rw [← he4]; cases e2 <;> rfl)) ?_
 refine WpL_nil ?_
 subst he4
 subst he3
 subst he2
 refine Wp_cond rfl (fun hk => ?_) (fun hk => ?_)
 ·have khk := hk
  simp at hk
  refine Wp_seq_region ?_
  refine qA _ rfl ?_
  refine WpL_nil (Wp_ret (thn_ret ?_))
  refine fin_tmp Try.results36 (v := (.int .i64 1)) rfl ?_
  exact ⟨int_eq (by unfold nodeE; rw [if_pos (by omega)]), E⟩
 ·have khk := hk
  simp at hk
  refine Wp_skip (thn_normal (Wp_seq_region ?_))
  refine qF b1 0 2 rfl Try.underlying25 rfl siz23 rfl ?_
  refine qV (r_load rfl flat23 (B1.cell rfl)) ?_
  refine qV (r_lenSlice Try.underlying23 rfl) ?_
  refine qA _ rfl ?_
  refine WpL_nil (Wp_seq (Wp_seq_region ?_))
  refine qM _ rfl ?_
  refine qF b1 0 0 rfl Try.underlying25 rfl siz3 rfl ?_
  refine qV (r_load rfl flat3 (B1.cell rfl)) ?_
  refine WpL_enter rfl rfl (by decide) (r_callF Try.func80 kQ kQ rfl) (need_c t.kind (by omega) (by omega) _) ?_
  rintro _ w1 ⟨rfl, X1⟩
  replace B1 := X1.keep B1
  replace E := E.ext X1
  refine qV (r_lss rfl rfl) ?_
  refine qM _ rfl ?_
  rcases Bool.eq_false_or_eq_true (decide ((((t.args.length : Nat) : Int) : Int) < needF t.kind)) with hg6 | hg6
  ·have khg6 := hg6
   replace khg6 := of_decide_eq_true khg6
   refine WpL_guard_no rfl rfl (by decide) (v := .bool true) (congrArg Value.bool hg6) (Or.inl rfl) ?_
   refine WpL_guard_no rfl rfl (by decide) (v := .bool true) (congrArg Value.bool hg6) (Or.inl rfl) ?_
   refine WpL_guard_no rfl rfl (by decide) (v := .bool true) (congrArg Value.bool hg6) (Or.inl rfl) ?_
   refine WpL_guard_no rfl rfl (by decide) (v := .bool true) (congrArg Value.bool hg6) (Or.inl rfl) ?_
   refine WpL_guard_no rfl rfl (by decide) (v := .bool true) (congrArg Value.bool hg6) (Or.inl rfl) ?_
   refine WpL_guard_no rfl rfl (by decide) (v := undef) rfl (Or.inr rfl) ?_
   refine WpL_guard_no rfl rfl (by decide) (v := undef) rfl (Or.inr rfl) ?_
   refine WpL_guard_no rfl rfl (by decide) (v := undef) rfl (Or.inr rfl) ?_
   refine WpL_guard_no rfl rfl (by decide) (v := undef) rfl (Or.inr rfl) ?_
   refine WpL_guard_no rfl rfl (by decide) (v := undef) rfl (Or.inr rfl) ?_
   refine WpL_guard_no rfl rfl (by decide) (v := .bool true) (congrArg Value.bool hg6) (Or.inl rfl) ?_
   refine qV (r_pick (v := (.bool true)) rfl (by rw [hg6]; rfl)) ?_
   refine WpL_nil ?_
   refine Wp_cond_true rfl ?_
   refine Wp_seq_region ?_
   refine qA _ rfl ?_
   refine WpL_nil (Wp_ret (thn_ret ?_))
   refine fin_tmp Try.results36 (v := (.int .i64 3)) rfl ?_
   have hff : okB t.kind t.args.length = false := by rw [form_need (by omega) (by omega)]; simp; omega
   exact ⟨int_eq (by unfold nodeE; rw [if_neg (by omega), if_pos (by simp [formB, hff])]), E⟩
  ·have khg6 := hg6
   replace khg6 := of_decide_eq_false khg6
   refine WpL_guard_yes rfl rfl (by decide) (congrArg Value.bool hg6) ?_
   refine qF b1 0 0 rfl Try.underlying25 rfl siz3 rfl ?_
   refine WpL_guard_yes rfl rfl (by decide) (congrArg Value.bool hg6) ?_
   refine qV (r_load rfl flat3 (B1.cell rfl)) ?_
   refine WpL_guard_yes rfl rfl (by decide) (congrArg Value.bool hg6) ?_
   refine WpL_enter rfl rfl (by decide) (r_callF Try.func80 kQ kQ rfl) (need_c t.kind (by omega) (by omega) _) ?_
   rintro _ w2 ⟨rfl, X2⟩
   replace B1 := X2.keep B1
   replace E := E.ext X2
   refine WpL_guard_yes rfl rfl (by decide) (congrArg Value.bool hg6) ?_
   refine qV (r_lss rfl rfl) ?_
   refine WpL_guard_yes rfl rfl (by decide) (congrArg Value.bool hg6) ?_
   refine qM _ rfl ?_
   rcases Bool.eq_false_or_eq_true (decide ((needF t.kind : Int) < 2)) with hg7 | hg7
   ·have khg7 := hg7
    replace khg7 := of_decide_eq_true khg7
    refine WpL_guard_yes rfl rfl (by decide) (congrArg Value.bool hg7) ?_
    refine qM _ rfl ?_
    refine WpL_guard_yes rfl rfl (by decide) (congrArg Value.bool hg7) ?_
    refine qF b1 0 0 rfl Try.underlying25 rfl siz3 rfl ?_
    refine WpL_guard_yes rfl rfl (by decide) (congrArg Value.bool hg7) ?_
    refine qV (r_load rfl flat3 (B1.cell rfl)) ?_
    refine WpL_guard_yes rfl rfl (by decide) (congrArg Value.bool hg7) ?_
    refine WpL_enter rfl rfl (by decide) (r_callF Try.func80 kQ kQ rfl) (need_c t.kind (by omega) (by omega) _) ?_
    rintro _ w3 ⟨rfl, X3⟩
    replace B1 := X3.keep B1
    replace E := E.ext X3
    refine WpL_guard_yes rfl rfl (by decide) (congrArg Value.bool hg7) ?_
    refine qV (r_gtr rfl rfl) ?_
    refine WpL_guard_yes rfl rfl (by decide) (congrArg Value.bool hg6) ?_
    refine qV (r_pick (v := (.bool (decide ((needF t.kind : Int) < (t.args.length : Int))))) rfl (by rw [hg7]; rfl)) ?_
    refine qV (r_pick (v := (.bool (decide ((needF t.kind : Int) < (t.args.length : Int))))) rfl (by rw [hg6]; rfl)) ?_
    refine WpL_nil ?_
    refine Wp_cond rfl (fun hn => ?_) (fun hn => ?_)
    ·have khn := hn
     replace hn := of_decide_eq_true hn
     refine Wp_seq_region ?_
     refine qA _ rfl ?_
     refine WpL_nil (Wp_ret (thn_ret ?_))
     refine fin_tmp Try.results36 (v := (.int .i64 3)) rfl ?_
     have hff : okB t.kind t.args.length = false := by rw [form_need (by omega) (by omega)]; simp; omega
     exact ⟨int_eq (by unfold nodeE; rw [if_neg (by omega), if_pos (by simp [formB, hff])]), E⟩
    ·have khn := hn
     replace hn := of_decide_eq_false hn
     have hoB : okB t.kind t.args.length = true := by rw [form_need (by omega) (by omega)]; simp; omega
     refine Wp_skip (thn_normal (Wp_seq (Wp_seq_region ?_)))
     refine qF b1 0 0 rfl Try.underlying25 rfl siz3 rfl ?_
     refine qV (r_load rfl flat3 (B1.cell rfl)) ?_
     obtain ⟨e9, he9⟩ : ∃ e, (decide ((t.kind : Int) ≠ 2)) = e := ⟨_, rfl⟩
     refine qV ((r_neq rfl rfl).trans (by rw [he9]; try rfl)) ?_
     refine qM _ rfl ?_
     refine qG (.bool e9) (yU e9 (P6 b1 1)) (by cases e9 <;> first | exact gA | exact gB | exact .inl ⟨rfl, r_fieldAddr rfl Try.underlying25 rfl siz22 rfl⟩) ?_
     refine qG (.bool e9) (yU e9 (.slice sa t.set.length sc)) (by cases e9 <;> first | exact gA | exact gB | exact .inl ⟨rfl, r_load rfl flat22 (B1.cell rfl)⟩) ?_
     refine qG (.bool e9) (yU e9 (I6 (t.set.length : Int))) (by cases e9 <;> first | exact gA | exact gB | exact .inl ⟨rfl, r_lenSlice Try.underlying22 rfl⟩) ?_
     obtain ⟨e10, he10⟩ : ∃ e, (decide ((0 : Int) < ((t.set.length : Nat) : Int))) = e := ⟨_, rfl⟩
     refine qG (.bool e9) (yU e9 (.bool e10)) (by cases e9 <;> first | exact gA | exact gB | exact .inl ⟨rfl, (r_gtr rfl rfl).trans (by rw [he10]; try rfl)⟩) ?_
     obtain ⟨e11, he11⟩ : ∃ e, (e9 && e10) = e := ⟨_, rfl⟩
     refine qV (r_pick (v := .bool e11) rfl (by rw [← he11]; cases e9 <;> rfl)) ?_
     refine qM _ rfl ?_
     refine qG (.bool e11) (nU e11 (P6 b1 0)) (by cases e11 <;> first | exact gA | exact gB | exact .inl ⟨rfl, r_fieldAddr rfl Try.underlying25 rfl siz3 rfl⟩) ?_
     refine qG (.bool e11) (nU e11 (I6 t.kind)) (by cases e11 <;> first | exact gA | exact gB | exact .inl ⟨rfl, r_load rfl flat3 (B1.cell rfl)⟩) ?_
     obtain ⟨e12, he12⟩ : ∃ e, (decide ((t.kind : Int) ≠ 6)) = e := ⟨_, rfl⟩
     refine qG (.bool e11) (nU e11 (.bool e12)) (by cases e11 <;> first | exact gA | exact gB | exact .inl ⟨rfl, (r_neq rfl rfl).trans (by rw [he12]; try rfl)⟩) ?_
     refine qG (.bool e11) (nU e11 (.bool e12)) (by cases e11 <;> first | exact gA | exact gB | exact .inl ⟨rfl, r_move rfl⟩) ?_
     refine qG (nU e11 (.bool e12)) (nU e11 (yU e12 (P6 b1 4))) (by cases e11 <;> cases e12 <;> first | exact gA | exact gB | exact .inl ⟨rfl, r_fieldAddr rfl Try.underlying25 rfl siz3 rfl⟩) ?_
     refine qG (nU e11 (.bool e12)) (nU e11 (yU e12 (I6 t.mx))) (by cases e11 <;> cases e12 <;> first | exact gA | exact gB | exact .inl ⟨rfl, r_load rfl flat3 (B1.cell rfl)⟩) ?_
     obtain ⟨e13, he13⟩ : ∃ e, (decide ((t.mx : Int) ≠ 0)) = e := ⟨_, rfl⟩
     refine qG (nU e11 (.bool e12)) (nU e11 (yU e12 (.bool e13))) (by cases e11 <;> cases e12 <;> first | exact gA | exact gB | exact .inl ⟨rfl, (r_neq rfl rfl).trans (by rw [he13]; try rfl)⟩) ?_
     obtain ⟨e14, he14⟩ : ∃ e, (e12 && e13) = e := ⟨_, rfl⟩
     refine qG (.bool e11) (nU e11 (.bool e14)) (by cases e11 <;> first | exact gA | exact gB | exact .inl ⟨rfl, r_pick (v := .bool e14) rfl (by rw [← he14]; cases e12 <;> rfl)⟩) ?_
     obtain ⟨e15, he15⟩ : ∃ e, (e11 || e14) = e := ⟨_, rfl⟩
     refine qV (r_pick (v := .bool e15) rfl (by rw [← he15]; cases e11 <;> rfl)) ?_
     refine qM _ rfl ?_
     refine qG (.bool e15) (nU e15 (P6 b1 0)) (by cases e15 <;> first | exact gA | exact gB | exact .inl ⟨rfl, r_fieldAddr rfl Try.underlying25 rfl siz3 rfl⟩) ?_
     refine qG (.bool e15) (nU e15 (I6 t.kind)) (by cases e15 <;> first | exact gA | exact gB | exact .inl ⟨rfl, r_load rfl flat3 (B1.cell rfl)⟩) ?_
     obtain ⟨e16, he16⟩ : ∃ e, (decide ((t.kind : Int) ≠ 6)) = e := ⟨_, rfl⟩
     refine qG (.bool e15) (nU e15 (.bool e16)) (by cases e15 <;> first | exact gA | exact gB | exact .inl ⟨rfl, (r_neq rfl rfl).trans (by rw [he16]; try rfl)⟩) ?_
     refine qG (.bool e15) (nU e15 (.bool e16)) (by cases e15 <;> first | exact gA | exact gB | exact .inl ⟨rfl, r_move rfl⟩) ?_
     refine qG (nU e15 (.bool e16)) (nU e15 (yU e16 (P6 b1 0))) (by cases e15 <;> cases e16 <;> first | exact gA | exact gB | exact .inl ⟨rfl, r_fieldAddr rfl Try.underlying25 rfl siz3 rfl⟩) ?_
     refine qG (nU e15 (.bool e16)) (nU e15 (yU e16 (I6 t.kind))) (by cases e15 <;> cases e16 <;> first | exact gA | exact gB | exact .inl ⟨rfl, r_load rfl flat3 (B1.cell rfl)⟩) ?_
     obtain ⟨e17, he17⟩ : ∃ e, (decide ((t.kind : Int) ≠ 9)) = e := ⟨_, rfl⟩
     refine qG (nU e15 (.bool e16)) (nU e15 (yU e16 (.bool e17))) (by cases e15 <;> cases e16 <;> first | exact gA | exact gB | exact .inl ⟨rfl, (r_neq rfl rfl).trans (by rw [he17]; try rfl)⟩) ?_
     obtain ⟨e18, he18⟩ : ∃ e, (e16 && e17) = e := ⟨_, rfl⟩
     refine qG (.bool e15) (nU e15 (.bool e18)) (by cases e15 <;> first | exact gA | exact gB | exact .inl ⟨rfl, r_pick (v := .bool e18) rfl (by rw [← he18]; cases e16 <;> rfl)⟩) ?_
     refine qG (.bool e15) (nU e15 (.bool e18)) (by cases e15 <;> first | exact gA | exact gB | exact .inl ⟨rfl, r_move rfl⟩) ?_
     refine qG (nU e15 (.bool e18)) (nU e15 (yU e18 (P6 b1 3))) (by cases e15 <;> cases e18 <;> first | exact gA | exact gB | exact .inl ⟨rfl, r_fieldAddr rfl Try.underlying25 rfl siz3 rfl⟩) ?_
     refine qG (nU e15 (.bool e18)) (nU e15 (yU e18 (I6 t.mn))) (by cases e15 <;> cases e18 <;> first | exact gA | exact gB | exact .inl ⟨rfl, r_load rfl flat3 (B1.cell rfl)⟩) ?_
     obtain ⟨e19, he19⟩ : ∃ e, (decide ((t.mn : Int) ≠ 0)) = e := ⟨_, rfl⟩
     refine qG (nU e15 (.bool e18)) (nU e15 (yU e18 (.bool e19))) (by cases e15 <;> cases e18 <;> first | exact gA | exact gB | exact .inl ⟨rfl, (r_neq rfl rfl).trans (by rw [he19]; try rfl)⟩) ?_
     obtain ⟨e20, he20⟩ : ∃ e, (e18 && e19) = e := ⟨_, rfl⟩
     refine qG (.bool e15) (nU e15 (.bool e20)) (by cases e15 <;> first | exact gA | exact gB | exact .inl ⟨rfl, r_pick (v := .bool e20) rfl (by rw [← he20]; cases e18 <;> rfl)⟩) ?_
     obtain ⟨e21, he21⟩ : ∃ e, (e15 || e20) = e := ⟨_, rfl⟩
     refine qV (r_pick (v := .bool e21) rfl (by rw [← he21]; cases e15 <;> rfl)) ?_
     refine qM _ rfl ?_
     refine qG (.bool e21) (nU e21 (P6 b1 0)) (by cases e21 <;> first | exact gA | exact gB | exact .inl ⟨rfl, r_fieldAddr rfl Try.underlying25 rfl siz3 rfl⟩) ?_
     refine qG (.bool e21) (nU e21 (I6 t.kind)) (by cases e21 <;> first | exact gA | exact gB | exact .inl ⟨rfl, r_load rfl flat3 (B1.cell rfl)⟩) ?_
     obtain ⟨e22, he22⟩ : ∃ e, (decide ((t.kind : Int) ≠ 10)) = e := ⟨_, rfl⟩
     refine qG (.bool e21) (nU e21 (.bool e22)) (by cases e21 <;> first | exact gA | exact gB | exact .inl ⟨rfl, (r_neq rfl rfl).trans (by rw [he22]; try rfl)⟩) ?_
     refine qG (.bool e21) (nU e21 (.bool e22)) (by cases e21 <;> first | exact gA | exact gB | exact .inl ⟨rfl, r_move rfl⟩) ?_
     refine qG (nU e21 (.bool e22)) (nU e21 (yU e22 (P6 b1 5))) (by cases e21 <;> cases e22 <;> first | exact gA | exact gB | exact .inl ⟨rfl, r_fieldAddr rfl Try.underlying25 rfl siz4 rfl⟩) ?_
     refine qG (nU e21 (.bool e22)) (nU e21 (yU e22 (.bool t.neg))) (by cases e21 <;> cases e22 <;> first | exact gA | exact gB | exact .inl ⟨rfl, r_load rfl flat4 (B1.cell rfl)⟩) ?_
     obtain ⟨e23, he23⟩ : ∃ e, (e22 && t.neg) = e := ⟨_, rfl⟩
     refine qG (.bool e21) (nU e21 (.bool e23)) (by cases e21 <;> first | exact gA | exact gB | exact .inl ⟨rfl, r_pick (v := .bool e23) rfl (by rw [← he23]; cases e22 <;> rfl)⟩) ?_
     obtain ⟨e24, he24⟩ : ∃ e, (e21 || e23) = e := ⟨_, rfl⟩
     refine qV (r_pick (v := .bool e24) rfl (by rw [← he24]; cases e21 <;> rfl)) ?_
     refine WpL_nil ?_
     subst he24
     subst he23
     subst he22
     subst he21
     subst he20
     subst he19
     subst he18
     subst he17
     subst he16
     subst he15
     subst he14
     subst he13
     subst he12
     subst he11
     subst he10
     subst he9
     refine Wp_cond rfl (fun hf => ?_) (fun hf => ?_)
     ·have khf := hf
      have hfB : formB t = false := by rw [← Bool.not_eq_true]; intro h; unfold formB at h; generalize t.set.length = sl at h hf; cases hng : t.neg <;> simp [hng] at h hf <;> omega
      refine Wp_seq_region ?_
      refine qA _ rfl ?_
      refine WpL_nil (Wp_ret (thn_ret ?_))
      refine fin_tmp Try.results36 (v := (.int .i64 3)) rfl ?_
      exact ⟨int_eq (by unfold nodeE; rw [if_neg (by omega), if_pos hfB]), E⟩
     ·have khf := hf
      have hfB : formB t = true := by unfold formB; rw [hoB]; generalize t.set.length = sl at hf; cases hng : t.neg <;> simp [hng] at hf ⊢ <;> omega
      have hN : nodeE t = if t.kind = 2 then (if checkE t.set ≠ 0 then checkE t.set else if (t.set.length : Int) = 0 then 3 else 0) else if t.kind = 6 then (if t.mn < 0 ∨ t.mx < t.mn ∨ 8 < t.mx then 1 else 0) else if t.kind = 9 then (if t.mn < 0 ∨ 9 < t.mn then 1 else 0) else 0 := by unfold nodeE; rw [if_neg (by omega), if_neg (by simp [hfB])]
      rw [hN]
      refine Wp_skip (thn_normal (Wp_seq (Wp_seq_region ?_)))
      refine qF b1 0 0 rfl Try.underlying25 rfl siz3 rfl ?_
      refine qV (r_load rfl flat3 (B1.cell rfl)) ?_
      refine qV (r_eql rfl rfl) ?_
      refine WpL_nil ?_
      refine Wp_cond rfl (fun h2 => ?_) (fun h2 => ?_)
      ·have kh2 := h2
       replace h2 := of_decide_eq_true h2
       rw [if_pos h2]
       refine Wp_seq (Wp_seq_region ?_)
       refine qF b1 0 1 rfl Try.underlying25 rfl siz22 rfl ?_
       refine qV (r_load rfl flat22 (B1.cell rfl)) ?_
       refine WpL_enter rfl rfl (by decide) (r_callF Try.func81 kQ kQ rfl) (cset_c _ _ t.set ((hset.ext hE).ext E)) ?_
       rintro _ w10 ⟨rfl, X10⟩
       replace B1 := X10.keep B1
       replace E := E.ext X10
       refine qA _ rfl ?_
       refine WpL_nil (Wp_seq_region ?_)
       refine qM _ rfl ?_
       refine qV (r_neq rfl rfl) ?_
       refine WpL_nil ?_
       refine Wp_cond rfl (fun h3 => ?_) (fun h3 => ?_)
       ·have kh3 := h3
        replace h3 := of_decide_eq_true h3
        refine Wp_seq_region ?_
        refine qM _ rfl ?_
        refine qA _ rfl ?_
        refine WpL_nil (Wp_ret (thn_ret (thn_ret ?_)))
        refine fin_tmp Try.results36 (v := (.int .i64 (checkE t.set))) rfl ?_
        exact ⟨int_eq (by rw [if_pos h3]), E⟩
       ·have kh3 := h3
        replace h3 := of_decide_eq_false h3
        rw [if_neg h3]
        refine Wp_skip (thn_normal (Wp_seq_region ?_))
        refine qF b1 0 1 rfl Try.underlying25 rfl siz22 rfl ?_
        refine qV (r_load rfl flat22 (B1.cell rfl)) ?_
        refine qV (r_lenSlice Try.underlying22 rfl) ?_
        refine qV (r_eql rfl rfl) ?_
        refine WpL_nil ?_
        refine Wp_cond rfl (fun h4 => ?_) (fun h4 => ?_)
        ·have kh4 := h4
         replace h4 := of_decide_eq_true h4
         refine Wp_seq_region ?_
         refine qA _ rfl ?_
         refine WpL_nil (Wp_ret (thn_ret ?_))
         refine fin_tmp Try.results36 (v := (.int .i64 3)) rfl ?_
         exact ⟨int_eq (by rw [if_pos h4]), E⟩
        ·have kh4 := h4
         replace h4 := of_decide_eq_false h4
         rw [if_neg h4]
         refine Wp_skip (thn_normal (Wp_seq (Wp_seq_region ?_)))
         refine qF b1 0 0 rfl Try.underlying25 rfl siz3 rfl ?_
         refine qV (r_load rfl flat3 (B1.cell rfl)) ?_
         obtain ⟨e29, he29⟩ : ∃ e, (decide ((t.kind : Int) = 6)) = e := ⟨_, rfl⟩
         refine qV ((r_eql rfl rfl).trans (by rw [he29]; try rfl)) ?_
         refine qM _ rfl ?_
         refine qG (.bool e29) (yU e29 (P6 b1 3)) (by cases e29 <;> first | exact gA | exact gB | exact .inl ⟨rfl, r_fieldAddr rfl Try.underlying25 rfl siz3 rfl⟩) ?_
         refine qG (.bool e29) (yU e29 (I6 t.mn)) (by cases e29 <;> first | exact gA | exact gB | exact .inl ⟨rfl, r_load rfl flat3 (B1.cell rfl)⟩) ?_
         obtain ⟨e30, he30⟩ : ∃ e, (decide ((t.mn : Int) < 0)) = e := ⟨_, rfl⟩
         refine qG (.bool e29) (yU e29 (.bool e30)) (by cases e29 <;> first | exact gA | exact gB | exact .inl ⟨rfl, (r_lss rfl rfl).trans (by rw [he30]; try rfl)⟩) ?_
         refine qG (.bool e29) (yU e29 (.bool e30)) (by cases e29 <;> first | exact gA | exact gB | exact .inl ⟨rfl, r_move rfl⟩) ?_
         refine qG (yU e29 (.bool e30)) (yU e29 (nU e30 (P6 b1 4))) (by cases e29 <;> cases e30 <;> first | exact gA | exact gB | exact .inl ⟨rfl, r_fieldAddr rfl Try.underlying25 rfl siz3 rfl⟩) ?_
         refine qG (yU e29 (.bool e30)) (yU e29 (nU e30 (I6 t.mx))) (by cases e29 <;> cases e30 <;> first | exact gA | exact gB | exact .inl ⟨rfl, r_load rfl flat3 (B1.cell rfl)⟩) ?_
         obtain ⟨e31, he31⟩ : ∃ e, (decide ((8 : Int) < t.mx)) = e := ⟨_, rfl⟩
         refine qG (yU e29 (.bool e30)) (yU e29 (nU e30 (.bool e31))) (by cases e29 <;> cases e30 <;> first | exact gA | exact gB | exact .inl ⟨rfl, (r_gtr rfl rfl).trans (by rw [he31]; try rfl)⟩) ?_
         obtain ⟨e32, he32⟩ : ∃ e, (e30 || e31) = e := ⟨_, rfl⟩
         refine qG (.bool e29) (yU e29 (.bool e32)) (by cases e29 <;> first | exact gA | exact gB | exact .inl ⟨rfl, r_pick (v := .bool e32) rfl (by rw [← he32]; cases e30 <;> rfl)⟩) ?_
         refine qG (.bool e29) (yU e29 (.bool e32)) (by cases e29 <;> first | exact gA | exact gB | exact .inl ⟨rfl, r_move rfl⟩) ?_
         refine qG (yU e29 (.bool e32)) (yU e29 (nU e32 (P6 b1 3))) (by cases e29 <;> cases e32 <;> first | exact gA | exact gB | exact .inl ⟨rfl, r_fieldAddr rfl Try.underlying25 rfl siz3 rfl⟩) ?_
         refine qG (yU e29 (.bool e32)) (yU e29 (nU e32 (I6 t.mn))) (by cases e29 <;> cases e32 <;> first | exact gA | exact gB | exact .inl ⟨rfl, r_load rfl flat3 (B1.cell rfl)⟩) ?_
         refine qG (yU e29 (.bool e32)) (yU e29 (nU e32 (P6 b1 4))) (by cases e29 <;> cases e32 <;> first | exact gA | exact gB | exact .inl ⟨rfl, r_fieldAddr rfl Try.underlying25 rfl siz3 rfl⟩) ?_
         refine qG (yU e29 (.bool e32)) (yU e29 (nU e32 (I6 t.mx))) (by cases e29 <;> cases e32 <;> first | exact gA | exact gB | exact .inl ⟨rfl, r_load rfl flat3 (B1.cell rfl)⟩) ?_
         obtain ⟨e33, he33⟩ : ∃ e, (decide ((t.mx : Int) < t.mn)) = e := ⟨_, rfl⟩
         refine qG (yU e29 (.bool e32)) (yU e29 (nU e32 (.bool e33))) (by cases e29 <;> cases e32 <;> first | exact gA | exact gB | exact .inl ⟨rfl, (r_gtr rfl rfl).trans (by rw [he33]; try rfl)⟩) ?_
         obtain ⟨e34, he34⟩ : ∃ e, (e32 || e33) = e := ⟨_, rfl⟩
         refine qG (.bool e29) (yU e29 (.bool e34)) (by cases e29 <;> first | exact gA | exact gB | exact .inl ⟨rfl, r_pick (v := .bool e34) rfl (by rw [← he34]; cases e32 <;> rfl)⟩) ?_
         obtain ⟨e35, he35⟩ : ∃ e, (e29 && e34) = e := ⟨_, rfl⟩
         refine qV (r_pick (v := .bool e35) rfl (by rw [← he35]; cases e29 <;> rfl)) ?_
         refine qM _ rfl ?_
         refine qG (.bool e35) (nU e35 (P6 b1 0)) (by cases e35 <;> first | exact gA | exact gB | exact .inl ⟨rfl, r_fieldAddr rfl Try.underlying25 rfl siz3 rfl⟩) ?_
         refine qG (.bool e35) (nU e35 (I6 t.kind)) (by cases e35 <;> first | exact gA | exact gB | exact .inl ⟨rfl, r_load rfl flat3 (B1.cell rfl)⟩) ?_
         obtain ⟨e36, he36⟩ : ∃ e, (decide ((t.kind : Int) = 9)) = e := ⟨_, rfl⟩
         refine qG (.bool e35) (nU e35 (.bool e36)) (by cases e35 <;> first | exact gA | exact gB | exact .inl ⟨rfl, (r_eql rfl rfl).trans (by rw [he36]; try rfl)⟩) ?_
         refine qG (.bool e35) (nU e35 (.bool e36)) (by cases e35 <;> first | exact gA | exact gB | exact .inl ⟨rfl, r_move rfl⟩) ?_
         refine qG (nU e35 (.bool e36)) (nU e35 (yU e36 (P6 b1 3))) (by cases e35 <;> cases e36 <;> first | exact gA | exact gB | exact .inl ⟨rfl, r_fieldAddr rfl Try.underlying25 rfl siz3 rfl⟩) ?_
         refine qG (nU e35 (.bool e36)) (nU e35 (yU e36 (I6 t.mn))) (by cases e35 <;> cases e36 <;> first | exact gA | exact gB | exact .inl ⟨rfl, r_load rfl flat3 (B1.cell rfl)⟩) ?_
         obtain ⟨e37, he37⟩ : ∃ e, (decide ((t.mn : Int) < 0)) = e := ⟨_, rfl⟩
         refine qG (nU e35 (.bool e36)) (nU e35 (yU e36 (.bool e37))) (by cases e35 <;> cases e36 <;> first | exact gA | exact gB | exact .inl ⟨rfl, (r_lss rfl rfl).trans (by rw [he37]; try rfl)⟩) ?_
         refine qG (nU e35 (.bool e36)) (nU e35 (yU e36 (.bool e37))) (by cases e35 <;> cases e36 <;> first | exact gA | exact gB | exact .inl ⟨rfl, r_move rfl⟩) ?_
         refine qG (nU e35 (yU e36 (.bool e37))) (nU e35 (yU e36 (nU e37 (P6 b1 3)))) (by cases e35 <;> cases e36 <;> cases e37 <;> first | exact gA | exact gB | exact .inl ⟨rfl, r_fieldAddr rfl Try.underlying25 rfl siz3 rfl⟩) ?_
         refine qG (nU e35 (yU e36 (.bool e37))) (nU e35 (yU e36 (nU e37 (I6 t.mn)))) (by cases e35 <;> cases e36 <;> cases e37 <;> first | exact gA | exact gB | exact .inl ⟨rfl, r_load rfl flat3 (B1.cell rfl)⟩) ?_
         obtain ⟨e38, he38⟩ : ∃ e, (decide ((9 : Int) < t.mn)) = e := ⟨_, rfl⟩
         refine qG (nU e35 (yU e36 (.bool e37))) (nU e35 (yU e36 (nU e37 (.bool e38)))) (by cases e35 <;> cases e36 <;> cases e37 <;> first | exact gA | exact gB | exact .inl ⟨rfl, (r_gtr rfl rfl).trans (by rw [he38]; try rfl)⟩) ?_
         obtain ⟨e39, he39⟩ : ∃ e, (e37 || e38) = e := ⟨_, rfl⟩
         refine qG (nU e35 (.bool e36)) (nU e35 (yU e36 (.bool e39))) (by cases e35 <;> cases e36 <;> first | exact gA | exact gB | exact .inl ⟨rfl, r_pick (v := .bool e39) rfl (by rw [← he39]; cases e37 <;> rfl)⟩) ?_
         obtain ⟨e40, he40⟩ : ∃ e, (e36 && e39) = e := ⟨_, rfl⟩
         refine qG (.bool e35) (nU e35 (.bool e40)) (by cases e35 <;> first | exact gA | exact gB | exact .inl ⟨rfl, r_pick (v := .bool e40) rfl (by rw [← he40]; cases e36 <;> rfl)⟩) ?_
         obtain ⟨e41, he41⟩ : ∃ e, (e35 || e40) = e := ⟨_, rfl⟩
         refine qV (r_pick (v := .bool e41) rfl (by rw [← he41]; cases e35 <;> rfl)) ?_
         refine WpL_nil ?_
         subst he41
         subst he40
         subst he39
         subst he38
         subst he37
         subst he36
         subst he35
         subst he34
         subst he33
         subst he32
         subst he31
         subst he30
         subst he29
         have hc42 : ((((decide ((t.kind : Int) = 6)) && (((decide ((t.mn : Int) < 0)) || (decide ((8 : Int) < t.mx))) || (decide ((t.mx : Int) < t.mn)))) || ((decide ((t.kind : Int) = 9)) && ((decide ((t.mn : Int) < 0)) || (decide ((9 : Int) < t.mn)))))) = false := by simp [h2]
         refine Wp_cond_false (congrArg Value.bool hc42) ?_
         refine Wp_skip (thn_normal (Wp_seq_region ?_))
         refine qA _ rfl ?_
         refine WpL_nil (Wp_ret ?_)
         refine fin_tmp Try.results36 (v := (.int .i64 0)) rfl ?_
         exact ⟨rfl, E⟩
      ·have kh2 := h2
       replace h2 := of_decide_eq_false h2
       rw [if_neg h2]
       refine Wp_skip (thn_normal (Wp_seq (Wp_seq_region ?_)))
       refine qF b1 0 0 rfl Try.underlying25 rfl siz3 rfl ?_
       refine qV (r_load rfl flat3 (B1.cell rfl)) ?_
       obtain ⟨e43, he43⟩ : ∃ e, (decide ((t.kind : Int) = 6)) = e := ⟨_, rfl⟩
       refine qV ((r_eql rfl rfl).trans (by rw [he43]; try rfl)) ?_
       refine qM _ rfl ?_
       refine qG (.bool e43) (yU e43 (P6 b1 3)) (by cases e43 <;> first | exact gA | exact gB | exact .inl ⟨rfl, r_fieldAddr rfl Try.underlying25 rfl siz3 rfl⟩) ?_
       refine qG (.bool e43) (yU e43 (I6 t.mn)) (by cases e43 <;> first | exact gA | exact gB | exact .inl ⟨rfl, r_load rfl flat3 (B1.cell rfl)⟩) ?_
       obtain ⟨e44, he44⟩ : ∃ e, (decide ((t.mn : Int) < 0)) = e := ⟨_, rfl⟩
       refine qG (.bool e43) (yU e43 (.bool e44)) (by cases e43 <;> first | exact gA | exact gB | exact .inl ⟨rfl, (r_lss rfl rfl).trans (by rw [he44]; try rfl)⟩) ?_
       refine qG (.bool e43) (yU e43 (.bool e44)) (by cases e43 <;> first | exact gA | exact gB | exact .inl ⟨rfl, r_move rfl⟩) ?_
       refine qG (yU e43 (.bool e44)) (yU e43 (nU e44 (P6 b1 4))) (by cases e43 <;> cases e44 <;> first | exact gA | exact gB | exact .inl ⟨rfl, r_fieldAddr rfl Try.underlying25 rfl siz3 rfl⟩) ?_
       refine qG (yU e43 (.bool e44)) (yU e43 (nU e44 (I6 t.mx))) (by cases e43 <;> cases e44 <;> first | exact gA | exact gB | exact .inl ⟨rfl, r_load rfl flat3 (B1.cell rfl)⟩) ?_
       obtain ⟨e45, he45⟩ : ∃ e, (decide ((8 : Int) < t.mx)) = e := ⟨_, rfl⟩
       refine qG (yU e43 (.bool e44)) (yU e43 (nU e44 (.bool e45))) (by cases e43 <;> cases e44 <;> first | exact gA | exact gB | exact .inl ⟨rfl, (r_gtr rfl rfl).trans (by rw [he45]; try rfl)⟩) ?_
       obtain ⟨e46, he46⟩ : ∃ e, (e44 || e45) = e := ⟨_, rfl⟩
       refine qG (.bool e43) (yU e43 (.bool e46)) (by cases e43 <;> first | exact gA | exact gB | exact .inl ⟨rfl, r_pick (v := .bool e46) rfl (by rw [← he46]; cases e44 <;> rfl)⟩) ?_
       refine qG (.bool e43) (yU e43 (.bool e46)) (by cases e43 <;> first | exact gA | exact gB | exact .inl ⟨rfl, r_move rfl⟩) ?_
       refine qG (yU e43 (.bool e46)) (yU e43 (nU e46 (P6 b1 3))) (by cases e43 <;> cases e46 <;> first | exact gA | exact gB | exact .inl ⟨rfl, r_fieldAddr rfl Try.underlying25 rfl siz3 rfl⟩) ?_
       refine qG (yU e43 (.bool e46)) (yU e43 (nU e46 (I6 t.mn))) (by cases e43 <;> cases e46 <;> first | exact gA | exact gB | exact .inl ⟨rfl, r_load rfl flat3 (B1.cell rfl)⟩) ?_
       refine qG (yU e43 (.bool e46)) (yU e43 (nU e46 (P6 b1 4))) (by cases e43 <;> cases e46 <;> first | exact gA | exact gB | exact .inl ⟨rfl, r_fieldAddr rfl Try.underlying25 rfl siz3 rfl⟩) ?_
       refine qG (yU e43 (.bool e46)) (yU e43 (nU e46 (I6 t.mx))) (by cases e43 <;> cases e46 <;> first | exact gA | exact gB | exact .inl ⟨rfl, r_load rfl flat3 (B1.cell rfl)⟩) ?_
       obtain ⟨e47, he47⟩ : ∃ e, (decide ((t.mx : Int) < t.mn)) = e := ⟨_, rfl⟩
       refine qG (yU e43 (.bool e46)) (yU e43 (nU e46 (.bool e47))) (by cases e43 <;> cases e46 <;> first | exact gA | exact gB | exact .inl ⟨rfl, (r_gtr rfl rfl).trans (by rw [he47]; try rfl)⟩) ?_
       obtain ⟨e48, he48⟩ : ∃ e, (e46 || e47) = e := ⟨_, rfl⟩
       refine qG (.bool e43) (yU e43 (.bool e48)) (by cases e43 <;> first | exact gA | exact gB | exact .inl ⟨rfl, r_pick (v := .bool e48) rfl (by rw [← he48]; cases e46 <;> rfl)⟩) ?_
       obtain ⟨e49, he49⟩ : ∃ e, (e43 && e48) = e := ⟨_, rfl⟩
       refine qV (r_pick (v := .bool e49) rfl (by rw [← he49]; cases e43 <;> rfl)) ?_
       refine qM _ rfl ?_
       refine qG (.bool e49) (nU e49 (P6 b1 0)) (by cases e49 <;> first | exact gA | exact gB | exact .inl ⟨rfl, r_fieldAddr rfl Try.underlying25 rfl siz3 rfl⟩) ?_
       refine qG (.bool e49) (nU e49 (I6 t.kind)) (by cases e49 <;> first | exact gA | exact gB | exact .inl ⟨rfl, r_load rfl flat3 (B1.cell rfl)⟩) ?_
       obtain ⟨e50, he50⟩ : ∃ e, (decide ((t.kind : Int) = 9)) = e := ⟨_, rfl⟩
       refine qG (.bool e49) (nU e49 (.bool e50)) (by cases e49 <;> first | exact gA | exact gB | exact .inl ⟨rfl, (r_eql rfl rfl).trans (by rw [he50]; try rfl)⟩) ?_
       refine qG (.bool e49) (nU e49 (.bool e50)) (by cases e49 <;> first | exact gA | exact gB | exact .inl ⟨rfl, r_move rfl⟩) ?_
       refine qG (nU e49 (.bool e50)) (nU e49 (yU e50 (P6 b1 3))) (by cases e49 <;> cases e50 <;> first | exact gA | exact gB | exact .inl ⟨rfl, r_fieldAddr rfl Try.underlying25 rfl siz3 rfl⟩) ?_
       refine qG (nU e49 (.bool e50)) (nU e49 (yU e50 (I6 t.mn))) (by cases e49 <;> cases e50 <;> first | exact gA | exact gB | exact .inl ⟨rfl, r_load rfl flat3 (B1.cell rfl)⟩) ?_
       obtain ⟨e51, he51⟩ : ∃ e, (decide ((t.mn : Int) < 0)) = e := ⟨_, rfl⟩
       refine qG (nU e49 (.bool e50)) (nU e49 (yU e50 (.bool e51))) (by cases e49 <;> cases e50 <;> first | exact gA | exact gB | exact .inl ⟨rfl, (r_lss rfl rfl).trans (by rw [he51]; try rfl)⟩) ?_
       refine qG (nU e49 (.bool e50)) (nU e49 (yU e50 (.bool e51))) (by cases e49 <;> cases e50 <;> first | exact gA | exact gB | exact .inl ⟨rfl, r_move rfl⟩) ?_
       refine qG (nU e49 (yU e50 (.bool e51))) (nU e49 (yU e50 (nU e51 (P6 b1 3)))) (by cases e49 <;> cases e50 <;> cases e51 <;> first | exact gA | exact gB | exact .inl ⟨rfl, r_fieldAddr rfl Try.underlying25 rfl siz3 rfl⟩) ?_
       refine qG (nU e49 (yU e50 (.bool e51))) (nU e49 (yU e50 (nU e51 (I6 t.mn)))) (by cases e49 <;> cases e50 <;> cases e51 <;> first | exact gA | exact gB | exact .inl ⟨rfl, r_load rfl flat3 (B1.cell rfl)⟩) ?_
       obtain ⟨e52, he52⟩ : ∃ e, (decide ((9 : Int) < t.mn)) = e := ⟨_, rfl⟩
       refine qG (nU e49 (yU e50 (.bool e51))) (nU e49 (yU e50 (nU e51 (.bool e52)))) (by cases e49 <;> cases e50 <;> cases e51 <;> first | exact gA | exact gB | exact .inl ⟨rfl, (r_gtr rfl rfl).trans (by rw [he52]; try rfl)⟩) ?_
       obtain ⟨e53, he53⟩ : ∃ e, (e51 || e52) = e := ⟨_, rfl⟩
       refine qG (nU e49 (.bool e50)) (nU e49 (yU e50 (.bool e53))) (by cases e49 <;> cases e50 <;> first | exact gA | exact gB | exact .inl ⟨rfl, r_pick (v := .bool e53) rfl (by rw [← he53]; cases e51 <;> rfl)⟩) ?_
       obtain ⟨e54, he54⟩ : ∃ e, (e50 && e53) = e := ⟨_, rfl⟩
       refine qG (.bool e49) (nU e49 (.bool e54)) (by cases e49 <;> first | exact gA | exact gB | exact .inl ⟨rfl, r_pick (v := .bool e54) rfl (by rw [← he54]; cases e50 <;> rfl)⟩) ?_
       obtain ⟨e55, he55⟩ : ∃ e, (e49 || e54) = e := ⟨_, rfl⟩
       refine qV (r_pick (v := .bool e55) rfl (by rw [← he55]; cases e49 <;> rfl)) ?_
       refine WpL_nil ?_
       subst he55
       subst he54
       subst he53
       subst he52
       subst he51
       subst he50
       subst he49
       subst he48
       subst he47
       subst he46
       subst he45
       subst he44
       subst he43
       refine Wp_cond rfl (fun h6 => ?_) (fun h6 => ?_)
       ·have kh6 := h6
        simp at h6
        refine Wp_seq_region ?_
        refine qA _ rfl ?_
        refine WpL_nil (Wp_ret (thn_ret ?_))
        refine fin_tmp Try.results36 (v := (.int .i64 1)) rfl ?_
        exact ⟨int_eq (by by_cases h66 : t.kind = 6; rw [if_pos h66, if_pos (by omega)]; rw [if_neg h66, if_pos (by omega), if_pos (by omega)]), E⟩
       ·have kh6 := h6
        simp at h6
        refine Wp_skip (thn_normal (Wp_seq_region ?_))
        refine qA _ rfl ?_
        refine WpL_nil (Wp_ret ?_)
        refine fin_tmp Try.results36 (v := (.int .i64 0)) rfl ?_
        exact ⟨int_eq (by by_cases h66 : t.kind = 6; rw [if_pos h66, if_neg (by omega)]; rw [if_neg h66]; by_cases h9 : t.kind = 9; rw [if_pos h9, if_neg (by omega)]; rw [if_neg h9]), E⟩
   ·have khg7 := hg7
    replace khg7 := of_decide_eq_false khg7
    have hoB : okB t.kind t.args.length = true := by rw [form_need (by omega) (by omega)]; simp; omega
    refine WpL_guard_no rfl rfl (by decide) (v := .bool false) (congrArg Value.bool hg7) (Or.inl rfl) ?_
    refine WpL_guard_no rfl rfl (by decide) (v := .bool false) (congrArg Value.bool hg7) (Or.inl rfl) ?_
    refine WpL_guard_no rfl rfl (by decide) (v := .bool false) (congrArg Value.bool hg7) (Or.inl rfl) ?_
    refine WpL_guard_no rfl rfl (by decide) (v := .bool false) (congrArg Value.bool hg7) (Or.inl rfl) ?_
    refine WpL_guard_no rfl rfl (by decide) (v := .bool false) (congrArg Value.bool hg7) (Or.inl rfl) ?_
    refine WpL_guard_yes rfl rfl (by decide) (congrArg Value.bool hg6) ?_
    refine qV (r_pick (v := (.bool false)) rfl (by rw [hg7]; rfl)) ?_
    refine qV (r_pick (v := (.bool false)) rfl (by rw [hg6]; rfl)) ?_
    refine WpL_nil ?_
    refine Wp_cond_false rfl ?_
    refine Wp_skip (thn_normal (Wp_seq (Wp_seq_region ?_)))
    refine qF b1 0 0 rfl Try.underlying25 rfl siz3 rfl ?_
    refine qV (r_load rfl flat3 (B1.cell rfl)) ?_
    obtain ⟨e57, he57⟩ : ∃ e, (decide ((t.kind : Int) ≠ 2)) = e := ⟨_, rfl⟩
    refine qV ((r_neq rfl rfl).trans (by rw [he57]; try rfl)) ?_
    refine qM _ rfl ?_
    refine qG (.bool e57) (yU e57 (P6 b1 1)) (by cases e57 <;> first | exact gA | exact gB | exact .inl ⟨rfl, r_fieldAddr rfl Try.underlying25 rfl siz22 rfl⟩) ?_
    refine qG (.bool e57) (yU e57 (.slice sa t.set.length sc)) (by cases e57 <;> first | exact gA | exact gB | exact .inl ⟨rfl, r_load rfl flat22 (B1.cell rfl)⟩) ?_
    refine qG (.bool e57) (yU e57 (I6 (t.set.length : Int))) (by cases e57 <;> first | exact gA | exact gB | exact .inl ⟨rfl, r_lenSlice Try.underlying22 rfl⟩) ?_
    obtain ⟨e58, he58⟩ : ∃ e, (decide ((0 : Int) < ((t.set.length : Nat) : Int))) = e := ⟨_, rfl⟩
    refine qG (.bool e57) (yU e57 (.bool e58)) (by cases e57 <;> first | exact gA | exact gB | exact .inl ⟨rfl, (r_gtr rfl rfl).trans (by rw [he58]; try rfl)⟩) ?_
    obtain ⟨e59, he59⟩ : ∃ e, (e57 && e58) = e := ⟨_, rfl⟩
    refine qV (r_pick (v := .bool e59) rfl (by rw [← he59]; cases e57 <;> rfl)) ?_
    refine qM _ rfl ?_
    refine qG (.bool e59) (nU e59 (P6 b1 0)) (by cases e59 <;> first | exact gA | exact gB | exact .inl ⟨rfl, r_fieldAddr rfl Try.underlying25 rfl siz3 rfl⟩) ?_
    refine qG (.bool e59) (nU e59 (I6 t.kind)) (by cases e59 <;> first | exact gA | exact gB | exact .inl ⟨rfl, r_load rfl flat3 (B1.cell rfl)⟩) ?_
    obtain ⟨e60, he60⟩ : ∃ e, (decide ((t.kind : Int) ≠ 6)) = e := ⟨_, rfl⟩
    refine qG (.bool e59) (nU e59 (.bool e60)) (by cases e59 <;> first | exact gA | exact gB | exact .inl ⟨rfl, (r_neq rfl rfl).trans (by rw [he60]; try rfl)⟩) ?_
    refine qG (.bool e59) (nU e59 (.bool e60)) (by cases e59 <;> first | exact gA | exact gB | exact .inl ⟨rfl, r_move rfl⟩) ?_
    refine qG (nU e59 (.bool e60)) (nU e59 (yU e60 (P6 b1 4))) (by cases e59 <;> cases e60 <;> first | exact gA | exact gB | exact .inl ⟨rfl, r_fieldAddr rfl Try.underlying25 rfl siz3 rfl⟩) ?_
    refine qG (nU e59 (.bool e60)) (nU e59 (yU e60 (I6 t.mx))) (by cases e59 <;> cases e60 <;> first | exact gA | exact gB | exact .inl ⟨rfl, r_load rfl flat3 (B1.cell rfl)⟩) ?_
    obtain ⟨e61, he61⟩ : ∃ e, (decide ((t.mx : Int) ≠ 0)) = e := ⟨_, rfl⟩
    refine qG (nU e59 (.bool e60)) (nU e59 (yU e60 (.bool e61))) (by cases e59 <;> cases e60 <;> first | exact gA | exact gB | exact .inl ⟨rfl, (r_neq rfl rfl).trans (by rw [he61]; try rfl)⟩) ?_
    obtain ⟨e62, he62⟩ : ∃ e, (e60 && e61) = e := ⟨_, rfl⟩
    refine qG (.bool e59) (nU e59 (.bool e62)) (by cases e59 <;> first | exact gA | exact gB | exact .inl ⟨rfl, r_pick (v := .bool e62) rfl (by rw [← he62]; cases e60 <;> rfl)⟩) ?_
    obtain ⟨e63, he63⟩ : ∃ e, (e59 || e62) = e := ⟨_, rfl⟩
    refine qV (r_pick (v := .bool e63) rfl (by rw [← he63]; cases e59 <;> rfl)) ?_
    refine qM _ rfl ?_
    refine qG (.bool e63) (nU e63 (P6 b1 0)) (by cases e63 <;> first | exact gA | exact gB | exact .inl ⟨rfl, r_fieldAddr rfl Try.underlying25 rfl siz3 rfl⟩) ?_
    refine qG (.bool e63) (nU e63 (I6 t.kind)) (by cases e63 <;> first | exact gA | exact gB | exact .inl ⟨rfl, r_load rfl flat3 (B1.cell rfl)⟩) ?_
    obtain ⟨e64, he64⟩ : ∃ e, (decide ((t.kind : Int) ≠ 6)) = e := ⟨_, rfl⟩
    refine qG (.bool e63) (nU e63 (.bool e64)) (by cases e63 <;> first | exact gA | exact gB | exact .inl ⟨rfl, (r_neq rfl rfl).trans (by rw [he64]; try rfl)⟩) ?_
    refine qG (.bool e63) (nU e63 (.bool e64)) (by cases e63 <;> first | exact gA | exact gB | exact .inl ⟨rfl, r_move rfl⟩) ?_
    refine qG (nU e63 (.bool e64)) (nU e63 (yU e64 (P6 b1 0))) (by cases e63 <;> cases e64 <;> first | exact gA | exact gB | exact .inl ⟨rfl, r_fieldAddr rfl Try.underlying25 rfl siz3 rfl⟩) ?_
    refine qG (nU e63 (.bool e64)) (nU e63 (yU e64 (I6 t.kind))) (by cases e63 <;> cases e64 <;> first | exact gA | exact gB | exact .inl ⟨rfl, r_load rfl flat3 (B1.cell rfl)⟩) ?_
    obtain ⟨e65, he65⟩ : ∃ e, (decide ((t.kind : Int) ≠ 9)) = e := ⟨_, rfl⟩
    refine qG (nU e63 (.bool e64)) (nU e63 (yU e64 (.bool e65))) (by cases e63 <;> cases e64 <;> first | exact gA | exact gB | exact .inl ⟨rfl, (r_neq rfl rfl).trans (by rw [he65]; try rfl)⟩) ?_
    obtain ⟨e66, he66⟩ : ∃ e, (e64 && e65) = e := ⟨_, rfl⟩
    refine qG (.bool e63) (nU e63 (.bool e66)) (by cases e63 <;> first | exact gA | exact gB | exact .inl ⟨rfl, r_pick (v := .bool e66) rfl (by rw [← he66]; cases e64 <;> rfl)⟩) ?_
    refine qG (.bool e63) (nU e63 (.bool e66)) (by cases e63 <;> first | exact gA | exact gB | exact .inl ⟨rfl, r_move rfl⟩) ?_
    refine qG (nU e63 (.bool e66)) (nU e63 (yU e66 (P6 b1 3))) (by cases e63 <;> cases e66 <;> first | exact gA | exact gB | exact .inl ⟨rfl, r_fieldAddr rfl Try.underlying25 rfl siz3 rfl⟩) ?_
    refine qG (nU e63 (.bool e66)) (nU e63 (yU e66 (I6 t.mn))) (by cases e63 <;> cases e66 <;> first | exact gA | exact gB | exact .inl ⟨rfl, r_load rfl flat3 (B1.cell rfl)⟩) ?_
    obtain ⟨e67, he67⟩ : ∃ e, (decide ((t.mn : Int) ≠ 0)) = e := ⟨_, rfl⟩
    refine qG (nU e63 (.bool e66)) (nU e63 (yU e66 (.bool e67))) (by cases e63 <;> cases e66 <;> first | exact gA | exact gB | exact .inl ⟨rfl, (r_neq rfl rfl).trans (by rw [he67]; try rfl)⟩) ?_
    obtain ⟨e68, he68⟩ : ∃ e, (e66 && e67) = e := ⟨_, rfl⟩
    refine qG (.bool e63) (nU e63 (.bool e68)) (by cases e63 <;> first | exact gA | exact gB | exact .inl ⟨rfl, r_pick (v := .bool e68) rfl (by rw [← he68]; cases e66 <;> rfl)⟩) ?_
    obtain ⟨e69, he69⟩ : ∃ e, (e63 || e68) = e := ⟨_, rfl⟩
    refine qV (r_pick (v := .bool e69) rfl (by rw [← he69]; cases e63 <;> rfl)) ?_
    refine qM _ rfl ?_
    refine qG (.bool e69) (nU e69 (P6 b1 0)) (by cases e69 <;> first | exact gA | exact gB | exact .inl ⟨rfl, r_fieldAddr rfl Try.underlying25 rfl siz3 rfl⟩) ?_
    refine qG (.bool e69) (nU e69 (I6 t.kind)) (by cases e69 <;> first | exact gA | exact gB | exact .inl ⟨rfl, r_load rfl flat3 (B1.cell rfl)⟩) ?_
    obtain ⟨e70, he70⟩ : ∃ e, (decide ((t.kind : Int) ≠ 10)) = e := ⟨_, rfl⟩
    refine qG (.bool e69) (nU e69 (.bool e70)) (by cases e69 <;> first | exact gA | exact gB | exact .inl ⟨rfl, (r_neq rfl rfl).trans (by rw [he70]; try rfl)⟩) ?_
    refine qG (.bool e69) (nU e69 (.bool e70)) (by cases e69 <;> first | exact gA | exact gB | exact .inl ⟨rfl, r_move rfl⟩) ?_
    refine qG (nU e69 (.bool e70)) (nU e69 (yU e70 (P6 b1 5))) (by cases e69 <;> cases e70 <;> first | exact gA | exact gB | exact .inl ⟨rfl, r_fieldAddr rfl Try.underlying25 rfl siz4 rfl⟩) ?_
    refine qG (nU e69 (.bool e70)) (nU e69 (yU e70 (.bool t.neg))) (by cases e69 <;> cases e70 <;> first | exact gA | exact gB | exact .inl ⟨rfl, r_load rfl flat4 (B1.cell rfl)⟩) ?_
    obtain ⟨e71, he71⟩ : ∃ e, (e70 && t.neg) = e := ⟨_, rfl⟩
    refine qG (.bool e69) (nU e69 (.bool e71)) (by cases e69 <;> first | exact gA | exact gB | exact .inl ⟨rfl, r_pick (v := .bool e71) rfl (by rw [← he71]; cases e70 <;> rfl)⟩) ?_
    obtain ⟨e72, he72⟩ : ∃ e, (e69 || e71) = e := ⟨_, rfl⟩
    refine qV (r_pick (v := .bool e72) rfl (by rw [← he72]; cases e69 <;> rfl)) ?_
    refine WpL_nil ?_
    subst he72
    subst he71
    subst he70
    subst he69
    subst he68
    subst he67
    subst he66
    subst he65
    subst he64
    subst he63
    subst he62
    subst he61
    subst he60
    subst he59
    subst he58
    subst he57
    refine Wp_cond rfl (fun hf => ?_) (fun hf => ?_)
    ·have khf := hf
     have hfB : formB t = false := by rw [← Bool.not_eq_true]; intro h; unfold formB at h; generalize t.set.length = sl at h hf; cases hng : t.neg <;> simp [hng] at h hf <;> omega
     refine Wp_seq_region ?_
     refine qA _ rfl ?_
     refine WpL_nil (Wp_ret (thn_ret ?_))
     refine fin_tmp Try.results36 (v := (.int .i64 3)) rfl ?_
     exact ⟨int_eq (by unfold nodeE; rw [if_neg (by omega), if_pos hfB]), E⟩
    ·have khf := hf
     have hfB : formB t = true := by unfold formB; rw [hoB]; generalize t.set.length = sl at hf; cases hng : t.neg <;> simp [hng] at hf ⊢ <;> omega
     have hN : nodeE t = if t.kind = 2 then (if checkE t.set ≠ 0 then checkE t.set else if (t.set.length : Int) = 0 then 3 else 0) else if t.kind = 6 then (if t.mn < 0 ∨ t.mx < t.mn ∨ 8 < t.mx then 1 else 0) else if t.kind = 9 then (if t.mn < 0 ∨ 9 < t.mn then 1 else 0) else 0 := by unfold nodeE; rw [if_neg (by omega), if_neg (by simp [hfB])]
     rw [hN]
     refine Wp_skip (thn_normal (Wp_seq (Wp_seq_region ?_)))
     refine qF b1 0 0 rfl Try.underlying25 rfl siz3 rfl ?_
     refine qV (r_load rfl flat3 (B1.cell rfl)) ?_
     refine qV (r_eql rfl rfl) ?_
     refine WpL_nil ?_
     refine Wp_cond rfl (fun h2 => ?_) (fun h2 => ?_)
     ·have kh2 := h2
      replace h2 := of_decide_eq_true h2
      rw [if_pos h2]
      refine Wp_seq (Wp_seq_region ?_)
      refine qF b1 0 1 rfl Try.underlying25 rfl siz22 rfl ?_
      refine qV (r_load rfl flat22 (B1.cell rfl)) ?_
      refine WpL_enter rfl rfl (by decide) (r_callF Try.func81 kQ kQ rfl) (cset_c _ _ t.set ((hset.ext hE).ext E)) ?_
      rintro _ w10 ⟨rfl, X10⟩
      replace B1 := X10.keep B1
      replace E := E.ext X10
      refine qA _ rfl ?_
      refine WpL_nil (Wp_seq_region ?_)
      refine qM _ rfl ?_
      refine qV (r_neq rfl rfl) ?_
      refine WpL_nil ?_
      refine Wp_cond rfl (fun h3 => ?_) (fun h3 => ?_)
      ·have kh3 := h3
       replace h3 := of_decide_eq_true h3
       refine Wp_seq_region ?_
       refine qM _ rfl ?_
       refine qA _ rfl ?_
       refine WpL_nil (Wp_ret (thn_ret (thn_ret ?_)))
       refine fin_tmp Try.results36 (v := (.int .i64 (checkE t.set))) rfl ?_
       exact ⟨int_eq (by rw [if_pos h3]), E⟩
      ·have kh3 := h3
       replace h3 := of_decide_eq_false h3
       rw [if_neg h3]
       refine Wp_skip (thn_normal (Wp_seq_region ?_))
       refine qF b1 0 1 rfl Try.underlying25 rfl siz22 rfl ?_
       refine qV (r_load rfl flat22 (B1.cell rfl)) ?_
       refine qV (r_lenSlice Try.underlying22 rfl) ?_
       refine qV (r_eql rfl rfl) ?_
       refine WpL_nil ?_
       refine Wp_cond rfl (fun h4 => ?_) (fun h4 => ?_)
       ·have kh4 := h4
        replace h4 := of_decide_eq_true h4
        refine Wp_seq_region ?_
        refine qA _ rfl ?_
        refine WpL_nil (Wp_ret (thn_ret ?_))
        refine fin_tmp Try.results36 (v := (.int .i64 3)) rfl ?_
        exact ⟨int_eq (by rw [if_pos h4]), E⟩
       ·have kh4 := h4
        replace h4 := of_decide_eq_false h4
        rw [if_neg h4]
        refine Wp_skip (thn_normal (Wp_seq (Wp_seq_region ?_)))
        refine qF b1 0 0 rfl Try.underlying25 rfl siz3 rfl ?_
        refine qV (r_load rfl flat3 (B1.cell rfl)) ?_
        obtain ⟨e77, he77⟩ : ∃ e, (decide ((t.kind : Int) = 6)) = e := ⟨_, rfl⟩
        refine qV ((r_eql rfl rfl).trans (by rw [he77]; try rfl)) ?_
        refine qM _ rfl ?_
        refine qG (.bool e77) (yU e77 (P6 b1 3)) (by cases e77 <;> first | exact gA | exact gB | exact .inl ⟨rfl, r_fieldAddr rfl Try.underlying25 rfl siz3 rfl⟩) ?_
        refine qG (.bool e77) (yU e77 (I6 t.mn)) (by cases e77 <;> first | exact gA | exact gB | exact .inl ⟨rfl, r_load rfl flat3 (B1.cell rfl)⟩) ?_
        obtain ⟨e78, he78⟩ : ∃ e, (decide ((t.mn : Int) < 0)) = e := ⟨_, rfl⟩
        refine qG (.bool e77) (yU e77 (.bool e78)) (by cases e77 <;> first | exact gA | exact gB | exact .inl ⟨rfl, (r_lss rfl rfl).trans (by rw [he78]; try rfl)⟩) ?_
        refine qG (.bool e77) (yU e77 (.bool e78)) (by cases e77 <;> first | exact gA | exact gB | exact .inl ⟨rfl, r_move rfl⟩) ?_
        refine qG (yU e77 (.bool e78)) (yU e77 (nU e78 (P6 b1 4))) (by cases e77 <;> cases e78 <;> first | exact gA | exact gB | exact .inl ⟨rfl, r_fieldAddr rfl Try.underlying25 rfl siz3 rfl⟩) ?_
        refine qG (yU e77 (.bool e78)) (yU e77 (nU e78 (I6 t.mx))) (by cases e77 <;> cases e78 <;> first | exact gA | exact gB | exact .inl ⟨rfl, r_load rfl flat3 (B1.cell rfl)⟩) ?_
        obtain ⟨e79, he79⟩ : ∃ e, (decide ((8 : Int) < t.mx)) = e := ⟨_, rfl⟩
        refine qG (yU e77 (.bool e78)) (yU e77 (nU e78 (.bool e79))) (by cases e77 <;> cases e78 <;> first | exact gA | exact gB | exact .inl ⟨rfl, (r_gtr rfl rfl).trans (by rw [he79]; try rfl)⟩) ?_
        obtain ⟨e80, he80⟩ : ∃ e, (e78 || e79) = e := ⟨_, rfl⟩
        refine qG (.bool e77) (yU e77 (.bool e80)) (by cases e77 <;> first | exact gA | exact gB | exact .inl ⟨rfl, r_pick (v := .bool e80) rfl (by rw [← he80]; cases e78 <;> rfl)⟩) ?_
        refine qG (.bool e77) (yU e77 (.bool e80)) (by cases e77 <;> first | exact gA | exact gB | exact .inl ⟨rfl, r_move rfl⟩) ?_
        refine qG (yU e77 (.bool e80)) (yU e77 (nU e80 (P6 b1 3))) (by cases e77 <;> cases e80 <;> first | exact gA | exact gB | exact .inl ⟨rfl, r_fieldAddr rfl Try.underlying25 rfl siz3 rfl⟩) ?_
        refine qG (yU e77 (.bool e80)) (yU e77 (nU e80 (I6 t.mn))) (by cases e77 <;> cases e80 <;> first | exact gA | exact gB | exact .inl ⟨rfl, r_load rfl flat3 (B1.cell rfl)⟩) ?_
        refine qG (yU e77 (.bool e80)) (yU e77 (nU e80 (P6 b1 4))) (by cases e77 <;> cases e80 <;> first | exact gA | exact gB | exact .inl ⟨rfl, r_fieldAddr rfl Try.underlying25 rfl siz3 rfl⟩) ?_
        refine qG (yU e77 (.bool e80)) (yU e77 (nU e80 (I6 t.mx))) (by cases e77 <;> cases e80 <;> first | exact gA | exact gB | exact .inl ⟨rfl, r_load rfl flat3 (B1.cell rfl)⟩) ?_
        obtain ⟨e81, he81⟩ : ∃ e, (decide ((t.mx : Int) < t.mn)) = e := ⟨_, rfl⟩
        refine qG (yU e77 (.bool e80)) (yU e77 (nU e80 (.bool e81))) (by cases e77 <;> cases e80 <;> first | exact gA | exact gB | exact .inl ⟨rfl, (r_gtr rfl rfl).trans (by rw [he81]; try rfl)⟩) ?_
        obtain ⟨e82, he82⟩ : ∃ e, (e80 || e81) = e := ⟨_, rfl⟩
        refine qG (.bool e77) (yU e77 (.bool e82)) (by cases e77 <;> first | exact gA | exact gB | exact .inl ⟨rfl, r_pick (v := .bool e82) rfl (by rw [← he82]; cases e80 <;> rfl)⟩) ?_
        obtain ⟨e83, he83⟩ : ∃ e, (e77 && e82) = e := ⟨_, rfl⟩
        refine qV (r_pick (v := .bool e83) rfl (by rw [← he83]; cases e77 <;> rfl)) ?_
        refine qM _ rfl ?_
        refine qG (.bool e83) (nU e83 (P6 b1 0)) (by cases e83 <;> first | exact gA | exact gB | exact .inl ⟨rfl, r_fieldAddr rfl Try.underlying25 rfl siz3 rfl⟩) ?_
        refine qG (.bool e83) (nU e83 (I6 t.kind)) (by cases e83 <;> first | exact gA | exact gB | exact .inl ⟨rfl, r_load rfl flat3 (B1.cell rfl)⟩) ?_
        obtain ⟨e84, he84⟩ : ∃ e, (decide ((t.kind : Int) = 9)) = e := ⟨_, rfl⟩
        refine qG (.bool e83) (nU e83 (.bool e84)) (by cases e83 <;> first | exact gA | exact gB | exact .inl ⟨rfl, (r_eql rfl rfl).trans (by rw [he84]; try rfl)⟩) ?_
        refine qG (.bool e83) (nU e83 (.bool e84)) (by cases e83 <;> first | exact gA | exact gB | exact .inl ⟨rfl, r_move rfl⟩) ?_
        refine qG (nU e83 (.bool e84)) (nU e83 (yU e84 (P6 b1 3))) (by cases e83 <;> cases e84 <;> first | exact gA | exact gB | exact .inl ⟨rfl, r_fieldAddr rfl Try.underlying25 rfl siz3 rfl⟩) ?_
        refine qG (nU e83 (.bool e84)) (nU e83 (yU e84 (I6 t.mn))) (by cases e83 <;> cases e84 <;> first | exact gA | exact gB | exact .inl ⟨rfl, r_load rfl flat3 (B1.cell rfl)⟩) ?_
        obtain ⟨e85, he85⟩ : ∃ e, (decide ((t.mn : Int) < 0)) = e := ⟨_, rfl⟩
        refine qG (nU e83 (.bool e84)) (nU e83 (yU e84 (.bool e85))) (by cases e83 <;> cases e84 <;> first | exact gA | exact gB | exact .inl ⟨rfl, (r_lss rfl rfl).trans (by rw [he85]; try rfl)⟩) ?_
        refine qG (nU e83 (.bool e84)) (nU e83 (yU e84 (.bool e85))) (by cases e83 <;> cases e84 <;> first | exact gA | exact gB | exact .inl ⟨rfl, r_move rfl⟩) ?_
        refine qG (nU e83 (yU e84 (.bool e85))) (nU e83 (yU e84 (nU e85 (P6 b1 3)))) (by cases e83 <;> cases e84 <;> cases e85 <;> first | exact gA | exact gB | exact .inl ⟨rfl, r_fieldAddr rfl Try.underlying25 rfl siz3 rfl⟩) ?_
        refine qG (nU e83 (yU e84 (.bool e85))) (nU e83 (yU e84 (nU e85 (I6 t.mn)))) (by cases e83 <;> cases e84 <;> cases e85 <;> first | exact gA | exact gB | exact .inl ⟨rfl, r_load rfl flat3 (B1.cell rfl)⟩) ?_
        obtain ⟨e86, he86⟩ : ∃ e, (decide ((9 : Int) < t.mn)) = e := ⟨_, rfl⟩
        refine qG (nU e83 (yU e84 (.bool e85))) (nU e83 (yU e84 (nU e85 (.bool e86)))) (by cases e83 <;> cases e84 <;> cases e85 <;> first | exact gA | exact gB | exact .inl ⟨rfl, (r_gtr rfl rfl).trans (by rw [he86]; try rfl)⟩) ?_
        obtain ⟨e87, he87⟩ : ∃ e, (e85 || e86) = e := ⟨_, rfl⟩
        refine qG (nU e83 (.bool e84)) (nU e83 (yU e84 (.bool e87))) (by cases e83 <;> cases e84 <;> first | exact gA | exact gB | exact .inl ⟨rfl, r_pick (v := .bool e87) rfl (by rw [← he87]; cases e85 <;> rfl)⟩) ?_
        obtain ⟨e88, he88⟩ : ∃ e, (e84 && e87) = e := ⟨_, rfl⟩
        refine qG (.bool e83) (nU e83 (.bool e88)) (by cases e83 <;> first | exact gA | exact gB | exact .inl ⟨rfl, r_pick (v := .bool e88) rfl (by rw [← he88]; cases e84 <;> rfl)⟩) ?_
        obtain ⟨e89, he89⟩ : ∃ e, (e83 || e88) = e := ⟨_, rfl⟩
        refine qV (r_pick (v := .bool e89) rfl (by rw [← he89]; cases e83 <;> rfl)) ?_
        refine WpL_nil ?_
        subst he89
        subst he88
        subst he87
        subst he86
        subst he85
        subst he84
        subst he83
        subst he82
        subst he81
        subst he80
        subst he79
        subst he78
        subst he77
        have hc90 : ((((decide ((t.kind : Int) = 6)) && (((decide ((t.mn : Int) < 0)) || (decide ((8 : Int) < t.mx))) || (decide ((t.mx : Int) < t.mn)))) || ((decide ((t.kind : Int) = 9)) && ((decide ((t.mn : Int) < 0)) || (decide ((9 : Int) < t.mn)))))) = false := by simp [h2]
        refine Wp_cond_false (congrArg Value.bool hc90) ?_
        refine Wp_skip (thn_normal (Wp_seq_region ?_))
        refine qA _ rfl ?_
        refine WpL_nil (Wp_ret ?_)
        refine fin_tmp Try.results36 (v := (.int .i64 0)) rfl ?_
        exact ⟨rfl, E⟩
     ·have kh2 := h2
      replace h2 := of_decide_eq_false h2
      rw [if_neg h2]
      refine Wp_skip (thn_normal (Wp_seq (Wp_seq_region ?_)))
      refine qF b1 0 0 rfl Try.underlying25 rfl siz3 rfl ?_
      refine qV (r_load rfl flat3 (B1.cell rfl)) ?_
      obtain ⟨e91, he91⟩ : ∃ e, (decide ((t.kind : Int) = 6)) = e := ⟨_, rfl⟩
      refine qV ((r_eql rfl rfl).trans (by rw [he91]; try rfl)) ?_
      refine qM _ rfl ?_
      refine qG (.bool e91) (yU e91 (P6 b1 3)) (by cases e91 <;> first | exact gA | exact gB | exact .inl ⟨rfl, r_fieldAddr rfl Try.underlying25 rfl siz3 rfl⟩) ?_
      refine qG (.bool e91) (yU e91 (I6 t.mn)) (by cases e91 <;> first | exact gA | exact gB | exact .inl ⟨rfl, r_load rfl flat3 (B1.cell rfl)⟩) ?_
      obtain ⟨e92, he92⟩ : ∃ e, (decide ((t.mn : Int) < 0)) = e := ⟨_, rfl⟩
      refine qG (.bool e91) (yU e91 (.bool e92)) (by cases e91 <;> first | exact gA | exact gB | exact .inl ⟨rfl, (r_lss rfl rfl).trans (by rw [he92]; try rfl)⟩) ?_
      refine qG (.bool e91) (yU e91 (.bool e92)) (by cases e91 <;> first | exact gA | exact gB | exact .inl ⟨rfl, r_move rfl⟩) ?_
      refine qG (yU e91 (.bool e92)) (yU e91 (nU e92 (P6 b1 4))) (by cases e91 <;> cases e92 <;> first | exact gA | exact gB | exact .inl ⟨rfl, r_fieldAddr rfl Try.underlying25 rfl siz3 rfl⟩) ?_
      refine qG (yU e91 (.bool e92)) (yU e91 (nU e92 (I6 t.mx))) (by cases e91 <;> cases e92 <;> first | exact gA | exact gB | exact .inl ⟨rfl, r_load rfl flat3 (B1.cell rfl)⟩) ?_
      obtain ⟨e93, he93⟩ : ∃ e, (decide ((8 : Int) < t.mx)) = e := ⟨_, rfl⟩
      refine qG (yU e91 (.bool e92)) (yU e91 (nU e92 (.bool e93))) (by cases e91 <;> cases e92 <;> first | exact gA | exact gB | exact .inl ⟨rfl, (r_gtr rfl rfl).trans (by rw [he93]; try rfl)⟩) ?_
      obtain ⟨e94, he94⟩ : ∃ e, (e92 || e93) = e := ⟨_, rfl⟩
      refine qG (.bool e91) (yU e91 (.bool e94)) (by cases e91 <;> first | exact gA | exact gB | exact .inl ⟨rfl, r_pick (v := .bool e94) rfl (by rw [← he94]; cases e92 <;> rfl)⟩) ?_
      refine qG (.bool e91) (yU e91 (.bool e94)) (by cases e91 <;> first | exact gA | exact gB | exact .inl ⟨rfl, r_move rfl⟩) ?_
      refine qG (yU e91 (.bool e94)) (yU e91 (nU e94 (P6 b1 3))) (by cases e91 <;> cases e94 <;> first | exact gA | exact gB | exact .inl ⟨rfl, r_fieldAddr rfl Try.underlying25 rfl siz3 rfl⟩) ?_
      refine qG (yU e91 (.bool e94)) (yU e91 (nU e94 (I6 t.mn))) (by cases e91 <;> cases e94 <;> first | exact gA | exact gB | exact .inl ⟨rfl, r_load rfl flat3 (B1.cell rfl)⟩) ?_
      refine qG (yU e91 (.bool e94)) (yU e91 (nU e94 (P6 b1 4))) (by cases e91 <;> cases e94 <;> first | exact gA | exact gB | exact .inl ⟨rfl, r_fieldAddr rfl Try.underlying25 rfl siz3 rfl⟩) ?_
      refine qG (yU e91 (.bool e94)) (yU e91 (nU e94 (I6 t.mx))) (by cases e91 <;> cases e94 <;> first | exact gA | exact gB | exact .inl ⟨rfl, r_load rfl flat3 (B1.cell rfl)⟩) ?_
      obtain ⟨e95, he95⟩ : ∃ e, (decide ((t.mx : Int) < t.mn)) = e := ⟨_, rfl⟩
      refine qG (yU e91 (.bool e94)) (yU e91 (nU e94 (.bool e95))) (by cases e91 <;> cases e94 <;> first | exact gA | exact gB | exact .inl ⟨rfl, (r_gtr rfl rfl).trans (by rw [he95]; try rfl)⟩) ?_
      obtain ⟨e96, he96⟩ : ∃ e, (e94 || e95) = e := ⟨_, rfl⟩
      refine qG (.bool e91) (yU e91 (.bool e96)) (by cases e91 <;> first | exact gA | exact gB | exact .inl ⟨rfl, r_pick (v := .bool e96) rfl (by rw [← he96]; cases e94 <;> rfl)⟩) ?_
      obtain ⟨e97, he97⟩ : ∃ e, (e91 && e96) = e := ⟨_, rfl⟩
      refine qV (r_pick (v := .bool e97) rfl (by rw [← he97]; cases e91 <;> rfl)) ?_
      refine qM _ rfl ?_
      refine qG (.bool e97) (nU e97 (P6 b1 0)) (by cases e97 <;> first | exact gA | exact gB | exact .inl ⟨rfl, r_fieldAddr rfl Try.underlying25 rfl siz3 rfl⟩) ?_
      refine qG (.bool e97) (nU e97 (I6 t.kind)) (by cases e97 <;> first | exact gA | exact gB | exact .inl ⟨rfl, r_load rfl flat3 (B1.cell rfl)⟩) ?_
      obtain ⟨e98, he98⟩ : ∃ e, (decide ((t.kind : Int) = 9)) = e := ⟨_, rfl⟩
      refine qG (.bool e97) (nU e97 (.bool e98)) (by cases e97 <;> first | exact gA | exact gB | exact .inl ⟨rfl, (r_eql rfl rfl).trans (by rw [he98]; try rfl)⟩) ?_
      refine qG (.bool e97) (nU e97 (.bool e98)) (by cases e97 <;> first | exact gA | exact gB | exact .inl ⟨rfl, r_move rfl⟩) ?_
      refine qG (nU e97 (.bool e98)) (nU e97 (yU e98 (P6 b1 3))) (by cases e97 <;> cases e98 <;> first | exact gA | exact gB | exact .inl ⟨rfl, r_fieldAddr rfl Try.underlying25 rfl siz3 rfl⟩) ?_
      refine qG (nU e97 (.bool e98)) (nU e97 (yU e98 (I6 t.mn))) (by cases e97 <;> cases e98 <;> first | exact gA | exact gB | exact .inl ⟨rfl, r_load rfl flat3 (B1.cell rfl)⟩) ?_
      obtain ⟨e99, he99⟩ : ∃ e, (decide ((t.mn : Int) < 0)) = e := ⟨_, rfl⟩
      refine qG (nU e97 (.bool e98)) (nU e97 (yU e98 (.bool e99))) (by cases e97 <;> cases e98 <;> first | exact gA | exact gB | exact .inl ⟨rfl, (r_lss rfl rfl).trans (by rw [he99]; try rfl)⟩) ?_
      refine qG (nU e97 (.bool e98)) (nU e97 (yU e98 (.bool e99))) (by cases e97 <;> cases e98 <;> first | exact gA | exact gB | exact .inl ⟨rfl, r_move rfl⟩) ?_
      refine qG (nU e97 (yU e98 (.bool e99))) (nU e97 (yU e98 (nU e99 (P6 b1 3)))) (by cases e97 <;> cases e98 <;> cases e99 <;> first | exact gA | exact gB | exact .inl ⟨rfl, r_fieldAddr rfl Try.underlying25 rfl siz3 rfl⟩) ?_
      refine qG (nU e97 (yU e98 (.bool e99))) (nU e97 (yU e98 (nU e99 (I6 t.mn)))) (by cases e97 <;> cases e98 <;> cases e99 <;> first | exact gA | exact gB | exact .inl ⟨rfl, r_load rfl flat3 (B1.cell rfl)⟩) ?_
      obtain ⟨e100, he100⟩ : ∃ e, (decide ((9 : Int) < t.mn)) = e := ⟨_, rfl⟩
      refine qG (nU e97 (yU e98 (.bool e99))) (nU e97 (yU e98 (nU e99 (.bool e100)))) (by cases e97 <;> cases e98 <;> cases e99 <;> first | exact gA | exact gB | exact .inl ⟨rfl, (r_gtr rfl rfl).trans (by rw [he100]; try rfl)⟩) ?_
      obtain ⟨e101, he101⟩ : ∃ e, (e99 || e100) = e := ⟨_, rfl⟩
      refine qG (nU e97 (.bool e98)) (nU e97 (yU e98 (.bool e101))) (by cases e97 <;> cases e98 <;> first | exact gA | exact gB | exact .inl ⟨rfl, r_pick (v := .bool e101) rfl (by rw [← he101]; cases e99 <;> rfl)⟩) ?_
      obtain ⟨e102, he102⟩ : ∃ e, (e98 && e101) = e := ⟨_, rfl⟩
      refine qG (.bool e97) (nU e97 (.bool e102)) (by cases e97 <;> first | exact gA | exact gB | exact .inl ⟨rfl, r_pick (v := .bool e102) rfl (by rw [← he102]; cases e98 <;> rfl)⟩) ?_
      obtain ⟨e103, he103⟩ : ∃ e, (e97 || e102) = e := ⟨_, rfl⟩
      refine qV (r_pick (v := .bool e103) rfl (by rw [← he103]; cases e97 <;> rfl)) ?_
      refine WpL_nil ?_
      subst he103
      subst he102
      subst he101
      subst he100
      subst he99
      subst he98
      subst he97
      subst he96
      subst he95
      subst he94
      subst he93
      subst he92
      subst he91
      refine Wp_cond rfl (fun h6 => ?_) (fun h6 => ?_)
      ·have kh6 := h6
       simp at h6
       refine Wp_seq_region ?_
       refine qA _ rfl ?_
       refine WpL_nil (Wp_ret (thn_ret ?_))
       refine fin_tmp Try.results36 (v := (.int .i64 1)) rfl ?_
       exact ⟨int_eq (by by_cases h66 : t.kind = 6; rw [if_pos h66, if_pos (by omega)]; rw [if_neg h66, if_pos (by omega), if_pos (by omega)]), E⟩
      ·have kh6 := h6
       simp at h6
       refine Wp_skip (thn_normal (Wp_seq_region ?_))
       refine qA _ rfl ?_
       refine WpL_nil (Wp_ret ?_)
       refine fin_tmp Try.results36 (v := (.int .i64 0)) rfl ?_
       exact ⟨int_eq (by by_cases h66 : t.kind = 6; rw [if_pos h66, if_neg (by omega)]; rw [if_neg h66]; by_cases h9 : t.kind = 9; rw [if_pos h9, if_neg (by omega)]; rw [if_neg h9]), E⟩
end Go.Proofs
namespace Go.Proofs
open Go Go.Eng
set_option maxRecDepth 100000
abbrev TE : Nat := 25
mutual
def preL : Re → List Re
  | .mk k set args mn mx ng => .mk k set args mn mx ng :: preLs args
def preLs : List Re → List Re
  | [] => []
  | t :: ts => preL t ++ preLs ts
end
theorem preL_eq (t : Re) : preL t = t :: preLs t.args := by cases t; simp only [preL, Re.args]
theorem preLs_append : ∀ (a b : List Re), preLs (a ++ b) = preLs a ++ preLs b
  | [], b => by simp [preLs]
  | x :: a, b => by simp only [List.cons_append, preLs, preLs_append a b, List.append_assoc]
mutual
theorem preL_len : ∀ (t : Re), (preL t).length = t.size
  | .mk k set args mn mx ng => by simp only [preL, Re.size, List.length_cons, preLs_len args]
theorem preLs_len : ∀ (ts : List Re), (preLs ts).length = Re.sizes ts
  | [] => by simp [preLs, Re.sizes]
  | t :: ts => by simp only [preLs, Re.sizes, List.length_append, preL_len t, preLs_len ts]
end
theorem len_le_sizes : ∀ (ts : List Re), ts.length ≤ Re.sizes ts
  | [] => by simp
  | t :: ts => by have := len_le_sizes ts; have := t.size_pos; simp only [Re.sizes, List.length_cons]; omega
theorem sizes_reverse (ts : List Re) : Re.sizes ts.reverse = Re.sizes ts := by
  induction ts with
  | nil => rfl
  | cons t ts ih => simp only [List.reverse_cons, Re.sizes_append, ih, Re.sizes]; omega
def RowsOf (w : World) : List Re → List (List Value) → Prop
  | [], [] => True
  | t :: ts, r :: rs => ReAt w t r ∧ RowsOf w ts rs
  | _, _ => False
theorem RowsOf.ext {w w' : World} (e : Ext w w') : ∀ {ts : List Re} {rs : List (List Value)}, RowsOf w ts rs → RowsOf w' ts rs
  | [], [], _ => trivial
  | t :: ts, r :: rs, h => ⟨ReAt.ext e t h.1, RowsOf.ext e h.2⟩
  | [], _ :: _, h => h.elim
  | _ :: _, [], h => h.elim
theorem RowsOf.get {w : World} : ∀ {ts : List Re} {rs : List (List Value)}, RowsOf w ts rs → ∀ {i : Nat} {t : Re}, ts[i]? = some t → ∃ r, rs[i]? = some r ∧ ReAt w t r
  | [], [], _, _, _, h => by simp at h
  | t :: ts, r :: rs, h, 0, _, h' => by simp at h'; subst h'; exact ⟨r, rfl, h.1⟩
  | t :: ts, r :: rs, h, i + 1, _, h' => by
    obtain ⟨r', h1, h2⟩ := RowsOf.get h.2 (i := i) (by simpa using h')
    exact ⟨r', by simpa using h1, h2⟩
  | [], _ :: _, h, _, _, _ => h.elim
  | _ :: _, [], h, _, _, _ => h.elim
def RowsRg (S : Nat → Prop) (w : World) : List Re → List (List Value) → Prop
  | [], [] => True
  | t :: ts, r :: rs => ReIn S w t r ∧ RowsRg S w ts rs
  | _, _ => False
theorem RowsRg.len {S : Nat → Prop} {w : World} : ∀ {ts : List Re} {rs : List (List Value)}, RowsRg S w ts rs → rs.length = ts.length
  | [], [], _ => rfl
  | t :: ts, r :: rs, h => by simp only [List.length_cons, RowsRg.len h.2]
  | [], _ :: _, h => h.elim
  | _ :: _, [], h => h.elim
theorem RowsRg.six {S : Nat → Prop} {w : World} : ∀ {ts : List Re} {rs : List (List Value)}, RowsRg S w ts rs → ∀ r ∈ rs, r.length = 6
  | [], [], _, r, hr => by cases hr
  | t :: ts, r :: rs, h, r', hr => by
    rcases List.mem_cons.1 hr with rfl | hr
    · exact h.1.len
    · exact RowsRg.six h.2 r' hr
  | [], _ :: _, h, _, _ => h.elim
  | _ :: _, [], h, _, _ => h.elim
theorem RowsRg.snoc {S : Nat → Prop} {w : World} : ∀ {ts : List Re} {rs : List (List Value)}, RowsRg S w ts rs → ∀ {t : Re} {r : List Value}, ReIn S w t r → RowsRg S w (ts ++ [t]) (rs ++ [r])
  | [], [], _, _, _, h => ⟨h, trivial⟩
  | t :: ts, r :: rs, h, _, _, h' => ⟨h.1, RowsRg.snoc h.2 h'⟩
  | [], _ :: _, h, _, _, _ => h.elim
  | _ :: _, [], h, _, _, _ => h.elim
theorem RowsRg.get {S : Nat → Prop} {w : World} : ∀ {ts : List Re} {rs : List (List Value)}, RowsRg S w ts rs → ∀ {i : Nat} {t : Re}, ts[i]? = some t → ∃ r, rs[i]? = some r ∧ ReIn S w t r
  | [], [], _, _, _, h => by simp at h
  | t :: ts, r :: rs, h, 0, _, h' => by simp at h'; subst h'; exact ⟨r, rfl, h.1⟩
  | t :: ts, r :: rs, h, i + 1, _, h' => by
    obtain ⟨r', h1, h2⟩ := RowsRg.get h.2 (i := i) (by simpa using h')
    exact ⟨r', by simpa using h1, h2⟩
  | [], _ :: _, h, _, _, _ => h.elim
  | _ :: _, [], h, _, _, _ => h.elim
theorem RowsRg.pop {S : Nat → Prop} {w : World} : ∀ {ts : List Re} {rs : List (List Value)} {t : Re}, RowsRg S w (ts ++ [t]) rs → ∃ rs' r, rs = rs' ++ [r] ∧ RowsRg S w ts rs' ∧ ReIn S w t r
  | [], [], _, h => h.elim
  | [], [r], _, h => ⟨[], r, rfl, trivial, h.1⟩
  | [], r :: r' :: rs, _, h => h.2.elim
  | t :: ts, [], _, h => h.elim
  | t :: ts, r :: rs, t', h => by
    obtain ⟨rs', r', h1, h2, h3⟩ := RowsRg.pop (ts := ts) h.2
    exact ⟨r :: rs', r', by rw [h1]; rfl, ⟨h.1, h2⟩, h3⟩
theorem RowsRg.of {S : Nat → Prop} {w : World} : ∀ {ts : List Re} {rs : List (List Value)}, RowsRg S w ts rs → RowsOf w ts rs
  | [], [], _ => trivial
  | t :: ts, r :: rs, h => ⟨ReIn.at t h.1, RowsRg.of h.2⟩
  | [], _ :: _, h => h.elim
  | _ :: _, [], h => h.elim
def Apart (u v : Value) : Prop := ∀ k, u.ownBlock = some k → v.ownBlock ≠ some k
theorem Apart.symm {u v : Value} (h : Apart u v) : Apart v u := fun k h1 h2 => h k h2 h1
theorem Apart.slc {a : Option Addr} {n c n' c' : Nat} {v : Value} (h : Apart (.slice a n c) v) : Apart (.slice a n' c') v := by
 cases a <;> exact h
theorem Apart.app {w : World} {base e size n : Nat} {u u' v : Value} {xs : List Value} (h : Apart u v) (hv : w.ownsRow base e size v n xs) (D : ∀ k, u'.ownBlock = some k → u.ownBlock = some k ∨ w.heap.size ≤ k) : Apart u' v := fun k h1 h2 => by
 rcases D k h1 with h3 | h3
 ·exact h k h3 h2
 ·have := (hv.lt k h2).2; omega
theorem Apart.nil (v : Value) : Apart (.slice none 0 0) v := fun k h => by cases h
theorem own_apart {w w' : World} {base e size n : Nat} {u v : Value} {xs : List Value} (h : w.ownsRow base e size v n xs) (C : Chg (fun x => u.ownBlock = some x) w w') (hd : Apart u v) : w'.ownsRow base e size v n xs :=
 own_chg h C fun k hk hm => hd k hm hk
theorem sl_zero {a : Option Addr} {c m : Nat} : (if c = 0 then a else Option.map (fun q : Addr => q.add (0 * m)) a) = a := by
 split
 ·rfl
 ·cases a <;> simp [Addr.add]
theorem flat_len {rs : List (List Value)} (h : ∀ r ∈ rs, r.length = 6) : rs.flatten.length = rs.length * 6 := by
  induction rs with
  | nil => rfl
  | cons r rs ih => rw [List.flatten_cons, List.length_append, ih (fun r' hr' => h r' (List.mem_cons_of_mem _ hr')), h r List.mem_cons_self, List.length_cons]; omega
theorem flat_pop {rs : List (List Value)} {r : List Value} {n : Nat} (h : ∀ r ∈ rs, r.length = 6) (hn : rs.length = n) : ((rs ++ [r]).flatten).take (n * 6) = rs.flatten := by
 rw [List.flatten_append, List.take_append_of_le_length (by rw [flat_len h, hn]; exact Nat.le_refl _), List.take_of_length_le (by rw [flat_len h, hn]; exact Nat.le_refl _)]
theorem snoc_of {α : Type} {l : List α} (h : 0 < l.length) : ∃ l' x, l = l' ++ [x] := by
 rcases List.eq_nil_or_concat l with rfl | ⟨l', x, rfl⟩
 ·simp at h
 ·exact ⟨l', x, List.concat_eq_append⟩
abbrev rowX (x : Re) (xa : Option Addr) (xc : Nat) (ya : Option Addr) (yc : Nat) : List Value := [.int .i64 x.kind, .slice xa x.set.length xc, .slice ya x.args.length yc, .int .i64 x.mn, .int .i64 x.mx, .bool x.neg]
theorem own_rowsG {S : Nat → Prop} {w : World} {base e n : Nat} {v : Value} {ts : List Re} {rs : List (List Value)} {w0 : World} (h : w.ownsRow base e 6 v n rs.flatten) (hr : RowsRg S w0 ts rs) (hn : ts.length = n) : SlAt w 6 v rs :=
 own_slat h hr.six (by rw [hr.len, hn]) (by decide)
set_option maxHeartbeats 4000000 in
theorem preR_c (w0 : World) (S : Nat → Prop) (t : Re) (vs : List Value) (most : Int) (ht : ReIn S w0 t vs) (hs : t.size ≤ 2097152) :
  Ret Try.prog 35 #[.agg vs.toArray, .int .i64 most] w0 fun v w => ∃ a c rows, v = .slice a ((preL t).take most.toNat).length c ∧ SlAt w 6 v rows ∧ RowsRg S w0 ((preL t).take most.toNat) rows ∧ Ext w0 w := by
 have ht0 := ht
 obtain ⟨sa, sc, aa, ac, rfl, hset, hlen, hargs⟩ := ht.form
 refine Ret_of Try.func35 rfl Try.ntmps35 (Nat.le_of_ble_eq_true rfl) ?_
 have E : Chg none1 w0 w0 := Chg.refl _ _
 refine Wp_seq_region ?_
 refine s_box (v := (.agg (R6 t sa sc aa ac))) (c := (R6 t sa sc aa ac)) (by decide) rfl rfl ?_
 intro bp wp Np
 have Fp := Np.ge E
 replace E := E.ext Np.ext
 have Bp := Np.blk
 refine qA _ rfl ?_
 refine WpL_nil (Wp_seq_region ?_)
 refine qA _ rfl ?_
 refine WpL_nil (Wp_seq_region ?_)
 refine qV (r_loadAgg (vs := [(I6 t.kind), (.slice sa t.set.length sc), (.slice aa t.args.length ac), (I6 t.mn), (I6 t.mx), (.bool t.neg)]) rfl agg25 siz25 rfl (Bp.cells rfl)) ?_
 refine s_buildSlice (ps := [(0, (.agg (R6 t sa sc aa ac)))]) (c := (R6 t sa sc aa ac)) (by decide) rfl Try.underlying23 siz25 zer25 (by decide) (by decide) (by kernel_rfl) ?_
 intro bq wq Nq
 have Fq := Nq.ge E
 have Oq_bp := Nq.lt Bp
 replace Bp := Nq.keep Bp
 replace E := E.ext Nq.ext
 have Bq := Nq.blk
 refine qA _ rfl ?_
 refine WpL_nil (Wp_seq (Wp_block ?_))
 obtain ⟨base, hbase⟩ : ∃ base, base = wp.heap.size := ⟨_, rfl⟩
 have hb0 : w0.heap.size ≤ base := by have := Np.size; omega
 have hpb : bp < base := by have := Np.size; have := Np.eq; omega
 have hqb : base ≤ bq := by have := Nq.eq; omega
 have hrow1 : wq.ownsRow base TE 6 (.slice (some ⟨bq, 0, none⟩) 1 1) 1 ([[.int .i64 t.kind, .slice sa t.set.length sc, .slice aa t.args.length ac, .int .i64 t.mn, .int .i64 t.mx, .bool t.neg]] : List (List Value)).flatten := ⟨rfl, .inr ⟨bq, 1, _, rfl, hqb, Bq, by decide, by decide, rfl, rfl⟩⟩
 have hbsq : base ≤ wq.heap.size := by have := Nq.size; omega
 refine Wp_loop (fun nn_ σ W1 => ∃ (outs sts : List Re) (ro rs : List (List Value)) (oa : Option Addr) (oc : Nat) (ka : Option Addr) (kc : Nat), (∃ jj_, σ = upds jj_ [(1, (I6 most)), (5, (.slice oa outs.length oc)), (6, (.slice ka sts.length kc))]) ∧ Chg none1 w0 W1 ∧ Blk W1 bp (R6 t sa sc aa ac) 25 ∧ (W1.ownsRow base TE 6 (.slice oa outs.length oc) outs.length ro.flatten) ∧ (W1.ownsRow base TE 6 (.slice ka sts.length kc) sts.length rs.flatten) ∧ (Apart (.slice oa outs.length oc) (.slice ka sts.length kc)) ∧ (RowsRg S w0 outs ro) ∧ (RowsRg S w0 sts rs) ∧ (preL t = outs ++ preLs sts.reverse) ∧ (outs.length ≤ most.toNat) ∧ (base ≤ W1.heap.size) ∧ nn_ = t.size - outs.length) (n := t.size - ([] : List Re).length) ?_ ?_
 ·exact ⟨([] : List Re), [t], ([] : List (List Value)), [[.int .i64 t.kind, .slice sa t.set.length sc, .slice aa t.args.length ac, .int .i64 t.mn, .int .i64 t.mx, .bool t.neg]], none, 0, some ⟨bq, 0, none⟩, 1, Fits.out ⟨rfl, rfl, rfl, trivial⟩, E, Bp, World.ownsRow_nil _ _ _ _, hrow1, Apart.nil _, trivial, ⟨ht0, trivial⟩, (by simp [preLs]), Nat.zero_le _, hbsq, rfl⟩
 ·clear E Bp
  rintro _ _ W1 ⟨outs, sts, ro, rs, oa, oc, ka, kc, ⟨j1, rfl⟩, E, Bp, hO, hS, hAp, hro, hrs, hpre, hmo, hbs, rfl⟩
  have hsz : outs.length + Re.sizes sts = t.size := by rw [← preL_len t, hpre, List.length_append, preLs_len, sizes_reverse]
  have hsl := len_le_sizes sts
  refine Wp_seq (Wp_seq_region ?_)
  refine qM _ rfl ?_
  refine qV (r_lenSlice Try.underlying23 rfl) ?_
  obtain ⟨e2, he2⟩ : ∃ e, (decide ((0 : Int) < ((sts.length : Nat) : Int))) = e := ⟨_, rfl⟩
  refine qV ((r_gtr rfl rfl).trans (by rw [he2]; try rfl)) ?_
  refine qM _ rfl ?_
  refine qG (.bool e2) (yU e2 (.slice oa outs.length oc)) (by cases e2 <;> first | exact gA | exact gB | exact .inl ⟨rfl, r_move rfl⟩) ?_
  refine qG (.bool e2) (yU e2 (I6 (outs.length : Int))) (by cases e2 <;> first | exact gA | exact gB | exact .inl ⟨rfl, r_lenSlice Try.underlying23 rfl⟩) ?_
  refine qG (.bool e2) (yU e2 (I6 most)) (by cases e2 <;> first | exact gA | exact gB | exact .inl ⟨rfl, r_move rfl⟩) ?_
  obtain ⟨e3, he3⟩ : ∃ e, (decide ((((outs.length : Nat) : Int) : Int) < most)) = e := ⟨_, rfl⟩
  refine qG (.bool e2) (yU e2 (.bool e3)) (by cases e2 <;> first | exact gA | exact gB | exact .inl ⟨rfl, (r_lss rfl rfl).trans (by rw [he3]; try rfl)⟩) ?_
  obtain ⟨e4, he4⟩ : ∃ e, (e2 && e3) = e := ⟨_, rfl⟩
  refine qV (r_pick (v := .bool e4) rfl (by rw [← he4]; cases e2 <;> rfl)) ?_
  refine WpL_nil ?_
  subst he4
  subst he3
  subst he2
  refine Wp_cond rfl (fun hlt => ?_) (fun hlt => ?_)
  ·have khlt := hlt
   simp at hlt
   have hOw := fun k h => (hO.lt k h).2
   have hSw := fun k h => (hS.lt k h).2
   obtain ⟨st', x, rfl⟩ := snoc_of (l := sts) (by omega)
   obtain ⟨rs', r, rfl, hrs', hxr⟩ := hrs.pop
   obtain ⟨xa, xc, ya, yc, rfl, hxset, hxlen, hxargs⟩ := hxr.form
   have hS6 : RowsRg S w0 (st' ++ [x]) (rs' ++ [_]) := hrs'.snoc hxr
   obtain ⟨kb, ko, rfl, hkc⟩ := SlAt.at (own_rowsG hS hS6 rfl) (by omega)
   have hkl : (st' ++ [x]).length = st'.length + 1 := by simp
   have hr' := hkc st'.length _ (by rw [List.getElem?_append_right (by rw [hrs'.len]; exact Nat.le_refl _), hrs'.len]; simp; rfl)
   have hkcap := (SlAt.cap (own_rowsG hS hS6 rfl)).1
   refine Wp_skip (thn_normal (Wp_block (Wp_seq_region ?_)))
   refine qM _ rfl ?_
   refine qM _ rfl ?_
   refine qV (r_lenSlice Try.underlying23 rfl) ?_
   refine qV (r_sub rfl rfl (wI64 (by omega))) ?_
   refine qV (r_indexSlice (b := kb) (o := ko) (len := (st' ++ [x]).length) (cap := kc) (i := st'.length) (o' := ko + st'.length * 6) rfl rfl (by omega) Try.underlying23 siz25 (by omega) (by omega)) ?_
   refine qV (r_loadAgg rfl agg25 siz25 rfl (hr')) ?_
   refine s_allocStore (v := (.agg (R6 x xa xc ya yc))) (c := (R6 x xa xc ya yc)) (n := 6) (by decide) zer25 rfl siz25 rfl rfl rfl (by simp [Value.oneCell']) ?_
   intro bx wx Nx
   have Fx := Nx.ge E
   have Ox_bp := Nx.lt Bp
   replace Bp := Nx.keep Bp
   replace hO := own_ext hO Nx.ext
   replace hS := own_ext hS Nx.ext
   replace hbs := Nat.le_trans hbs Nx.ext.size
   replace E := E.ext Nx.ext
   have Bx := Nx.blk
   refine WpL_nil (Wp_seq_region ?_)
   refine qM _ rfl ?_
   refine qM _ rfl ?_
   refine qV (r_lenSlice Try.underlying23 rfl) ?_
   refine qV (r_sub rfl rfl (wI64 (by omega))) ?_
   obtain ⟨k2, hk2⟩ : ∃ a' : Option Addr, (if kc = 0 then (some ⟨kb, ko, none⟩) else Option.map (fun q : Addr => q.add (0 * 6)) (some ⟨kb, ko, none⟩)) = a' := ⟨_, rfl⟩
   refine qV (r_sliceHi (hi := st'.length) Try.underlying23 siz25 rfl rfl (by omega) (by omega) hk2) ?_
   refine qA _ rfl ?_
   refine WpL_nil (Wp_seq_region ?_)
   refine qM _ rfl ?_
   refine qV (r_loadAgg (vs := [(I6 x.kind), (.slice xa x.set.length xc), (.slice ya x.args.length yc), (I6 x.mn), (I6 x.mx), (.bool x.neg)]) rfl agg25 siz25 rfl (Bx.cells rfl)) ?_
   refine s_buildSlice (ps := [(0, (.agg (R6 x xa xc ya yc)))]) (c := (R6 x xa xc ya yc)) (by decide) rfl Try.underlying23 siz25 zer25 (by decide) (by decide) (by kernel_rfl) ?_
   intro bn wn Nn
   have Fn := Nn.ge E
   have On_bp := Nn.lt Bp
   have On_bx := Nn.lt Bx
   replace Bp := Nn.keep Bp
   replace Bx := Nn.keep Bx
   replace hO := own_ext hO Nn.ext
   replace hS := own_ext hS Nn.ext
   replace hbs := Nat.le_trans hbs Nn.ext.size
   replace E := E.ext Nn.ext
   have Bn := Nn.blk
   rw [sl_zero] at hk2
   subst hk2
   have hS' := own_cut (m := st'.length) hS (by omega) (by omega)
   rw [flat_pop hrs'.six hrs'.len] at hS'
   clear hS
   refine s_append (base := base) (n := outs.length) (m := 1) (xs := ro.flatten) (news := [(I6 x.kind), (.slice xa x.set.length xc), (.slice ya x.args.length yc), (I6 x.mn), (I6 x.mx), (.bool x.neg)]) (size := 6) (bytes := 80) (v := (.slice oa outs.length oc)) (by decide) Try.underlying23 siz25 byt25 zer25 rfl (by decide) rfl hO rfl (rfl) (Bn.cells rfl) (by simp [Value.oneCell']) (by unfold maxLen; omega) (by omega) (hbs) ?_
   intro v9 w9 Ov9 Cv9 Dv9
   replace Bp := Cv9.keep (fun h => by have := (hO.lt _ h).1; omega) Bp
   replace Bx := Cv9.keep (fun h => absurd (hOw _ h) (by have := Nx.eq; omega)) Bx
   replace E := E.step Cv9 (fun x hx h => absurd (hO.lt x h).1 (by omega))
   obtain ⟨oa2, oc2, rfl⟩ := own_form Ov9
   have hS2 := own_apart hS' Cv9 hAp.slc.symm.slc.symm
   have hAp2 := Apart.app (hAp.slc.symm.slc.symm) hS' Dv9
   have hsz2 : Re.sizes (st' ++ [x]) = Re.sizes st' + x.size := by rw [Re.sizes_append]; simp [Re.sizes]
   have hxs := x.size_eq
   have hal := len_le_sizes x.args
   have hstl := len_le_sizes st'
   have hbs2 := Nat.le_trans hbs Cv9.size
   refine qA _ rfl ?_
   refine WpL_nil (Wp_seq_region ?_)
   refine qF bx 0 2 rfl Try.underlying25 rfl siz23 rfl ?_
   refine qV (r_load rfl flat23 (Bx.cell rfl)) ?_
   refine qV (r_lenSlice Try.underlying23 rfl) ?_
   refine qV (r_sub rfl rfl (wI64 (by omega))) ?_
   refine qA _ rfl ?_
   refine WpL_nil (Wp_block ?_)
   refine Wp_loop (fun nn_ σ W6 => ∃ (i : Nat) (st2 : List Re) (rs2 : List (List Value)) (ka : Option Addr) (kc : Nat), (∃ jj_, σ = upds jj_ [(1, (I6 most)), (5, (.slice oa2 (outs.length + 1) oc2)), (7, (P6 bx 0)), (8, (I6 ((i : Int) - 1))), (6, (.slice ka st2.length kc))]) ∧ Chg none1 w0 W6 ∧ Blk W6 bp (R6 t sa sc aa ac) 25 ∧ Blk W6 bx (R6 x xa xc ya yc) 25 ∧ (i ≤ x.args.length) ∧ (W6.ownsRow base TE 6 (.slice oa2 (outs.length + 1) oc2) (outs.length + 1) (ro ++ [rowX x xa xc ya yc]).flatten) ∧ (W6.ownsRow base TE 6 (.slice ka st2.length kc) st2.length rs2.flatten) ∧ (Apart (.slice oa2 (outs.length + 1) oc2) (.slice ka st2.length kc)) ∧ (RowsRg S w0 st2 rs2) ∧ (st2 = st' ++ (x.args.drop i).reverse) ∧ (base ≤ W6.heap.size) ∧ (∀ k, (Value.slice ka st2.length kc).ownBlock = some k → k ≠ bx) ∧ nn_ = 2 * i) (n := 2 * x.args.length) ?_ ?_
   ·exact ⟨x.args.length, st', rs', _, _, Fits.out ⟨rfl, rfl, rfl, rfl, rfl, trivial⟩, E, Bp, Bx, Nat.le_refl _, (by simpa using Ov9), hS2, hAp2, hrs', (by simp), hbs2, (fun k h e => by have h1 : k < _ := hSw k h; have := Nx.eq; omega), rfl⟩
   ·clear E Bp Bx
    rintro _ _ W6 ⟨i, st2, rs2, ka, kc, ⟨j6, rfl⟩, E, Bp, Bx, hi, hO2, hS2, hAp2, hrs2, hst, hbs2, hSx, rfl⟩
    refine Wp_seq (Wp_seq_region ?_)
    refine qM _ rfl ?_
    refine qV (r_geq rfl rfl) ?_
    refine WpL_nil ?_
    refine Wp_cond rfl (fun hge => ?_) (fun hge => ?_)
    ·have khge := hge
     replace hge := of_decide_eq_true hge
     obtain ⟨y, hy⟩ := get_of_lt (l := x.args) (i := i - 1) (by omega)
     obtain ⟨ab, ao, rfl, hres⟩ : ∃ b o, ya = some ⟨b, o, none⟩ ∧ ResIn S w0 b o x.args := by
      rcases hxargs with h | h
      ·rw [h] at hy; simp at hy
      ·obtain ⟨b, o, _, h1, h2⟩ := h; exact ⟨b, o, h1, h2⟩
     obtain ⟨us, hus, hyt⟩ := hres.get hy
     obtain ⟨va, vc, za, zc, rfl, _, _, _⟩ := hyt.form
     have hbxl := Bx.lt
     refine Wp_skip (thn_normal (Wp_seq (Wp_block (Wp_region ?_))))
     refine qM _ rfl ?_
     refine qF bx 0 2 rfl Try.underlying25 rfl siz23 rfl ?_
     refine qV (r_load rfl flat23 (Bx.cell rfl)) ?_
     refine qM _ rfl ?_
     refine qV (r_indexSlice (b := ab) (o := ao) (len := x.args.length) (cap := yc) (i := i - 1) (o' := ao + (i - 1) * 6) rfl rfl (by omega) Try.underlying23 siz25 (by omega) (by omega)) ?_
     refine qV (r_loadAgg rfl agg25 siz25 rfl (hus.ext E)) ?_
     have hst2l : st2.length = st'.length + (x.args.length - i) := by rw [hst]; simp
     refine s_buildSlice (ps := [(0, (.agg (R6 y va vc za zc)))]) (c := (R6 y va vc za zc)) (by decide) rfl Try.underlying23 siz25 zer25 (by decide) (by decide) (by kernel_rfl) ?_
     intro bm wm Nm
     have Fm := Nm.ge E
     have Om_bp := Nm.lt Bp
     have Om_bx := Nm.lt Bx
     replace Bp := Nm.keep Bp
     replace Bx := Nm.keep Bx
     replace hO2 := own_ext hO2 Nm.ext
     replace hS2 := own_ext hS2 Nm.ext
     replace hbs2 := Nat.le_trans hbs2 Nm.ext.size
     replace E := E.ext Nm.ext
     have Bm := Nm.blk
     refine s_append (base := base) (n := st2.length) (m := 1) (xs := rs2.flatten) (news := [(I6 y.kind), (.slice va y.set.length vc), (.slice za y.args.length zc), (I6 y.mn), (I6 y.mx), (.bool y.neg)]) (size := 6) (bytes := 80) (v := (.slice ka st2.length kc)) (by decide) Try.underlying23 siz25 byt25 zer25 rfl (by decide) rfl hS2 rfl (rfl) (Bm.cells rfl) (by simp [Value.oneCell']) (by unfold maxLen; omega) (by omega) (hbs2) ?_
     intro v19 w19 Ov19 Cv19 Dv19
     replace Bp := Cv19.keep (fun h => by have := (hS2.lt _ h).1; omega) Bp
     replace Bx := Cv19.keep (fun h => hSx _ h rfl) Bx
     replace E := E.step Cv19 (fun x hx h => absurd (hS2.lt x h).1 (by omega))
     obtain ⟨ka2, kc2, rfl⟩ := own_form Ov19
     have hO3 := own_apart hO2 Cv19 hAp2.symm
     have hAp3 := (Apart.app hAp2.symm hO2 Dv19).symm
     have hl2 : (st2 ++ [y]).length = st2.length + 1 := by simp
     rw [← hl2] at Ov19 hAp3 Dv19 ⊢
     refine qA _ rfl ?_
     refine WpL_nil (inB_normal (thn_normal (Wp_region ?_)))
     refine qM _ rfl ?_
     refine qV (r_sub (c := (((i - 1 : Nat) : Nat) : Int) - 1) rfl rfl (by rw [wI64 (by omega)]; omega)) ?_
     refine qA _ rfl ?_
     refine WpL_nil (thn_normal ?_)
     exact ⟨2 * (i - 1), by omega, i - 1, st2 ++ [y], rs2 ++ [_], ka2, kc2, Fits.out ⟨rfl, rfl, rfl, rfl, rfl, trivial⟩, E, Bp, Bx, (by omega), hO3, (by simpa using Ov19), hAp3, hrs2.snoc hyt, (by rw [hst, drop_cons hy, show i - 1 + 1 = i from by omega]; simp), Nat.le_trans hbs2 Cv19.size, (fun k h e => by rcases Dv19 k h with h1 | h1; exact hSx k h1 e; have := Nm.size; omega), rfl⟩
    ·have khge := hge
     replace hge := of_decide_eq_false hge
     obtain rfl : i = 0 := by omega
     have hl3 : (outs ++ [x]).length = outs.length + 1 := by simp
     rw [← hl3] at hO2 hAp2 ⊢
     refine Wp_exit (thn_exit (thn_exit (inB_here (inB_normal (thn_normal ?_)))))
     exact ⟨t.size - (outs ++ [x]).length, by omega, outs ++ [x], st2, ro ++ [_], rs2, oa2, oc2, ka, kc, Fits.out ⟨rfl, rfl, rfl, trivial⟩, E, Bp, hO2, hS2, hAp2, hro.snoc hxr, hrs2, (by rw [hpre, hst]; simp [preLs, preLs_append, preL_eq x]), (by simp; omega), hbs2, rfl⟩
  ·have khlt := hlt
   have hfin : outs = (preL t).take most.toNat := by
    simp at hlt
    rcases Nat.eq_zero_or_pos sts.length with h | h
    ·have : sts = [] := List.eq_nil_of_length_eq_zero h
     subst this
     have hp : preL t = outs := by rw [hpre]; simp [preLs]
     rw [hp, List.take_of_length_le (by omega)]
    ·have hle := hlt h
     have : outs.length = most.toNat := by omega
     rw [hpre, ← this, List.take_left' rfl]
   rw [← hfin]
   refine Wp_exit (thn_exit (thn_exit (inB_here (thn_normal (Wp_seq_region ?_)))))
   refine qM _ rfl ?_
   refine qA _ rfl ?_
   refine WpL_nil (Wp_ret ?_)
   refine fin_tmp Try.results35 (v := (.slice oa outs.length oc)) rfl ?_
   exact ⟨oa, oc, ro, rfl, own_rowsG hO hro rfl, hro, E⟩
theorem pre_c (w0 : World) (t : Re) (vs : List Value) (most : Int) (ht : ReAt w0 t vs) (hs : t.size ≤ 2097152) :
  Ret Try.prog 35 #[.agg vs.toArray, .int .i64 most] w0 fun v w => ∃ a c rows, v = .slice a ((preL t).take most.toNat).length c ∧ SlAt w 6 v rows ∧ RowsOf w0 ((preL t).take most.toNat) rows ∧ Ext w0 w :=
 (preR_c w0 (fun b => b < w0.heap.size) t vs most (ReIn.of_at t ht) hs).mono fun v w h => by obtain ⟨a, c, rows, h1, h2, h3, h4⟩ := h; exact ⟨a, c, rows, h1, h2, h3.of, h4⟩
end Go.Proofs
namespace Go.Proofs
open Go Go.Eng
set_option maxRecDepth 100000
section
variable {S : Type} (F : S → Re → Bool × S)
def walkL : List Re → S → Bool × S
  | [], s => (true, s)
  | t :: ts, s => if (F s t).1 then walkL ts (F s t).2 else (false, (F s t).2)
theorem walkL_append : ∀ (a b : List Re) (s : S), walkL F (a ++ b) s = if (walkL F a s).1 then walkL F b (walkL F a s).2 else (false, (walkL F a s).2)
  | [], b, s => by simp [walkL]
  | x :: a, b, s => by
    simp only [List.cons_append, walkL]
    split
    · exact walkL_append a b _
    · simp
mutual
theorem walkF_list : ∀ (t : Re) (s : S), walkF F t s = walkL F (preL t) s
  | .mk k set args mn mx ng, s => by
    rw [walkF_eq, preL_eq]
    simp only [walkL, Re.args]
    rw [walkFs_list args]
theorem walkFs_list : ∀ (ts : List Re) (s : S), walkFs F ts s = walkL F (preLs ts) s
  | [], s => by simp only [walkFs, preLs, walkL]
  | t :: ts, s => by
    rw [walkFs_cons]
    simp only [preLs]
    rw [walkL_append, ← walkF_list t, ← walkFs_list ts]
end
end
def chkL (m : Nat) : Nat → List Re → Int
  | _, [] => 0
  | i, x :: xs => if i = m then 2 else if nodeE x ≠ 0 then nodeE x else chkL m (i + 1) xs
theorem chk_walk (m : Nat) (hm : m ≤ 1000000) : ∀ (l : List Re) (n : Nat), n ≤ m → (walkL (fitF (m : Int)) l ((n : Int), 0)).2.2 = chkL m n (l.take (m + 1 - n))
  | [], n, _ => by simp [walkL, chkL]
  | x :: xs, n, hn => by
    simp only [walkL]
    rw [fitF_eq x (by omega) (by omega)]
    rw [show m + 1 - n = (m - n) + 1 from by omega, List.take_succ_cons]
    simp only [chkL]
    by_cases h : n = m
    · rw [if_pos h, if_pos (by omega : (m : Int) < (n : Int) + 1)]; simp
    · rw [if_neg h, if_neg (by omega : ¬ (m : Int) < (n : Int) + 1)]
      by_cases h2 : nodeE x = 0
      · have := chk_walk m hm xs (n + 1) (by omega)
        rw [show m + 1 - (n + 1) = m - n from by omega] at this
        simp only [h2, decide_true, if_true, ne_eq, not_true, if_false]
        rw [← this]; rfl
      · rw [if_pos h2]; simp [h2]
theorem fits_chk {t : Re} {m : Nat} (hm : m ≤ 1000000) : fitsE t (m : Int) = chkL m 0 ((preL t).take (m + 1)) := by
 unfold fitsE
 rw [walkF_list]
 exact chk_walk m hm (preL t) 0 (Nat.zero_le _)
set_option maxHeartbeats 1000000 in
theorem refck_c (w0 : World) (t : Re) (vs : List Value) (m : Nat) (hm : m ≤ 1000000) (ht : ReAt w0 t vs) (hs : t.size ≤ 2097152) :
  Ret Try.prog 8 #[.agg vs.toArray, .int .i64 (m : Int)] w0 fun v w => v = .int .i64 (fitsE t (m : Int)) ∧ Ext w0 w := by
 have ht0 := ht
 obtain ⟨sa, sc, aa, ac, rfl, hset, hlen, hargs⟩ := ht.form
 rw [fits_chk hm]
 refine Ret_of Try.func8 rfl Try.ntmps8 (Nat.le_of_ble_eq_true rfl) ?_
 have E : Chg none1 w0 w0 := Chg.refl _ _
 refine Wp_seq_region ?_
 refine s_box (v := (.agg (R6 t sa sc aa ac))) (c := (R6 t sa sc aa ac)) (by decide) rfl rfl ?_
 intro b1 w1 N1
 have F1 := N1.ge E
 replace E := E.ext N1.ext
 have B1 := N1.blk
 refine qA _ rfl ?_
 refine WpL_nil (Wp_seq (Wp_seq_region ?_))
 refine qV (r_loadAgg (vs := [(I6 t.kind), (.slice sa t.set.length sc), (.slice aa t.args.length ac), (I6 t.mn), (I6 t.mx), (.bool t.neg)]) rfl agg25 siz25 rfl (B1.cells rfl)) ?_
 refine qM _ rfl ?_
 refine qV (r_add (c := ((m + 1 : Nat) : Int)) rfl rfl (by rw [wI64 (by omega)]; omega)) ?_
 refine WpL_enter rfl rfl (by decide) (r_callF Try.func35 kQ kQ rfl) (pre_c _ t _ _ (ReAt.ext E t ht0) hs) ?_
 rintro _ w9 ⟨la, lc, rows, rfl, hsl, hrows, X9⟩
 replace B1 := X9.keep B1
 replace E := E.ext X9
 have hll : ((preL t).take (m + 1)).length ≤ m + 1 := by simp; omega
 obtain ⟨L, hL⟩ : ∃ L, L = (preL t).take (m + 1) := ⟨_, rfl⟩
 have hrows' : RowsOf w9 L rows := by rw [hL]; exact RowsOf.ext X9 hrows
 clear hrows
 rw [show ((m + 1 : Nat) : Int).toNat = m + 1 from rfl] at hsl
 rw [show ((m + 1 : Nat) : Int).toNat = m + 1 from rfl]
 rw [← hL] at hsl hll ⊢
 clear hL
 have wq0 : Ext w9 w9 := Ext.refl _
 have EQ : Chg none1 w9 w9 := Chg.refl _ _
 refine qV (r_lenSlice Try.underlying23 rfl) ?_
 refine qM _ rfl ?_
 refine WpL_nil (Wp_block ?_)
 refine Wp_loop (fun nn_ σ W2 => ∃ (k : Nat), (∃ jj_, σ = upds jj_ [(1, (I6 (m : Int))), (11, (.slice la L.length lc)), (12, (I6 (L.length : Int))), (13, (I6 (k : Int)))]) ∧ Chg none1 w0 W2 ∧ Chg none1 w9 W2 ∧ Blk W2 b1 (R6 t sa sc aa ac) 25 ∧ (k ≤ L.length) ∧ (chkL m 0 L = chkL m k (L.drop k)) ∧ nn_ = L.length - k) (n := L.length - 0) ?_ ?_
 ·exact ⟨0, Fits.out ⟨rfl, rfl, rfl, rfl, trivial⟩, E, EQ, B1, Nat.zero_le _, rfl, rfl⟩
 ·clear E EQ B1
  rintro _ _ W2 ⟨k, ⟨j2, rfl⟩, E, EQ, B1, hk, hp, rfl⟩
  refine Wp_seq_region ?_
  refine qV (r_lss rfl rfl) ?_
  refine WpL_nil (Wp_seq ?_)
  refine Wp_cond rfl (fun hlt => ?_) (fun hlt => ?_)
  ·have khlt := hlt
   replace hlt := of_decide_eq_true hlt
   obtain ⟨x, hx⟩ := get_of_lt (l := L) (i := k) (by omega)
   obtain ⟨r, hr, hxr⟩ := hrows'.get hx
   obtain ⟨b, o, rfl, hcl⟩ := SlAt.at hsl (by omega)
   have hd := drop_cons hx
   have hcr := (hcl k r hr).ext EQ
   obtain ⟨xa, xc, ya, yc, rfl, hxset, hxlen, hxargs⟩ := hxr.form
   refine Wp_skip (thn_normal (Wp_seq (Wp_block (Wp_seq_region ?_))))
   refine qM _ rfl ?_
   refine qV (r_indexSlice (b := b) (o := o) (len := L.length) (cap := lc) (i := k) (o' := o + k * 6) rfl rfl rfl Try.underlying23 siz25 (by omega) (by omega)) ?_
   refine qV (r_loadAgg rfl agg25 siz25 rfl (hcr)) ?_
   refine s_alloc (c := #[(I6 0), (.slice none 0 0), (.slice none 0 0), (I6 0), (I6 0), (.bool false)]) (by decide) zer25 rfl ?_
   intro b4 w4 N4
   have F4 := N4.ge E
   have F4_EQ := N4.ge EQ
   have O4_b1 := N4.lt B1
   replace B1 := N4.keep B1
   replace E := E.ext N4.ext
   have B4 := N4.blk
   replace EQ := EQ.ext N4.ext
   refine qA _ rfl ?_
   refine s_storeAgg (b := b4) (o := 0) (c' := (R6 x xa xc ya yc)) rfl rfl (by simp [Value.oneCell']) siz25 rfl B4 (by first | (simp; done) | exact Nat.le_of_ble_eq_true rfl) rfl ?_
   intro w5 S5
   replace B1 := S5.keep (by omega) B1
   replace E := S5.step E (by first | exact Or.inl (by omega) | exact Or.inr rfl | exact Or.inr (by assumption) | exact Or.inr (by simp) | exact Or.inr (by omega) | exact Or.inr (by dsimp only; omega))
   replace EQ := S5.step EQ (Or.inl (by omega))
   replace B4 := S5.blk
   refine WpL_nil (Wp_seq (Wp_seq_region ?_))
   refine qM _ rfl ?_
   refine qM _ rfl ?_
   refine qV (r_eql rfl rfl) ?_
   refine WpL_nil ?_
   refine Wp_cond rfl (fun he => ?_) (fun he => ?_)
   ·have khe := he
    replace he := of_decide_eq_true he
    refine Wp_seq_region ?_
    refine qA _ rfl ?_
    refine WpL_nil (Wp_ret (thn_ret (inB_ret (thn_ret (thn_ret (inB_ret (thn_ret ?_)))))))
    refine fin_tmp Try.results8 (v := (.int .i64 2)) rfl ?_
    exact ⟨int_eq (by rw [hp, hd]; simp only [chkL]; rw [if_pos (by omega)]), E⟩
   ·have khe := he
    replace he := of_decide_eq_false he
    refine Wp_skip (thn_normal (Wp_seq_region ?_))
    refine qV (r_loadAgg (vs := [(I6 x.kind), (.slice xa x.set.length xc), (.slice ya x.args.length yc), (I6 x.mn), (I6 x.mx), (.bool x.neg)]) rfl agg25 siz25 rfl (B4.cells rfl)) ?_
    refine WpL_enter rfl rfl (by decide) (r_callF Try.func36 kQ kQ rfl) (cnode_c _ _ x _ hxr EQ) ?_
    rintro _ w19 ⟨rfl, X19⟩
    replace B1 := X19.keep B1
    replace B4 := X19.keep B4
    replace E := E.ext X19
    replace EQ := EQ.ext X19
    refine qA _ rfl ?_
    refine WpL_nil (Wp_seq_region ?_)
    refine qM _ rfl ?_
    refine qV (r_neq rfl rfl) ?_
    refine WpL_nil ?_
    refine Wp_cond rfl (fun hne => ?_) (fun hne => ?_)
    ·have khne := hne
     replace hne := of_decide_eq_true hne
     refine Wp_seq_region ?_
     refine qM _ rfl ?_
     refine qA _ rfl ?_
     refine WpL_nil (Wp_ret (inB_ret (thn_ret (thn_ret (inB_ret (thn_ret ?_))))))
     refine fin_tmp Try.results8 (v := (.int .i64 (nodeE x))) rfl ?_
     exact ⟨int_eq (by rw [hp, hd]; simp only [chkL]; rw [if_neg (by omega), if_pos hne]), E⟩
    ·have khne := hne
     replace hne := of_decide_eq_false hne
     refine Wp_skip (inB_normal (thn_normal (Wp_region ?_)))
     refine qV (r_add rfl rfl (wI64 (by omega))) ?_
     refine qM _ rfl ?_
     refine WpL_nil (thn_normal ?_)
     exact ⟨L.length - (k + 1), by omega, k + 1, Fits.out ⟨rfl, rfl, rfl, rfl, trivial⟩, E, EQ, B1, (by omega), (by rw [hp, hd]; simp only [chkL]; rw [if_neg (by omega), if_neg hne]), rfl⟩
  ·have khlt := hlt
   replace hlt := of_decide_eq_false hlt
   have hkl : L.drop k = [] := List.drop_eq_nil_of_le (by omega)
   refine Wp_exit (thn_exit (thn_exit (inB_here (thn_normal (Wp_seq_region ?_)))))
   refine qA _ rfl ?_
   refine WpL_nil (Wp_ret ?_)
   refine fin_tmp Try.results8 (v := (.int .i64 0)) rfl ?_
   exact ⟨int_eq (by rw [hp, hkl]; rfl), E⟩
theorem r_max2 {P : Program} {σ : Env} {w : World} {dst : Option Tmp} {ty : TypeId} {pos : String} {af : Array Edge} {g : Option (Nat × Bool)} {tys : Array TypeId} {x y : Operand} {k : IntKind} {a b c : Int} (hx : ev σ x = .int k a) (hy : ev σ y = .int k b) (hc : max a b = c) :
  (execOp (ev σ) ⟨dst, .call ⟨.builtin .max, #[x, y], tys⟩, ty, pos, af, g⟩).run P w = .ok (.value (.int k c)) w := by
 subst hc
 have : (if a < b then b else a) = max a b := by split <;> omega
 simp [execOp, resolve, invoke, builtin, Builtin.max_, Builtin.max2, hx, hy, this]
end Go.Proofs
namespace Go.Proofs
open Go Go.Eng
set_option maxRecDepth 100000
def canE (k : Int) (bs : List Bool) : Bool := if k = 1 ∨ k = 5 then true else if k = 3 then bs.all id else if k = 4 then bs.any id else false
mutual
def canR : Re → Bool
  | .mk k _ a _ _ _ => canE k (canRs a)
def canRs : List Re → List Bool
  | [] => []
  | x :: l => canR x :: canRs l
end
theorem canRs_map : ∀ l : List Re, canRs l = l.map canR
  | [] => rfl
  | x :: l => by rw [canRs, canRs_map l]; rfl
theorem canR_eq (x : Re) : canR x = canE x.kind (x.args.map canR) := by cases x; rw [canR, canRs_map]; rfl
/-- Borders of parts in a row, up to the first that must have a letter. -/
def catB : List (Bool × List Int) → List Int
  | [] => []
  | p :: r => if p.1 then p.2 ++ catB r else p.2
def ordB {α : Type} (last : Bool) (l : List α) : List α := if last then l.reverse else l
def bordE (last : Bool) (k mn : Int) (ps : List (Bool × List Int)) : List Int := if k = 2 then [mn] else if k = 4 ∨ k = 5 then (ps.map (·.2)).flatten else if k = 3 then catB (ordB last ps) else []
mutual
def bordR (last : Bool) : Re → List Int
  | .mk k _ a mn _ _ => bordE last k mn (bordRs last a)
def bordRs (last : Bool) : List Re → List (Bool × List Int)
  | [] => []
  | x :: l => (canR x, bordR last x) :: bordRs last l
end
theorem bordRs_map (last : Bool) : ∀ l : List Re, bordRs last l = l.map fun x => (canR x, bordR last x)
  | [] => rfl
  | x :: l => by rw [bordRs, bordRs_map last l]; rfl
theorem bordR_eq (last : Bool) (x : Re) : bordR last x = bordE last x.kind x.mn (x.args.map fun x => (canR x, bordR last x)) := by cases x; rw [bordR, bordRs_map]; rfl
def CanOk (x : Re) : Prop := ∀ (w0 : World) (vs : List Value), ReAt w0 x vs → Ret Try.prog 47 #[.agg vs.toArray] w0 fun v w => v = .bool (canR x) ∧ Ext w0 w
theorem can1_c (x : Re) (hk : x.kind = 1) : CanOk x := by
 intro w0 vs hxt
 obtain ⟨sa, sc, aa, ac, rfl, hset, hlen, hargs⟩ := hxt.form
 rw [canR_eq]
 refine Ret_of Try.func47 rfl Try.ntmps47 (Nat.le_of_ble_eq_true rfl) ?_
 have E : Chg none1 w0 w0 := Chg.refl _ _
 refine Wp_seq_region ?_
 refine s_box (v := (.agg (R6 x sa sc aa ac))) (c := (R6 x sa sc aa ac)) (by decide) rfl rfl ?_
 intro b1 w1 N1
 have F1 := N1.ge E
 replace E := E.ext N1.ext
 have B1 := N1.blk
 refine qA _ rfl ?_
 refine WpL_nil (Wp_seq (Wp_seq_region ?_))
 refine qF b1 0 0 rfl Try.underlying25 rfl siz3 rfl ?_
 refine qV (r_load rfl flat3 (B1.cell rfl)) ?_
 refine WpL_nil (Wp_block (Wp_seq (Wp_seq_region ?_)))
 refine qV (r_eql rfl rfl) ?_
 refine qA _ rfl ?_
 refine WpL_nil ?_
 have hc2 : (decide ((x.kind : Int) = 1)) = true := decide_eq_true hk
 refine Wp_cond_true (congrArg Value.bool hc2) ?_
 refine Wp_skip (thn_normal ?_)
 refine Wp_cond_true (congrArg Value.bool hc2) ?_
 refine Wp_seq_region ?_
 refine qA _ rfl ?_
 refine WpL_nil (Wp_ret (inB_ret (thn_ret ?_)))
 refine fin_tmp Try.results47 (v := (.bool true)) rfl ?_
 exact ⟨by unfold canE; rw [if_pos (.inl hk)], E⟩
theorem can5_c (x : Re) (hk : x.kind = 5) : CanOk x := by
 intro w0 vs hxt
 obtain ⟨sa, sc, aa, ac, rfl, hset, hlen, hargs⟩ := hxt.form
 rw [canR_eq]
 refine Ret_of Try.func47 rfl Try.ntmps47 (Nat.le_of_ble_eq_true rfl) ?_
 have E : Chg none1 w0 w0 := Chg.refl _ _
 refine Wp_seq_region ?_
 refine s_box (v := (.agg (R6 x sa sc aa ac))) (c := (R6 x sa sc aa ac)) (by decide) rfl rfl ?_
 intro b1 w1 N1
 have F1 := N1.ge E
 replace E := E.ext N1.ext
 have B1 := N1.blk
 refine qA _ rfl ?_
 refine WpL_nil (Wp_seq (Wp_seq_region ?_))
 refine qF b1 0 0 rfl Try.underlying25 rfl siz3 rfl ?_
 refine qV (r_load rfl flat3 (B1.cell rfl)) ?_
 refine WpL_nil (Wp_block (Wp_seq (Wp_seq_region ?_)))
 refine qV (r_eql rfl rfl) ?_
 refine qA _ rfl ?_
 refine WpL_nil ?_
 have hc2 : (decide ((x.kind : Int) = 1)) = false := decide_eq_false (by omega)
 refine Wp_cond_false (congrArg Value.bool hc2) ?_
 refine Wp_region ?_
 refine qV (r_eql rfl rfl) ?_
 refine qA _ rfl ?_
 refine WpL_nil (thn_normal ?_)
 have hc3 : (decide ((x.kind : Int) = 5)) = true := decide_eq_true hk
 refine Wp_cond_true (congrArg Value.bool hc3) ?_
 refine Wp_seq_region ?_
 refine qA _ rfl ?_
 refine WpL_nil (Wp_ret (inB_ret (thn_ret ?_)))
 refine fin_tmp Try.results47 (v := (.bool true)) rfl ?_
 exact ⟨by unfold canE; rw [if_pos (.inr hk)], E⟩
theorem can9_c (x : Re) (hk : x.kind ≠ 1 ∧ x.kind ≠ 3 ∧ x.kind ≠ 4 ∧ x.kind ≠ 5) : CanOk x := by
 intro w0 vs hxt
 obtain ⟨sa, sc, aa, ac, rfl, hset, hlen, hargs⟩ := hxt.form
 rw [canR_eq]
 refine Ret_of Try.func47 rfl Try.ntmps47 (Nat.le_of_ble_eq_true rfl) ?_
 have E : Chg none1 w0 w0 := Chg.refl _ _
 refine Wp_seq_region ?_
 refine s_box (v := (.agg (R6 x sa sc aa ac))) (c := (R6 x sa sc aa ac)) (by decide) rfl rfl ?_
 intro b1 w1 N1
 have F1 := N1.ge E
 replace E := E.ext N1.ext
 have B1 := N1.blk
 refine qA _ rfl ?_
 refine WpL_nil (Wp_seq (Wp_seq_region ?_))
 refine qF b1 0 0 rfl Try.underlying25 rfl siz3 rfl ?_
 refine qV (r_load rfl flat3 (B1.cell rfl)) ?_
 refine WpL_nil (Wp_block (Wp_seq (Wp_seq_region ?_)))
 refine qV (r_eql rfl rfl) ?_
 refine qA _ rfl ?_
 refine WpL_nil ?_
 have hc2 : (decide ((x.kind : Int) = 1)) = false := decide_eq_false (by omega)
 refine Wp_cond_false (congrArg Value.bool hc2) ?_
 refine Wp_region ?_
 refine qV (r_eql rfl rfl) ?_
 refine qA _ rfl ?_
 refine WpL_nil (thn_normal ?_)
 have hc3 : (decide ((x.kind : Int) = 5)) = false := decide_eq_false (by omega)
 refine Wp_cond_false (congrArg Value.bool hc3) ?_
 refine Wp_seq_region ?_
 refine qV (r_eql rfl rfl) ?_
 refine qA _ rfl ?_
 refine WpL_nil ?_
 have hc4 : (decide ((x.kind : Int) = 3)) = false := decide_eq_false (by omega)
 refine Wp_cond_false (congrArg Value.bool hc4) ?_
 refine Wp_seq_region ?_
 refine qV (r_eql rfl rfl) ?_
 refine qA _ rfl ?_
 refine WpL_nil ?_
 have hc5 : (decide ((x.kind : Int) = 4)) = false := decide_eq_false (by omega)
 refine Wp_cond_false (congrArg Value.bool hc5) ?_
 refine Wp_skip (inB_normal (thn_normal (Wp_seq_region ?_)))
 refine qA _ rfl ?_
 refine WpL_nil (Wp_ret ?_)
 refine fin_tmp Try.results47 (v := (.bool false)) rfl ?_
 exact ⟨by unfold canE; rw [if_neg (by omega), if_neg (by omega), if_neg (by omega)], E⟩
theorem take_all_succ {l : List Re} {k : Nat} {y : Re} (h : l[k]? = some y) (hc : canR y = true) (hp : ((l.take k).map canR).all id = true) : ((l.take (k + 1)).map canR).all id = true := by
 rw [List.take_add_one, h, Option.toList_some, List.map_append, List.all_append, hp]
 simp [hc]
theorem take_any_succ {l : List Re} {k : Nat} {y : Re} (h : l[k]? = some y) (hc : canR y = false) (hp : ((l.take k).map canR).any id = false) : ((l.take (k + 1)).map canR).any id = false := by
 rw [List.take_add_one, h, Option.toList_some, List.map_append, List.any_append, hp]
 simp [hc]
theorem can3_c (x : Re) (hk : x.kind = 3) (hof : ∀ y ∈ x.args, CanOk y) : CanOk x := by
 intro w0 vs hxt
 obtain ⟨sa, sc, aa, ac, rfl, hset, hlen, hargs⟩ := hxt.form
 have hal := len_lt_size x
 have hlm : x.args.length ≤ 9223372036854775807 := by have := hlen; omega
 rw [canR_eq]
 refine Ret_of Try.func47 rfl Try.ntmps47 (Nat.le_of_ble_eq_true rfl) ?_
 have E : Chg none1 w0 w0 := Chg.refl _ _
 refine Wp_seq_region ?_
 refine s_box (v := (.agg (R6 x sa sc aa ac))) (c := (R6 x sa sc aa ac)) (by decide) rfl rfl ?_
 intro b1 w1 N1
 have F1 := N1.ge E
 replace E := E.ext N1.ext
 have B1 := N1.blk
 refine qA _ rfl ?_
 refine WpL_nil (Wp_seq (Wp_seq_region ?_))
 refine qF b1 0 0 rfl Try.underlying25 rfl siz3 rfl ?_
 refine qV (r_load rfl flat3 (B1.cell rfl)) ?_
 refine WpL_nil (Wp_block (Wp_seq (Wp_seq_region ?_)))
 refine qV (r_eql rfl rfl) ?_
 refine qA _ rfl ?_
 refine WpL_nil ?_
 have hc2 : (decide ((x.kind : Int) = 1)) = false := decide_eq_false (by omega)
 refine Wp_cond_false (congrArg Value.bool hc2) ?_
 refine Wp_region ?_
 refine qV (r_eql rfl rfl) ?_
 refine qA _ rfl ?_
 refine WpL_nil (thn_normal ?_)
 have hc3 : (decide ((x.kind : Int) = 5)) = false := decide_eq_false (by omega)
 refine Wp_cond_false (congrArg Value.bool hc3) ?_
 refine Wp_seq_region ?_
 refine qV (r_eql rfl rfl) ?_
 refine qA _ rfl ?_
 refine WpL_nil ?_
 have hc4 : (decide ((x.kind : Int) = 3)) = true := decide_eq_true hk
 refine Wp_cond_true (congrArg Value.bool hc4) ?_
 refine Wp_seq (Wp_seq_region ?_)
 refine qF b1 0 2 rfl Try.underlying25 rfl siz23 rfl ?_
 refine qV (r_load rfl flat23 (B1.cell rfl)) ?_
 refine qV (r_lenSlice Try.underlying23 rfl) ?_
 refine qM _ rfl ?_
 refine WpL_nil (Wp_block ?_)
 refine Wp_loop (fun nn_ σ W5 => ∃ (k : Nat), (∃ jj_, σ = upds jj_ [(15, (.slice aa x.args.length ac)), (16, (I6 (x.args.length : Int))), (17, (I6 (k : Int)))]) ∧ Chg none1 w0 W5 ∧ Blk W5 b1 (R6 x sa sc aa ac) 25 ∧ (k ≤ x.args.length) ∧ (((x.args.take k).map canR).all id = true) ∧ nn_ = x.args.length - k) (n := x.args.length - 0) ?_ ?_
 ·exact ⟨0, Fits.out ⟨rfl, rfl, rfl, trivial⟩, E, B1, Nat.zero_le _, rfl, rfl⟩
 ·clear E B1
  rintro _ _ W5 ⟨k, ⟨j5, rfl⟩, E, B1, hk1, hp, rfl⟩
  refine Wp_seq_region ?_
  refine qV (r_lss rfl rfl) ?_
  refine WpL_nil (Wp_seq ?_)
  refine Wp_cond rfl (fun hlt => ?_) (fun hlt => ?_)
  ·have khlt := hlt
   replace hlt := of_decide_eq_true hlt
   obtain ⟨y, hy⟩ := get_of_lt (l := x.args) (i := k) (by omega)
   obtain ⟨ab, ao, rfl, hres⟩ := args_at hargs (by omega)
   obtain ⟨us, hus, hyt⟩ := hres.get hy
   refine Wp_skip (thn_normal (Wp_seq (Wp_block (Wp_seq_region ?_))))
   refine qV (r_indexSlice (b := ab) (o := ao) (len := x.args.length) (cap := ac) (i := k) (o' := ao + k * 6) rfl rfl rfl Try.underlying23 siz25 (by omega) (by omega)) ?_
   refine qV (r_loadAgg rfl agg25 siz25 hyt.len (hus.ext E)) ?_
   refine s_allocStore (v := (.agg us.toArray)) (c := us.toArray) (n := 6) (by decide) zer25 rfl siz25 rfl rfl (by simpa using hyt.len) (by simpa using ReAt.one hyt) ?_
   intro b7 w7 N7
   have F7 := N7.ge E
   have O7_b1 := N7.lt B1
   replace B1 := N7.keep B1
   replace E := E.ext N7.ext
   have B7 := N7.blk
   refine WpL_nil (Wp_seq_region ?_)
   refine qV (r_loadAgg rfl agg25 siz25 hyt.len (B7.cells (by simp))) ?_
   refine WpL_enter rfl rfl (by decide) (r_callF Try.func47 kQ kQ rfl) (hof y (List.mem_of_getElem? hy) _ us (ReAt.ext E y hyt)) ?_
   rintro _ w9 ⟨rfl, X9⟩
   replace B1 := X9.keep B1
   replace B7 := X9.keep B7
   replace E := E.ext X9
   refine qV (r_not rfl) ?_
   refine WpL_nil ?_
   refine Wp_cond rfl (fun hc => ?_) (fun hc => ?_)
   ·have khc := hc
    replace hc := by simpa using hc
    refine Wp_seq_region ?_
    refine qA _ rfl ?_
    refine WpL_nil (Wp_ret (inB_ret (thn_ret (thn_ret (inB_ret (thn_ret (inB_ret (thn_ret ?_))))))))
    refine fin_tmp Try.results47 (v := (.bool false)) rfl ?_
    exact ⟨by unfold canE; rw [if_neg (by omega), if_pos hk]; congr 1; symm; rw [List.all_eq_false]; exact ⟨false, List.mem_map.2 ⟨y, List.mem_of_getElem? hy, by simpa using hc⟩, by decide⟩, E⟩
   ·have khc := hc
    replace hc := by simpa using hc
    refine Wp_skip (inB_normal (thn_normal (Wp_region ?_)))
    refine qV (r_add rfl rfl (wI64 (by omega))) ?_
    refine qM _ rfl ?_
    refine WpL_nil (thn_normal ?_)
    exact ⟨x.args.length - (k + 1), by omega, k + 1, Fits.out ⟨rfl, rfl, rfl, trivial⟩, E, B1, (by omega), take_all_succ hy (by simpa using hc) hp, rfl⟩
  ·have khlt := hlt
   replace hlt := of_decide_eq_false hlt
   have hkk : x.args.take k = x.args := List.take_of_length_le (by omega)
   rw [hkk] at hp
   refine Wp_exit (thn_exit (thn_exit (inB_here (thn_normal (Wp_seq_region ?_)))))
   refine qA _ rfl ?_
   refine WpL_nil (Wp_ret (inB_ret (thn_ret ?_)))
   refine fin_tmp Try.results47 (v := (.bool true)) rfl ?_
   exact ⟨by unfold canE; rw [if_neg (by omega), if_pos hk, hp], E⟩
theorem can4_c (x : Re) (hk : x.kind = 4) (hof : ∀ y ∈ x.args, CanOk y) : CanOk x := by
 intro w0 vs hxt
 obtain ⟨sa, sc, aa, ac, rfl, hset, hlen, hargs⟩ := hxt.form
 have hal := len_lt_size x
 have hlm : x.args.length ≤ 9223372036854775807 := by have := hlen; omega
 rw [canR_eq]
 refine Ret_of Try.func47 rfl Try.ntmps47 (Nat.le_of_ble_eq_true rfl) ?_
 have E : Chg none1 w0 w0 := Chg.refl _ _
 refine Wp_seq_region ?_
 refine s_box (v := (.agg (R6 x sa sc aa ac))) (c := (R6 x sa sc aa ac)) (by decide) rfl rfl ?_
 intro b1 w1 N1
 have F1 := N1.ge E
 replace E := E.ext N1.ext
 have B1 := N1.blk
 refine qA _ rfl ?_
 refine WpL_nil (Wp_seq (Wp_seq_region ?_))
 refine qF b1 0 0 rfl Try.underlying25 rfl siz3 rfl ?_
 refine qV (r_load rfl flat3 (B1.cell rfl)) ?_
 refine WpL_nil (Wp_block (Wp_seq (Wp_seq_region ?_)))
 refine qV (r_eql rfl rfl) ?_
 refine qA _ rfl ?_
 refine WpL_nil ?_
 have hc2 : (decide ((x.kind : Int) = 1)) = false := decide_eq_false (by omega)
 refine Wp_cond_false (congrArg Value.bool hc2) ?_
 refine Wp_region ?_
 refine qV (r_eql rfl rfl) ?_
 refine qA _ rfl ?_
 refine WpL_nil (thn_normal ?_)
 have hc3 : (decide ((x.kind : Int) = 5)) = false := decide_eq_false (by omega)
 refine Wp_cond_false (congrArg Value.bool hc3) ?_
 refine Wp_seq_region ?_
 refine qV (r_eql rfl rfl) ?_
 refine qA _ rfl ?_
 refine WpL_nil ?_
 have hc4 : (decide ((x.kind : Int) = 3)) = false := decide_eq_false (by omega)
 refine Wp_cond_false (congrArg Value.bool hc4) ?_
 refine Wp_seq_region ?_
 refine qV (r_eql rfl rfl) ?_
 refine qA _ rfl ?_
 refine WpL_nil ?_
 have hc5 : (decide ((x.kind : Int) = 4)) = true := decide_eq_true hk
 refine Wp_cond_true (congrArg Value.bool hc5) ?_
 refine Wp_seq_region ?_
 refine qF b1 0 2 rfl Try.underlying25 rfl siz23 rfl ?_
 refine qV (r_load rfl flat23 (B1.cell rfl)) ?_
 refine qV (r_lenSlice Try.underlying23 rfl) ?_
 refine qM _ rfl ?_
 refine WpL_nil (Wp_block ?_)
 refine Wp_loop (fun nn_ σ W6 => ∃ (k : Nat), (∃ jj_, σ = upds jj_ [(28, (.slice aa x.args.length ac)), (29, (I6 (x.args.length : Int))), (30, (I6 (k : Int)))]) ∧ Chg none1 w0 W6 ∧ Blk W6 b1 (R6 x sa sc aa ac) 25 ∧ (k ≤ x.args.length) ∧ (((x.args.take k).map canR).any id = false) ∧ nn_ = x.args.length - k) (n := x.args.length - 0) ?_ ?_
 ·exact ⟨0, Fits.out ⟨rfl, rfl, rfl, trivial⟩, E, B1, Nat.zero_le _, rfl, rfl⟩
 ·clear E B1
  rintro _ _ W6 ⟨k, ⟨j6, rfl⟩, E, B1, hk1, hp, rfl⟩
  refine Wp_seq_region ?_
  refine qV (r_lss rfl rfl) ?_
  refine WpL_nil (Wp_seq ?_)
  refine Wp_cond rfl (fun hlt => ?_) (fun hlt => ?_)
  ·have khlt := hlt
   replace hlt := of_decide_eq_true hlt
   obtain ⟨y, hy⟩ := get_of_lt (l := x.args) (i := k) (by omega)
   obtain ⟨ab, ao, rfl, hres⟩ := args_at hargs (by omega)
   obtain ⟨us, hus, hyt⟩ := hres.get hy
   refine Wp_skip (thn_normal (Wp_seq (Wp_block (Wp_seq_region ?_))))
   refine qV (r_indexSlice (b := ab) (o := ao) (len := x.args.length) (cap := ac) (i := k) (o' := ao + k * 6) rfl rfl rfl Try.underlying23 siz25 (by omega) (by omega)) ?_
   refine qV (r_loadAgg rfl agg25 siz25 hyt.len (hus.ext E)) ?_
   refine s_allocStore (v := (.agg us.toArray)) (c := us.toArray) (n := 6) (by decide) zer25 rfl siz25 rfl rfl (by simpa using hyt.len) (by simpa using ReAt.one hyt) ?_
   intro b8 w8 N8
   have F8 := N8.ge E
   have O8_b1 := N8.lt B1
   replace B1 := N8.keep B1
   replace E := E.ext N8.ext
   have B8 := N8.blk
   refine WpL_nil (Wp_seq_region ?_)
   refine qV (r_loadAgg rfl agg25 siz25 hyt.len (B8.cells (by simp))) ?_
   refine WpL_enter rfl rfl (by decide) (r_callF Try.func47 kQ kQ rfl) (hof y (List.mem_of_getElem? hy) _ us (ReAt.ext E y hyt)) ?_
   rintro _ w9 ⟨rfl, X9⟩
   replace B1 := X9.keep B1
   replace B8 := X9.keep B8
   replace E := E.ext X9
   refine WpL_nil ?_
   refine Wp_cond rfl (fun hc => ?_) (fun hc => ?_)
   ·have khc := hc
    refine Wp_seq_region ?_
    refine qA _ rfl ?_
    refine WpL_nil (Wp_ret (inB_ret (thn_ret (thn_ret (inB_ret (inB_ret (thn_ret ?_)))))))
    refine fin_tmp Try.results47 (v := (.bool true)) rfl ?_
    exact ⟨by unfold canE; rw [if_neg (by omega), if_neg (by omega), if_pos hk]; congr 1; symm; rw [List.any_eq_true]; exact ⟨true, List.mem_map.2 ⟨y, List.mem_of_getElem? hy, by simpa using hc⟩, rfl⟩, E⟩
   ·have khc := hc
    refine Wp_skip (inB_normal (thn_normal (Wp_region ?_)))
    refine qV (r_add rfl rfl (wI64 (by omega))) ?_
    refine qM _ rfl ?_
    refine WpL_nil (thn_normal ?_)
    exact ⟨x.args.length - (k + 1), by omega, k + 1, Fits.out ⟨rfl, rfl, rfl, trivial⟩, E, B1, (by omega), take_any_succ hy (by simpa using hc) hp, rfl⟩
  ·have khlt := hlt
   replace hlt := of_decide_eq_false hlt
   have hkk : x.args.take k = x.args := List.take_of_length_le (by omega)
   rw [hkk] at hp
   refine Wp_exit (thn_exit (thn_exit (inB_here (inB_normal (thn_normal (Wp_seq_region ?_))))))
   refine qA _ rfl ?_
   refine WpL_nil (Wp_ret ?_)
   refine fin_tmp Try.results47 (v := (.bool false)) rfl ?_
   exact ⟨by unfold canE; rw [if_neg (by omega), if_neg (by omega), if_pos hk, hp], E⟩
theorem can_c : ∀ (n : Nat) (x : Re), x.size ≤ n → CanOk x := by
  intro n
  induction n with
  | zero => intro x h; have := x.size_pos; omega
  | succ n ih =>
  intro x hn
  have hof : ∀ y ∈ x.args, CanOk y := fun y hy => by
    obtain ⟨i, hi⟩ := List.getElem?_of_mem hy
    have h1 := Re.size_arg hi
    exact ih y (by omega)
  by_cases h1 : x.kind = 1
  · exact can1_c x h1
  by_cases h3 : x.kind = 3
  · exact can3_c x h3 hof
  by_cases h4 : x.kind = 4
  · exact can4_c x h4 hof
  by_cases h5 : x.kind = 5
  · exact can5_c x h5
  · exact can9_c x ⟨h1, h3, h4, h5⟩
end Go.Proofs
namespace Go.Proofs
open Go Go.Eng Go.Sort
--BEGIN
theorem set_true {M : List Bool} {i j : Nat} (h : M[j]? = some true) : (M.set i true)[j]? = some true := by
 rw [List.getElem?_set]
 split
 ·rename_i he
  subst he
  rw [if_pos (lt_of_get h)]
 ·exact h
end Go.Proofs
namespace Go.Proofs
open Go Go.Eng Go.Sort
set_option maxRecDepth 100000
abbrev TDI : Nat := 3
abbrev TDIs : Nat := 26
def iRow (l : List Int) : Nat × List Value := (l.length, l.map (Value.int .i64))
theorem iRow_rep (n : Nat) : (List.replicate n ([] : List Int)).map iRow = List.replicate n (0, []) := by simp [iRow]
theorem ints_flatD (l : List Int) : (l.map intV).flatten = l.map (Value.int .i64) := by
  induction l with
  | nil => rfl
  | cons x l ih => simp [intV]; simpa [intV] using ih
theorem own_intsD {w : World} {base n : Nat} {v : Value} {l : List Int} (h : w.ownsRow base TDI 1 v n (l.map (Value.int .i64))) (hn : n = l.length) : IntsAt w v l := by
 rw [← ints_flatD] at h
 exact own_slat h (by intro x hx; simp only [List.mem_map] at hx; obtain ⟨p, _, rfl⟩ := hx; rfl) (by simp [hn]) (by decide)
theorem bools_set {M : List Bool} {k : Nat} (b : Bool) : ((M.map Value.bool).toArray).setIfInBounds (0 + k) (.bool b) = ((M.set k b).map Value.bool).toArray := by
 apply Array.ext'
 rw [Array.toList_setIfInBounds, Nat.zero_add, ← List.map_set]
theorem snocs {α : Type} {l : List α} (h : 0 < l.length) : ∃ o c, l = o ++ [c] := ⟨l.dropLast, l.getLast (List.ne_nil_of_length_pos h), (List.dropLast_concat_getLast _).symm⟩
end Go.Proofs
