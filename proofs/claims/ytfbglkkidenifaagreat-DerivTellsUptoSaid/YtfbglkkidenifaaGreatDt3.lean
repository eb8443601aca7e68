/- Contracts and plain lemmas, part 3. -/
import Derived.Tactics
import Derived.Deep.Quiet
import Derived.Laws.AppendOwn
import Derived.KernelRfl
import Derived.Laws.Entries
import Derived.Laws.Build
import Derived.Below
import Derived.RowKit3
import Derived.StillTail
import Derived.Sort.Grow
import Derived.Deep.Draws
import Derived.Test.YtfbglkkidenifaaGreatChecked
import Derived.Laws.StructEq
import Derived.MapKept
import Derived.Laws.BytesArg
import Derived.Shelf.SlSortCmp.WholeK
import Derived.Shelf.Sort.Plain
import Derived.Shelf.Slices.CompactI
import Derived.Test.YtfbglkkidenifaaGreatProg
import Derived.OpenShut
import Derived.ChangeSlices
import Derived.Test.YtfbglkkidenifaaGreatRows
import Derived.Test.YtfbglkkidenifaaGreatDt2
namespace Go.Proofs
open Go Go.Eng Go.Sort
set_option maxRecDepth 100000
/-- A node in similar form, of arguments in similar form. -/
structure SimN (k : Int) (s : List (Int × Int)) (a : List Re) (m x : Int) (g : Bool) : Prop where
 ks : k = 0 ∨ k = 1 ∨ k = 2 ∨ k = 3 ∨ k = 4 ∨ k = 5 ∨ k = 6 ∨ k = 7 ∨ k = 8
 ng : g = false
 st : k ≠ 2 → s = []
 mm : k ≠ 6 → m = 0 ∧ x = 0
 k2 : k = 2 → s ≠ [] ∧ zBR s = 0
 none : k = 0 ∨ k = 1 ∨ k = 2 → a = []
 k3 : k = 3 → 2 ≤ a.length ∧ ∀ y ∈ a, y.kind ≠ 0 ∧ y.kind ≠ 1 ∧ y.kind ≠ 3
 k4 : k = 4 → 2 ≤ a.length ∧ (∀ y ∈ a, y.kind ≠ 0 ∧ y.kind ≠ 4 ∧ zCb y = false) ∧ a.Pairwise fun y z => zCB y z < 0
 k7 : k = 7 → 2 ≤ a.length ∧ (∀ y ∈ a, y.kind ≠ 0 ∧ y.kind ≠ 7 ∧ zCb y = false) ∧ a.Pairwise fun y z => zCB y z < 0
 k5 : k = 5 → ∃ y, a = [y] ∧ y.kind ≠ 0 ∧ y.kind ≠ 1 ∧ y.kind ≠ 5
 k6 : k = 6 → ∃ y, a = [y] ∧ y.kind ≠ 0 ∧ y.kind ≠ 1 ∧ 0 ≤ m ∧ m ≤ x ∧ x ≤ 8 ∧ x ≠ 0 ∧ ¬ (m = 1 ∧ x = 1)
 k8 : k = 8 → ∃ y, a = [y] ∧ y.kind ≠ 8
mutual
def zAq : Re → Prop
  | .mk k s a m x g => SimN k s a m x g ∧ zDH a
def zDH : List Re → Prop
  | [] => True
  | t :: ts => zAq t ∧ zDH ts
end
theorem zCZ {ts : List Re} : zDH ts ↔ ∀ t ∈ ts, zAq t := by
  induction ts with
  | nil => simp [zDH]
  | cons t ts ih => simp [zDH, ih]
theorem zAq.n {t : Re} (h : zAq t) : SimN t.kind t.set t.args t.mn t.mx t.neg := by cases t; exact h.1
theorem zAq.a {t : Re} (h : zAq t) : ∀ x ∈ t.args, zAq x := by cases t; exact zCZ.1 h.2
theorem zAq.mk' {k : Int} {s : List (Int × Int)} {a : List Re} {m x : Int} {g : Bool} (h : SimN k s a m x g) (ha : ∀ y ∈ a, zAq y) : zAq (.mk k s a m x g) := ⟨h, zCZ.2 ha⟩
mutual
theorem zDr : ∀ {t : Re}, zAq t → zEA t = true
  | .mk k s a m x g, h => by
    simp only [zEA, h.1.ng, Bool.not_false, Bool.true_and]
    exact zHI h.2
theorem zHI : ∀ {ts : List Re}, zDH ts → zGV ts = true
  | [], _ => rfl
  | t :: ts, h => by simp only [zGV, zDr h.1, zHI h.2]; rfl
end
theorem zCw : zAq zBH := by unfold zBH; exact .mk' ⟨by simp, rfl, by simp, by simp, by simp, by simp, by simp, by simp, by simp, by simp, by simp, by simp⟩ (by simp)
theorem zDP : zAq zBJ := by unfold zBJ; exact .mk' ⟨by simp, rfl, by simp, by simp, by simp, by simp, by simp, by simp, by simp, by simp, by simp, by simp⟩ (by simp)
theorem zPn : zAq zEy := by
 unfold zEy
 exact .mk' ⟨by simp, rfl, by simp, by simp, by simp, by simp, by simp, by simp, by simp, by simp, by simp, fun _ => ⟨zBH, rfl, by decide⟩⟩ (by intro y hy; simp at hy; subst hy; exact zCw)
theorem zCy {k : Int} {l : List Re} {x : Re} : x ∈ zBO k l ↔ ∃ y ∈ l, (y.kind = k ∧ x ∈ y.args) ∨ (y.kind ≠ k ∧ x = y) := by
 unfold zBO
 rw [List.mem_flatMap]
 constructor
 ·rintro ⟨y, hy, h⟩
  split at h
  ·rename_i hk; exact ⟨y, hy, .inl ⟨hk, h⟩⟩
  rename_i hk; simp at h; exact ⟨y, hy, .inr ⟨hk, h⟩⟩
 rintro ⟨y, hy, ⟨hk, h⟩ | ⟨hk, h⟩⟩
 ·exact ⟨y, hy, by rw [if_pos hk]; exact h⟩
 exact ⟨y, hy, by rw [if_neg hk]; simp [h]⟩
theorem zJg {k : Int} {l : List Re} (h : ∀ x ∈ l, x.kind ≠ k) : zBO k l = l := by
  unfold zBO
  induction l with
  | nil => rfl
  | cons x l ih => rw [List.flatMap_cons, if_neg (h x (by simp)), ih fun y hy => h y (by simp [hy])]; rfl
theorem zNI {p : Re → Bool} {l : List Re} (h : ∀ x ∈ l, p x = false) : zEm p l = l := List.filter_eq_self.2 fun x hx => by rw [h x hx]; rfl
theorem zGe {p : Re → Bool} {l : List Re} {x : Re} : x ∈ zEm p l ↔ x ∈ l ∧ p x = false := by unfold zEm; rw [List.mem_filter]; simp
theorem zJO {k : Int} {z : Re} {l : List Re} (h : 2 ≤ l.length) : zBy k z l = .mk k [] l 0 0 false := by
  match l, h with
  | x :: y :: l, _ => rfl
theorem zQq {l : List Re} (h : 2 ≤ l.length) (h2 : ∀ y ∈ l, y.kind ≠ 0 ∧ y.kind ≠ 1 ∧ y.kind ≠ 3) : zEd l = .mk 3 [] l 0 0 false := by
 have e : zEm zBo (zBO 3 l) = l := by rw [zJg fun y hy => (h2 y hy).2.2, zNI fun y hy => by simp [zBo, (h2 y hy).2.1]]
 unfold zEd
 rw [e, if_neg, zJO h]
 rw [List.any_eq_true]
 rintro ⟨y, hy, hk⟩
 simp [zBU] at hk
 exact (h2 y hy).1 hk
theorem zGl {l : List Re} (h : ∀ x ∈ l, zAq x) : zAq (zEd l) := by
  unfold zEd
  split
  · exact zCw
  · rename_i hn
    have hm : ∀ y ∈ zEm zBo (zBO 3 l), zAq y ∧ y.kind ≠ 0 ∧ y.kind ≠ 1 ∧ y.kind ≠ 3 := fun y hy => by
      have h0 : y.kind ≠ 0 := fun hk => hn (List.any_eq_true.2 ⟨y, hy, by simp [zBU, hk]⟩)
      obtain ⟨h1, h2⟩ := zGe.1 hy
      have h3 : y.kind ≠ 1 := by simpa [zBo] using h2
      obtain ⟨z, hz, ⟨hk, h4⟩ | ⟨hk, rfl⟩⟩ := zCy.1 h1
      · exact ⟨(h z hz).a y h4, h0, h3, (((h z hz).n.k3 hk).2 y h4).2.2⟩
      · exact ⟨h y hz, h0, h3, hk⟩
    generalize zEm zBo (zBO 3 l) = q at hm
    match q, hm with
    | [], _ => exact zDP
    | [x], hm => exact (hm x (by simp)).1
    | x :: y :: q, hm => exact .mk' ⟨by simp, rfl, by simp, by simp, by simp, by simp, fun _ => ⟨by simp, fun z hz => (hm z hz).2⟩, by simp, by simp, by simp, by simp, by simp⟩ fun z hz => (hm z hz).1
theorem zGf : ∀ {l : List Re} {x : Re}, x ∈ zFQ l ↔ x ∈ l
  | [], x => by simp [zFQ]
  | [y], x => by simp [zFQ]
  | y :: z :: l, x => by
    simp only [zFQ]
    split
    · rename_i h
      rw [zGf, (zBb y z).1 h]
      simp
    · rw [List.mem_cons, zGf]
      simp
theorem zEb : ∀ {l : List Re}, (∀ x ∈ l, zEA x = true) → l.Pairwise (fun y z => zCB y z ≤ 0) → (zFQ l).Pairwise fun y z => zCB y z < 0
  | [], _, _ => by simp [zFQ]
  | [y], _, _ => by simp [zFQ]
  | y :: z :: l, hn, h => by
    obtain ⟨h1, h2⟩ := List.pairwise_cons.1 h
    simp only [zFQ]
    split
    · exact zEb (fun x hx => hn x (by simp [List.mem_cons.1 hx])) h2
    · rename_i hne
      refine List.pairwise_cons.2 ⟨fun x hx => ?_, zEb (fun x hx => hn x (by simp [List.mem_cons.1 hx])) h2⟩
      have hyz : zCB y z < 0 := by
        have h3 := h1 z (by simp)
        have h4 : zCB y z ≠ 0 := fun e => hne ((zBb y z).2 ((zGA (hn y (by simp)) (hn z (by simp))).1 e))
        omega
      rcases List.mem_cons.1 (zGf.1 hx) with rfl | hx
      · exact hyz
      · have h5 := (List.pairwise_cons.1 h2).1 x hx
        have h6 := zBf x y
        have h7 := zBf y x
        by_cases h8 : zCB y x < 0
        · exact h8
        · exfalso
          have h9 : zCB x y ≤ 0 := by omega
          have h10 := zPH h5 h9
          have h11 := zBf z y
          omega
theorem zPO : ∀ {l : List Re}, l.Pairwise (fun y z => zCB y z < 0) → zFQ l = l
  | [], _ => rfl
  | [y], _ => rfl
  | y :: z :: l, h => by
    obtain ⟨h1, h2⟩ := List.pairwise_cons.1 h
    simp only [zFQ]
    rw [if_neg, zPO h2]
    intro e
    have e1 := (zBb y z).1 e
    have h3 := h1 z (by simp)
    have h4 := zBf y y
    rw [e1] at h3 h4
    omega
theorem zEq (l : List Re) : (zDO l).Pairwise fun y z => zCB y z ≤ 0 := by
 have h := List.pairwise_mergeSort (le := leR) (fun a b c h1 h2 => by simp only [leR, decide_eq_true_eq] at *; exact zPH h1 h2) (fun a b => by simp only [leR, Bool.or_eq_true, decide_eq_true_eq]; exact ord_le a b) l
 exact h.imp fun {a b} h => by simpa [leR] using h
theorem zFB {l : List Re} {x : Re} : x ∈ zDO l ↔ x ∈ l := List.mem_mergeSort
theorem zPi {l : List Re} (h : l.Pairwise fun y z => zCB y z < 0) : zDO l = l := List.mergeSort_of_pairwise (le := leR) (h.imp fun {a b} h => by simp [leR]; omega)
theorem zNS {k : Int} {l : List Re} {strong weak : Re → Bool} {z : Re} (h : 2 ≤ l.length) (hk : ∀ y ∈ l, y.kind ≠ k) (hs : ∀ y ∈ l, strong y = false) (hw : ∀ y ∈ l, weak y = false) (hp : l.Pairwise fun y z => zCB y z < 0) : zHz k l strong weak z = .mk k [] l 0 0 false := by
 unfold zHz
 rw [List.find?_eq_none.2 fun y hy => by rw [hs y hy]; decide]
 show zBy k z _ = _
 rw [zJg hk, zNI hw, zPi hp, zPO hp, zJO h]
theorem zNR {k : Int} {l : List Re} {strong weak : Re → Bool} {z : Re} (h : ∀ x ∈ l, zAq x) (hz : zAq z)
    (hN : ∀ q : List Re, 2 ≤ q.length → (∀ y ∈ q, y.kind ≠ k ∧ strong y = false ∧ weak y = false) → (q.Pairwise fun y z => zCB y z < 0) → SimN k [] q 0 0 false)
    (hi : ∀ x, zAq x → x.kind = k → ∀ y ∈ x.args, y.kind ≠ k ∧ strong y = false) : zAq (zHz k l strong weak z) := by
  unfold zHz
  cases hf : l.find? strong with
  | some x => exact h x (List.mem_of_find?_eq_some hf)
  | none =>
    have hst := List.find?_eq_none.1 hf
    have hm : ∀ y ∈ zFQ (zDO (zEm weak (zBO k l))), zAq y ∧ y.kind ≠ k ∧ strong y = false ∧ weak y = false := fun y hy => by
      obtain ⟨h1, h2⟩ := zGe.1 (zFB.1 (zGf.1 hy))
      obtain ⟨x, hx, ⟨hk, h4⟩ | ⟨hk, rfl⟩⟩ := zCy.1 h1
      · exact ⟨(h x hx).a y h4, (hi x (h x hx) hk y h4).1, (hi x (h x hx) hk y h4).2, h2⟩
      · exact ⟨h y hx, hk, by simpa using hst y hx, h2⟩
    have hp := zEb (l := zDO (zEm weak (zBO k l))) (fun x hx => by
      obtain ⟨h1, h2⟩ := zGe.1 (zFB.1 hx)
      obtain ⟨y, hy, ⟨hk, h4⟩ | ⟨hk, rfl⟩⟩ := zCy.1 h1
      · exact zDr ((h y hy).a x h4)
      · exact zDr (h x hy)) (zEq _)
    show zAq (zBy k z _)
    generalize zFQ (zDO (zEm weak (zBO k l))) = q at hm hp
    match q, hm, hp with
    | [], _, _ => exact hz
    | [x], hm, _ => exact (hm x (by simp)).1
    | x :: y :: q, hm, hp => exact .mk' (hN _ (by simp) (fun z hz => (hm z hz).2) hp) fun z hz => (hm z hz).1
theorem alt_ok {l : List Re} (h : ∀ x ∈ l, zAq x) : zAq (zHz 4 l zCb zBU zBH) :=
 zNR h zCw (fun q h1 h2 h3 => ⟨by simp, rfl, by simp, by simp, by simp, by simp, by simp, fun _ => ⟨h1, fun y hy => ⟨by simpa [zBU] using (h2 y hy).2.2, (h2 y hy).1, (h2 y hy).2.1⟩, h3⟩, by simp, by simp, by simp, by simp⟩)
  fun x hx hk y hy => ⟨((hx.n.k4 hk).2.1 y hy).2.1, ((hx.n.k4 hk).2.1 y hy).2.2⟩
theorem and_ok {l : List Re} (h : ∀ x ∈ l, zAq x) : zAq (zHz 7 l zBU zCb zEy) :=
 zNR h zPn (fun q h1 h2 h3 => ⟨by simp, rfl, by simp, by simp, by simp, by simp, by simp, by simp, fun _ => ⟨h1, fun y hy => ⟨by simpa [zBU] using (h2 y hy).2.1, (h2 y hy).1, (h2 y hy).2.2⟩, h3⟩, by simp, by simp, by simp⟩)
  fun x hx hk y hy => ⟨((hx.n.k7 hk).2.1 y hy).2.1, by simpa [zBU] using ((hx.n.k7 hk).2.1 y hy).1⟩
/-- What is asked of a node whose arguments are in similar form: it is valid, but for flattening. -/
structure PreN (k : Int) (s : List (Int × Int)) (a : List Re) (m x : Int) (g : Bool) : Prop where
 ks : k = 0 ∨ k = 1 ∨ k = 2 ∨ k = 3 ∨ k = 4 ∨ k = 5 ∨ k = 6 ∨ k = 7 ∨ k = 8
 ng : g = false
 st : k ≠ 2 → s = []
 mm : k ≠ 6 → m = 0 ∧ x = 0
 k2 : k = 2 → s ≠ [] ∧ zBR s = 0
 none : k = 0 ∨ k = 1 ∨ k = 2 → a = []
 one : k = 5 ∨ k = 6 ∨ k = 8 → a.length = 1
 rep : k = 6 → 0 ≤ m ∧ m ≤ x ∧ x ≤ 8
theorem zFc {k : Int} {s : List (Int × Int)} {a : List Re} {m x : Int} {g : Bool} (h : PreN k s a m x g) (ha : ∀ y ∈ a, zAq y) : zAq (zCf k s a m x g) := by
  unfold zCf
  dsimp only
  have one : k = 5 ∨ k = 6 ∨ k = 8 → ∃ y, a = [y] := fun hk => by
    match a, h.one hk with
    | [y], _ => exact ⟨y, rfl⟩
  split
  · exact zGl ha
  split
  · exact alt_ok ha
  split
  · exact and_ok ha
  split
  · rename_i h5
    obtain ⟨y, rfl⟩ := one (.inl h5)
    show zAq (if y.kind = 0 ∨ y.kind = 1 then zBJ else if y.kind = 5 then y else Re.mk k s [y] m x g)
    split
    · exact zDP
    split
    · exact ha y (by simp)
    · exact .mk' ⟨h.ks, h.ng, h.st, h.mm, h.k2, h.none, by omega, by omega, by omega, fun _ => ⟨y, rfl, by omega, by omega, by omega⟩, by omega, by omega⟩ ha
  split
  · rename_i h6
    obtain ⟨y, rfl⟩ := one (.inr (.inl h6))
    have hr := h.rep h6
    show zAq (if x = 0 ∨ y.kind = 1 ∨ (y.kind = 0 ∧ m = 0) then zBJ else if y.kind = 0 ∨ (m = 1 ∧ x = 1) then y else Re.mk k s [y] m x g)
    split
    · exact zDP
    split
    · exact ha y (by simp)
    · exact .mk' ⟨h.ks, h.ng, h.st, h.mm, h.k2, h.none, by omega, by omega, by omega, by omega, fun _ => ⟨y, rfl, by omega, by omega, by omega, by omega, by omega, by omega, by omega⟩, by omega⟩ ha
  split
  · rename_i h8
    obtain ⟨y, rfl⟩ := one (.inr (.inr h8))
    show zAq (if y.kind = 8 then y.args.headD zBH else Re.mk k s [y] m x g)
    split
    · rename_i hy
      obtain ⟨z, hz, _⟩ := (ha y (by simp)).n.k8 hy
      rw [hz]
      exact (ha y (by simp)).a z (by rw [hz]; simp)
    · rename_i hy
      exact .mk' ⟨h.ks, h.ng, h.st, h.mm, h.k2, h.none, by omega, by omega, by omega, by omega, by omega, fun _ => ⟨y, rfl, hy⟩⟩ ha
  · exact .mk' ⟨h.ks, h.ng, h.st, h.mm, h.k2, h.none, by omega, by omega, by omega, by omega, by omega, by omega⟩ ha
theorem zQJ {k : Int} {s : List (Int × Int)} {a : List Re} {m x : Int} {g : Bool} (h : SimN k s a m x g) : zCf k s a m x g = .mk k s a m x g := by
 unfold zCf
 dsimp only
 have hst := h.st
 have hmm := h.mm
 have hng := h.ng
 split
 ·rename_i hk
  obtain ⟨h1, h2⟩ := h.k3 hk
  rw [zQq h1 h2, hst (by omega), (hmm (by omega)).1, (hmm (by omega)).2, hng, hk]
 split
 ·rename_i hk
  obtain ⟨h1, h2, h3⟩ := h.k4 hk
  rw [zNS h1 (fun y hy => (h2 y hy).2.1) (fun y hy => (h2 y hy).2.2) (fun y hy => by simp [zBU, (h2 y hy).1]) h3, hst (by omega), (hmm (by omega)).1, (hmm (by omega)).2, hng, hk]
 split
 ·rename_i hk
  obtain ⟨h1, h2, h3⟩ := h.k7 hk
  rw [zNS h1 (fun y hy => (h2 y hy).2.1) (fun y hy => by simp [zBU, (h2 y hy).1]) (fun y hy => (h2 y hy).2.2) h3, hst (by omega), (hmm (by omega)).1, (hmm (by omega)).2, hng, hk]
 split
 ·rename_i hk
  obtain ⟨y, rfl, h1, h2, h3⟩ := h.k5 hk
  show (if y.kind = 0 ∨ y.kind = 1 then zBJ else if y.kind = 5 then y else Re.mk k s [y] m x g) = _
  rw [if_neg (by omega), if_neg h3]
 split
 ·rename_i hk
  obtain ⟨y, rfl, h1, h2, h3, h4, h5, h6, h7⟩ := h.k6 hk
  show (if x = 0 ∨ y.kind = 1 ∨ (y.kind = 0 ∧ m = 0) then zBJ else if y.kind = 0 ∨ (m = 1 ∧ x = 1) then y else Re.mk k s [y] m x g) = _
  rw [if_neg (by omega), if_neg (by omega)]
 split
 ·rename_i hk
  obtain ⟨y, rfl, h1⟩ := h.k8 hk
  show (if y.kind = 8 then y.args.headD zBH else Re.mk k s [y] m x g) = _
  rw [if_neg h1]
 rfl
mutual
/-- What is in similar form is its own similar form. -/
theorem zFX : ∀ {t : Re}, zAq t → zCU t = t
  | .mk k s a m x g, h => by simp only [zCU]; rw [zHe h.2, zQJ h.1]
theorem zHe : ∀ {ts : List Re}, zDH ts → zCq ts = ts
  | [], _ => rfl
  | t :: ts, h => by simp only [zCq]; rw [zFX h.1, zHe h.2]
end
end Go.Proofs
namespace Go.Proofs
open Go Go.Eng Go.Sort
set_option maxRecDepth 100000
theorem zLj {l : List Re} (h : ∀ x ∈ l, zAq x) (hk : ∀ y ∈ l, y.kind ≠ 0 ∧ y.kind ≠ 1 ∧ y.kind ≠ 3) : zAq (zBy 3 zBJ l) := by
  match l, h, hk with
  | [], _, _ => exact zDP
  | [x], h, _ => exact h x (by simp)
  | x :: y :: l, h, hk => exact .mk' ⟨by simp, rfl, by simp, by simp, by simp, by simp, fun _ => ⟨by simp, hk⟩, by simp, by simp, by simp, by simp, by simp⟩ h
theorem zFU (c : Int) : ∀ ts : List Re, (zBq c ts).length = ts.length
  | [] => rfl
  | t :: ts => by simp only [zBq, List.length_cons, zFU c ts]
theorem zHE (c : Int) (ts : List Re) : zBq c ts = ts.map (zBK c) := by
  induction ts with
  | nil => rfl
  | cons t ts ih => simp [zBq, ih]
mutual
theorem zDN (c : Int) : ∀ {t : Re}, zAq t → zAq (zBK c t)
  | .mk k s a m x g, h => by
    have hn := h.1
    have ha := zCZ.1 h.2
    have hs := zJv c h.2
    simp only [zBK]
    split
    · split
      · exact zDP
      · exact zCw
    split
    · rename_i hk
      exact zJw c h.2 (hn.k3 hk).2
    split
    · rename_i h1 h2 hk
      refine zFc ⟨by omega, rfl, fun _ => rfl, fun _ => ⟨rfl, rfl⟩, by omega, by omega, fun h8 => ?_, by omega⟩ hs
      rw [zFU]
      obtain ⟨y, rfl, _⟩ := hn.k8 (by omega)
      rfl
    split
    · rename_i hk
      obtain ⟨y, rfl, hy⟩ := hn.k5 hk
      refine zGl fun z hz => ?_
      simp only [zBq, List.headD_cons, List.mem_cons, List.not_mem_nil, or_false] at hz
      rcases hz with rfl | rfl
      · exact hs _ (by simp [zBq])
      · exact h
    split
    · rename_i hk
      obtain ⟨y, rfl, hy1, hy2, h3, h4, h5, h6, h7⟩ := hn.k6 hk
      refine zGl fun z hz => ?_
      simp only [zBq, List.headD_cons, List.mem_cons, List.not_mem_nil, or_false] at hz
      rcases hz with rfl | rfl
      · exact hs _ (by simp [zBq])
      · exact zFc ⟨by omega, rfl, fun _ => rfl, by omega, by omega, by omega, fun _ => rfl, fun _ => by omega⟩ (by intro z hz; simp at hz; subst hz; exact ha _ (by simp))
    · exact zCw
theorem zJv (c : Int) : ∀ {ts : List Re}, zDH ts → ∀ x ∈ zBq c ts, zAq x
  | [], _, x, hx => by simp [zBq] at hx
  | t :: ts, h, x, hx => by
    simp only [zBq, List.mem_cons] at hx
    rcases hx with rfl | hx
    · exact zDN c h.1
    · exact zJv c h.2 x hx
theorem zJw (c : Int) : ∀ {ts : List Re}, zDH ts → (∀ y ∈ ts, y.kind ≠ 0 ∧ y.kind ≠ 1 ∧ y.kind ≠ 3) → zAq (zEg c ts)
  | [], _, _ => by simp only [zEg]; exact zCw
  | t :: ts, h, hk => by
    simp only [zEg]
    split
    · exact zDN c h.1
    · have h1 : zAq (zEd [zBK c t, zBy 3 zBJ ts]) := zGl fun z hz => by
        simp only [List.mem_cons, List.not_mem_nil, or_false] at hz
        rcases hz with rfl | rfl
        · exact zDN c h.1
        · exact zLj (zCZ.1 h.2) fun y hy => hk y (by simp [hy])
      split
      · exact zFc ⟨by omega, rfl, fun _ => rfl, fun _ => ⟨rfl, rfl⟩, by omega, by omega, by omega, by omega⟩ fun z hz => by
          simp only [List.mem_cons, List.not_mem_nil, or_false] at hz
          rcases hz with rfl | rfl
          · exact h1
          · exact zJw c h.2 fun y hy => hk y (by simp [hy])
      · exact h1
end
theorem zGI (p : Re → Bool) : ∀ l : List Re, Re.sizes (zEm p l) ≤ Re.sizes l
  | [] => by simp [zEm]
  | x :: l => by
    have ih := zGI p l
    unfold zEm at ih ⊢
    rw [List.filter_cons]
    split
    · simp only [Re.sizes]; omega
    · simp only [Re.sizes]; omega
theorem zGJ (k : Int) (z : Re) (l : List Re) : (zBy k z l).size ≤ if l = [] then z.size else Re.sizes l + 1 := by
  match l with
  | [] => exact Nat.le_refl _
  | [x] => simp [zBy, Re.sizes]
  | x :: y :: l => simp [zBy, Re.sizes, Re.size]
theorem zET (l : List Re) : (zEd l).size ≤ Re.sizes l + 1 := by
 unfold zEd
 have h1 := zGI zBo (zBO 3 l)
 have h2 := zEX 3 l
 split
 ·show 1 ≤ _; omega
 have h3 := zGJ 3 zBJ (zEm zBo (zBO 3 l))
 split at h3
 ·have : zBJ.size = 1 := rfl
  omega
 omega
theorem zIV : ∀ l : List Re, Re.sizes (zFQ l) ≤ Re.sizes l
  | [] => Nat.le_refl _
  | [x] => Nat.le_refl _
  | x :: y :: l => by
    have ih := zIV (y :: l)
    simp only [zFQ]
    split
    · simp only [Re.sizes] at ih ⊢; omega
    · simp only [Re.sizes] at ih ⊢; omega
theorem zKz {l m : List Re} (h : l.Perm m) : Re.sizes l = Re.sizes m := by
  induction h with
  | nil => rfl
  | cons x _ ih => simp only [Re.sizes, ih]
  | swap x y l => simp only [Re.sizes]; omega
  | trans _ _ ih1 ih2 => omega
theorem zDp {l : List Re} {x : Re} (h : x ∈ l) : x.size ≤ Re.sizes l := by
 obtain ⟨i, hi⟩ := List.mem_iff_getElem?.1 h
 exact Re.sizes_get hi
theorem zJH (k : Int) (l : List Re) (strong weak : Re → Bool) (z : Re) : (zHz k l strong weak z).size ≤ max (Re.sizes l + 1) z.size := by
  unfold zHz
  cases hf : l.find? strong with
  | some x => have := zDp (List.mem_of_find?_eq_some hf); show x.size ≤ _; omega
  | none =>
    have h1 := zGI weak (zBO k l)
    have h2 := zEX k l
    have h3 := zKz (List.mergeSort_perm (zEm weak (zBO k l)) leR)
    have h4 := zIV (zDO (zEm weak (zBO k l)))
    have h5 := zGJ k z (zFQ (zDO (zEm weak (zBO k l))))
    unfold zDO at h4 h5
    show (zBy k z (zFQ (zDO (zEm weak (zBO k l))))).size ≤ _
    unfold zDO
    split at h5 <;> omega
theorem zDw {k : Int} {s : List (Int × Int)} {a : List Re} {m x : Int} {g : Bool} (h7 : k = 7 → a ≠ []) (h8 : k = 8 → a ≠ []) : (zCf k s a m x g).size ≤ Re.sizes a + 1 := by
  have hh : ∀ y, a.head? = some y → y.size ≤ Re.sizes a := fun y hy => zDp (List.mem_of_mem_head? (by rw [hy]; rfl))
  have hd : (a.headD zBH).size ≤ Re.sizes a + 1 := by
    cases a with
    | nil => simp [zBH, Re.size, Re.sizes]
    | cons y r => simp only [List.headD_cons, Re.sizes]; omega
  have hM : (Re.mk k s a m x g).size = Re.sizes a + 1 := by simp [Re.size]
  unfold zCf
  dsimp only
  split
  · exact zET a
  split
  · have := zJH 4 a zCb zBU zBH
    have : zBH.size = 1 := rfl
    omega
  split
  · rename_i hk
    have h1 := zJH 7 a zBU zCb zEy
    have h2 : zEy.size = 2 := rfl
    have h3 : 1 ≤ Re.sizes a := by
      cases a with
      | nil => exact absurd rfl (h7 hk)
      | cons y r => have := y.size_pos; simp only [Re.sizes]; omega
    omega
  split
  · split
    · show 1 ≤ _; omega
    split
    · exact hd
    · exact Nat.le_of_eq hM
  split
  · split
    · show 1 ≤ _; omega
    split
    · exact hd
    · exact Nat.le_of_eq hM
  split
  · rename_i hk
    split
    · cases a with
      | nil => exact absurd rfl (h8 hk)
      | cons y r =>
        simp only [List.headD_cons, Re.sizes]
        have hy := Re.size_eq y
        cases hya : y.args with
        | nil => simp [zBH, Re.size, Re.sizes]
        | cons z q => rw [hya] at hy; simp only [List.headD_cons, Re.sizes] at hy ⊢; omega
    · exact Nat.le_of_eq hM
  · exact Nat.le_of_eq hM
theorem zII (l : List Re) : (zBy 3 zBJ l).size ≤ Re.sizes l + 1 := by
 have h := zGJ 3 zBJ l
 split at h
 ·have : zBJ.size = 1 := rfl
  omega
 exact h
theorem zHF (c : Int) : ∀ (l : List Re) (M : Nat), Re.sizes l ≤ M → (zEg c l).size ≤ Re.sizes (zBq c l) + l.length * (M + 4) + 1
  | [], M, _ => by simp [zEg, zBH, Re.size, Re.sizes]
  | t :: ts, M, hM => by
    simp only [Re.sizes] at hM
    have ih := zHF c ts M (by omega)
    have h1 := zET [zBK c t, zBy 3 zBJ ts]
    have h2 := zII ts
    simp only [Re.sizes] at h1
    simp only [zEg, zBq, Re.sizes, List.length_cons, Nat.succ_mul]
    split
    · omega
    · split
      · have h3 := zDw (k := 4) (s := []) (a := [zEd [zBK c t, zBy 3 zBJ ts], zEg c ts]) (m := 0) (x := 0) (g := false) (by omega) (by omega)
        simp only [Re.sizes] at h3
        omega
      · omega
mutual
theorem zIR (c : Int) (N : Nat) : ∀ {t : Re}, zAq t → t.size ≤ N → (zBK c t).size + (N + 6) ≤ (N + 6) * (2 * t.size)
  | .mk k s a m x g, h, hN => by
    have hn := h.1
    have hs0 : (Re.mk k s a m x g).size = Re.sizes a + 1 := by simp [Re.size]
    have ih := zFT c N h.2 (by omega)
    have e : (N + 6) * (2 * (Re.sizes a + 1)) = (N + 6) * (2 * Re.sizes a) + 2 * (N + 6) := by rw [Nat.mul_add 2, Nat.mul_add]; omega
    have hone : 1 + (N + 6) ≤ (N + 6) * (2 * (Re.sizes a + 1)) := by rw [e]; omega
    rw [hs0] at hN ⊢
    have hl := zFU c a
    simp only [zBK]
    split
    · split <;> exact hone
    split
    · have h3 := zHF c a N (by omega)
      have h4 : a.length * (N + 4) ≤ (N + 6) * a.length := by rw [Nat.mul_comm (N + 6)]; exact Nat.mul_le_mul_left _ (by omega)
      rw [e]
      omega
    split
    · rename_i h1 h2 hk
      have h3 := zDw (k := k) (s := []) (a := zBq c a) (m := 0) (x := 0) (g := false) (fun h7 e9 => by rw [e9] at hl; have := (hn.k7 h7).1; simp at hl; rw [← hl] at this; simp at this) (fun h8 e9 => by rw [e9] at hl; obtain ⟨y, rfl, _⟩ := hn.k8 h8; simp at hl)
      rw [e]
      omega
    split
    · rename_i hk
      obtain ⟨y, rfl, _⟩ := hn.k5 hk
      have h3 := zET [zBK c y, .mk k s [y] m x g]
      simp only [Re.sizes, Re.size, zBq, List.headD_cons, List.length_cons, List.length_nil] at h3 ih hN e ⊢
      rw [e]
      omega
    split
    · rename_i hk
      obtain ⟨y, rfl, _⟩ := hn.k6 hk
      have h3 := zET [zBK c y, zCf 6 [] [y] (max 0 (m - 1)) (x - 1) false]
      have h4 := zDw (k := 6) (s := []) (a := [y]) (m := max 0 (m - 1)) (x := x - 1) (g := false) (by omega) (by omega)
      simp only [Re.sizes, zBq, List.headD_cons, List.length_cons, List.length_nil] at h3 h4 ih hN e ⊢
      rw [e]
      omega
    · exact hone
theorem zFT (c : Int) (N : Nat) : ∀ {ts : List Re}, zDH ts → Re.sizes ts ≤ N → Re.sizes (zBq c ts) + (N + 6) * ts.length ≤ (N + 6) * (2 * Re.sizes ts)
  | [], _, _ => by simp [zBq, Re.sizes]
  | t :: ts, h, hN => by
    simp only [Re.sizes] at hN
    have h1 := zIR c N h.1 (by omega)
    have h2 := zFT c N h.2 (by omega)
    simp only [zBq, Re.sizes, List.length_cons]
    have e1 : (N + 6) * (2 * (t.size + Re.sizes ts)) = (N + 6) * (2 * t.size) + (N + 6) * (2 * Re.sizes ts) := by rw [Nat.mul_add 2, Nat.mul_add]
    have e2 : (N + 6) * (ts.length + 1) = (N + 6) * ts.length + (N + 6) := by rw [Nat.mul_add, Nat.mul_one]
    omega
end
theorem zCY {c : Int} {t : Re} (h : zAq t) (hs : t.size ≤ 300) : (zBK c t).size ≤ 200000 := by
 have h1 := zIR c 300 h hs
 have h2 : (300 + 6) * (2 * t.size) ≤ (300 + 6) * 600 := Nat.mul_le_mul_left _ (by omega)
 omega
mutual
theorem zIY : ∀ {t : Re}, zDh t → (zCU t).size ≤ t.size
  | .mk k s a m x g, h => by
    have ih : Re.sizes (zCq a) ≤ Re.sizes a := zFW (zCD h)
    have hl : (zCq a).length = a.length := by rw [zCL, List.length_map]
    have h2 := @zHn _ h
    have h1 := @zEa _ h
    simp only [Re.kind, Re.args] at h1 h2
    have hn := zDw (k := k) (s := s) (a := zCq a) (m := m) (x := x) (g := g) (fun h7 e9 => by have := h2 (by omega); rw [e9] at hl; simp at hl; omega) (fun h8 e9 => by have := h1 (by omega); rw [e9] at hl; simp at hl; omega)
    simp only [zCU, Re.size]
    omega
theorem zFW : ∀ {ts : List Re}, zDB ts → Re.sizes (zCq ts) ≤ Re.sizes ts
  | [], _ => Nat.le_refl _
  | t :: ts, h => by
    simp only [zDB] at h
    have h1 := zIY h.1
    have h2 := zFW h.2
    simp only [zCq, Re.sizes]
    omega
end
end Go.Proofs
namespace Go.Proofs
open Go Go.Eng
set_option maxRecDepth 100000
mutual
def zCk (ks : List Int) : Re → Bool
  | .mk k _ args _ _ _ => ks.contains k || zCo ks args
def zCo (ks : List Int) : List Re → Bool
  | [] => false
  | t :: ts => zCk ks t || zCo ks ts
end
def zKs (ks : List Int) : Unit → Re → Bool × Unit := fun _ t => (!ks.contains t.kind, ())
mutual
theorem zJs (ks : List Int) : ∀ (t : Re), (zCO (zKs ks) t ()).1 = !zCk ks t
  | .mk k set args mn mx ng => by
    have h := zIL ks args
    rw [zDx]
    split
    · rename_i hk
      have hk : ks.contains k = false := by simpa only [zKs, Re.kind, Bool.not_eq_true'] using hk
      show (zCK (zKs ks) args ()).1 = _
      rw [h]
      simp only [zCk, hk, Bool.false_or]
    · rename_i hk
      have hk : ks.contains k = true := by
        cases hc : ks.contains k with
        | true => rfl
        | false => exact absurd (show (zKs ks () (.mk k set args mn mx ng)).1 = true by simp only [zKs, Re.kind, hc, Bool.not_false]) hk
      simp only [zCk, hk, Bool.true_or, Bool.not_true]
theorem zIL (ks : List Int) : ∀ (ts : List Re), (zCK (zKs ks) ts ()).1 = !zCo ks ts
  | [] => rfl
  | t :: ts => by
    have h1 := zJs ks t
    have h := zIL ks ts
    rw [zCT]
    split
    · rename_i hk
      rw [hk] at h1
      have hu : zCk ks t = false := by simpa using h1.symm
      show (zCK (zKs ks) ts ()).1 = _
      rw [h]
      simp only [zCo, hu, Bool.false_or]
    · rename_i hk
      have hu : zCk ks t = true := by
        cases hc : zCk ks t with
        | true => rfl
        | false => rw [hc] at h1; exact absurd h1 hk
      simp only [zCo, hu, Bool.true_or, Bool.not_true]
end
theorem zPZ (w0 : World) (t : Re) (vs : List Value) (ks : List Int) (v : Value) (b : Nat) (ht : zBC w0 t vs) (hB : Blk w0 b #[v] 26) (hks : zBr w0 v ks) :
  Ret Tryz.prog 127 #[.agg vs.toArray, .pointer (some ⟨b, 0, none⟩)] w0 fun r w => r = .bool (!ks.contains t.kind) ∧ Ext w0 w := by
 obtain ⟨sa, sc, aa, ac, rfl, _, _, _⟩ := ht.form
 refine zAk Tryz.func127 rfl Tryz.ntmps127 (Nat.le_of_ble_eq_true rfl) ?_
 have E : Chg zAh w0 w0 := Chg.refl _ _
 refine zAA ?_
 refine zBL (v := (.agg (R6 t sa sc aa ac))) (c := (R6 t sa sc aa ac)) (by decide) rfl rfl ?_
 intro b1 w1 N1
 have F1 := N1.ge E
 have O1_b := N1.lt hB
 replace hB := N1.keep hB
 replace E := E.ext N1.ext
 have B1 := N1.blk
 refine qA (.bool false) rfl ?_
 refine zAB (zAA ?_)
 refine qV (zAK (v := v) rfl flat26 (hB.cell rfl)) ?_
 refine qF b1 0 0 rfl Tryz.underlying25 rfl zAw rfl ?_
 refine qV (zAK (v := (I6 t.kind)) rfl zAf (B1.cell rfl)) ?_
 refine zAL rfl rfl (by decide) (zAT (vs := [v, (I6 t.kind)]) Tryz.func128 nm128 bd128 rfl) (hasi_c _ v t.kind ks (hks.ext E)) ?_
 rintro _ w9 ⟨rfl, X9⟩
 replace hB := X9.keep hB
 replace B1 := X9.keep B1
 replace E := E.ext X9
 refine qV (zCV (b := ks.contains t.kind) rfl) ?_
 refine qA (.bool (!(ks.contains t.kind))) rfl ?_
 refine zAB (zAQ ?_)
 refine zAS Tryz.results127 (v := (.bool (!(ks.contains t.kind)))) rfl ?_
 exact ⟨rfl, E⟩
set_option maxHeartbeats 1000000 in
theorem zRJ (w0 : World) (t : Re) (vs : List Value) (ks : List Int) (v : Value) (ht : zBC w0 t vs) (hks : zBr w0 v ks) :
  Ret Tryz.prog 66 #[.agg vs.toArray, v] w0 fun r w => r = .bool (zCk ks t) ∧ Ext w0 w := by
 have ht0 := ht
 obtain ⟨sa, sc, aa, ac, rfl, _, _, _⟩ := ht.form
 obtain ⟨ka, kc, rfl⟩ := zCA.form hks
 simp only [List.length_map] at hks ⊢
 refine zAk Tryz.func66 rfl Tryz.ntmps66 (Nat.le_of_ble_eq_true rfl) ?_
 have E : Chg zAh w0 w0 := Chg.refl _ _
 refine zAA ?_
 refine zBL (v := (.agg (R6 t sa sc aa ac))) (c := (R6 t sa sc aa ac)) (by decide) rfl rfl ?_
 intro br wr Nr
 have Fr := Nr.ge E
 replace E := E.ext Nr.ext
 have Br := Nr.blk
 refine zBL (v := (.slice ka ks.length kc)) (c := #[(.slice ka ks.length kc)]) (by decide) rfl rfl ?_
 intro bp wp Np
 have Fp := Np.ge E
 have Op_br := Np.lt Br
 replace Br := Np.keep Br
 replace E := E.ext Np.ext
 have Bp := Np.blk
 refine qA (.bool false) rfl ?_
 refine zAB (zAA ?_)
 refine qV (zAG (vs := [(I6 t.kind), (.slice sa t.set.length sc), (.slice aa t.args.length ac), (I6 t.mn), (I6 t.mx), (.bool t.neg)]) rfl zAb zAH rfl (Br.cells rfl)) ?_
 refine qV (zDt (vs := []) (us := [(P6 bp 0)]) rfl rfl) ?_
 have hf : ∀ (s : Unit) (w : World) (t : Re) (vs : List Value), bp + 1 ≤ w.heap.size → Ext wp w → Blk w bp #[.slice ka ks.length kc] 26 → zBC wp t vs → zBu Tryz.prog (.func (.func 127) #[] #[.pointer (some ⟨bp, 0, none⟩)]) #[.agg vs.toArray] w fun r w' => r = .bool (zKs ks s t).1 ∧ Chg zAh w w' ∧ Blk w' bp #[.slice ka ks.length kc] 26 := fun s w t vs _ hE hI ht => zBu.mk (first := #[]) (cap := #[.pointer (some ⟨bp, 0, none⟩)]) Tryz.func127 nm127 bd127 rfl ((zPZ w t vs ks (.slice ka ks.length kc) bp (zBC.ext hE t ht) hI ((hks.ext E).ext hE)).mono fun r w' h => ⟨h.1, h.2, Ext.keep h.2 hI⟩)
 refine zAL rfl rfl (by decide) (zAT (vs := [(.agg (R6 t sa sc aa ac)), (.func (.func 127) #[] #[(P6 bp 0)])]) Tryz.func121 zOD zOo rfl) ((zLm (zKs ks) (fun _ w => Blk w bp #[.slice ka ks.length kc] 26) zAh (bp + 1) _ wp (fun b hb => hb.elim) (fun s w w' hI e => e.keep hI) hf t.size t (Nat.le_refl _) () _ _ (by have := Bp.lt; omega) (Ext.refl _) Bp (zBC.ext E t ht0)).mono (R' := fun r w => r = .bool (zCO (zKs ks) t ()).1 ∧ Ext wp w) (fun r w h => ⟨h.1, h.2.1⟩)) ?_
 rintro _ w9 ⟨rfl, X9⟩
 replace Br := X9.keep Br
 replace Bp := X9.keep Bp
 replace E := E.ext X9
 refine qV (zCV (b := (zCO (zKs ks) t ()).1) rfl) ?_
 refine qA (.bool (!((zCO (zKs ks) t ()).1))) rfl ?_
 refine zAB (zAQ ?_)
 refine zAS Tryz.results66 (v := (.bool (!((zCO (zKs ks) t ()).1)))) rfl ?_
 exact ⟨zAt (by rw [zJs]; simp), E⟩
structure NodeI (t : Re) : Prop where
 k : 0 ≤ t.kind ∧ t.kind ≤ 10
 two : t.kind = 3 ∨ t.kind = 4 ∨ t.kind = 7 → 2 ≤ t.args.length
 one : t.kind = 5 ∨ t.kind = 6 ∨ t.kind = 8 ∨ t.kind = 9 ∨ t.kind = 10 → t.args.length = 1
 rep : t.kind = 6 → 0 ≤ t.mn ∧ t.mn ≤ t.mx ∧ t.mx ≤ 8
 grp : t.kind = 9 → 0 ≤ t.mn ∧ t.mn ≤ 9
 sett : t.kind = 2 → t.set ≠ []
theorem zOC {t : Re} (h : zBj t = 0) : NodeI t := by
 unfold zBj at h
 split at h
 ·cases h
 rename_i h1
 split at h
 ·cases h
 rename_i h2
 have h3 : zCu t = true := by simpa using h2
 unfold zCu at h3
 simp only [Bool.and_eq_true] at h3
 have h4 := h3.1.1.1.1
 unfold okB at h4
 refine ⟨by omega, fun hk => ?_, fun hk => ?_, fun hk => ?_, fun hk => ?_, fun hk => ?_⟩
 ·rw [if_pos hk] at h4
  have := of_decide_eq_true h4; omega
 ·rw [if_neg (by omega), if_pos hk] at h4
  have := of_decide_eq_true h4; omega
 ·rw [if_neg (by omega), if_pos hk] at h
  split at h
  ·cases h
  omega
 ·rw [if_neg (by omega), if_neg (by omega), if_pos hk] at h
  split at h
  ·cases h
  omega
 rw [if_pos hk] at h
 intro e
 rw [e] at h
 simp [zBR, zDX] at h
end Go.Proofs
namespace Go.Proofs
open Go Go.Eng Go.Sort
set_option maxRecDepth 100000
theorem zMU {t : Re} (h : zDh t) (h9 : t.kind ≠ 9) (h10 : t.kind ≠ 10) {a : List Re} (ha : a.length = t.args.length) : PreN t.kind t.set a t.mn t.mx t.neg := by
 have hn := zEO h
 have hN := zOC hn
 have hf := (zDT h).2.2
 simp only [zCu, Bool.and_eq_true, Bool.or_eq_true, decide_eq_true_eq, Bool.not_eq_true'] at hf
 obtain ⟨⟨⟨⟨f1, f2⟩, f3⟩, f4⟩, f5⟩ := hf
 have hk := hN.k
 refine ⟨by omega, ?_, fun h2 => ?_, fun h6 => ⟨by omega, by omega⟩, fun h2 => ⟨hN.sett h2, ?_⟩, fun h0 => ?_, fun h1 => by rw [ha]; exact hN.one (by omega), fun h6 => hN.rep h6⟩
 ·rcases f5 with h | h
  ·exact absurd h h10
  exact h
 ·rcases f2 with h | h
  ·exact absurd h h2
  exact List.eq_nil_of_length_eq_zero (by omega)
 ·unfold zBj at hn
  split at hn
  ·cases hn
  split at hn
  ·cases hn
  first | rw [if_pos h2] at hn | skip
  by_cases hc : zBR t.set = 0
  ·exact hc
  rw [if_pos hc] at hn; exact hn
 unfold okB at f1
 rw [if_neg (by omega), if_neg (by omega)] at f1
 have := of_decide_eq_true f1
 exact List.eq_nil_of_length_eq_zero (by omega)
theorem zFA {ks : List Int} {k : Int} {s : List (Int × Int)} {a : List Re} {m x : Int} {g : Bool} (h : zCk ks (.mk k s a m x g) = false) : ks.contains k = false ∧ zCo ks a = false := by
 simpa only [zCk, Bool.or_eq_false_iff] using h
mutual
theorem zLx : ∀ {t : Re}, zDh t → zCk [9, 10] t = false → zAq (zCU t)
  | .mk k s a m x g, h, hu => by
    obtain ⟨h1, h2⟩ := zFA hu
    have h9 : k ≠ 9 := fun e => by subst e; simp at h1
    have h10 : k ≠ 10 := fun e => by subst e; simp at h1
    simp only [zCU]
    exact zFc (zMU (t := .mk k s a m x g) h h9 h10 (a := zCq a) (by rw [zCL, List.length_map]; rfl)) (zHd (zCD h) h2)
theorem zHd : ∀ {ts : List Re}, zDB ts → zCo [9, 10] ts = false → ∀ x ∈ zCq ts, zAq x
  | [], _, _, x, hx => by simp [zCq] at hx
  | t :: ts, h, hu, x, hx => by
    simp only [zDB] at h
    simp only [zCo, Bool.or_eq_false_iff] at hu
    simp only [zCq, List.mem_cons] at hx
    rcases hx with rfl | hx
    · exact zLx h.1 hu.1
    · exact zHd h.2 hu.2 x hx
end
theorem zMA {k : Int} {s : List (Int × Int)} {a : List Re} {m x : Int} {g : Bool} (h : SimN k s a m x g) : zBj (.mk k s a m x g) = 0 := by
 have hst := h.st
 have hmm := h.mm
 have hk := h.ks
 have hok : okB k a.length = true := by
  unfold okB
  split
  ·rename_i hk
   refine decide_eq_true ?_
   rcases hk with hk | hk | hk
   ·have := (h.k3 hk).1; omega
   ·have := (h.k4 hk).1; omega
   have := (h.k7 hk).1; omega
  split
  ·rename_i hk
   refine decide_eq_true ?_
   rcases hk with hk | hk | hk | hk | hk
   ·obtain ⟨y, rfl, _⟩ := h.k5 hk; rfl
   ·obtain ⟨y, rfl, _⟩ := h.k6 hk; rfl
   ·obtain ⟨y, rfl, _⟩ := h.k8 hk; rfl
   ·omega
   omega
  rw [h.none (by omega)]; rfl
 have hf : zCu (.mk k s a m x g) = true := by
  show (((((okB k a.length && (decide (k = 2) || decide ((s.length : Int) = 0))) && ((decide (k = 6) || decide (k = 9)) || decide (m = 0))) && (decide (k = 6) || decide (x = 0))) && (decide (k = 10) || !g)) : Bool) = true
  simp only [Bool.and_eq_true, Bool.or_eq_true, decide_eq_true_eq, Bool.not_eq_true']
  refine ⟨⟨⟨⟨hok, ?_⟩, ?_⟩, ?_⟩, .inr h.ng⟩
  ·by_cases h2 : k = 2
   ·exact .inl h2
   rw [hst h2]; exact .inr rfl
  ·by_cases h6 : k = 6
   ·exact .inl (.inl h6)
   exact .inr (hmm h6).1
  by_cases h6 : k = 6
  ·exact .inl h6
  exact .inr (hmm h6).2
 show (if k < 0 ∨ 10 < k then (1 : Int) else if zCu (.mk k s a m x g) = false then 3 else if k = 2 then (if zBR s ≠ 0 then zBR s else if (s.length : Int) = 0 then 3 else 0) else if k = 6 then (if m < 0 ∨ x < m ∨ 8 < x then 1 else 0) else if k = 9 then (if m < 0 ∨ 9 < m then 1 else 0) else 0) = 0
 have h1 : ¬ (k < 0 ∨ 10 < k) := by omega
 rw [if_neg h1]
 first | rw [if_neg (show ¬ zCu (.mk k s a m x g) = false by rw [hf]; decide)] | skip
 split
 ·rename_i h2
  obtain ⟨h3, h4⟩ := h.k2 h2
  have h5 : s.length ≠ 0 := fun e => h3 (List.eq_nil_of_length_eq_zero e)
  rw [if_neg (by omega), if_neg (by omega)]
 split
 ·rename_i h6
  obtain ⟨y, _, _, _, h3, h4, h5, _⟩ := h.k6 h6
  rw [if_neg (by omega)]
 split
 ·omega
 rfl
mutual
theorem zDq : ∀ {t : Re}, zAq t → zDh t ∧ zCk [9, 10] t = false
  | .mk k s a m x g, h => by
    have h1 := zHH h.2
    have hk := h.1.ks
    refine ⟨by simp only [zDh]; exact ⟨zMA h.1, h1.1⟩, ?_⟩
    simp only [zCk, Bool.or_eq_false_iff]
    refine ⟨?_, h1.2⟩
    rw [Bool.eq_false_iff, ne_eq, List.contains_iff_mem]
    simp
    omega
theorem zHH : ∀ {ts : List Re}, zDH ts → zDB ts ∧ zCo [9, 10] ts = false
  | [], _ => ⟨trivial, rfl⟩
  | t :: ts, h => by
    have h1 := zDq h.1
    have h2 := zHH h.2
    exact ⟨by simp only [zDB]; exact ⟨h1.1, h2.1⟩, by simp only [zCo, h1.2, h2.2]; rfl⟩
end
def zBp (t : Re) : Int := if zCW t 300 ≠ 0 then zCW t 300 else if zCk [9, 10] t = true then 3 else 0
def zIG : Re → List Int → Option Re
  | t, [] => some t
  | t, c :: l => if 300 < (zBK c t).size then none else zIG (zBK c t) l
def byE (t : Re) (c : Int) : Int := if zBp t ≠ 0 then zBp t else if zCe c = false then 1 else if 300 < (zBK c (zCU t)).size then 2 else 0
def byD (t : Re) (c : Int) : Re := if byE t c = 0 then zBK c (zCU t) else zBH
def zCn (t : Re) (text : List Int) : Int := if zBp t ≠ 0 then zBp t else if 100 < text.length then 2 else if text.any (fun r => !zCe r) = true then 1 else if (zIG (zCU t) text).isNone = true then 2 else 0
def zEB (t : Re) (text : List Int) : Bool := if zCn t text = 0 then ((zIG (zCU t) text).map zBg).getD false else false
theorem zFP {t : Re} (h : zBp t = 0) : zDh t ∧ t.size ≤ 300 ∧ zCk [9, 10] t = false ∧ zAq (zCU t) ∧ (zCU t).size ≤ 300 := by
  unfold zBp at h
  by_cases h1 : zCW t 300 = 0
  · rw [if_neg (by omega)] at h
    obtain ⟨hok, hsz⟩ := (zFg (t := t) (most := 300) (by decide) (by decide)).1 h1
    have hu : zCk [9, 10] t = false := by
      cases h2 : zCk [9, 10] t with
      | true => rw [h2] at h; cases h
      | false => rfl
    have := zIY hok
    exact ⟨hok, by omega, hu, zLx hok hu, by omega⟩
  · rw [if_pos h1] at h; exact absurd h h1
end Go.Proofs
namespace Go.Proofs
open Go Go.Eng Go.Sort
set_option maxRecDepth 100000
def zGs : List Int → List Int → Int
  | x :: l, y :: m => if x = y then zGs l m else if x < y then -1 else 1
  | [], m => 0 - (m.length : Int)
  | l, [] => l.length
def zIT : List (Int × Int) → List Int
  | [] => []
  | s :: l => s.1 :: s.2 :: zIT l
mutual
def zCX : Re → List Int
  | .mk k s a m x _ => k :: (zIT s ++ (-1 :: m :: x :: (zCF a ++ [-1])))
def zCF : List Re → List Int
  | [] => []
  | t :: ts => zCX t ++ zCF ts
end
mutual
/-- Kinds and bounds of spans are not negative. -/
def zGr : Re → Prop
  | .mk k s a _ _ _ => 0 ≤ k ∧ (∀ p ∈ s, 0 ≤ p.1) ∧ zGq a
def zGq : List Re → Prop
  | [] => True
  | t :: ts => zGr t ∧ zGq ts
end
theorem zDC (x y : Int) (l m : List Int) : zGs (x :: l) (y :: m) = zEk (zBx x y) (zGs l m) := by
 simp only [zGs]
 unfold zEk zBx
 by_cases h : x = y
 ·subst h; simp
 rw [if_neg h]
 by_cases h2 : x < y
 ·simp [h2]
 have h3 : y < x := by omega
 simp [h2, h3]
theorem zFd (a b c : Int) : zEk (zEk a b) c = zEk a (zEk b c) := by
 unfold zEk
 by_cases h : a = 0 <;> simp [h]
theorem zPK (a : Int) : zEk 0 a = a := by simp [zEk]
theorem zEP {a : Int} (b : Int) (h : a ≠ 0) : zEk a b = a := by simp [zEk, h]
theorem zNO {a b : Int} (h : a < b) : zBx a b = -1 := by simp [zBx, h]
theorem zNP {a b : Int} (h : b < a) : zBx a b = 1 := by
 unfold zBx
 rw [if_neg (by omega), if_pos h]
theorem zJG (a : Int) : zBx a a = 0 := by simp [zBx]
theorem zLs : ∀ (s s' : List (Int × Int)) (u v : List Int), (∀ p ∈ s, 0 ≤ p.1) → (∀ p ∈ s', 0 ≤ p.1) → zGs (zIT s ++ -1 :: u) (zIT s' ++ -1 :: v) = zEk (zCz zBt s s') (zGs u v)
  | [], [], u, v, _, _ => by simp only [zIT, List.nil_append, zDC, zJG, zCz]
  | [], p :: s', u, v, _, h' => by
    have h1 := h' p (by simp)
    simp only [zIT, List.nil_append, List.cons_append, zDC, zCz]
    rw [zNO (show (-1 : Int) < p.1 by omega), zEP _ (by decide), zEP _ (by decide)]
  | p :: s, [], u, v, h, _ => by
    have h1 := h p (by simp)
    simp only [zIT, List.nil_append, List.cons_append, zDC, zCz]
    rw [zNP (show (-1 : Int) < p.1 by omega), zEP _ (by decide), zEP _ (by decide)]
  | p :: s, q :: s', u, v, h, h' => by
    have ih := zLs s s' u v (fun r hr => h r (by simp [hr])) (fun r hr => h' r (by simp [hr]))
    simp only [zIT, List.cons_append, zDC, zCz, ih, zBt, zDg, zEN, zFd, zPK]
mutual
theorem zKj : ∀ (t t' : Re) (u v : List Int), zGr t → zGr t' → zGs (zCX t ++ u) (zCX t' ++ v) = zEk (zCB t t') (zGs u v)
  | .mk k s a m x g, .mk k' s' a' m' x' g', u, v, h, h' => by
    have ih := zJB a a' u v h.2.2 h'.2.2
    simp only [zCX, List.cons_append, List.append_assoc, zDC, zLs _ _ _ _ h.2.1 h'.2.1, List.nil_append, ih, zCB, zDg, zEN, zFd, zPK]
theorem zJB : ∀ (a a' : List Re) (u v : List Int), zGq a → zGq a' → zGs (zCF a ++ -1 :: u) (zCF a' ++ -1 :: v) = zEk (zBl a a') (zGs u v)
  | [], [], u, v, _, _ => by simp only [zCF, List.nil_append, zDC, zJG, zBl]
  | [], .mk k s b m x g :: ts, u, v, _, h' => by
    have h1 := h'.1.1
    simp only [zCF, zCX, List.nil_append, List.cons_append, zDC, zBl]
    rw [zNO (show (-1 : Int) < k by omega), zEP _ (by decide), zEP _ (by decide)]
  | .mk k s b m x g :: ts, [], u, v, h, _ => by
    have h1 := h.1.1
    simp only [zCF, zCX, List.nil_append, List.cons_append, zDC, zBl]
    rw [zNP (show (-1 : Int) < k by omega), zEP _ (by decide), zEP _ (by decide)]
  | t :: ts, t' :: ts', u, v, h, h' => by
    have ih := zJB ts ts' u v h.2 h'.2
    have ih2 := zKj t t' (zCF ts ++ -1 :: u) (zCF ts' ++ -1 :: v) h.1 h'.1
    simp only [zCF, List.append_assoc, ih2, ih, zBl, zFd]
end
theorem zOf {t u : Re} (h : zGr t) (k : zGr u) : zGs (zCX t) (zCX u) = zCB t u := by
 have := zKj t u [] [] h k
 simp only [List.append_nil] at this
 rw [this]
 unfold zEk
 by_cases h0 : zCB t u = 0 <;> simp [zGs, h0]
theorem zNT : ∀ (l : List (Int × Int)) (p : Option Int), zDX p l = 0 → ∀ s ∈ l, 0 ≤ s.1 := by
  intro l
  induction l with
  | nil => simp
  | cons a l ih =>
    intro p h s hs
    rw [zCC] at h
    by_cases h1 : zDF a = false
    · rw [if_pos h1] at h; simp at h
    rw [if_neg h1] at h
    have h2 : zDX (some a.2) l = 0 := by
      split at h
      · split at h
        · simp at h
        · exact h
      · simpa using h
    replace h := h2
    rcases List.mem_cons.1 hs with rfl | hs
    · simp [zDF] at h1
      omega
    · exact ih _ h s hs
mutual
theorem zJx : ∀ {t : Re}, zAq t → zGr t
  | .mk k s a m x g, h => by
    have hk := h.1.ks
    refine ⟨by omega, ?_, zIW h.2⟩
    by_cases h2 : k = 2
    · have h3 := (h.1.k2 h2).2
      unfold zBR at h3
      split at h3
      · cases h3
      · exact zNT _ _ h3
    · rw [h.1.st h2]; simp
theorem zIW : ∀ {ts : List Re}, zDH ts → zGq ts
  | [], _ => trivial
  | t :: ts, h => ⟨zJx h.1, zIW h.2⟩
end
mutual
theorem zKi : ∀ {t : Re}, zAq t → (zCX t).length ≤ 40 * t.size
  | .mk k s a m x g, h => by
    have ih := zJA h.2
    have hs : (zIT s).length = 2 * s.length := by
      clear ih h
      induction s with
      | nil => rfl
      | cons p s ih => simp only [zIT, List.length_cons, ih]; omega
    have hl : s.length ≤ 16 := by
      by_cases h2 : k = 2
      · have h3 := (h.1.k2 h2).2
        unfold zBR at h3
        split at h3
        · cases h3
        · omega
      · rw [h.1.st h2]; simp
    simp only [zCX, List.length_cons, List.length_append, hs, Re.size, List.length_nil]
    omega
theorem zJA : ∀ {ts : List Re}, zDH ts → (zCF ts).length ≤ 40 * Re.sizes ts
  | [], _ => by simp [zCF]
  | t :: ts, h => by
    have h1 := zKi h.1
    have h2 := zJA h.2
    simp only [zCF, List.length_append, Re.sizes]
    omega
end
def zDa : List Re → Re → List Re
  | [], a => [a]
  | b :: l, a => if zCB a b = 0 then b :: l else if zCB a b < 0 then a :: b :: l else b :: zDa l a
theorem zKJ (a : Re) : zCB a a = 0 := by
 have := zBf a a
 omega
theorem zMZ {a b c : Re} (h : zCB a b < 0) (k : zCB b c < 0) : zCB a c < 0 := (zJR a b c).2.1 h (by omega)
theorem zHq : ∀ {l : List Re} {a x : Re}, (∀ y ∈ l, zEA y = true) → zEA a = true → (x ∈ zDa l a ↔ x = a ∨ x ∈ l)
  | [], a, x, _, _ => by simp [zDa]
  | b :: l, a, x, hl, ha => by
    have ih := zHq (l := l) (a := a) (x := x) (fun y hy => hl y (by simp [hy])) ha
    simp only [zDa]
    split
    · rename_i h
      rw [(zGA ha (hl b (by simp))).1 h]
      simp
    split
    · simp
    · rw [List.mem_cons, ih, List.mem_cons]
      constructor
      · rintro (h | h | h) <;> simp [h]
      · rintro (h | h | h) <;> simp [h]
theorem zHP : ∀ {l : List Re} {a : Re}, (∀ y ∈ l, zEA y = true) → zEA a = true → (l.Pairwise fun y z => zCB y z < 0) → (zDa l a).Pairwise fun y z => zCB y z < 0
  | [], a, _, _, _ => by simp [zDa]
  | b :: l, a, hl, ha, h => by
    obtain ⟨h1, h2⟩ := List.pairwise_cons.1 h
    have ih := zHP (l := l) (a := a) (fun y hy => hl y (by simp [hy])) ha h2
    simp only [zDa]
    split
    · exact h
    split
    · rename_i h3 h4
      refine List.pairwise_cons.2 ⟨fun x hx => ?_, h⟩
      rcases List.mem_cons.1 hx with rfl | hx
      · exact h4
      · exact zMZ h4 (h1 x hx)
    · rename_i h3 h4
      refine List.pairwise_cons.2 ⟨fun x hx => ?_, ih⟩
      rcases (zHq (fun y hy => hl y (by simp [hy])) ha).1 hx with rfl | hx
      · have := zBf b x
        have := zBf x b
        omega
      · exact h1 x hx
theorem zMw : ∀ {l : List Re} {a : Re}, (zDa l a).length ≤ l.length + 1
  | [], a => by simp [zDa]
  | b :: l, a => by
    have := zMw (l := l) (a := a)
    simp only [zDa]
    split
    · simp
    split
    · simp
    · simp only [List.length_cons]; omega
/-- Two lists in strict order that hold the same. -/
theorem zGG : ∀ {l m : List Re}, (l.Pairwise fun y z => zCB y z < 0) → (m.Pairwise fun y z => zCB y z < 0) → (∀ x, x ∈ l ↔ x ∈ m) → l = m
  | [], [], _, _, _ => rfl
  | [], y :: m, _, _, h => absurd ((h y).2 (by simp)) (by simp)
  | x :: l, [], _, _, h => absurd ((h x).1 (by simp)) (by simp)
  | x :: l, y :: m, hl, hm, h => by
    obtain ⟨l1, l2⟩ := List.pairwise_cons.1 hl
    obtain ⟨m1, m2⟩ := List.pairwise_cons.1 hm
    have e : x = y := by
      rcases List.mem_cons.1 ((h x).1 (by simp)) with e | hx
      · exact e
      rcases List.mem_cons.1 ((h y).2 (by simp)) with e | hy
      · exact e.symm
      have h1 := l1 y hy
      have h2 := m1 x hx
      have := zBf x y
      omega
    subst e
    rw [zGG l2 m2 fun z => ?_]
    constructor
    · intro hz
      rcases List.mem_cons.1 ((h z).1 (by simp [hz])) with e | hz2
      · subst e; have := l1 z hz; rw [zKJ] at this; omega
      · exact hz2
    · intro hz
      rcases List.mem_cons.1 ((h z).2 (by simp [hz])) with e | hz2
      · subst e; have := m1 z hz; rw [zKJ] at this; omega
      · exact hz2
theorem zKX : ∀ (q l : List Re), (∀ y ∈ q, zEA y = true) → (∀ y ∈ l, zEA y = true) → (l.Pairwise fun y z => zCB y z < 0) → (q.foldl zDa l).Pairwise (fun y z => zCB y z < 0) ∧ ∀ x, x ∈ q.foldl zDa l ↔ x ∈ l ∨ x ∈ q
  | [], l, _, _, h => ⟨h, by simp⟩
  | a :: q, l, hq, hl, h => by
    have ha := hq a (by simp)
    have hl' : ∀ y ∈ zDa l a, zEA y = true := fun y hy => by
      rcases (zHq hl ha).1 hy with rfl | hy
      · exact ha
      · exact hl y hy
    obtain ⟨h1, h2⟩ := zKX q (zDa l a) (fun y hy => hq y (by simp [hy])) hl' (zHP hl ha h)
    refine ⟨h1, fun x => ?_⟩
    rw [List.foldl_cons, h2 x, zHq hl ha]
    constructor
    · rintro ((h | h) | h) <;> simp [h]
    · rintro (h | h)
      · simp [h]
      · rcases List.mem_cons.1 h with h | h <;> simp [h]
theorem zOe {q : List Re} (h : ∀ y ∈ q, zEA y = true) : q.foldl zDa [] = zFQ (zDO q) := by
 obtain ⟨h1, h2⟩ := zKX q [] h (by simp) List.Pairwise.nil
 refine zGG h1 (zEb (fun x hx => h x (zFB.1 hx)) (zEq q)) fun x => ?_
 rw [h2 x, zGf, zFB]
 simp
theorem zMc {x : Re} (h : zAq x) (h0 : x.kind = 0) : x = zBH := by
  have hn := h.n
  cases x with
  | mk k s a m x g =>
    simp only [Re.kind, Re.set, Re.args, Re.mn, Re.mx, Re.neg] at hn h0
    subst h0
    obtain ⟨e1, e2⟩ := hn.mm (by decide)
    rw [hn.st (by decide), hn.none (by omega), e1, e2, hn.ng]
theorem all_of {x : Re} (h : zAq x) (h0 : zCb x = true) : x = zEy := by
  have hn := h.n
  have ha := h.a
  cases x with
  | mk k s a m x g =>
    simp only [zCb, Bool.and_eq_true, decide_eq_true_eq] at h0
    simp only [Re.kind, Re.set, Re.args, Re.mn, Re.mx, Re.neg] at hn h0 ha
    obtain ⟨h8, hy⟩ := h0
    subst h8
    obtain ⟨y, rfl, _⟩ := hn.k8 rfl
    obtain ⟨e1, e2⟩ := hn.mm (by decide)
    rw [hn.st (by decide), e1, e2, hn.ng, zMc (ha y (by simp)) hy]
    rfl
theorem zGZ {x : Re} (h : zAq x) : zBU x = zBT x zBH := by
 rw [Bool.eq_iff_iff, zBb]
 constructor
 ·intro h0; exact zMc h (by simpa [zBU] using h0)
 rintro rfl; rfl
theorem zHM {x : Re} (h : zAq x) : zCb x = zBT x zEy := by
 rw [Bool.eq_iff_iff, zBb]
 constructor
 ·intro h0; exact all_of h h0
 rintro rfl; rfl
/-- What similarJoin gathers. -/
def zIn (k : Int) (l : List Re) (strong neutral : Re) : Re :=
 if (l.any fun a => zBT a strong) = true then strong else zBy k neutral ((zEm (fun b => zBT b neutral) (zBO k l)).foldl zDa [])
theorem zIq {k : Int} {l : List Re} (h : ∀ x ∈ l, zAq x) : ∀ x ∈ zBO k l, zAq x := by
 intro x hx
 obtain ⟨y, hy, h1 | h1⟩ := zCy.1 hx
 ·exact (h y hy).a x h1.2
 rw [h1.2]; exact h y hy
theorem zKS {k : Int} {l : List Re} {sb wb : Re → Bool} {st nt : Re} (h : ∀ x ∈ l, zAq x) (hs : ∀ x, zAq x → sb x = zBT x st) (hw : ∀ x, zAq x → wb x = zBT x nt) : zIn k l st nt = zHz k l sb wb nt := by
  unfold zIn zHz
  cases hf : l.find? sb with
  | some x =>
    have h1 := List.find?_some hf
    have h2 := List.mem_of_find?_eq_some hf
    rw [hs x (h x h2)] at h1
    rw [if_pos (List.any_eq_true.2 ⟨x, h2, h1⟩)]
    exact ((zBb _ _).1 h1).symm
  | none =>
    have h1 := List.find?_eq_none.1 hf
    rw [if_neg]
    · have h3 : zEm wb (zBO k l) = zEm (fun b => zBT b nt) (zBO k l) := by
        unfold zEm
        exact List.filter_congr fun x hx => by rw [hw x (zIq h x hx)]
      show zBy k nt _ = zBy k nt _
      rw [h3, zOe fun y hy => zDr (zIq h y (zGe.1 hy).1)]
    · intro h2
      obtain ⟨x, hx, h3⟩ := List.any_eq_true.1 h2
      rw [← hs x (h x hx)] at h3
      exact h1 x hx h3
def zGx (l : List Re) : List Re := l.flatMap fun a => if a.kind = 3 then a.args else if a.kind = 1 then [] else [a]
def zQp (l : List Re) : Re := if (l.any fun a => decide (a.kind = 0)) = true then zBH else zBy 3 zBJ (zGx l)
theorem zQo {l : List Re} (h : ∀ x ∈ l, zAq x) : zQp l = zEd l := by
  have e : ∀ l : List Re, (∀ x ∈ l, zAq x) → zEm zBo (zBO 3 l) = zGx l := by
    intro l
    induction l with
    | nil => intro _; rfl
    | cons x l ih =>
      intro h
      have h1 := ih fun y hy => h y (by simp [hy])
      have hx := h x (by simp)
      unfold zEm zBO zGx at *
      rw [List.flatMap_cons, List.filter_append, h1, List.flatMap_cons]
      congr 1
      by_cases h3 : x.kind = 3
      · rw [if_pos h3, if_pos h3]
        refine List.filter_eq_self.2 fun y hy => ?_
        have := ((hx.n.k3 h3).2 y hy).2.1
        simp [zBo, this]
      · rw [if_neg h3, if_neg h3]
        by_cases h4 : x.kind = 1 <;> simp [zBo, h4]
  unfold zQp zEd
  rw [e l h]
  have e2 : (zGx l).any zBU = l.any fun a => decide (a.kind = 0) := by
    rw [Bool.eq_iff_iff, List.any_eq_true, List.any_eq_true]
    constructor
    · rintro ⟨x, hx, h0⟩
      unfold zGx at hx
      obtain ⟨y, hy, hxy⟩ := List.mem_flatMap.1 hx
      split at hxy
      · rename_i h3
        have := ((h y hy).n.k3 h3).2 x hxy
        exact absurd (by simpa [zBU] using h0) this.1
      · split at hxy
        · simp at hxy
        · rw [List.mem_singleton] at hxy
          subst hxy
          exact ⟨x, hy, h0⟩
    · rintro ⟨x, hx, h0⟩
      refine ⟨x, ?_, h0⟩
      unfold zGx
      have h1 : x.kind = 0 := by simpa using h0
      exact List.mem_flatMap.2 ⟨x, hx, by rw [if_neg (by omega), if_neg (by omega)]; simp⟩
  rw [e2]
mutual
def zJK : Re → Prop
  | .mk k s a m x g => PreN k s a m x g ∧ zGo a
def zGo : List Re → Prop
  | [] => True
  | t :: ts => zJK t ∧ zGo ts
end
theorem zGR {ts : List Re} : zGo ts ↔ ∀ t ∈ ts, zJK t := by
  induction ts with
  | nil => simp [zGo]
  | cons t ts ih => simp only [zGo, ih, List.mem_cons, forall_eq_or_imp]
theorem zJK.n {t : Re} (h : zJK t) : PreN t.kind t.set t.args t.mn t.mx t.neg := by cases t; exact h.1
theorem zJK.a {t : Re} (h : zJK t) : ∀ x ∈ t.args, zJK x := by cases t; exact zGR.1 h.2
theorem PreN.len {k : Int} {s : List (Int × Int)} {a b : List Re} {m x : Int} {g : Bool} (h : PreN k s a m x g) (e : b.length = a.length) : PreN k s b m x g :=
 ⟨h.ks, h.ng, h.st, h.mm, h.k2, fun h0 => List.eq_nil_of_length_eq_zero (by rw [e, h.none h0]; rfl), fun h0 => by rw [e]; exact h.one h0, h.rep⟩
mutual
theorem zMT : ∀ {t : Re}, zJK t → zAq (zCU t)
  | .mk k s a m x g, h => by
    simp only [zCU]
    exact zFc (h.1.len (b := zCq a) (by rw [zCL, List.length_map])) (zKF h.2)
theorem zKF : ∀ {ts : List Re}, zGo ts → ∀ x ∈ zCq ts, zAq x
  | [], _, x, hx => by simp [zCq] at hx
  | t :: ts, h, x, hx => by
    simp only [zCq, List.mem_cons] at hx
    rcases hx with rfl | hx
    · exact zMT h.1
    · exact zKF h.2 x hx
end
mutual
theorem zJa : ∀ {t : Re}, zDh t → zCk [9, 10] t = false → zJK t
  | .mk k s a m x g, h, hu => by
    obtain ⟨h1, h2⟩ := zFA hu
    have h9 : k ≠ 9 := fun e => by subst e; simp at h1
    have h10 : k ≠ 10 := fun e => by subst e; simp at h1
    exact ⟨zMU (t := .mk k s a m x g) h h9 h10 rfl, zKG (zCD h) h2⟩
theorem zKG : ∀ {ts : List Re}, zDB ts → zCo [9, 10] ts = false → zGo ts
  | [], _, _ => trivial
  | t :: ts, h, hu => by
    simp only [zDB] at h
    simp only [zCo, Bool.or_eq_false_iff] at hu
    exact ⟨zJa h.1 hu.1, zKG h.2 hu.2⟩
end
theorem zEY {t : Re} (h : zAq t) : zJK t := zJa (zDq h).1 (zDq h).2
mutual
def zDD (c : Int) : Re → Re
  | .mk k s a m x g => if k = 2 then (if inS s c = true then zBJ else zBH) else if k = 3 then zJZ c a
    else if k = 4 ∨ k = 7 ∨ k = 8 then .mk k s (zDc c a) m x g
    else if k = 5 then .mk 3 [] [(zDc c a).headD zBH, .mk k s a m x g] 0 0 false
    else if k = 6 then (if x = 0 then zBH else .mk 3 [] [(zDc c a).headD zBH, .mk 6 [] a (max 0 (m - 1)) (x - 1) false] 0 0 false)
    else zBH
def zDc (c : Int) : List Re → List Re
  | [] => []
  | t :: ts => zDD c t :: zDc c ts
def zJZ (c : Int) : List Re → Re
  | [] => zBH
  | t :: ts => if ts = [] then zDD c t else (let x := .mk 3 [] [zDD c t, .mk 3 [] ts 0 0 false] 0 0 false; if zBg t = true then .mk 4 [] [x, zJZ c ts] 0 0 false else x)
end
theorem zIc (c : Int) (ts : List Re) : zDc c ts = ts.map (zDD c) := by
  induction ts with
  | nil => rfl
  | cons t ts ih => simp [zDc, ih]
theorem zIh {k : Int} {a : List Re} (hk : k = 3 ∨ k = 4) (h : ∀ x ∈ a, zJK x) : zJK (.mk k [] a 0 0 false) := by
 refine ⟨⟨by omega, rfl, fun _ => rfl, fun _ => ⟨rfl, rfl⟩, by omega, by omega, by omega, by omega⟩, zGR.2 h⟩
theorem zEr (k : Int) (s : List (Int × Int)) (a : List Re) (m x : Int) (g : Bool) : zCU (.mk k s a m x g) = zCf k s (a.map zCU) m x g := by rw [zCU, zCL]
theorem zJW {a : List Re} (h : ∀ x ∈ a, zAq x) : a.map zCU = a := by
 rw [← zCL]; exact zHe (zCZ.2 h)
theorem zOj {a : List Re} (hk : ∀ y ∈ a, y.kind ≠ 0 ∧ y.kind ≠ 1 ∧ y.kind ≠ 3) : zEd a = zBy 3 zBJ a := by
 unfold zEd
 rw [zJg fun x hx => (hk x hx).2.2, zNI fun x hx => by simp [zBo, (hk x hx).2.1], if_neg]
 intro h
 obtain ⟨x, hx, h0⟩ := List.any_eq_true.1 h
 exact (hk x hx).1 (by simpa [zBU] using h0)
theorem zKO (a : List Re) : zCf 3 [] a 0 0 false = zEd a := by unfold zCf; rw [if_pos rfl]
mutual
/-- The derivative, brought to similar form, is the derivative that the program makes. -/
theorem zJY (c : Int) : ∀ {t : Re}, zAq t → zJK (zDD c t) ∧ zCU (zDD c t) = zBK c t
  | .mk k s a m x g, h => by
    have hn := h.1
    have hsa := zCZ.1 h.2
    have hid : zCU (.mk k s a m x g) = .mk k s a m x g := zFX h
    simp only [zDD, zBK]
    by_cases h2 : k = 2
    · rw [if_pos h2, if_pos h2]
      split
      · exact ⟨zEY zDP, zFX zDP⟩
      · exact ⟨zEY zCw, zFX zCw⟩
    rw [if_neg h2, if_neg h2]
    by_cases h3 : k = 3
    · rw [if_pos h3, if_pos h3]
      exact zKD c h.2 (hn.k3 h3).2 (fun e => by have := (hn.k3 h3).1; rw [e] at this; simp at this)
    rw [if_neg h3, if_neg h3]
    obtain ⟨i1, i2⟩ := zKB c h.2
    by_cases h4 : k = 4 ∨ k = 7 ∨ k = 8
    · rw [if_pos h4, if_pos h4]
      obtain ⟨e1, e2⟩ := hn.mm (by omega)
      rw [hn.st h2, e1, e2, hn.ng]
      refine ⟨⟨⟨by omega, rfl, fun _ => rfl, fun _ => ⟨rfl, rfl⟩, by omega, by omega, fun h8 => ?_, by omega⟩, i1⟩, ?_⟩
      · obtain ⟨y, rfl, _⟩ := hn.k8 (by omega)
        rfl
      · rw [zEr, ← zCL, i2]
    rw [if_neg h4, if_neg h4]
    by_cases h5 : k = 5
    · rw [if_pos h5, if_pos h5]
      obtain ⟨y, rfl, _⟩ := hn.k5 h5
      simp only [zDc, zBq, zCq, List.headD_cons, zGo, List.cons.injEq, and_true] at i1 i2 ⊢
      refine ⟨zIh (.inl rfl) fun z hz => ?_, ?_⟩
      · simp only [List.mem_cons, List.not_mem_nil, or_false] at hz
        rcases hz with rfl | rfl
        · exact i1
        · exact zEY h
      · rw [zEr, zKO]
        simp only [List.map_cons, List.map_nil, i2, hid]
    rw [if_neg h5, if_neg h5]
    by_cases h6 : k = 6
    · rw [if_pos h6, if_pos h6]
      obtain ⟨y, rfl, _, _, m0, m1, m2, m3, _⟩ := hn.k6 h6
      rw [if_neg m3]
      simp only [zDc, zBq, zCq, List.headD_cons, zGo, List.cons.injEq, and_true] at i1 i2 ⊢
      refine ⟨zIh (.inl rfl) fun z hz => ?_, ?_⟩
      · simp only [List.mem_cons, List.not_mem_nil, or_false] at hz
        rcases hz with rfl | rfl
        · exact i1
        · refine ⟨⟨by omega, rfl, fun _ => rfl, by omega, by omega, by omega, fun _ => rfl, fun _ => by omega⟩, zEY (hsa y (by simp)), trivial⟩
      · rw [zEr, zKO]
        simp only [List.map_cons, List.map_nil, i2, zEr, zFX (hsa y (by simp))]
    rw [if_neg h6, if_neg h6]
    exact ⟨zEY zCw, zFX zCw⟩
theorem zKB (c : Int) : ∀ {ts : List Re}, zDH ts → zGo (zDc c ts) ∧ zCq (zDc c ts) = zBq c ts
  | [], _ => ⟨trivial, rfl⟩
  | t :: ts, h => by
    obtain ⟨h1, h2⟩ := zJY c h.1
    obtain ⟨h3, h4⟩ := zKB c h.2
    exact ⟨⟨h1, h3⟩, by simp only [zDc, zCq, zBq, h2, h4]⟩
theorem zKD (c : Int) : ∀ {ts : List Re}, zDH ts → (∀ y ∈ ts, y.kind ≠ 0 ∧ y.kind ≠ 1 ∧ y.kind ≠ 3) → ts ≠ [] → zJK (zJZ c ts) ∧ zCU (zJZ c ts) = zEg c ts
  | [], _, _, h => absurd rfl h
  | t :: ts, h, hk, _ => by
    obtain ⟨h1, h2⟩ := zJY c h.1
    simp only [zJZ, zEg]
    by_cases hts : ts = []
    · rw [if_pos hts, if_pos hts]; exact ⟨h1, h2⟩
    rw [if_neg hts, if_neg hts]
    have hk2 : ∀ y ∈ ts, y.kind ≠ 0 ∧ y.kind ≠ 1 ∧ y.kind ≠ 3 := fun y hy => hk y (by simp [hy])
    obtain ⟨h3, h4⟩ := zKD c h.2 hk2 hts
    have hs := zCZ.1 h.2
    have hx : zJK (.mk 3 [] [zDD c t, .mk 3 [] ts 0 0 false] 0 0 false) ∧ zCU (.mk 3 [] [zDD c t, .mk 3 [] ts 0 0 false] 0 0 false) = zEd [zBK c t, zBy 3 zBJ ts] := by
      refine ⟨zIh (.inl rfl) fun z hz => ?_, ?_⟩
      · simp only [List.mem_cons, List.not_mem_nil, or_false] at hz
        rcases hz with rfl | rfl
        · exact h1
        · exact zIh (.inl rfl) fun y hy => zEY (hs y hy)
      · rw [zEr, zKO]
        simp only [List.map_cons, List.map_nil, h2, zEr, zJW hs, zKO, zOj hk2]
    by_cases he : zBg t = true
    · simp only [if_pos he]
      refine ⟨zIh (.inr rfl) fun z hz => ?_, ?_⟩
      · simp only [List.mem_cons, List.not_mem_nil, or_false] at hz
        rcases hz with rfl | rfl
        · exact hx.1
        · exact h3
      · rw [zEr]
        simp only [List.map_cons, List.map_nil, hx.2, h4]
    · simp only [if_neg he]
      exact hx
end
theorem zMP (c : Int) (ts : List Re) : (zDc c ts).length = ts.length := by rw [zIc, List.length_map]
theorem zId (c : Int) : ∀ (l : List Re) (M : Nat), Re.sizes l ≤ M → (zJZ c l).size ≤ Re.sizes (zDc c l) + l.length * (M + 4) + 1
  | [], M, h => by simp [zJZ, zDc, Re.sizes, zBH, Re.size]
  | t :: ts, M, h => by
    simp only [Re.sizes] at h
    have ih := zId c ts M (by omega)
    simp only [zJZ, zDc, Re.sizes, List.length_cons]
    have e : (ts.length + 1) * (M + 4) = ts.length * (M + 4) + (M + 4) := by rw [Nat.add_mul, Nat.one_mul]
    rw [e]
    split
    · omega
    · split
      · simp only [Re.size, Re.sizes]; omega
      · simp only [Re.size, Re.sizes]; omega
mutual
theorem zKC (c : Int) (N : Nat) : ∀ {t : Re}, zAq t → t.size ≤ N → (zDD c t).size + (N + 6) ≤ (N + 6) * (2 * t.size)
  | .mk k s a m x g, h, hN => by
    have hn := h.1
    have hs0 : (Re.mk k s a m x g).size = Re.sizes a + 1 := by simp [Re.size]
    have ih := zIb c N h.2 (by omega)
    have e : (N + 6) * (2 * (Re.sizes a + 1)) = (N + 6) * (2 * Re.sizes a) + 2 * (N + 6) := by rw [Nat.mul_add 2, Nat.mul_add]; omega
    have hone : 1 + (N + 6) ≤ (N + 6) * (2 * (Re.sizes a + 1)) := by rw [e]; omega
    rw [hs0] at hN ⊢
    have hl := zMP c a
    simp only [zDD]
    split
    · split <;> exact hone
    split
    · have h3 := zId c a N (by omega)
      have h4 : a.length * (N + 4) ≤ (N + 6) * a.length := by rw [Nat.mul_comm (N + 6)]; exact Nat.mul_le_mul_left _ (by omega)
      rw [e]
      omega
    split
    · have h5 : (Re.mk k s (zDc c a) m x g).size = Re.sizes (zDc c a) + 1 := by simp [Re.size]
      rw [e, h5]
      omega
    split
    · rename_i hk
      obtain ⟨y, rfl, _⟩ := hn.k5 hk
      simp only [Re.sizes, Re.size, zDc, List.headD_cons, List.length_cons, List.length_nil] at ih hN e ⊢
      rw [e]
      omega
    split
    · rename_i hk
      obtain ⟨y, rfl, _⟩ := hn.k6 hk
      split
      · exact hone
      simp only [Re.sizes, Re.size, zDc, List.headD_cons, List.length_cons, List.length_nil] at ih hN e ⊢
      rw [e]
      omega
    · exact hone
theorem zIb (c : Int) (N : Nat) : ∀ {ts : List Re}, zDH ts → Re.sizes ts ≤ N → Re.sizes (zDc c ts) + (N + 6) * ts.length ≤ (N + 6) * (2 * Re.sizes ts)
  | [], _, _ => by simp [zDc, Re.sizes]
  | t :: ts, h, hN => by
    simp only [Re.sizes] at hN
    have h1 := zKC c N h.1 (by omega)
    have h2 := zIb c N h.2 (by omega)
    simp only [zDc, Re.sizes, List.length_cons]
    have e1 : (N + 6) * (2 * (t.size + Re.sizes ts)) = (N + 6) * (2 * t.size) + (N + 6) * (2 * Re.sizes ts) := by rw [Nat.mul_add 2, Nat.mul_add]
    have e2 : (N + 6) * (ts.length + 1) = (N + 6) * ts.length + (N + 6) := by rw [Nat.mul_add, Nat.mul_one]
    omega
end
theorem zMN {c : Int} {t : Re} (h : zAq t) (hs : t.size ≤ 300) : (zDD c t).size ≤ 200000 := by
 have h1 := zKC c 300 h hs
 have h2 : (300 + 6) * (2 * t.size) ≤ (300 + 6) * 600 := Nat.mul_le_mul_left _ (by omega)
 omega
end Go.Proofs
namespace Go.Eng
open Go
section
variable {κ ν : Type} [DecidableEq κ]
def zOW : List (κ × ν) → κ → Option ν
  | [], _ => none
  | p :: r, k => if p.1 = k then some p.2 else zOW r k
def zQC : List (κ × ν) → κ → ν → List (κ × ν)
  | [], k, v => [(k, v)]
  | p :: r, k, v => if p.1 = k then (k, v) :: r else p :: zQC r k v
def zQc (eV : ν → Value) : List (κ × ν) → κ → Nat → Option (Nat × Value)
  | [], _, _ => none
  | p :: r, k, i => if p.1 = k then some (i, eV p.2) else zQc eV r k (i + 1)
theorem zHV {eV : ν → Value} : ∀ {es : List (κ × ν)} {k : κ} {i : Nat} {v : ν}, zOW es k = some v → ∃ j, zQc eV es k i = some (i + j, eV v) ∧ es[j]? = some (k, v) ∧ ∀ u, zQC es k u = es.set j (k, u)
  | [], _, _, _, h => by cases h
  | p :: r, k, i, v, h => by
    unfold zOW at h
    unfold zQc
    split at h
    · rename_i he
      cases h
      rw [if_pos he]
      exact ⟨0, rfl, by obtain ⟨a, b⟩ := p; simp at he; subst he; rfl, fun u => by unfold zQC; rw [if_pos he]; rfl⟩
    · rename_i hne
      rw [if_neg hne]
      obtain ⟨j, h1, h2, h3⟩ := zHV (eV := eV) (i := i + 1) h
      exact ⟨j + 1, by rw [h1]; congr 2; omega, by simpa using h2, fun u => by unfold zQC; rw [if_neg hne, h3 u]; rfl⟩
theorem zIg : ∀ {es : List (κ × ν)} {k : κ} (v : ν), zOW es k = none → zQC es k v = es ++ [(k, v)]
  | [], _, _, _ => rfl
  | p :: r, k, v, h => by
    unfold zOW at h
    unfold zQC
    split at h
    · cases h
    · rename_i hne; rw [if_neg hne, zIg v h]; rfl
theorem zJf {es : List (κ × ν)} {k : κ} : (zOW es k).isSome = true ↔ k ∈ es.map (·.1) := by
  induction es with
  | nil => simp [zOW]
  | cons p r ih =>
    unfold zOW
    by_cases h : p.1 = k
    · simp [h]
    · rw [if_neg h, ih]
      simp [Ne.symm h]
def zGp (es : List (κ × ν)) : Prop := (es.map (·.1)).Nodup
omit [DecidableEq κ] in
theorem zGp.nil : zGp ([] : List (κ × ν)) := List.nodup_nil
theorem zGp.put {es : List (κ × ν)} (h : zGp es) (k : κ) (v : ν) : zGp (zQC es k v) := by
  cases hg : zOW es k with
  | none =>
    rw [zIg v hg]
    unfold zGp
    rw [List.map_append, List.nodup_append]
    refine ⟨h, by simp, fun a ha b hb => ?_⟩
    simp at hb
    subst hb
    intro he
    subst he
    have := zJf.2 ha
    rw [hg] at this; cases this
  | some u =>
    obtain ⟨j, _, h2, h3⟩ := zHV (eV := fun _ => undef) (i := 0) hg
    rw [h3 v]
    unfold zGp
    have : (es.set j (k, v)).map (·.1) = es.map (·.1) := by
      apply List.ext_getElem?
      intro i
      rw [List.getElem?_map, List.getElem?_map, List.getElem?_set]
      by_cases hi : j = i
      · subst hi
        have hlt := zAo h2
        rw [if_pos rfl, if_pos hlt, h2]; rfl
      · simp [hi]
    rw [this]; exact h
end
/-- A map in memory: its entries in the order in which the keys came. -/
def ents {κ ν : Type} (ek : κ → Value) (eV : ν → Value) (es : List (κ × ν)) : List MapEntry := es.zipIdx.map fun p => { key := ek p.1.1, val := eV p.1.2, born := p.2 }
def MapAt {κ ν : Type} (w : World) (b : Nat) (ek : κ → Value) (eV : ν → Value) (es : List (κ × ν)) : Prop := w.heap[b]? = some (.map (ents ek eV es).toArray es.length)
section
variable {κ ν : Type} {ek : κ → Value} {eV : ν → Value} {es : List (κ × ν)} {w w' : World} {b : Nat}
theorem MapAt.lt (h : MapAt w b ek eV es) : b < w.heap.size := (Array.getElem?_eq_some_iff.1 h).1
end
/-- A new object that is no row of cells. -/
structure NewO (w w' : World) (b : Nat) (o : Obj) : Prop where
 at' : w'.heap[b]? = some o
 ext : Ext w w'
 eq : b = w.heap.size
 size : w'.heap.size = w.heap.size + 1
theorem NewO.mk' (w : World) (o : Obj) : NewO w { w with heap := w.heap.push o } w.heap.size o :=
 ⟨by simp, ⟨rfl, rfl, rfl, Nat.le_refl _, by simp, fun x hx _ => by simp [Array.getElem?_push, Nat.ne_of_lt hx]⟩, rfl, by simp⟩
section
variable {w w' : World} {b : Nat} {o : Obj}
theorem NewO.keep (h : NewO w w' b o) {b' : Nat} {c' : Array Value} {t' : TypeId} (hb : Blk w b' c' t') : Blk w' b' c' t' := h.ext.keep hb
theorem NewO.lt (h : NewO w w' b o) {b' : Nat} {c' : Array Value} {t' : TypeId} (hb : Blk w b' c' t') : b' < b := by rw [h.eq]; exact hb.lt
theorem NewO.ge (h : NewO w w' b o) {w0 : World} {M : Nat → Prop} (e : Chg M w0 w) : w0.heap.size ≤ b := by rw [h.eq]; exact e.size
variable {κ ν : Type} {ek : κ → Value} {eV : ν → Value} {es : List (κ × ν)} {b' : Nat}
end
/-- An object that is no row of cells is replaced. -/
structure PutO (w w' : World) (b : Nat) (o : Obj) : Prop where
 at' : w'.heap[b]? = some o
 chg : Chg (fun x => x = b) w w'
 size : w'.heap.size = w.heap.size
theorem PutO.mk' {w : World} {b : Nat} (o : Obj) (hb : b < w.heap.size) : PutO w { w with heap := w.heap.setIfInBounds b o } b o :=
 ⟨by simp [hb], ⟨rfl, rfl, rfl, Nat.le_refl _, by simp, fun x hx hne => by simp [Array.getElem?_setIfInBounds, Ne.symm hne]⟩, by simp⟩
section
variable {w w' : World} {b : Nat} {o : Obj}
theorem PutO.keep (h : PutO w w' b o) {b' : Nat} {c' : Array Value} {t' : TypeId} (hne : b' ≠ b) (hb : Blk w b' c' t') : Blk w' b' c' t' := h.chg.keep hne hb
theorem PutO.step (h : PutO w w' b o) {w0 : World} {M : Nat → Prop} (e : Chg M w0 w) (hb : w0.heap.size ≤ b ∨ M b) : Chg M w0 w' :=
 e.step h.chg fun x hx hm => by subst hm; rcases hb with hb | hb; omega; exact hb
variable {κ ν : Type} {ek : κ → Value} {eV : ν → Value} {es : List (κ × ν)} {b' : Nat}
end
def zFv (w : World) (it b n : Nat) (seen : List Nat) : Prop := w.heap[it]? = some (.mapIter (some b) n seen.toArray n)
theorem zFv.lt {w : World} {it b n : Nat} {seen : List Nat} (h : zFv w it b n seen) : it < w.heap.size := (Array.getElem?_eq_some_iff.1 h).1
theorem zFv.chg {M : Nat → Prop} {w w' : World} {it b n : Nat} {seen : List Nat} (h : zFv w it b n seen) (c : Chg M w w') (hm : ¬ M it) : zFv w' it b n seen := (c.blk it h.lt hm).trans h
theorem zFv.ext {w w' : World} {it b n : Nat} {seen : List Nat} (h : zFv w it b n seen) (c : Ext w w') : zFv w' it b n seen := h.chg c fun f => f
end Go.Eng
namespace Go.Proofs
open Go Go.Eng Go.Sort
section
variable {P : Program} {N : Nat} {Q : zFl} {σ : Env} {w : World} {K : Env → World → Prop} {ops : Array Oper} {rest : List Oper} {d : Nat} {ty : TypeId} {pos : String} {af : Array Edge} {t : TypeId} {x y : Operand}
/-- A slice without elements and with room for n is made. -/
theorem zMC {e bytes n size base : Nat} {z : Value} (hN : d < N) (hu : P.underlying t = some (.slice e)) (hsz : Siz P e size) (hby : Byt P e bytes) (hz : Zer P e z) (hx : ev σ x = .int .i64 0) (hy : ev σ y = .int .i64 ((n : Nat) : Int)) (hb : n * bytes ≤ 140737488355328) (hn : n ≤ 140737488355328) (hbase : base ≤ w.heap.size)
    (k : ∀ w', Ext w w' → w'.ownsRow base e size (.slice (some ⟨w.heap.size, 0, none⟩) 0 n) 0 [] → WpL P N ops K Q rest (upd σ d (.slice (some ⟨w.heap.size, 0, none⟩) 0 n)) w') : WpL P N ops K Q (⟨some d, .makeSlice t x y, ty, pos, af, none⟩ :: rest) σ w := by
  unfold Siz at hsz; unfold Byt at hby; unfold Zer at hz
  cases hi : P.info? e with
  | none => rw [hi] at hsz; simp at hsz
  | some i =>
  rw [hi] at hsz hby hz
  simp at hsz hby hz
  have h := run_make (P := P) w t e i _ hu hi hz .i64 .i64 0 ((n : Nat) : Int) (by omega) (by omega) (by rw [hby]; have : ((bytes : Nat) : Int) * ((n : Nat) : Int) = (((n * bytes : Nat) : Nat) : Int) := (by rw [Int.natCast_mul, Int.mul_comm]); rw [this]; omega) (by omega)
  have hnew := New.mk' w (madeCells z.cells (n * size)) e
  refine zCi (v := .slice (some ⟨w.heap.size, 0, none⟩) 0 n) (w' := { w with heap := w.heap.push (.cells (madeCells z.cells (n * size)) e (0, 0)) }) rfl rfl hN ?_ (k _ hnew.ext ⟨by simp, .inr ⟨w.heap.size, n, madeCells z.cells (n * size), rfl, hbase, hnew.blk, Nat.zero_le _, by simp only [maxLen]; omega, by simp [madeCells], by simp⟩⟩)
  simp only [Int.toNat_natCast, hsz] at h
  simp only [execOp, hx, hy, Sem.run_bind, h, Result.andThen_ok]
  rfl
end
def zRD (base e size n : Nat) (xs : List Value) (old : Value) (hs : Nat) : Fct := fun v w => (∃ a c, v = .slice a n c) ∧ w.ownsRow base e size v n xs ∧ ∀ k, v.ownBlock = some k → old.ownBlock = some k ∨ hs ≤ k
theorem zIA (base e size n : Nat) (xs : List Value) (old : Value) (hs : Nat) : ∀ v w w', Ext w w' → zRD base e size n xs old hs v w → zRD base e size n xs old hs v w' := by
 rintro v w w' e ⟨h1, h2, h3⟩
 exact ⟨h1, zBE h2 e, h3⟩
/-- The append to a slice of one's own, in a region that draws its order. -/
theorem zJM {P : Program} {N : Nat} {σ : Env} {w : World} {dst : Option Tmp} {ty : TypeId} {pos : String} {af : Array Edge} {g : Option (Nat × Bool)} {M : Nat → Prop} {t : TypeId} {s x : Operand} {base e size bytes n m c bx ox hs : Nat} {z v : Value} {xs news : List Value} (hu : P.underlying t = some (.slice e)) (hsz : Siz P e size) (hby : Byt P e bytes) (hz : Zer P e z) (hzs : z.cells.size = size) (h0 : 0 < size)
    (he : ev σ s = v) (hown : w.ownsRow base e size v n xs) (hx : ev σ x = .slice (some ⟨bx, ox, none⟩) m c) (hl : news.length = m * size) (hnews : zAx w bx ox news) (h1 : ∀ u ∈ news, u.oneCell' = true)
    (h63 : n + m ≤ maxLen) (hbytes : (n + m) * bytes ≤ 140737488355328) (hbase : base ≤ w.heap.size) (hM : ∀ y, v.ownBlock = some y → M y) (hhs : hs ≤ w.heap.size) :
    zJq M P N ⟨dst, .call ⟨.builtin .append, #[s, x], #[t, t]⟩, ty, pos, af, g⟩ (zRD base e size (n + m) (xs ++ news) v hs) σ w := by
  unfold Siz at hsz; unfold Byt at hby; unfold Zer at hz
  cases hi : P.info? e with
  | none => rw [hi] at hsz; simp at hsz
  | some i =>
  rw [hi] at hsz hby hz
  simp at hsz hby hz
  have hcells : ∀ j u, news[j]? = some u → w.cell? ((⟨bx, ox, none⟩ : Addr).add j) = some u := fun j u hj => by rw [Addr.add_lit]; exact hnews j u hj
  obtain ⟨v', w', hr, h2, h3, _⟩ := run_append_own (P := P) w base t ty e i z size bytes hu hi hz hsz hby hzs h0 v n xs hown ⟨bx, ox, none⟩ m c news hl hcells h1 h63 hbytes hbase
  have hC : Chg (fun x => v.ownBlock = some x) w w' := ⟨h3.os, h3.tape, h3.output, zFu (P := P) hu hi hz hsz hby hown hl hcells h1 h63 hbytes hr, h3.size, fun b hb hn => h3.block b hb (fun h => hn h.symm)⟩
  have hW := zFt (P := P) hu hi hz hsz hby hzs h0 hown hl hcells h1 h63 hbytes hr
  refine zCN (v := v') (w' := w') (by simp [execOp, resolve, invoke, builtin, he, hx, hr]) (hC.mono fun y _ hy => hM y hy) ⟨zBY h2, h2, fun k hk => ?_⟩
  rcases hW k hk with h4 | h4
  · exact .inl h4
  · exact .inr (Nat.le_trans hhs h4)
/-- A slice of one new element, whose cells are known. -/
def zRC (e : Nat) (c : Array Value) (hs : Nat) : Fct := fun v w => ∃ b, v = .slice (some ⟨b, 0, none⟩) 1 1 ∧ Blk w b c e ∧ hs ≤ b
theorem zHp (e : Nat) (c : Array Value) (hs : Nat) : ∀ v w w', Ext w w' → zRC e c hs v w → zRC e c hs v w' := by
 rintro v w w' x ⟨b, h1, h2, h3⟩
 exact ⟨b, h1, Ext.keep x h2, h3⟩
theorem zNf {P : Program} {N : Nat} {σ : Env} {w : World} {dst : Option Tmp} {ty : TypeId} {pos : String} {af : Array Edge} {g : Option (Nat × Bool)} {M : Nat → Prop} {t e n hs : Nat} {x : Operand} {v z : Value} {c : Array Value} (hu : P.underlying t = some (.slice e)) (hsz : Siz P e n) (hz : Zer P e z) (hx : ev σ x = v)
  (hl : ¬ (1 * n > 2 ^ 24)) (h0 : 1 * n ≠ 0) (hc : Instr.fill (fun i => some (i * n, n)) ((Array.range (1 * n)).map (z.cells[· % z.cells.size]!)) [(0, v)] = some c) (hhs : hs ≤ w.heap.size) :
  zJq M P N ⟨dst, .buildSlice t 1 #[(0, x)], ty, pos, af, g⟩ (zRC e c hs) σ w := by
 have hn := New.mk' w c e
 exact zCN (zCG (parts := [(0, x)]) (ps := [(0, v)]) (by simp only [List.map, hx]) hu hsz hz hl h0 hc) (Ext.chg hn.ext) ⟨_, rfl, hn.blk, hhs⟩
theorem zNw {w : World} {b e base : Nat} {v : Value} (h : Blk w b #[v] e) (hb : base ≤ b) : w.ownsRow base e 1 (.slice (some ⟨b, 0, none⟩) 1 1) 1 [v] :=
 ⟨rfl, .inr ⟨b, 1, #[v], rfl, hb, h, Nat.le_refl _, by decide, rfl, rfl⟩⟩
structure LSt (To e sz : Nat) (w : World) (base : Nat) (vo : Value) (vs : List Value) (ns : List (Nat × List Value)) : Prop where
 o : w.ownsRow base To 1 vo ns.length vs
 len : vs.length = ns.length
 inn : ∀ (i : Nat) v p, vs[i]? = some v → ns[i]? = some p → w.ownsRow base e sz v p.1 p.2
 apo : ∀ (i : Nat) v b, vs[i]? = some v → v.ownBlock = some b → vo.ownBlock ≠ some b
theorem LSt.chg {M : Nat → Prop} {To e sz base : Nat} {w w' : World} {vo : Value} {vs : List Value} {ns : List (Nat × List Value)} (h : LSt To e sz w base vo vs ns) (c : Chg M w w') (hM : ∀ b, base ≤ b → b < w.heap.size → ¬ M b) : LSt To e sz w' base vo vs ns :=
 ⟨zCs h.o c fun k hk => hM k (h.o.lt k hk).1 (h.o.lt k hk).2, h.len, fun i v l hv hl => zCs (h.inn i v l hv hl) c fun k hk => hM k ((h.inn i v l hv hl).lt k hk).1 ((h.inn i v l hv hl).lt k hk).2, h.apo⟩
theorem LSt.ext {To e sz base : Nat} {w w' : World} {vo : Value} {vs : List Value} {ns : List (Nat × List Value)} (h : LSt To e sz w base vo vs ns) (c : Ext w w') : LSt To e sz w' base vo vs ns := h.chg c fun _ _ _ f => f
theorem LSt.on {To e sz base n : Nat} {w : World} {vo : Value} {vs : List Value} {ns : List (Nat × List Value)} (h : LSt To e sz w base vo vs ns) (hn : n = ns.length) : w.ownsRow base To 1 vo n vs := by subst hn; exact h.o
/-- A slice that was made later is appended. -/
theorem LSt.push {To e sz base bu n m : Nat} {w w' : World} {vo v' u : Value} {vs us : List Value} {ns : List (Nat × List Value)} (h : LSt To e sz w base vo vs ns) (hn : n = ns.length) (hu : w.ownsRow bu e sz u m us) (hb : base ≤ bu) (hbu : ∀ k, vo.ownBlock = some k → k < bu)
  (Ov : w'.ownsRow base To 1 v' (n + 1) (vs ++ [u])) (Cv : Chg (fun x => vo.ownBlock = some x) w w') (Wv : ∀ k, v'.ownBlock = some k → vo.ownBlock = some k ∨ w.heap.size ≤ k) : LSt To e sz w' base v' (vs ++ [u]) (ns ++ [(m, us)]) := by
 have hold : ∀ (i : Nat) v, (vs ++ [u])[i]? = some v → vs[i]? = some v ∨ (i = vs.length ∧ v = u) := by
  intro i v hv
  rcases Nat.lt_or_ge i vs.length with h1 | h1
  ·left; rwa [List.getElem?_append_left h1] at hv
  right
  rw [List.getElem?_append_right h1] at hv
  have h2 := zAo hv
  simp at h2
  obtain rfl : i = vs.length := by omega
  simp at hv
  exact ⟨rfl, hv.symm⟩
 have hun : ∀ b, u.ownBlock = some b → vo.ownBlock ≠ some b := fun b hb' e' => by
  have h1 := hbu b e'
  have h2 := (hu.lt b hb').1
  omega
 refine ⟨by rw [List.length_append, ← hn]; exact Ov, by simp [h.len], ?_, ?_⟩
 ·intro i v p hv hp
  rcases hold i v hv with h1 | ⟨h1, rfl⟩
  ·rw [List.getElem?_append_left (by have := zAo h1; have := h.len; omega)] at hp
   exact zCs (h.inn i v p h1 hp) Cv fun k hk => h.apo i v k h1 hk
  rw [h1, h.len] at hp
  simp at hp
  subst hp
  exact zQE (zCs hu Cv fun k hk => hun k hk) hb
 intro i v b hv hb1 hb2
 rcases hold i v hv with h1 | ⟨_, rfl⟩
 ·rcases Wv b hb2 with h2 | h2
  ·exact h.apo i v b h1 hb1 h2
  obtain ⟨p, hp⟩ := zAa (l := ns) (i := i) (by have := zAo h1; have := h.len; omega)
  have := ((h.inn i v p h1 hp).lt b hb1).2
  omega
 rcases Wv b hb2 with h2 | h2
 ·exact hun b hb1 h2
 have := (hu.lt b hb1).2; omega
theorem zLG {w w' : World} {base e size n cap g i : Nat} {xs : List Value} {cur : Array Value} {v : Value} (h : w.ownsRow base e size (.slice (some ⟨g, 0, none⟩) n cap) n xs) (hB : Blk w g cur e) (hi : i < n * size) (hB' : Blk w' g (cur.setIfInBounds i v) e) : w'.ownsRow base e size (.slice (some ⟨g, 0, none⟩) n cap) n (xs.set i v) := by
 rcases h.2 with ⟨h1, _⟩ | ⟨g', cap', cur', hv, hbg, hg, hnc, hcm, hcs, htake⟩
 ·simp at h1
 simp only [Value.slice.injEq, Option.some.injEq, Addr.mk.injEq, and_true] at hv
 obtain ⟨rfl, _, rfl⟩ := hv
 unfold Blk at hB hB'
 rw [hB] at hg
 simp only [Option.some.injEq, Obj.cells.injEq, and_true] at hg
 obtain ⟨rfl, _⟩ := hg
 refine ⟨by simpa using h.1, .inr ⟨g, cap, _, rfl, hbg, hB', hnc, hcm, by simpa using hcs, ?_⟩⟩
 rw [← htake, Array.toList_setIfInBounds, List.take_set]
/-- The same, and no two members share a block: a member may grow. -/
structure GSt (To e sz : Nat) (w : World) (base : Nat) (vo : Value) (vs : List Value) (ns : List (Nat × List Value)) : Prop where
 l : LSt To e sz w base vo vs ns
 ap : ∀ (i j : Nat) v u b, vs[i]? = some v → vs[j]? = some u → v.ownBlock = some b → u.ownBlock = some b → i = j
theorem GSt.chg {M : Nat → Prop} {To e sz base : Nat} {w w' : World} {vo : Value} {vs : List Value} {ns : List (Nat × List Value)} (h : GSt To e sz w base vo vs ns) (c : Chg M w w') (hM : ∀ b, base ≤ b → b < w.heap.size → ¬ M b) : GSt To e sz w' base vo vs ns := ⟨h.l.chg c hM, h.ap⟩
theorem GSt.ext {To e sz base : Nat} {w w' : World} {vo : Value} {vs : List Value} {ns : List (Nat × List Value)} (h : GSt To e sz w base vo vs ns) (c : Ext w w') : GSt To e sz w' base vo vs ns := ⟨h.l.ext c, h.ap⟩
/-- One member grows, and its new slice is stored in the outer one. -/
theorem GSt.grow {To e sz : Nat} {w w' w2 : World} {base g cap k n m m' : Nat} {v v' : Value} {vs : List Value} {ns : List (Nat × List Value)} {xs xs' : List Value} {cur : Array Value} (h : GSt To e sz w base (.slice (some ⟨g, 0, none⟩) n cap) vs ns) (hn : n = ns.length) (hv : vs[k]? = some v) (hp : ns[k]? = some (m, xs))
  (Ov : w'.ownsRow base e sz v' m' xs') (Cv : Chg (fun x => v.ownBlock = some x) w w') (Wv : ∀ k, v'.ownBlock = some k → v.ownBlock = some k ∨ w.heap.size ≤ k)
  (hB : Blk w' g cur To) (P2 : Put w' w2 g (cur.setIfInBounds k v') To) : GSt To e sz w2 base (.slice (some ⟨g, 0, none⟩) n cap) (vs.set k v') (ns.set k (m', xs')) := by
 have hkl := zAo hv
 have hgv : v.ownBlock ≠ some g := fun e => h.l.apo k v g hv e rfl
 have hgl := (h.l.o.lt g rfl).2
 have hv'g : v'.ownBlock ≠ some g := fun e => by rcases Wv g e with h1 | h1; exact hgv h1; omega
 have ho1 : w'.ownsRow base To 1 (.slice (some ⟨g, 0, none⟩) n cap) ns.length vs := zCs h.l.o Cv fun q hq => by cases hq; exact hgv
 rw [← hn] at ho1
 have ho2 := zLG ho1 hB (i := k) (by have := h.l.len; omega) P2.blk
 have hset : ∀ (i : Nat) u, (vs.set k v')[i]? = some u → (i = k ∧ u = v') ∨ (i ≠ k ∧ vs[i]? = some u) := by
  intro i u hu
  rw [List.getElem?_set] at hu
  split at hu
  ·rename_i he
   exact .inl ⟨he.symm, (Option.some.inj hu).symm⟩
  ·rename_i he
   exact .inr ⟨fun e => he e.symm, hu⟩
 have hsome : ∀ (i : Nat) u, vs[i]? = some u → ∃ q, ns[i]? = some q := fun i u hu => zAa (by have := zAo hu; have := h.l.len; omega)
 have hne : ∀ (i : Nat) u b, i ≠ k → vs[i]? = some u → u.ownBlock = some b → v.ownBlock ≠ some b ∧ v'.ownBlock ≠ some b ∧ b ≠ g := by
  intro i u b hi hu hb
  have h1 : v.ownBlock ≠ some b := fun e => hi (h.ap i k u v b hu hv hb e)
  refine ⟨h1, fun e => ?_, fun e => h.l.apo i u b hu hb (by rw [e]; rfl)⟩
  rcases Wv b e with h2 | h2
  ·exact h1 h2
  ·obtain ⟨q, hq⟩ := hsome i u hu
   have := ((h.l.inn i u q hu hq).lt b hb).2
   omega
 refine ⟨⟨by rw [List.length_set, ← hn]; exact ho2, by simp [h.l.len], ?_, ?_⟩, ?_⟩
 ·intro i u q hu hq
  rcases hset i u hu with ⟨rfl, rfl⟩ | ⟨h1, h2⟩
  ·rw [List.getElem?_set, if_pos rfl, if_pos (by have := h.l.len; omega)] at hq
   have hq' := Option.some.inj hq
   subst hq'
   exact zCs Ov P2.chg fun b hb e => hv'g (e ▸ hb)
  ·rw [List.getElem?_set, if_neg (fun e => h1 e.symm)] at hq
   exact zCs (zCs (h.l.inn i u q h2 hq) Cv fun b hb => (hne i u b h1 h2 hb).1) P2.chg fun b hb e => (hne i u b h1 h2 hb).2.2 e
 ·intro i u b hu hb
  rcases hset i u hu with ⟨rfl, rfl⟩ | ⟨h1, h2⟩
  ·intro e; cases e; exact hv'g hb
  ·exact h.l.apo i u b h2 hb
 ·intro i j u z b hu hz hb hb'
  rcases hset i u hu with ⟨rfl, rfl⟩ | ⟨h1, h2⟩ <;> rcases hset j z hz with ⟨rfl, rfl⟩ | ⟨h3, h4⟩
  ·rfl
  ·exact absurd hb (hne j z b h3 h4 hb').2.1
  ·exact absurd hb' (hne i u b h1 h2 hb).2.1
  ·exact h.ap i j u z b h2 h4 hb hb'
end Go.Proofs
namespace Go.Proofs
open Go Go.Eng Go.Sort
set_option maxRecDepth 100000
abbrev TCi : Nat := 3
theorem zJT (a b : List (Int × Int)) : zIT (a ++ b) = zIT a ++ zIT b := by
  induction a with
  | nil => rfl
  | cons x a ih => simp only [List.cons_append, zIT, ih]
theorem zNo (a : List (Int × Int)) : (zIT a).length = 2 * a.length := by
  induction a with
  | nil => rfl
  | cons x a ih => simp only [zIT, List.length_cons, ih]; omega
theorem zFO (a b : List Re) : zCF (a ++ b) = zCF a ++ zCF b := by
  induction a with
  | nil => rfl
  | cons x a ih => simp only [List.cons_append, zCF, ih, List.append_assoc]
def zGw (t : Re) (k : Nat) : List Int := t.kind :: zIT (t.set.take k)
def zEv (t : Re) (k : Nat) : List Int := zGw t t.set.length ++ [-1, t.mn, t.mx] ++ zCF (t.args.take k)
theorem zLW {t : Re} {k : Nat} {s : Int × Int} (h : t.set[k]? = some s) : zGw t (k + 1) = zGw t k ++ [s.1, s.2] := by
 unfold zGw
 rw [List.take_add_one, h, Option.toList_some, zJT]
 rfl
theorem zFi {t : Re} {k : Nat} {x : Re} (h : t.args[k]? = some x) : zEv t (k + 1) = zEv t k ++ zCX x := by
 unfold zEv
 rw [List.take_add_one, h, Option.toList_some, zFO, zCF, zCF, List.append_nil]
 simp only [List.append_assoc]
theorem zGj (t : Re) : zCX t = zEv t t.args.length ++ [-1] := by
 unfold zEv zGw
 rw [List.take_length, List.take_length]
 cases t
 simp [zCX, Re.kind, Re.set, Re.args, Re.mn, Re.mx]
theorem zJD (t : Re) {k : Nat} (h : k ≤ t.set.length) : (zGw t k).length = 1 + 2 * k := by
 unfold zGw
 rw [List.length_cons, zNo, List.length_take, Nat.min_eq_left h]
 omega
theorem zHy (t : Re) (k : Nat) : (zEv t k).length + 1 ≤ (zCX t).length := by
 rw [zGj t]
 unfold zEv
 have : (zCF (t.args.take k)).length ≤ (zCF t.args).length := by
  conv => rhs; rw [← List.take_append_drop k t.args, zFO, List.length_append]
  omega
 simp only [List.length_append, List.length_cons, List.length_nil, List.take_length]
 omega
theorem zOh (t : Re) : 1 + 2 * t.set.length + 3 ≤ (zCX t).length := by
 have h1 := zHy t 0
 have h2 := zJD t (Nat.le_refl _)
 unfold zEv at h1
 simp only [List.take_zero, zCF, List.append_nil, List.length_append, List.length_cons, List.length_nil] at h1
 omega
theorem zOg (t : Re) {k : Nat} {x : Re} (h : t.args[k]? = some x) : (zEv t k).length + (zCX x).length + 1 ≤ (zCX t).length := by
 have h1 := zHy t (k + 1)
 rw [zFi h, List.length_append] at h1
 exact h1
def ciG (l : List Int) : Fct := fun v w => ∃ a c, v = .slice a l.length c ∧ zBr w v l
theorem zES (l : List Int) : zGn (ciG l) := by
 rintro v w w' e ⟨a, c, rfl, h⟩
 exact ⟨a, c, rfl, h.ext e⟩
theorem zMX {w : World} {base n : Nat} {v : Value} {l : List Int} (h : w.ownsRow base TCi 1 v n (l.map (Value.int .i64))) (hn : n = l.length) : zBr w v l := by
 rw [← zNB l] at h
 exact zFz h (by intro r hr; obtain ⟨x, _, rfl⟩ := List.mem_map.1 hr; rfl) (by simp [hn]) (by decide)
set_option maxHeartbeats 2000000 in
theorem zPR : ∀ (n : Nat) (t : Re) (w0 : World) (vs : List Value), t.size ≤ n → (zCX t).length ≤ 100000000 → zBC w0 t vs →
    Ret Tryz.prog 187 #[.agg vs.toArray] w0 fun v w => ciG (zCX t) v w ∧ Ext w0 w := by
  intro n
  induction n with
  | zero => intro t w0 vs hn; have := t.size_pos; omega
  | succ n ih =>
  intro t w0 vs hn hL ht
  have ht0 := ht
  obtain ⟨sa, sc, aa, ac, rfl, hset, hlen, hargs⟩ := ht.form
  have hLa := zOh t
  have hal := zBm t
  refine zAk Tryz.func187 rfl Tryz.ntmps187 (Nat.le_of_ble_eq_true rfl) ?_
  have E : Chg zAh w0 w0 := Chg.refl _ _
  refine zAA ?_
  refine zBL (v := (.agg (R6 t sa sc aa ac))) (c := (R6 t sa sc aa ac)) (by decide) rfl rfl ?_
  intro br wr Nr
  have Fr := Nr.ge E
  replace E := E.ext Nr.ext
  have Br := Nr.blk
  refine qA (.slice none 0 0) rfl ?_
  refine zAB (zAA ?_)
  refine qF br 0 0 rfl Tryz.underlying25 rfl zAw rfl ?_
  refine qV (zAK (v := (I6 t.kind)) rfl zAf (Br.cell rfl)) ?_
  refine zAu (ps := [(0, (I6 t.kind))]) (c := #[(I6 t.kind)]) (by decide) rfl Tryz.underlying26 zAw zJN (by decide) (by decide) (by kernel_rfl) ?_
  intro bq wq Nq
  have Fq := Nq.ge E
  have Oq_br := Nq.lt Br
  replace Br := Nq.keep Br
  replace E := E.ext Nq.ext
  have Bq := Nq.blk
  refine qA (.slice (some ⟨bq, 0, none⟩) 1 1) rfl ?_
  refine zAB (zAP (zAA ?_))
  refine qF br 0 1 rfl Tryz.underlying25 rfl zDb rfl ?_
  refine qV (zAK (v := (.slice sa t.set.length sc)) rfl zCc (Br.cell rfl)) ?_
  refine qV (zAV (ad := sa) (n := t.set.length) (cap := sc) Tryz.underlying22 rfl) ?_
  refine qM (I6 0) rfl ?_
  refine zAB (zAZ ?_)
  obtain ⟨base, hbase⟩ : ∃ base, base = wr.heap.size := ⟨_, rfl⟩
  have hb0 : w0.heap.size ≤ base := by have := Nr.ext.size; omega
  have hbr : br < base := by have := Nr.size; have := Nr.eq; omega
  have hO1 := zNw (base := base) Bq (by have := Nq.eq; omega)
  have hbsq : base ≤ wq.heap.size := by have := Nq.ext.size; omega
  refine zBA (fun nn_ σ W1 => ∃ (k : Nat) (la : Option Addr) (lc : Nat) (m : Nat), (∃ jj_, σ = zCl jj_ [(1, (P6 br 0)), (12, (.slice sa t.set.length sc)), (13, (I6 (t.set.length : Int))), (14, (I6 (k : Int))), (3, (.slice la m lc))]) ∧ Chg zAh w0 W1 ∧ Blk W1 br (R6 t sa sc aa ac) 25 ∧ (k ≤ t.set.length) ∧ (m = 1 + 2 * k) ∧ (W1.ownsRow base TCi 1 (.slice la m lc) m ((zGw t k).map (Value.int .i64))) ∧ (base ≤ W1.heap.size) ∧ nn_ = t.set.length - k) (n := t.set.length - 0) ?_ ?_
  · exact ⟨0, some ⟨bq, 0, none⟩, 1, 1, zBG.out ⟨rfl, rfl, rfl, rfl, rfl, trivial⟩, E, Br, Nat.zero_le _, rfl, hO1, hbsq, rfl⟩
  · clear E Br
    rintro _ _ W1 ⟨k, la, lc, m, ⟨j1, rfl⟩, E, Br, hk, hm, hown, hbs, rfl⟩
    refine zAA ?_
    refine qV (zBS (k := .i64) (a := (k : Int)) (b := (t.set.length : Int)) rfl rfl) ?_
    refine zAB (zAP ?_)
    refine zAM (b := decide (((k : Int) : Int) < (t.set.length : Int))) rfl (fun hlt => ?_) (fun hlt => ?_)
    · have khlt := hlt
      replace hlt := of_decide_eq_true hlt
      obtain ⟨s, hs⟩ := zAa (l := t.set) (i := k) (by omega)
      obtain ⟨b, o, rfl, hcl⟩ := zBc hset (by omega)
      refine zAR (zAC (zAP (zAZ (zAA ?_))))
      refine qV (zAO (b := b) (o := o) (len := t.set.length) (cap := sc) (i := k) (o' := o + k * 2) rfl rfl rfl Tryz.underlying22 zBX (by omega) (by omega)) ?_
      refine qV (zAG (vs := [(I6 s.1), (I6 s.2)]) rfl zDG zBX rfl ((hcl k s hs).ext E)) ?_
      refine zAi (v := (.agg #[(I6 s.1), (I6 s.2)])) (c := #[(I6 s.1), (I6 s.2)]) (n := 2) (by decide) zEz rfl zBX rfl rfl rfl (by simp [Value.oneCell']) ?_
      intro bz wz Nz
      have Fz := Nz.ge E
      have Oz_br := Nz.lt Br
      replace Br := Nz.keep Br
      replace hown := zBE hown Nz.ext
      replace hbs := Nat.le_trans hbs Nz.ext.size
      replace E := E.ext Nz.ext
      have Bz := Nz.blk
      refine zAB (zAW ?_)
      refine qM (.slice la m lc) rfl ?_
      refine qF bz 0 0 rfl Tryz.underlying103 rfl zAw rfl ?_
      refine qV (zAK (v := (I6 s.1)) rfl zAf (Bz.cell rfl)) ?_
      refine qF bz 0 1 rfl Tryz.underlying103 rfl zAw rfl ?_
      refine qV (zAK (v := (I6 s.2)) rfl zAf (Bz.cell rfl)) ?_
      refine zAu (ps := [(0, (I6 s.1)), (1, (I6 s.2))]) (c := #[(I6 s.1), (I6 s.2)]) (by decide) rfl Tryz.underlying26 zAw zJN (by decide) (by decide) (by kernel_rfl) ?_
      intro bg wg Ng
      have Fg := Ng.ge E
      have Og_br := Ng.lt Br
      have Og_bz := Ng.lt Bz
      replace Br := Ng.keep Br
      replace Bz := Ng.keep Bz
      replace hown := zBE hown Ng.ext
      replace hbs := Nat.le_trans hbs Ng.ext.size
      replace E := E.ext Ng.ext
      have Bg := Ng.blk
      refine zBh (base := base) (n := m) (m := 2) (xs := ((zGw t k).map (Value.int .i64))) (news := [(I6 s.1), (I6 s.2)]) (size := 1) (bytes := 8) (v := (.slice la m lc)) (by decide) Tryz.underlying26 zAw byt3 zJN rfl (by decide) rfl hown rfl (rfl) (Bg.cells rfl) (by simp [Value.oneCell']) (by unfold maxLen; omega) (by omega) (hbs) ?_
      intro v9 w29 Ov9 Cv9 Dv9
      replace Br := Cv9.keep (fun h => by have := (hown.lt _ h).1; omega) Br
      replace E := E.step Cv9 (fun x hx h => absurd (hown.lt x h).1 (by omega))
      obtain ⟨la2, lc2, rfl⟩ := zBY Ov9
      refine qA (.slice la2 (m + 2) lc2) rfl ?_
      refine zAB (zAU (zAC (zAW ?_)))
      refine qV (zBQ (k := .i64) (a := (k : Int)) (b := 1) (c := (k : Int) + 1) rfl rfl (zBs (by omega))) ?_
      refine qM (I6 ((k : Int) + 1)) rfl ?_
      refine zAB (zAC ?_)
      exact ⟨t.set.length - (k + 1), by omega, k + 1, la2, lc2, m + 2, zBG.out ⟨rfl, rfl, rfl, rfl, rfl, trivial⟩, E, Br, (by omega), (by omega), (by rw [zLW hs, List.map_append]; exact Ov9), Nat.le_trans hbs Cv9.size, rfl⟩
    · have khlt := hlt
      replace hlt := of_decide_eq_false hlt
      have hkk : k = t.set.length := by omega
      rw [hkk] at hown hm
      refine zBB (zAe (zAe (zAr (zAC (zAA ?_)))))
      refine qM (.slice la m lc) rfl ?_
      refine qF br 0 3 rfl Tryz.underlying25 rfl zAw rfl ?_
      refine qV (zAK (v := (I6 t.mn)) rfl zAf (Br.cell rfl)) ?_
      refine qF br 0 4 rfl Tryz.underlying25 rfl zAw rfl ?_
      refine qV (zAK (v := (I6 t.mx)) rfl zAf (Br.cell rfl)) ?_
      refine zAu (ps := [(0, (I6 (-1))), (1, (I6 t.mn)), (2, (I6 t.mx))]) (c := #[(I6 (-1)), (I6 t.mn), (I6 t.mx)]) (by decide) rfl Tryz.underlying26 zAw zJN (by decide) (by decide) (by kernel_rfl) ?_
      intro bx wx Nx
      have Fx := Nx.ge E
      have Ox_br := Nx.lt Br
      replace Br := Nx.keep Br
      replace hown := zBE hown Nx.ext
      replace hbs := Nat.le_trans hbs Nx.ext.size
      replace E := E.ext Nx.ext
      have Bx := Nx.blk
      refine zBh (base := base) (n := m) (m := 3) (xs := ((zGw t t.set.length).map (Value.int .i64))) (news := [(I6 (-1)), (I6 t.mn), (I6 t.mx)]) (size := 1) (bytes := 8) (v := (.slice la m lc)) (by decide) Tryz.underlying26 zAw byt3 zJN rfl (by decide) rfl hown rfl (rfl) (Bx.cells rfl) (by simp [Value.oneCell']) (by unfold maxLen; omega) (by omega) (hbs) ?_
      intro v8 w28 Ov8 Cv8 Dv8
      replace Br := Cv8.keep (fun h => by have := (hown.lt _ h).1; omega) Br
      replace E := E.step Cv8 (fun x hx h => absurd (hown.lt x h).1 (by omega))
      obtain ⟨la3, lc3, rfl⟩ := zBY Ov8
      have hbs3 := Nat.le_trans hbs Cv8.size
      refine qA (.slice la3 (m + 3) lc3) rfl ?_
      refine zAB (zAP (zAA ?_))
      refine qF br 0 2 rfl Tryz.underlying25 rfl zBI rfl ?_
      refine qV (zAK (v := (.slice aa t.args.length ac)) rfl zAv (Br.cell rfl)) ?_
      refine qV (zAV (ad := aa) (n := t.args.length) (cap := ac) Tryz.underlying23 rfl) ?_
      refine qM (I6 0) rfl ?_
      refine zAB (zAZ ?_)
      refine zBA (fun nn_ σ W3 => ∃ (j : Nat) (da : Option Addr) (dc : Nat) (d : Nat), (∃ jj_, σ = zCl jj_ [(34, (.slice aa t.args.length ac)), (35, (I6 (t.args.length : Int))), (36, (I6 (j : Int))), (3, (.slice da d dc))]) ∧ Chg zAh w0 W3 ∧ Blk W3 br (R6 t sa sc aa ac) 25 ∧ (j ≤ t.args.length) ∧ (d = (zEv t j).length) ∧ (W3.ownsRow base TCi 1 (.slice da d dc) d ((zEv t j).map (Value.int .i64))) ∧ (base ≤ W3.heap.size) ∧ nn_ = t.args.length - j) (n := t.args.length - 0) ?_ ?_
      · exact ⟨0, la3, lc3, m + 3, zBG.out ⟨rfl, rfl, rfl, rfl, trivial⟩, E, Br, Nat.zero_le _, (by unfold zEv; simp only [List.take_zero, zCF, List.append_nil, List.length_append, zJD t (Nat.le_refl _), List.length_cons, List.length_nil]; omega), (by unfold zEv; simp only [List.take_zero, zCF, List.append_nil, List.map_append]; exact Ov8), hbs3, rfl⟩
      · clear E Br
        rintro _ _ W3 ⟨j, da, dc, d, ⟨j3, rfl⟩, E, Br, hj, hd, hownd, hbsd, rfl⟩
        refine zAA ?_
        refine qV (zBS (k := .i64) (a := (j : Int)) (b := (t.args.length : Int)) rfl rfl) ?_
        refine zAB (zAP ?_)
        refine zAM (b := decide (((j : Int) : Int) < (t.args.length : Int))) rfl (fun hlt2 => ?_) (fun hlt2 => ?_)
        · have khlt2 := hlt2
          replace hlt2 := of_decide_eq_true hlt2
          obtain ⟨x, hx⟩ := zAa (l := t.args) (i := j) (by omega)
          obtain ⟨b, o, rfl, hres⟩ := zDZ hargs (by omega)
          obtain ⟨us, hus, hxt⟩ := hres.get hx
          have hxt0 := hxt
          obtain ⟨xsa, xsc, xaa, xac, rfl, _, _, _⟩ := hxt.form
          have hge := zOg t hx
          have hxz := Re.size_arg hx
          refine zAR (zAC (zAP (zAZ (zAA ?_))))
          refine qV (zAO (b := b) (o := o) (len := t.args.length) (cap := ac) (i := j) (o' := o + j * 6) rfl rfl rfl Tryz.underlying23 zAH (by omega) (by omega)) ?_
          refine qV (zAG (vs := [(I6 x.kind), (.slice xsa x.set.length xsc), (.slice xaa x.args.length xac), (I6 x.mn), (I6 x.mx), (.bool x.neg)]) rfl zAb zAH rfl (hus.ext E)) ?_
          refine zAi (v := (.agg (R6 x xsa xsc xaa xac))) (c := (R6 x xsa xsc xaa xac)) (n := 6) (by decide) zAs rfl zAH rfl rfl rfl (by simp [Value.oneCell']) ?_
          intro bz wz Nz
          have Fz := Nz.ge E
          have Oz_br := Nz.lt Br
          replace Br := Nz.keep Br
          replace hownd := zBE hownd Nz.ext
          replace hbsd := Nat.le_trans hbsd Nz.ext.size
          replace E := E.ext Nz.ext
          have Bz := Nz.blk
          refine zAB (zAW ?_)
          refine qM (.slice da d dc) rfl ?_
          refine qV (zAG (vs := [(I6 x.kind), (.slice xsa x.set.length xsc), (.slice xaa x.args.length xac), (I6 x.mn), (I6 x.mx), (.bool x.neg)]) rfl zAb zAH rfl (Bz.cells rfl)) ?_
          refine zAL rfl rfl (by decide) (zAT (vs := [(.agg (R6 x xsa xsc xaa xac))]) Tryz.func187 zQM zQv rfl) (ih x _ _ (by omega) (by omega) (zBC.ext E x hxt0)) ?_
          rintro _ w9 ⟨⟨ca, cc, rfl, hI⟩, X9⟩
          replace Br := X9.keep Br
          replace Bz := X9.keep Bz
          replace hownd := zBE hownd X9
          replace hbsd := Nat.le_trans hbsd X9.size
          replace E := E.ext X9
          refine zJX (base := base) (n := d) (m := ((zCX x).length)) (xs := ((zEv t j).map (Value.int .i64))) (news := (zCX x).map (Value.int .i64)) (size := 1) (bytes := 8) (v := (.slice da d dc)) (by decide) Tryz.underlying26 zAw byt3 zJN rfl (by decide) rfl hownd rfl (by simp) (zON hI) (by simp [Value.oneCell']) (by unfold maxLen; omega) (by omega) (hbsd) ?_
          intro v7 w27 Ov7 Cv7 Dv7
          replace Br := Cv7.keep (fun h => by have := (hownd.lt _ h).1; omega) Br
          replace E := E.step Cv7 (fun x hx h => absurd (hownd.lt x h).1 (by omega))
          obtain ⟨da2, dc2, rfl⟩ := zBY Ov7
          refine qA (.slice da2 (d + (zCX x).length) dc2) rfl ?_
          refine zAB (zAU (zAC (zAW ?_)))
          refine qV (zBQ (k := .i64) (a := (j : Int)) (b := 1) (c := (j : Int) + 1) rfl rfl (zBs (by omega))) ?_
          refine qM (I6 ((j : Int) + 1)) rfl ?_
          refine zAB (zAC ?_)
          exact ⟨t.args.length - (j + 1), by omega, j + 1, da2, dc2, d + (zCX x).length, zBG.out ⟨rfl, rfl, rfl, rfl, trivial⟩, E, Br, (by omega), (by rw [zFi hx, List.length_append, hd]), (by rw [zFi hx, List.map_append]; exact Ov7), Nat.le_trans hbsd Cv7.size, rfl⟩
        · have khlt2 := hlt2
          replace hlt2 := of_decide_eq_false hlt2
          have hjj : j = t.args.length := by omega
          rw [hjj] at hownd hd
          have hle := zHy t t.args.length
          refine zBB (zAe (zAe (zAr (zAC (zAA ?_)))))
          refine qM (.slice da d dc) rfl ?_
          refine zAu (ps := [(0, (I6 (-1)))]) (c := #[(I6 (-1))]) (by decide) rfl Tryz.underlying26 zAw zJN (by decide) (by decide) (by kernel_rfl) ?_
          intro bg wg Ng
          have Fg := Ng.ge E
          have Og_br := Ng.lt Br
          replace Br := Ng.keep Br
          replace hownd := zBE hownd Ng.ext
          replace hbsd := Nat.le_trans hbsd Ng.ext.size
          replace E := E.ext Ng.ext
          have Bg := Ng.blk
          refine zBh (base := base) (n := d) (m := 1) (xs := ((zEv t t.args.length).map (Value.int .i64))) (news := [(I6 (-1))]) (size := 1) (bytes := 8) (v := (.slice da d dc)) (by decide) Tryz.underlying26 zAw byt3 zJN rfl (by decide) rfl hownd rfl (rfl) (Bg.cells rfl) (by simp [Value.oneCell']) (by unfold maxLen; omega) (by omega) (hbsd) ?_
          intro v6 w26 Ov6 Cv6 Dv6
          replace Br := Cv6.keep (fun h => by have := (hownd.lt _ h).1; omega) Br
          replace E := E.step Cv6 (fun x hx h => absurd (hownd.lt x h).1 (by omega))
          obtain ⟨la4, lc4, rfl⟩ := zBY Ov6
          refine qA (.slice la4 (d + 1) lc4) rfl ?_
          refine zAB (zAQ ?_)
          refine zAS Tryz.results187 (v := (.slice la4 (d + 1) lc4)) rfl ?_
          have hcl : (zCX t).length = d + 1 := by rw [zGj t, List.length_append, hd]; rfl
          refine ⟨⟨la4, lc4, by rw [hcl], zMX (base := base) (n := d + 1) ?_ hcl.symm⟩, E⟩
          rw [zGj t, List.map_append]
          exact Ov6
theorem cmpC_r (l : List Int) : zGs l [] = l.length := by cases l <;> simp [zGs]
theorem cmpC_l (l : List Int) : zGs [] l = 0 - (l.length : Int) := by simp [zGs]
set_option maxHeartbeats 2000000 in
theorem zLD (w0 : World) (t u : Re) (vs us : List Value) (ht : zBC w0 t vs) (hu : zBC w0 u us) (hLt : (zCX t).length ≤ 100000000) (hLu : (zCX u).length ≤ 100000000) :
  Ret Tryz.prog 171 #[.agg vs.toArray, .agg us.toArray] w0 fun v w => v = .int .i64 (zGs (zCX t) (zCX u)) ∧ Ext w0 w := by
 have ht0 := ht
 have hu0 := hu
 obtain ⟨sa, sc, aa, ac, rfl, _, _, _⟩ := ht.form
 obtain ⟨sa2, sc2, aa2, ac2, rfl, _, _, _⟩ := hu.form
 obtain ⟨A, hA⟩ : ∃ A, A = zCX t := ⟨_, rfl⟩
 obtain ⟨B, hB⟩ : ∃ B, B = zCX u := ⟨_, rfl⟩
 rw [← hA, ← hB]
 rw [← hA] at hLt
 rw [← hB] at hLu
 refine zAk Tryz.func171 rfl Tryz.ntmps171 (Nat.le_of_ble_eq_true rfl) ?_
 have E : Chg zAh w0 w0 := Chg.refl _ _
 refine zAA ?_
 refine zBL (v := (.agg (R6 t sa sc aa ac))) (c := (R6 t sa sc aa ac)) (by decide) rfl rfl ?_
 intro br wr Nr
 have Fr := Nr.ge E
 replace E := E.ext Nr.ext
 have Br := Nr.blk
 refine zBL (v := (.agg (R6 u sa2 sc2 aa2 ac2))) (c := (R6 u sa2 sc2 aa2 ac2)) (by decide) rfl rfl ?_
 intro bp wp Np
 have Fp := Np.ge E
 have Op_br := Np.lt Br
 replace Br := Np.keep Br
 replace E := E.ext Np.ext
 have Bp := Np.blk
 refine qA (I6 0) rfl ?_
 refine zAB (zAP ?_)
 obtain ⟨Fs1, hFs1⟩ : ∃ Fs : List Fact, Fs = [.eq (.agg (R6 t sa sc aa ac)), .gen (ciG A) (zES _), .eq (.agg (R6 u sa2 sc2 aa2 ac2)), .gen (ciG B) (zES _), .gen (ciG A) (zES _), .gen (ciG B) (zES _)] := ⟨_, rfl⟩
 refine zEF [8, 9, 10, 11, 5, 6] [[], [0], [], [1, 2], [0, 1, 3], [0, 1, 2, 3, 4]] Fs1 hFs1 mixed (by kernel_rfl) (by kernel_rfl) ?_ ?_
 ·intro wd X0
  refine DagSteps.cons (fun s' w' X U H => Or.inl ⟨?_, ?_⟩) ?_
  ·exact zAE rfl
  ·exact zAJ (zAG (vs := [(I6 t.kind), (.slice sa t.set.length sc), (.slice aa t.args.length ac), (I6 t.mn), (I6 t.mx), (.bool t.neg)]) (U 2 rfl) zAb zAH rfl (((X0.trans X).keep Br).cells rfl)) (Ext.refl _) rfl
  refine DagSteps.cons (fun s' w' X U H => Or.inl ⟨?_, ?_⟩) ?_
  ·exact zAE rfl
  ·have e8 : s' 8 = (.agg #[(.int .i64 t.kind), (.slice sa t.set.length sc), (.slice aa t.args.length ac), (.int .i64 t.mn), (.int .i64 t.mx), (.bool t.neg)]) := H 0 rfl 8 (.eq (.agg #[(.int .i64 t.kind), (.slice sa t.set.length sc), (.slice aa t.args.length ac), (.int .i64 t.mn), (.int .i64 t.mx), (.bool t.neg)])) rfl (by rw [hFs1]; rfl)
   exact zAp (zAT (vs := [(.agg (R6 t sa sc aa ac))]) Tryz.func187 zQM zQv (zLg e8)) ((zPR t.size t _ _ (Nat.le_refl _) (by rw [← hA]; exact hLt) (zBC.ext (Ext.trans E (X0.trans X)) t ht0)).mono (fun v w h => by rw [hA]; exact h))
  refine DagSteps.cons (fun s' w' X U H => Or.inl ⟨?_, ?_⟩) ?_
  ·exact zAE rfl
  ·exact zAJ (zAG (vs := [(I6 u.kind), (.slice sa2 u.set.length sc2), (.slice aa2 u.args.length ac2), (I6 u.mn), (I6 u.mx), (.bool u.neg)]) (U 3 rfl) zAb zAH rfl (((X0.trans X).keep Bp).cells rfl)) (Ext.refl _) rfl
  refine DagSteps.cons (fun s' w' X U H => Or.inl ⟨?_, ?_⟩) ?_
  ·exact zAE rfl
  ·have e10 : s' 10 = (.agg #[(.int .i64 u.kind), (.slice sa2 u.set.length sc2), (.slice aa2 u.args.length ac2), (.int .i64 u.mn), (.int .i64 u.mx), (.bool u.neg)]) := H 2 rfl 10 (.eq (.agg #[(.int .i64 u.kind), (.slice sa2 u.set.length sc2), (.slice aa2 u.args.length ac2), (.int .i64 u.mn), (.int .i64 u.mx), (.bool u.neg)])) rfl (by rw [hFs1]; rfl)
   exact zAp (zAT (vs := [(.agg (R6 u sa2 sc2 aa2 ac2))]) Tryz.func187 zQM zQv (zLg e10)) ((zPR u.size u _ _ (Nat.le_refl _) (by rw [← hB]; exact hLu) (zBC.ext (Ext.trans E (X0.trans X)) u hu0)).mono (fun v w h => by rw [hB]; exact h))
  refine DagSteps.cons (fun s' w' X U H => Or.inl ⟨?_, ?_⟩) ?_
  ·exact zAE rfl
  ·exact zAJ (zDf (v := s' 9) rfl) (Ext.refl _) (H 1 rfl 9 (.gen (ciG A) (zES _)) rfl (by rw [hFs1]; rfl))
  refine DagSteps.cons (fun s' w' X U H => Or.inl ⟨?_, ?_⟩) ?_
  ·exact zAE rfl
  ·exact zAJ (zDf (v := s' 11) rfl) (Ext.refl _) (H 3 rfl 11 (.gen (ciG B) (zES _)) rfl (by rw [hFs1]; rfl))
  exact DagSteps.nil
 intro s' w1 X1 U H
 obtain ⟨a5, c5, e5, i5⟩ := H 4 5 (.gen (ciG A) (zES _)) rfl (by rw [hFs1]; rfl)
 obtain ⟨a6, c6, e6, i6⟩ := H 5 6 (.gen (ciG B) (zES _)) rfl (by rw [hFs1]; rfl)
 obtain ⟨j1, rfl⟩ := zBG.out (σ := s') (l := [(5, (.slice a5 A.length c5)), (6, (.slice a6 B.length c6))]) ⟨e5, e6, trivial⟩
 clear U H
 replace Br := X1.keep Br
 replace Bp := X1.keep Bp
 replace E := E.ext X1
 have E2 : Chg zAh w1 w1 := Chg.refl _ _
 refine zAC (zAP (zAA ?_))
 refine qA (I6 0) rfl ?_
 refine zAB (zAZ ?_)
 refine zBA (fun nn_ σ W2 => ∃ (k : Nat), (∃ jj_, σ = zCl jj_ [(5, (.slice a5 A.length c5)), (6, (.slice a6 B.length c6)), (7, (I6 (k : Int)))]) ∧ Chg zAh w0 W2 ∧ Chg zAh w1 W2 ∧ Blk W2 br (R6 t sa sc aa ac) 25 ∧ Blk W2 bp (R6 u sa2 sc2 aa2 ac2) 25 ∧ (k ≤ A.length ∧ k ≤ B.length) ∧ (zGs A B = zGs (A.drop k) (B.drop k)) ∧ nn_ = A.length - k) (n := A.length - 0) ?_ ?_
 ·exact ⟨0, zBG.out ⟨rfl, rfl, rfl, trivial⟩, E, E2, Br, Bp, ⟨Nat.zero_le _, Nat.zero_le _⟩, rfl, rfl⟩
 clear E E2 Br Bp
 rintro _ _ W2 ⟨k, ⟨j2, rfl⟩, E, E2, Br, Bp, hk, hp, rfl⟩
 refine zAP (zAA ?_)
 refine qM (I6 (k : Int)) rfl ?_
 refine qM (.slice a5 A.length c5) rfl ?_
 refine qV (zAV (ad := a5) (n := A.length) (cap := c5) Tryz.underlying26 rfl) ?_
 refine qV (zBS (k := .i64) (a := (k : Int)) (b := (A.length : Int)) rfl rfl) ?_
 refine qM (.bool (decide (((k : Int) : Int) < (A.length : Int)))) rfl ?_
 rcases Bool.eq_false_or_eq_true (decide ((((k : Nat) : Int) : Int) < ((A.length : Nat) : Int))) with g1 | g1
 ·have kg1 := g1
  replace kg1 := of_decide_eq_true kg1
  refine zAF (oj := _) rfl rfl (by decide) (congrArg Value.bool g1) ?_
  refine qM (I6 (k : Int)) rfl ?_
  refine zAF (oj := _) rfl rfl (by decide) (congrArg Value.bool g1) ?_
  refine qM (.slice a6 B.length c6) rfl ?_
  refine zAF (oj := _) rfl rfl (by decide) (congrArg Value.bool g1) ?_
  refine qV (zAV (ad := a6) (n := B.length) (cap := c6) Tryz.underlying26 rfl) ?_
  refine zAF (oj := _) rfl rfl (by decide) (congrArg Value.bool g1) ?_
  refine qV (zBS (k := .i64) (a := (k : Int)) (b := (B.length : Int)) rfl rfl) ?_
  refine qV (zAd (b := decide (((k : Int) : Int) < (A.length : Int))) (v := (.bool (decide (((k : Int) : Int) < (B.length : Int))))) rfl (by rw [g1]; rfl)) ?_
  refine zAB ?_
  refine zAM (b := decide (((k : Int) : Int) < (B.length : Int))) rfl (fun g2 => ?_) (fun g2 => ?_)
  ·have kg2 := g2
   replace g2 := of_decide_eq_true g2
   obtain ⟨x, hx⟩ := zAa (l := A) (i := k) (by omega)
   obtain ⟨y, hy⟩ := zAa (l := B) (i := k) (by omega)
   obtain ⟨xb, xo, rfl, hxc⟩ := zBv (n := A.length) i5 (by omega)
   obtain ⟨yb, yo, rfl, hyc⟩ := zBv (n := B.length) i6 (by omega)
   have hdx := zBP hx
   have hdy := zBP hy
   refine zAR (zAC (zAP (zAZ (zAP ?_))))
   obtain ⟨Fs5, hFs5⟩ : ∃ Fs : List Fact, Fs = [.eq (.slice (some ⟨xb, xo, none⟩) A.length c5), .eq (I6 (k : Int)), .eq (.pointer (some ⟨xb, xo + k, none⟩)), .eq (I6 x), .eq (.slice (some ⟨yb, yo, none⟩) B.length c6), .eq (I6 (k : Int)), .eq (.pointer (some ⟨yb, yo + k, none⟩)), .eq (I6 y), .eq (.bool (decide (x ≠ y)))] := ⟨_, rfl⟩
   refine zEF [24, 25, 26, 27, 28, 29, 30, 31, 32] [[], [], [0, 1], [2], [], [], [4, 5], [6], [3, 7]] Fs5 hFs5 mixed (by kernel_rfl) (by kernel_rfl) ?_ ?_
   ·intro wd X0
    refine DagSteps.cons (fun s' w' X U H => Or.inl ⟨?_, ?_⟩) ?_
    ·exact zAE rfl
    ·exact zAJ (zAn (v := (.slice (some ⟨xb, xo, none⟩) A.length c5)) (U 5 rfl)) (Ext.refl _) rfl
    refine DagSteps.cons (fun s' w' X U H => Or.inl ⟨?_, ?_⟩) ?_
    ·exact zAE rfl
    ·exact zAJ (zAn (v := (I6 (k : Int))) (U 7 rfl)) (Ext.refl _) rfl
    refine DagSteps.cons (fun s' w' X U H => Or.inl ⟨?_, ?_⟩) ?_
    ·exact zAE rfl
    ·have e24 : s' 24 = (.slice (some ⟨xb, xo, none⟩) A.length c5) := H 0 rfl 24 (.eq (.slice (some ⟨xb, xo, none⟩) A.length c5)) rfl (by rw [hFs5]; rfl)
     have e25 : s' 25 = (.int .i64 ((k : Nat) : Int)) := H 1 rfl 25 (.eq (.int .i64 ((k : Nat) : Int))) rfl (by rw [hFs5]; rfl)
     exact zAJ (zAO (b := xb) (o := xo) (len := A.length) (cap := c5) (i := k) (o' := xo + k) e24 e25 rfl Tryz.underlying26 zAw (by omega) (by omega)) (Ext.refl _) rfl
    refine DagSteps.cons (fun s' w' X U H => Or.inl ⟨?_, ?_⟩) ?_
    ·exact zAE rfl
    ·have e26 : s' 26 = (.pointer (some ⟨xb, xo + k, none⟩)) := H 2 rfl 26 (.eq (.pointer (some ⟨xb, xo + k, none⟩))) rfl (by rw [hFs5]; rfl)
     exact zAJ (zAK (v := (I6 x)) e26 zAf (Ext.cell (Ext.trans E2 (X0.trans X)) (hxc k x hx))) (Ext.refl _) rfl
    refine DagSteps.cons (fun s' w' X U H => Or.inl ⟨?_, ?_⟩) ?_
    ·exact zAE rfl
    ·exact zAJ (zAn (v := (.slice (some ⟨yb, yo, none⟩) B.length c6)) (U 6 rfl)) (Ext.refl _) rfl
    refine DagSteps.cons (fun s' w' X U H => Or.inl ⟨?_, ?_⟩) ?_
    ·exact zAE rfl
    ·exact zAJ (zAn (v := (I6 (k : Int))) (U 7 rfl)) (Ext.refl _) rfl
    refine DagSteps.cons (fun s' w' X U H => Or.inl ⟨?_, ?_⟩) ?_
    ·exact zAE rfl
    ·have e28 : s' 28 = (.slice (some ⟨yb, yo, none⟩) B.length c6) := H 4 rfl 28 (.eq (.slice (some ⟨yb, yo, none⟩) B.length c6)) rfl (by rw [hFs5]; rfl)
     have e29 : s' 29 = (.int .i64 ((k : Nat) : Int)) := H 5 rfl 29 (.eq (.int .i64 ((k : Nat) : Int))) rfl (by rw [hFs5]; rfl)
     exact zAJ (zAO (b := yb) (o := yo) (len := B.length) (cap := c6) (i := k) (o' := yo + k) e28 e29 rfl Tryz.underlying26 zAw (by omega) (by omega)) (Ext.refl _) rfl
    refine DagSteps.cons (fun s' w' X U H => Or.inl ⟨?_, ?_⟩) ?_
    ·exact zAE rfl
    ·have e30 : s' 30 = (.pointer (some ⟨yb, yo + k, none⟩)) := H 6 rfl 30 (.eq (.pointer (some ⟨yb, yo + k, none⟩))) rfl (by rw [hFs5]; rfl)
     exact zAJ (zAK (v := (I6 y)) e30 zAf (Ext.cell (Ext.trans E2 (X0.trans X)) (hyc k y hy))) (Ext.refl _) rfl
    refine DagSteps.cons (fun s' w' X U H => Or.inl ⟨?_, ?_⟩) ?_
    ·exact zAE rfl
    ·have e27 : s' 27 = (.int .i64 x) := H 3 rfl 27 (.eq (.int .i64 x)) rfl (by rw [hFs5]; rfl)
     have e31 : s' 31 = (.int .i64 y) := H 7 rfl 31 (.eq (.int .i64 y)) rfl (by rw [hFs5]; rfl)
     exact zAJ (zBz (k := .i64) (a := x) (b := y) e27 e31) (Ext.refl _) rfl
    exact DagSteps.nil
   intro s' w5 X5 U H
   obtain ⟨j5, rfl⟩ := zBG.out (σ := s') (l := [(5, (.slice (some ⟨xb, xo, none⟩) A.length c5)), (6, (.slice (some ⟨yb, yo, none⟩) B.length c6)), (7, (.int .i64 ((k : Nat) : Int))), (32, (.bool (decide (x ≠ y))))]) ⟨U 5 rfl, U 6 rfl, U 7 rfl, (show s' 32 = (.bool (decide (x ≠ y))) from H 8 32 (.eq (.bool (decide (x ≠ y)))) rfl (by rw [hFs5]; rfl)), trivial⟩
   clear U H
   replace Br := X5.keep Br
   replace Bp := X5.keep Bp
   replace E := E.ext X5
   replace E2 := E2.ext X5
   refine zAC ?_
   refine zAM (b := decide (x ≠ y)) rfl (fun hne => ?_) (fun hne => ?_)
   ·have khne := hne
    replace hne := of_decide_eq_true hne
    refine zAP (zAP ?_)
    obtain ⟨Fs7, hFs7⟩ : ∃ Fs : List Fact, Fs = [.eq (.slice (some ⟨xb, xo, none⟩) A.length c5), .eq (I6 (k : Int)), .eq (.pointer (some ⟨xb, xo + k, none⟩)), .eq (I6 x), .eq (.slice (some ⟨yb, yo, none⟩) B.length c6), .eq (I6 (k : Int)), .eq (.pointer (some ⟨yb, yo + k, none⟩)), .eq (I6 y), .eq (.bool (decide (x < y)))] := ⟨_, rfl⟩
    refine zEF [33, 34, 35, 36, 37, 38, 39, 40, 41] [[], [], [0, 1], [2], [], [], [4, 5], [6], [3, 7]] Fs7 hFs7 mixed (by kernel_rfl) (by kernel_rfl) ?_ ?_
    ·intro wd X0
     refine DagSteps.cons (fun s' w' X U H => Or.inl ⟨?_, ?_⟩) ?_
     ·exact zAE rfl
     ·exact zAJ (zAn (v := (.slice (some ⟨xb, xo, none⟩) A.length c5)) (U 5 rfl)) (Ext.refl _) rfl
     refine DagSteps.cons (fun s' w' X U H => Or.inl ⟨?_, ?_⟩) ?_
     ·exact zAE rfl
     ·exact zAJ (zAn (v := (I6 (k : Int))) (U 7 rfl)) (Ext.refl _) rfl
     refine DagSteps.cons (fun s' w' X U H => Or.inl ⟨?_, ?_⟩) ?_
     ·exact zAE rfl
     ·have e33 : s' 33 = (.slice (some ⟨xb, xo, none⟩) A.length c5) := H 0 rfl 33 (.eq (.slice (some ⟨xb, xo, none⟩) A.length c5)) rfl (by rw [hFs7]; rfl)
      have e34 : s' 34 = (.int .i64 ((k : Nat) : Int)) := H 1 rfl 34 (.eq (.int .i64 ((k : Nat) : Int))) rfl (by rw [hFs7]; rfl)
      exact zAJ (zAO (b := xb) (o := xo) (len := A.length) (cap := c5) (i := k) (o' := xo + k) e33 e34 rfl Tryz.underlying26 zAw (by omega) (by omega)) (Ext.refl _) rfl
     refine DagSteps.cons (fun s' w' X U H => Or.inl ⟨?_, ?_⟩) ?_
     ·exact zAE rfl
     ·have e35 : s' 35 = (.pointer (some ⟨xb, xo + k, none⟩)) := H 2 rfl 35 (.eq (.pointer (some ⟨xb, xo + k, none⟩))) rfl (by rw [hFs7]; rfl)
      exact zAJ (zAK (v := (I6 x)) e35 zAf (Ext.cell (Ext.trans E2 (X0.trans X)) (hxc k x hx))) (Ext.refl _) rfl
     refine DagSteps.cons (fun s' w' X U H => Or.inl ⟨?_, ?_⟩) ?_
     ·exact zAE rfl
     ·exact zAJ (zAn (v := (.slice (some ⟨yb, yo, none⟩) B.length c6)) (U 6 rfl)) (Ext.refl _) rfl
     refine DagSteps.cons (fun s' w' X U H => Or.inl ⟨?_, ?_⟩) ?_
     ·exact zAE rfl
     ·exact zAJ (zAn (v := (I6 (k : Int))) (U 7 rfl)) (Ext.refl _) rfl
     refine DagSteps.cons (fun s' w' X U H => Or.inl ⟨?_, ?_⟩) ?_
     ·exact zAE rfl
     ·have e37 : s' 37 = (.slice (some ⟨yb, yo, none⟩) B.length c6) := H 4 rfl 37 (.eq (.slice (some ⟨yb, yo, none⟩) B.length c6)) rfl (by rw [hFs7]; rfl)
      have e38 : s' 38 = (.int .i64 ((k : Nat) : Int)) := H 5 rfl 38 (.eq (.int .i64 ((k : Nat) : Int))) rfl (by rw [hFs7]; rfl)
      exact zAJ (zAO (b := yb) (o := yo) (len := B.length) (cap := c6) (i := k) (o' := yo + k) e37 e38 rfl Tryz.underlying26 zAw (by omega) (by omega)) (Ext.refl _) rfl
     refine DagSteps.cons (fun s' w' X U H => Or.inl ⟨?_, ?_⟩) ?_
     ·exact zAE rfl
     ·have e39 : s' 39 = (.pointer (some ⟨yb, yo + k, none⟩)) := H 6 rfl 39 (.eq (.pointer (some ⟨yb, yo + k, none⟩))) rfl (by rw [hFs7]; rfl)
      exact zAJ (zAK (v := (I6 y)) e39 zAf (Ext.cell (Ext.trans E2 (X0.trans X)) (hyc k y hy))) (Ext.refl _) rfl
     refine DagSteps.cons (fun s' w' X U H => Or.inl ⟨?_, ?_⟩) ?_
     ·exact zAE rfl
     ·have e36 : s' 36 = (.int .i64 x) := H 3 rfl 36 (.eq (.int .i64 x)) rfl (by rw [hFs7]; rfl)
      have e40 : s' 40 = (.int .i64 y) := H 7 rfl 40 (.eq (.int .i64 y)) rfl (by rw [hFs7]; rfl)
      exact zAJ (zBS (k := .i64) (a := x) (b := y) e36 e40) (Ext.refl _) rfl
     exact DagSteps.nil
    intro s' w7 X7 U H
    obtain ⟨j7, rfl⟩ := zBG.out (σ := s') (l := [(41, (.bool (decide (x < y))))]) ⟨(show s' 41 = (.bool (decide (x < y))) from H 8 41 (.eq (.bool (decide (x < y)))) rfl (by rw [hFs7]; rfl)), trivial⟩
    clear U H
    replace Br := X7.keep Br
    replace Bp := X7.keep Bp
    replace E := E.ext X7
    replace E2 := E2.ext X7
    refine zAC ?_
    refine zAM (b := decide (x < y)) rfl (fun hxy => ?_) (fun hxy => ?_)
    ·have khxy := hxy
     replace hxy := of_decide_eq_true hxy
     refine zAA ?_
     refine qA (I6 (-1)) rfl ?_
     refine zAB (zAQ (zAI (zAY (zAI (zAI (zAY (zAI ?_)))))))
     refine zAS Tryz.results171 (v := (.int .i64 (-1))) rfl ?_
     exact ⟨zBF (by rw [hp, hdx, hdy]; simp only [zGs]; rw [if_neg (by simpa using hne), if_pos hxy]), E⟩
    have khxy := hxy
    replace hxy := of_decide_eq_false hxy
    refine zAR (zAC (zAA ?_))
    refine qA (I6 1) rfl ?_
    refine zAB (zAQ (zAY (zAI (zAI (zAY (zAI ?_))))))
    refine zAS Tryz.results171 (v := (.int .i64 1)) rfl ?_
    exact ⟨zBF (by rw [hp, hdx, hdy]; simp only [zGs]; rw [if_neg (by simpa using hne), if_neg hxy]), E⟩
   have khne := hne
   replace hne := of_decide_eq_false hne
   refine zAR (zAU (zAC (zAW ?_)))
   refine qM (I6 (k : Int)) rfl ?_
   refine qV (zBQ (k := .i64) (a := (k : Int)) (b := 1) (c := (k : Int) + 1) rfl rfl (zBs (by omega))) ?_
   refine qA (I6 ((k : Int) + 1)) rfl ?_
   refine zAB (zAC ?_)
   exact ⟨A.length - (k + 1), by omega, k + 1, zBG.out ⟨rfl, rfl, rfl, trivial⟩, E, E2, Br, Bp, ⟨by omega, by omega⟩, (by rw [hp, hdx, hdy]; simp only [zGs]; rw [if_pos (by simpa using hne)]), rfl⟩
  have kg2 := g2
  replace g2 := of_decide_eq_false g2
  have hkb : k = B.length := by omega
  refine zBB (zAe (zAe (zAr (zAC (zAA ?_)))))
  refine qM (.slice a5 A.length c5) rfl ?_
  refine qV (zAV (ad := a5) (n := A.length) (cap := c5) Tryz.underlying26 rfl) ?_
  refine qM (.slice a6 B.length c6) rfl ?_
  refine qV (zAV (ad := a6) (n := B.length) (cap := c6) Tryz.underlying26 rfl) ?_
  refine qV (zEh (k := .i64) (a := (A.length : Int)) (b := (B.length : Int)) (c := (A.length : Int) - (B.length : Int)) rfl rfl (zBs (by omega))) ?_
  refine qA (I6 ((A.length : Int) - (B.length : Int))) rfl ?_
  refine zAB (zAQ ?_)
  refine zAS Tryz.results171 (v := (.int .i64 (((A.length : Nat) : Int) - ((B.length : Nat) : Int)))) rfl ?_
  exact ⟨zBF (by rw [hp, hkb, List.drop_length, cmpC_r, List.length_drop]; omega), E⟩
 have kg1 := g1
 replace kg1 := of_decide_eq_false kg1
 have hka : k = A.length := by omega
 refine zAD (oj := _) rfl rfl (by decide) (v := .bool false) (congrArg Value.bool g1) (Or.inl rfl) ?_
 refine zAD (oj := _) rfl rfl (by decide) (v := .bool false) (congrArg Value.bool g1) (Or.inl rfl) ?_
 refine zAD (oj := _) rfl rfl (by decide) (v := .bool false) (congrArg Value.bool g1) (Or.inl rfl) ?_
 refine zAD (oj := _) rfl rfl (by decide) (v := .bool false) (congrArg Value.bool g1) (Or.inl rfl) ?_
 refine qV (zAd (b := decide (((k : Int) : Int) < (A.length : Int))) (v := (.bool false)) rfl (by rw [g1]; rfl)) ?_
 refine zAB ?_
 refine zAX rfl ?_
 refine zBB (zAe (zAe (zAr (zAC (zAA ?_)))))
 refine qM (.slice a5 A.length c5) rfl ?_
 refine qV (zAV (ad := a5) (n := A.length) (cap := c5) Tryz.underlying26 rfl) ?_
 refine qM (.slice a6 B.length c6) rfl ?_
 refine qV (zAV (ad := a6) (n := B.length) (cap := c6) Tryz.underlying26 rfl) ?_
 refine qV (zEh (k := .i64) (a := (A.length : Int)) (b := (B.length : Int)) (c := (A.length : Int) - (B.length : Int)) rfl rfl (zBs (by omega))) ?_
 refine qA (I6 ((A.length : Int) - (B.length : Int))) rfl ?_
 refine zAB (zAQ ?_)
 refine zAS Tryz.results171 (v := (.int .i64 (((A.length : Nat) : Int) - ((B.length : Nat) : Int)))) rfl ?_
 exact ⟨zBF (by rw [hp, hka, List.drop_length, cmpC_l, List.length_drop]; omega), E⟩
end Go.Proofs
namespace Go.Proofs
open Go Go.Eng
set_option maxRecDepth 100000
theorem zQY (s : Int × Int) (w0 : World) :
  Ret Tryz.prog 138 #[.agg #[.int .i64 s.1, .int .i64 s.2]] w0 fun v w => v = .bool (zDF s) ∧ Ext w0 w := by
 refine zAk Tryz.func138 rfl Tryz.ntmps138 (Nat.le_of_ble_eq_true rfl) ?_
 have E : Chg zAh w0 w0 := Chg.refl _ _
 refine zAA ?_
 refine zBL (v := (.agg #[(I6 s.1), (I6 s.2)])) (c := #[(I6 s.1), (I6 s.2)]) (by decide) rfl rfl ?_
 intro b1 w1 N1
 have F1 := N1.ge E
 replace E := E.ext N1.ext
 have B1 := N1.blk
 refine qA (.bool false) rfl ?_
 refine zAB (zAA ?_)
 refine qF b1 0 0 rfl Tryz.underlying103 rfl zAw rfl ?_
 refine qV (zAK (v := (I6 s.1)) rfl zAf (B1.cell rfl)) ?_
 obtain ⟨e2, he2⟩ : ∃ e, (decide ((0 : Int) ≤ s.1)) = e := ⟨_, rfl⟩
 refine qV ((zDu (k := .i64) (a := 0) (b := s.1) rfl rfl).trans (by rw [he2]; try rfl)) ?_
 refine qM (.bool e2) rfl ?_
 refine qG (.bool e2) (yU e2 (P6 b1 0)) (by cases e2 <;> first | exact gA | exact gB | exact .inl ⟨rfl, zAN (b := b1) (o := 0) (o' := 0) rfl Tryz.underlying103 rfl zAw rfl⟩) ?_
 refine qG (.bool e2) (yU e2 (I6 s.1)) (by cases e2 <;> first | exact gA | exact gB | exact .inl ⟨rfl, zAK (v := (I6 s.1)) rfl zAf (B1.cell rfl)⟩) ?_
 refine qG (.bool e2) (yU e2 (P6 b1 1)) (by cases e2 <;> first | exact gA | exact gB | exact .inl ⟨rfl, zAN (b := b1) (o := 0) (o' := 1) rfl Tryz.underlying103 rfl zAw rfl⟩) ?_
 refine qG (.bool e2) (yU e2 (I6 s.2)) (by cases e2 <;> first | exact gA | exact gB | exact .inl ⟨rfl, zAK (v := (I6 s.2)) rfl zAf (B1.cell rfl)⟩) ?_
 obtain ⟨e3, he3⟩ : ∃ e, (decide ((s.1 : Int) ≤ s.2)) = e := ⟨_, rfl⟩
 refine qG (.bool e2) (yU e2 (.bool e3)) (by cases e2 <;> first | exact gA | exact gB | exact .inl ⟨rfl, (zDu (k := .i64) (a := s.1) (b := s.2) rfl rfl).trans (by rw [he3]; try rfl)⟩) ?_
 obtain ⟨e4, he4⟩ : ∃ e, (e2 && e3) = e := ⟨_, rfl⟩
 refine qV (zAd (b := e2) (v := .bool e4) rfl (by rw [← he4]; cases e2 <;> rfl)) ?_
 refine qM (.bool e4) rfl ?_
 refine qG (.bool e4) (yU e4 (P6 b1 1)) (by cases e4 <;> first | exact gA | exact gB | exact .inl ⟨rfl, zAN (b := b1) (o := 0) (o' := 1) rfl Tryz.underlying103 rfl zAw rfl⟩) ?_
 refine qG (.bool e4) (yU e4 (I6 s.2)) (by cases e4 <;> first | exact gA | exact gB | exact .inl ⟨rfl, zAK (v := (I6 s.2)) rfl zAf (B1.cell rfl)⟩) ?_
 obtain ⟨e5, he5⟩ : ∃ e, (decide ((s.2 : Int) ≤ 1114111)) = e := ⟨_, rfl⟩
 refine qG (.bool e4) (yU e4 (.bool e5)) (by cases e4 <;> first | exact gA | exact gB | exact .inl ⟨rfl, (zDu (k := .i64) (a := s.2) (b := 1114111) rfl rfl).trans (by rw [he5]; try rfl)⟩) ?_
 obtain ⟨e6, he6⟩ : ∃ e, (e4 && e5) = e := ⟨_, rfl⟩
 refine qV (zAd (b := e4) (v := .bool e6) rfl (by rw [← he6]; cases e4 <;> rfl)) ?_
 refine qA (.bool e6) rfl ?_
 refine zAB ?_
 subst he6
 subst he5
 subst he4
 subst he3
 subst he2
 refine zAQ ?_
 refine zAS Tryz.results138 (v := (.bool (((decide ((0 : Int) ≤ s.1)) && (decide ((s.1 : Int) ≤ s.2))) && (decide ((s.2 : Int) ≤ 1114111))))) rfl ?_
 exact ⟨zAt (by unfold zDF; rfl), E⟩
theorem zQb : ∀ (l : List (Int × Int)), zDX none l = zDX (some (-2)) (l.drop 0)
  | [] => rfl
  | s :: r => by
    simp only [List.drop]
    rw [zCC, zCC]
    by_cases hv : zDF s = false
    · rw [if_pos hv, if_pos hv]
    · rw [if_neg hv, if_neg hv]
      have : ¬ s.1 < 0 := by simp [zDF] at hv; omega
      simp [this]
theorem zPP (w0 : World) (v : Value) (l : List (Int × Int)) (hs : zBZ w0 v l) :
  Ret Tryz.prog 83 #[v] w0 fun v w => v = .int .i64 (zBR l) ∧ Ext w0 w := by
 obtain ⟨a, c, rfl⟩ := zCA.form hs
 simp only [List.length_map] at hs ⊢
 refine zAk Tryz.func83 rfl Tryz.ntmps83 (Nat.le_of_ble_eq_true rfl) ?_
 have E : Chg zAh w0 w0 := Chg.refl _ _
 refine zAA ?_
 refine qA (I6 0) rfl ?_
 refine zAB (zAP (zAA ?_))
 refine qM (.slice a l.length c) rfl ?_
 refine qV (zAV (ad := a) (n := l.length) (cap := c) Tryz.underlying22 rfl) ?_
 refine qV (zCM (k := .i64) (a := (l.length : Int)) (b := 16) rfl rfl) ?_
 refine zAB ?_
 refine zAM (b := decide ((16 : Int) < (l.length : Int))) rfl (fun h16 => ?_) (fun h16 => ?_)
 ·have kh16 := h16
  replace h16 := of_decide_eq_true h16
  refine zAA ?_
  refine qA (I6 2) rfl ?_
  refine zAB (zAQ (zAI ?_))
  refine zAS Tryz.results83 (v := (.int .i64 2)) rfl ?_
  exact ⟨zBF (by unfold zBR; rw [if_pos (by omega)]), E⟩
 have kh16 := h16
 replace h16 := of_decide_eq_false h16
 have hE16 : zBR l = zDX none l := by unfold zBR; rw [if_neg (by omega)]
 rw [hE16]
 refine zAR (zAC (zAA ?_))
 refine qA (I6 (-2)) rfl ?_
 refine zAB (zAP (zAA ?_))
 refine qM (.slice a l.length c) rfl ?_
 refine qV (zAV (ad := a) (n := l.length) (cap := c) Tryz.underlying22 rfl) ?_
 refine qM (I6 0) rfl ?_
 refine zAB (zAZ ?_)
 refine zBA (fun nn_ σ W2 => ∃ (k : Nat) (p : Int), (∃ jj_, σ = zCl jj_ [(9, (.slice a l.length c)), (10, (I6 (l.length : Int))), (11, (I6 (k : Int))), (3, (I6 p))]) ∧ Chg zAh w0 W2 ∧ (k ≤ l.length) ∧ (-2 ≤ p ∧ p ≤ 1114111 ∧ (zDX none l = zDX (some p) (l.drop k))) ∧ nn_ = l.length - k) (n := l.length - 0) ?_ ?_
 ·exact ⟨0, -2, zBG.out ⟨rfl, rfl, rfl, rfl, trivial⟩, E, Nat.zero_le _, ⟨by omega, by omega, zQb l⟩, rfl⟩
 clear E
 rintro _ _ W2 ⟨k, p, ⟨j2, rfl⟩, E, hk, hp, rfl⟩
 refine zAA ?_
 refine qV (zBS (k := .i64) (a := (k : Int)) (b := (l.length : Int)) rfl rfl) ?_
 refine zAB (zAP ?_)
 refine zAM (b := decide (((k : Int) : Int) < (l.length : Int))) rfl (fun hlt => ?_) (fun hlt => ?_)
 ·have khlt := hlt
  replace hlt := of_decide_eq_true hlt
  obtain ⟨s, hx⟩ := zAa (l := l) (i := k) (by omega)
  obtain ⟨b, o, rfl, hcl⟩ := zBc hs (by omega)
  have hd := zBP hx
  refine zAR (zAC (zAP (zAZ (zAA ?_))))
  refine qV (zAO (b := b) (o := o) (len := l.length) (cap := c) (i := k) (o' := o + k * 2) rfl rfl rfl Tryz.underlying22 zBX (by omega) (by omega)) ?_
  refine qV (zAG (vs := [(I6 s.1), (I6 s.2)]) rfl zDG zBX rfl ((hcl k s hx).ext E)) ?_
  refine zAi (v := (.agg #[(I6 s.1), (I6 s.2)])) (c := #[(I6 s.1), (I6 s.2)]) (n := 2) (by decide) zEz rfl zBX rfl rfl rfl (by simp [Value.oneCell']) ?_
  intro b4 w4 N4
  have F4 := N4.ge E
  replace E := E.ext N4.ext
  have B4 := N4.blk
  refine zAB (zAP (zAA ?_))
  refine qV (zAG (vs := [(I6 s.1), (I6 s.2)]) rfl zDG zBX rfl (B4.cells rfl)) ?_
  refine zAL rfl rfl (by decide) (zAT (vs := [(.agg #[(I6 s.1), (I6 s.2)])]) Tryz.func138 nm138 bd138 rfl) (zQY s _) ?_
  rintro _ w9 ⟨rfl, X9⟩
  replace B4 := X9.keep B4
  replace E := E.ext X9
  refine qV (zCV (b := zDF s) rfl) ?_
  refine zAB ?_
  refine zAM (b := !(zDF s)) rfl (fun hv => ?_) (fun hv => ?_)
  ·have khv := hv
   replace hv := by simpa using hv
   refine zAA ?_
   refine qA (I6 1) rfl ?_
   refine zAB (zAQ (zAI (zAY (zAI (zAI (zAY (zAI ?_)))))))
   refine zAS Tryz.results83 (v := (.int .i64 1)) rfl ?_
   exact ⟨zBF (by rw [hp.2.2, hd, zCC, if_pos hv]), E⟩
  have khv := hv
  replace hv := by simpa using hv
  have hv2 : 0 ≤ s.1 ∧ s.1 ≤ s.2 ∧ s.2 ≤ 1114111 := by simp [zDF] at hv; omega
  refine zAR (zAC (zAP (zAA ?_)))
  refine qF b4 0 0 rfl Tryz.underlying103 rfl zAw rfl ?_
  refine qV (zAK (v := (I6 s.1)) rfl zAf (B4.cell rfl)) ?_
  refine qM (I6 p) rfl ?_
  refine qV (zBQ (k := .i64) (a := p) (b := 2) (c := p + 2) rfl rfl (zBs (by omega))) ?_
  refine qV (zBS (k := .i64) (a := s.1) (b := p + 2) rfl rfl) ?_
  refine zAB ?_
  refine zAM (b := decide ((s.1 : Int) < p + 2)) rfl (fun ho => ?_) (fun ho => ?_)
  ·have kho := ho
   replace ho := of_decide_eq_true ho
   refine zAA ?_
   refine qA (I6 3) rfl ?_
   refine zAB (zAQ (zAI (zAY (zAI (zAI (zAY (zAI ?_)))))))
   refine zAS Tryz.results83 (v := (.int .i64 3)) rfl ?_
   exact ⟨zBF (by rw [hp.2.2, hd, zCC, if_neg (by simp [hv]), if_pos (by simpa using ho)]), E⟩
  have kho := ho
  replace ho := of_decide_eq_false ho
  refine zAR (zAC (zAW ?_))
  refine qF b4 0 1 rfl Tryz.underlying103 rfl zAw rfl ?_
  refine qV (zAK (v := (I6 s.2)) rfl zAf (B4.cell rfl)) ?_
  refine qA (I6 s.2) rfl ?_
  refine zAB (zAU (zAC (zAW ?_)))
  refine qV (zBQ (k := .i64) (a := (k : Int)) (b := 1) (c := (k : Int) + 1) rfl rfl (zBs (by omega))) ?_
  refine qM (I6 ((k : Int) + 1)) rfl ?_
  refine zAB (zAC ?_)
  exact ⟨l.length - (k + 1), by omega, k + 1, s.2, zBG.out ⟨rfl, rfl, rfl, rfl, trivial⟩, E, (by omega), ⟨by omega, by omega, by rw [hp.2.2, hd, zCC, if_neg (by simp [hv]), if_neg (by simpa using ho)]⟩, rfl⟩
 have khlt := hlt
 replace hlt := of_decide_eq_false hlt
 have hkl : l.drop k = [] := List.drop_eq_nil_of_le (by omega)
 refine zBB (zAe (zAe (zAr (zAC (zAA ?_)))))
 refine qA (I6 0) rfl ?_
 refine zAB (zAQ ?_)
 refine zAS Tryz.results83 (v := (.int .i64 0)) rfl ?_
 exact ⟨zBF (by rw [hp.2.2, hkl]; rfl), E⟩
theorem zMu (w0 : World) (v : Value) (l : List (Int × Int)) (r : Int) (hs : zBZ w0 v l) :
  Ret Tryz.prog 85 #[v, .int .i64 r] w0 fun v w => v = .bool (inS l r) ∧ Ext w0 w := by
 obtain ⟨a, c, rfl⟩ := zCA.form hs
 have hle : l.length ≤ 9223372036854775807 := by simpa using zCA.le hs
 simp only [List.length_map] at hs ⊢
 refine zAk Tryz.func85 rfl Tryz.ntmps85 (Nat.le_of_ble_eq_true rfl) ?_
 have E : Chg zAh w0 w0 := Chg.refl _ _
 refine zAA ?_
 refine qA (.bool false) rfl ?_
 refine zAB (zAP (zAA ?_))
 refine qM (.slice a l.length c) rfl ?_
 refine qV (zAV (ad := a) (n := l.length) (cap := c) Tryz.underlying22 rfl) ?_
 refine qM (I6 0) rfl ?_
 refine zAB (zAZ ?_)
 refine zBA (fun nn_ σ W1 => ∃ (k : Nat), (∃ jj_, σ = zCl jj_ [(1, (I6 r)), (7, (.slice a l.length c)), (8, (I6 (l.length : Int))), (9, (I6 (k : Int)))]) ∧ Chg zAh w0 W1 ∧ (k ≤ l.length) ∧ (inS l r = inS (l.drop k) r) ∧ nn_ = l.length - k) (n := l.length - 0) ?_ ?_
 ·exact ⟨0, zBG.out ⟨rfl, rfl, rfl, rfl, trivial⟩, E, Nat.zero_le _, rfl, rfl⟩
 ·clear E
  rintro _ _ W1 ⟨k, ⟨j1, rfl⟩, E, hk, hp, rfl⟩
  refine zAA ?_
  refine qV (zBS (k := .i64) (a := (k : Int)) (b := (l.length : Int)) rfl rfl) ?_
  refine zAB (zAP ?_)
  refine zAM (b := decide (((k : Int) : Int) < (l.length : Int))) rfl (fun hlt => ?_) (fun hlt => ?_)
  ·have khlt := hlt
   replace hlt := of_decide_eq_true hlt
   obtain ⟨s, hx⟩ := zAa (l := l) (i := k) (by omega)
   obtain ⟨b, o, rfl, hcl⟩ := zBc hs (by omega)
   have hd := zBP hx
   refine zAR (zAC (zAP (zAZ (zAA ?_))))
   refine qV (zAO (b := b) (o := o) (len := l.length) (cap := c) (i := k) (o' := o + k * 2) rfl rfl rfl Tryz.underlying22 zBX (by omega) (by omega)) ?_
   refine qV (zAG (vs := [(I6 s.1), (I6 s.2)]) rfl zDG zBX rfl ((hcl k s hx).ext E)) ?_
   refine zAi (v := (.agg #[(I6 s.1), (I6 s.2)])) (c := #[(I6 s.1), (I6 s.2)]) (n := 2) (by decide) zEz rfl zBX rfl rfl rfl (by simp [Value.oneCell']) ?_
   intro b3 w3 N3
   have F3 := N3.ge E
   replace E := E.ext N3.ext
   have B3 := N3.blk
   refine zAB (zAA ?_)
   refine qF b3 0 0 rfl Tryz.underlying103 rfl zAw rfl ?_
   refine qV (zAK (v := (I6 s.1)) rfl zAf (B3.cell rfl)) ?_
   refine qM (I6 r) rfl ?_
   obtain ⟨e4, he4⟩ : ∃ e, (decide ((s.1 : Int) ≤ r)) = e := ⟨_, rfl⟩
   refine qV ((zDu (k := .i64) (a := s.1) (b := r) rfl rfl).trans (by rw [he4]; try rfl)) ?_
   refine qM (.bool e4) rfl ?_
   refine qG (.bool e4) (yU e4 (I6 r)) (by cases e4 <;> first | exact gA | exact gB | exact .inl ⟨rfl, zAn (v := (I6 r)) rfl⟩) ?_
   refine qG (.bool e4) (yU e4 (P6 b3 1)) (by cases e4 <;> first | exact gA | exact gB | exact .inl ⟨rfl, zAN (b := b3) (o := 0) (o' := 1) rfl Tryz.underlying103 rfl zAw rfl⟩) ?_
   refine qG (.bool e4) (yU e4 (I6 s.2)) (by cases e4 <;> first | exact gA | exact gB | exact .inl ⟨rfl, zAK (v := (I6 s.2)) rfl zAf (B3.cell rfl)⟩) ?_
   obtain ⟨e5, he5⟩ : ∃ e, (decide ((r : Int) ≤ s.2)) = e := ⟨_, rfl⟩
   refine qG (.bool e4) (yU e4 (.bool e5)) (by cases e4 <;> first | exact gA | exact gB | exact .inl ⟨rfl, (zDu (k := .i64) (a := r) (b := s.2) rfl rfl).trans (by rw [he5]; try rfl)⟩) ?_
   obtain ⟨e6, he6⟩ : ∃ e, (e4 && e5) = e := ⟨_, rfl⟩
   refine qV (zAd (b := e4) (v := .bool e6) rfl (by rw [← he6]; cases e4 <;> rfl)) ?_
   refine zAB ?_
   subst he6
   subst he5
   subst he4
   refine zAM (b := ((decide ((s.1 : Int) ≤ r)) && (decide ((r : Int) ≤ s.2)))) rfl (fun hv => ?_) (fun hv => ?_)
   ·have khv := hv
    refine zAA ?_
    refine qA (.bool true) rfl ?_
    refine zAB (zAQ (zAY (zAI (zAI (zAY (zAI ?_))))))
    refine zAS Tryz.results85 (v := (.bool true)) rfl ?_
    exact ⟨zAt (by rw [hp, hd]; unfold inS; rw [List.any_cons, hv]; rfl), E⟩
   ·have khv := hv
    refine zAR (zAU (zAC (zAW ?_)))
    refine qV (zBQ (k := .i64) (a := (k : Int)) (b := 1) (c := (k : Int) + 1) rfl rfl (zBs (by omega))) ?_
    refine qM (I6 ((k : Int) + 1)) rfl ?_
    refine zAB (zAC ?_)
    exact ⟨l.length - (k + 1), by omega, k + 1, zBG.out ⟨rfl, rfl, rfl, rfl, trivial⟩, E, (by omega), (by rw [hp, hd]; unfold inS; rw [List.any_cons, hv]; rfl), rfl⟩
  ·have khlt := hlt
   replace hlt := of_decide_eq_false hlt
   have hkl : l.drop k = [] := List.drop_eq_nil_of_le (by omega)
   refine zBB (zAe (zAe (zAr (zAC (zAA ?_)))))
   refine qA (.bool false) rfl ?_
   refine zAB (zAQ ?_)
   refine zAS Tryz.results85 (v := (.bool false)) rfl ?_
   exact ⟨zAt (by rw [hp, hkl]; rfl), E⟩
set_option maxHeartbeats 400000 in
theorem zPp (w0 : World) (v1 v2 : Value) (l1 l2 : List (Int × Int)) (h1 : zBZ w0 v1 l1) (h2 : zBZ w0 v2 l2) :
  Ret Tryz.prog 67 #[v1, v2] w0 fun v w => v = .bool (decide (l1 = l2)) ∧ Ext w0 w := by
 obtain ⟨a1, c1, rfl⟩ := zCA.form h1
 obtain ⟨a2, c2, rfl⟩ := zCA.form h2
 have hb1 : l1.length ≤ 9223372036854775807 := by simpa using zCA.le h1
 simp only [List.length_map] at h1 h2 ⊢
 refine zAk Tryz.func67 rfl Tryz.ntmps67 (Nat.le_of_ble_eq_true rfl) ?_
 have E : Chg zAh w0 w0 := Chg.refl _ _
 refine zAA ?_
 refine qA (.bool false) rfl ?_
 refine zAB (zAP (zAA ?_))
 refine qM (.slice a1 l1.length c1) rfl ?_
 refine qV (zAV (ad := a1) (n := l1.length) (cap := c1) Tryz.underlying22 rfl) ?_
 refine qM (.slice a2 l2.length c2) rfl ?_
 refine qV (zAV (ad := a2) (n := l2.length) (cap := c2) Tryz.underlying22 rfl) ?_
 refine qV (zBz (k := .i64) (a := (l1.length : Int)) (b := (l2.length : Int)) rfl rfl) ?_
 refine zAB ?_
 refine zAM (b := decide (((l1.length : Int) : Int) ≠ (l2.length : Int))) rfl (fun hl => ?_) (fun hl => ?_)
 ·have khl := hl
  replace hl := of_decide_eq_true hl
  refine zAA ?_
  refine qA (.bool false) rfl ?_
  refine zAB (zAQ (zAI ?_))
  refine zAS Tryz.results67 (v := (.bool false)) rfl ?_
  exact ⟨zAt (by symm; rw [decide_eq_false_iff_not]; intro h; rw [h] at hl; exact hl rfl), E⟩
 have khl := hl
 replace hl := of_decide_eq_false hl
 refine zAR (zAC (zAP (zAA ?_)))
 refine qM (.slice a1 l1.length c1) rfl ?_
 refine qV (zAV (ad := a1) (n := l1.length) (cap := c1) Tryz.underlying22 rfl) ?_
 refine qM (I6 0) rfl ?_
 refine zAB (zAZ ?_)
 refine zBA (fun nn_ σ W2 => ∃ (k : Nat), (∃ jj_, σ = zCl jj_ [(0, (.slice a1 l1.length c1)), (1, (.slice a2 l2.length c2)), (12, (I6 (l1.length : Int))), (13, (I6 (k : Int)))]) ∧ Chg zAh w0 W2 ∧ (k ≤ l1.length) ∧ (∀ (i : Nat), i < k → l1[i]? = l2[i]?) ∧ nn_ = l1.length - k) (n := l1.length - 0) ?_ ?_
 ·exact ⟨0, zBG.out ⟨rfl, rfl, rfl, rfl, trivial⟩, E, Nat.zero_le _, (fun i h => absurd h (Nat.not_lt_zero _)), rfl⟩
 clear E
 rintro _ _ W2 ⟨k, ⟨j2, rfl⟩, E, hk, heq, rfl⟩
 refine zAA ?_
 refine qV (zBS (k := .i64) (a := (k : Int)) (b := (l1.length : Int)) rfl rfl) ?_
 refine zAB (zAP ?_)
 refine zAM (b := decide (((k : Int) : Int) < (l1.length : Int))) rfl (fun hlt => ?_) (fun hlt => ?_)
 ·have khlt := hlt
  replace hlt := of_decide_eq_true hlt
  obtain ⟨p, hp⟩ := zAa (l := l1) (i := k) (by omega)
  obtain ⟨q, hq⟩ := zAa (l := l2) (i := k) (by omega)
  obtain ⟨b1, o1, rfl, hc1⟩ := zBc h1 (by omega)
  obtain ⟨b2, o2, rfl, hc2⟩ := zBc h2 (by omega)
  refine zAR (zAC (zAP (zAZ (zAA ?_))))
  refine qM (I6 (k : Int)) rfl ?_
  refine qA (I6 (k : Int)) rfl ?_
  refine zAB ?_
  refine zEw 8 mixed (by kernel_rfl) ?_
  intro w4 X4 _
  replace E := E.ext X4
  refine qT (zAn (v := (.slice (some ⟨b1, o1, none⟩) l1.length c1)) rfl) ?_
  refine qT (zAn (v := (I6 (k : Int))) rfl) ?_
  refine qT (zAO (b := b1) (o := o1) (len := l1.length) (cap := c1) (i := k) (o' := o1 + k * 2) rfl rfl rfl Tryz.underlying22 zBX (by omega) (by omega)) ?_
  refine qT (zAG (vs := [(I6 p.1), (I6 p.2)]) rfl zDG zBX rfl ((hc1 k p hp).ext E)) ?_
  refine qT (zAn (v := (.slice (some ⟨b2, o2, none⟩) l2.length c2)) rfl) ?_
  refine qT (zAn (v := (I6 (k : Int))) rfl) ?_
  refine qT (zAO (b := b2) (o := o2) (len := l2.length) (cap := c2) (i := k) (o' := o2 + k * 2) rfl rfl rfl Tryz.underlying22 zBX (by omega) (by omega)) ?_
  refine qT (zAG (vs := [(I6 q.1), (I6 q.2)]) rfl zDG zBX rfl ((hc2 k q hq).ext E)) ?_
  refine zIC ?_
  refine zCi (v := (.bool (!(decide (p.1 = q.1) && decide (p.2 = q.2))))) rfl rfl (by decide) (zIe zIQ Tryz.underlying103 (by decide) (by decide) rfl rfl rfl rfl Tryz.underlying3 zAf zNF rfl rfl) ?_
  refine zAB ?_
  refine zAM (b := !(decide (p.1 = q.1) && decide (p.2 = q.2))) rfl (fun hpq => ?_) (fun hpq => ?_)
  ·have khpq := hpq
   replace hpq := by simpa using hpq
   refine zAA ?_
   refine qA (.bool false) rfl ?_
   refine zAB (zAQ (zAY (zAI (zAI (zAY (zAI ?_))))))
   refine zAS Tryz.results67 (v := (.bool false)) rfl ?_
   exact ⟨zAt (by symm; rw [decide_eq_false_iff_not]; intro h; subst h; rw [hp] at hq; cases hq; simp at hpq), E⟩
  have khpq := hpq
  replace hpq := by simpa using hpq
  have hpq2 : p = q := by obtain ⟨p1, p2⟩ := p; obtain ⟨q1, q2⟩ := q; simp at hpq; simp; exact hpq
  refine zAR (zAU (zAC (zAW ?_)))
  refine qV (zBQ (k := .i64) (a := (k : Int)) (b := 1) (c := (k : Int) + 1) rfl rfl (zBs (by omega))) ?_
  refine qM (I6 ((k : Int) + 1)) rfl ?_
  refine zAB (zAC ?_)
  exact ⟨l1.length - (k + 1), by omega, k + 1, zBG.out ⟨rfl, rfl, rfl, rfl, trivial⟩, E, (by omega), (fun i hi => by rcases Nat.lt_or_ge i k with h | h; exact heq i h; obtain rfl : i = k := (by omega); rw [hp, hq, hpq2]), rfl⟩
 have khlt := hlt
 replace hlt := of_decide_eq_false hlt
 have hkk : k = l1.length := by omega
 refine zBB (zAe (zAe (zAr (zAC (zAA ?_)))))
 refine qA (.bool true) rfl ?_
 refine zAB (zAQ ?_)
 refine zAS Tryz.results67 (v := (.bool true)) rfl ?_
 exact ⟨zAt (by symm; rw [decide_eq_true_eq]; exact zHt (by omega) (fun i hi => heq i (by omega))), E⟩
end Go.Proofs
namespace Go.Proofs
open Go Go.Eng
instance (k : Int) : Decidable (isL k) := by unfold isL; infer_instance
end Go.Proofs
namespace Go.Proofs
open Go Go.Eng
set_option maxRecDepth 100000
set_option maxHeartbeats 2000000 in
theorem zHi : ∀ (n : Nat) (t u : Re) (w0 : World) (vs us : List Value), t.size ≤ n → zBC w0 t vs → zBC w0 u us →
    Ret Tryz.prog 15 #[.agg vs.toArray, .agg us.toArray] w0 fun v w => v = .bool (zBT t u) ∧ Ext w0 w := by
  intro n
  induction n with
  | zero => intro t u w0 vs us hn; have := t.size_pos; omega
  | succ n ih =>
  intro t u w0 vs us hn ht hu
  have ht0 := ht
  have hu0 := hu
  obtain ⟨sa, sc, aa, ac, rfl, hts, hac, _⟩ := ht.form
  obtain ⟨sa2, sc2, aa2, ac2, rfl, hus, hac2, _⟩ := hu.form
  have hF : zBT t u = (decide (t.kind = u.kind) && decide (t.set = u.set) && decide (t.mn = u.mn) && decide (t.mx = u.mx) && decide (t.neg = u.neg) && zDe t.args u.args) := zJy t u
  refine zAk Tryz.func15 rfl Tryz.ntmps15 (Nat.le_of_ble_eq_true rfl) ?_
  have E : Chg zAh w0 w0 := Chg.refl _ _
  refine zAA ?_
  refine zBL (v := (.agg (R6 t sa sc aa ac))) (c := (R6 t sa sc aa ac)) (by decide) rfl rfl ?_
  intro br wr Nr
  have Fr := Nr.ge E
  replace E := E.ext Nr.ext
  have Br := Nr.blk
  refine zBL (v := (.agg (R6 u sa2 sc2 aa2 ac2))) (c := (R6 u sa2 sc2 aa2 ac2)) (by decide) rfl rfl ?_
  intro bp wp Np
  have Fp := Np.ge E
  have Op_br := Np.lt Br
  replace Br := Np.keep Br
  replace E := E.ext Np.ext
  have Bp := Np.blk
  refine qA (.bool false) rfl ?_
  refine zAB (zAP (zAA ?_))
  refine qF br 0 0 rfl Tryz.underlying25 rfl zAw rfl ?_
  refine qV (zAK (v := (I6 t.kind)) rfl zAf (Br.cell rfl)) ?_
  refine qF bp 0 0 rfl Tryz.underlying25 rfl zAw rfl ?_
  refine qV (zAK (v := (I6 u.kind)) rfl zAf (Bp.cell rfl)) ?_
  refine qV (zBz (k := .i64) (a := t.kind) (b := u.kind) rfl rfl) ?_
  refine qM (.bool (decide ((t.kind : Int) ≠ u.kind))) rfl ?_
  rcases Bool.eq_false_or_eq_true (decide ((t.kind : Int) ≠ u.kind)) with g1 | g1
  · have kg1 := g1
    replace kg1 := of_decide_eq_true kg1
    refine zAD (oj := _) rfl rfl (by decide) (v := .bool true) (congrArg Value.bool g1) (Or.inl rfl) ?_
    refine zAD (oj := _) rfl rfl (by decide) (v := .bool true) (congrArg Value.bool g1) (Or.inl rfl) ?_
    refine zAD (oj := _) rfl rfl (by decide) (v := .bool true) (congrArg Value.bool g1) (Or.inl rfl) ?_
    refine zAD (oj := _) rfl rfl (by decide) (v := .bool true) (congrArg Value.bool g1) (Or.inl rfl) ?_
    refine zAD (oj := _) rfl rfl (by decide) (v := .bool true) (congrArg Value.bool g1) (Or.inl rfl) ?_
    refine zAD (oj := _) rfl rfl (by decide) (v := .bool true) (congrArg Value.bool g1) (Or.inl rfl) ?_
    refine qV (zAd (b := decide ((t.kind : Int) ≠ u.kind)) (v := (.bool true)) rfl (by rw [g1]; rfl)) ?_
    refine qM (.bool true) rfl ?_
    refine zAD (oj := _) rfl rfl (by decide) (v := .bool true) rfl (Or.inl rfl) ?_
    refine zAD (oj := _) rfl rfl (by decide) (v := .bool true) rfl (Or.inl rfl) ?_
    refine zAD (oj := _) rfl rfl (by decide) (v := .bool true) rfl (Or.inl rfl) ?_
    refine zAD (oj := _) rfl rfl (by decide) (v := .bool true) rfl (Or.inl rfl) ?_
    refine zAD (oj := _) rfl rfl (by decide) (v := .bool true) rfl (Or.inl rfl) ?_
    refine zAD (oj := _) rfl rfl (by decide) (v := .bool true) rfl (Or.inl rfl) ?_
    refine zAD (oj := _) rfl rfl (by decide) (v := .bool true) rfl (Or.inl rfl) ?_
    refine qV (zAd (b := true) (v := (.bool true)) rfl rfl) ?_
    refine qM (.bool true) rfl ?_
    refine zAD (oj := _) rfl rfl (by decide) (v := .bool true) rfl (Or.inl rfl) ?_
    refine zAD (oj := _) rfl rfl (by decide) (v := .bool true) rfl (Or.inl rfl) ?_
    refine zAD (oj := _) rfl rfl (by decide) (v := .bool true) rfl (Or.inl rfl) ?_
    refine zAD (oj := _) rfl rfl (by decide) (v := .bool true) rfl (Or.inl rfl) ?_
    refine zAD (oj := _) rfl rfl (by decide) (v := .bool true) rfl (Or.inl rfl) ?_
    refine qV (zAd (b := true) (v := (.bool true)) rfl rfl) ?_
    refine qM (.bool true) rfl ?_
    refine zAD (oj := _) rfl rfl (by decide) (v := .bool true) rfl (Or.inl rfl) ?_
    refine zAD (oj := _) rfl rfl (by decide) (v := .bool true) rfl (Or.inl rfl) ?_
    refine zAD (oj := _) rfl rfl (by decide) (v := .bool true) rfl (Or.inl rfl) ?_
    refine zAD (oj := _) rfl rfl (by decide) (v := .bool true) rfl (Or.inl rfl) ?_
    refine zAD (oj := _) rfl rfl (by decide) (v := .bool true) rfl (Or.inl rfl) ?_
    refine qV (zAd (b := true) (v := (.bool true)) rfl rfl) ?_
    refine qM (.bool true) rfl ?_
    refine zAD (oj := _) rfl rfl (by decide) (v := .bool true) rfl (Or.inl rfl) ?_
    refine zAD (oj := _) rfl rfl (by decide) (v := .bool true) rfl (Or.inl rfl) ?_
    refine zAD (oj := _) rfl rfl (by decide) (v := .bool true) rfl (Or.inl rfl) ?_
    refine zAD (oj := _) rfl rfl (by decide) (v := .bool true) rfl (Or.inl rfl) ?_
    refine zAD (oj := _) rfl rfl (by decide) (v := .bool true) rfl (Or.inl rfl) ?_
    refine qV (zAd (b := true) (v := (.bool true)) rfl rfl) ?_
    refine zAB ?_
    refine zAl rfl ?_
    refine zAA ?_
    refine qA (.bool false) rfl ?_
    refine zAB (zAQ (zAI ?_))
    refine zAS Tryz.results15 (v := (.bool false)) rfl ?_
    exact ⟨zAt (by rw [hF]; simp at g1; simp [g1]), E⟩
  · have kg1 := g1
    replace kg1 := of_decide_eq_false kg1
    refine zAF (oj := _) rfl rfl (by decide) (congrArg Value.bool g1) ?_
    refine qF br 0 1 rfl Tryz.underlying25 rfl zDb rfl ?_
    refine zAF (oj := _) rfl rfl (by decide) (congrArg Value.bool g1) ?_
    refine qV (zAK (v := (.slice sa t.set.length sc)) rfl zCc (Br.cell rfl)) ?_
    refine zAF (oj := _) rfl rfl (by decide) (congrArg Value.bool g1) ?_
    refine qF bp 0 1 rfl Tryz.underlying25 rfl zDb rfl ?_
    refine zAF (oj := _) rfl rfl (by decide) (congrArg Value.bool g1) ?_
    refine qV (zAK (v := (.slice sa2 u.set.length sc2)) rfl zCc (Bp.cell rfl)) ?_
    refine zAF (oj := _) rfl rfl (by decide) (congrArg Value.bool g1) ?_
    refine zAL rfl rfl (by decide) (zAT (vs := [(.slice sa t.set.length sc), (.slice sa2 u.set.length sc2)]) Tryz.func67 nm67 bd67 rfl) (zPp _ _ _ t.set u.set (zCA.ext hts E) (zCA.ext hus E)) ?_
    rintro _ w9 ⟨rfl, X9⟩
    replace Br := X9.keep Br
    replace Bp := X9.keep Bp
    replace E := E.ext X9
    refine zAF (oj := _) rfl rfl (by decide) (congrArg Value.bool g1) ?_
    refine qV (zCV (b := decide (t.set = u.set)) rfl) ?_
    refine qV (zAd (b := decide ((t.kind : Int) ≠ u.kind)) (v := (.bool (!(decide (t.set = u.set))))) rfl (by rw [g1]; rfl)) ?_
    refine qM (.bool (!(decide (t.set = u.set)))) rfl ?_
    rcases Bool.eq_false_or_eq_true (!(decide (t.set = u.set))) with g2 | g2
    · have kg2 := g2
      refine zAD (oj := _) rfl rfl (by decide) (v := .bool true) (congrArg Value.bool g2) (Or.inl rfl) ?_
      refine zAD (oj := _) rfl rfl (by decide) (v := .bool true) (congrArg Value.bool g2) (Or.inl rfl) ?_
      refine zAD (oj := _) rfl rfl (by decide) (v := .bool true) (congrArg Value.bool g2) (Or.inl rfl) ?_
      refine zAD (oj := _) rfl rfl (by decide) (v := .bool true) (congrArg Value.bool g2) (Or.inl rfl) ?_
      refine zAD (oj := _) rfl rfl (by decide) (v := .bool true) (congrArg Value.bool g2) (Or.inl rfl) ?_
      refine zAD (oj := _) rfl rfl (by decide) (v := .bool true) (congrArg Value.bool g2) (Or.inl rfl) ?_
      refine zAD (oj := _) rfl rfl (by decide) (v := .bool true) (congrArg Value.bool g2) (Or.inl rfl) ?_
      refine qV (zAd (b := !(decide (t.set = u.set))) (v := (.bool true)) rfl (by rw [g2]; rfl)) ?_
      refine qM (.bool true) rfl ?_
      refine zAD (oj := _) rfl rfl (by decide) (v := .bool true) rfl (Or.inl rfl) ?_
      refine zAD (oj := _) rfl rfl (by decide) (v := .bool true) rfl (Or.inl rfl) ?_
      refine zAD (oj := _) rfl rfl (by decide) (v := .bool true) rfl (Or.inl rfl) ?_
      refine zAD (oj := _) rfl rfl (by decide) (v := .bool true) rfl (Or.inl rfl) ?_
      refine zAD (oj := _) rfl rfl (by decide) (v := .bool true) rfl (Or.inl rfl) ?_
      refine qV (zAd (b := true) (v := (.bool true)) rfl rfl) ?_
      refine qM (.bool true) rfl ?_
      refine zAD (oj := _) rfl rfl (by decide) (v := .bool true) rfl (Or.inl rfl) ?_
      refine zAD (oj := _) rfl rfl (by decide) (v := .bool true) rfl (Or.inl rfl) ?_
      refine zAD (oj := _) rfl rfl (by decide) (v := .bool true) rfl (Or.inl rfl) ?_
      refine zAD (oj := _) rfl rfl (by decide) (v := .bool true) rfl (Or.inl rfl) ?_
      refine zAD (oj := _) rfl rfl (by decide) (v := .bool true) rfl (Or.inl rfl) ?_
      refine qV (zAd (b := true) (v := (.bool true)) rfl rfl) ?_
      refine qM (.bool true) rfl ?_
      refine zAD (oj := _) rfl rfl (by decide) (v := .bool true) rfl (Or.inl rfl) ?_
      refine zAD (oj := _) rfl rfl (by decide) (v := .bool true) rfl (Or.inl rfl) ?_
      refine zAD (oj := _) rfl rfl (by decide) (v := .bool true) rfl (Or.inl rfl) ?_
      refine zAD (oj := _) rfl rfl (by decide) (v := .bool true) rfl (Or.inl rfl) ?_
      refine zAD (oj := _) rfl rfl (by decide) (v := .bool true) rfl (Or.inl rfl) ?_
      refine qV (zAd (b := true) (v := (.bool true)) rfl rfl) ?_
      refine zAB ?_
      refine zAl rfl ?_
      refine zAA ?_
      refine qA (.bool false) rfl ?_
      refine zAB (zAQ (zAI ?_))
      refine zAS Tryz.results15 (v := (.bool false)) rfl ?_
      exact ⟨zAt (by rw [hF]; simp at g2; simp [g2]), E⟩
    · have kg2 := g2
      refine zAF (oj := _) rfl rfl (by decide) (congrArg Value.bool g2) ?_
      refine qF br 0 2 rfl Tryz.underlying25 rfl zBI rfl ?_
      refine zAF (oj := _) rfl rfl (by decide) (congrArg Value.bool g2) ?_
      refine qV (zAK (v := (.slice aa t.args.length ac)) rfl zAv (Br.cell rfl)) ?_
      refine zAF (oj := _) rfl rfl (by decide) (congrArg Value.bool g2) ?_
      refine qV (zAV (ad := aa) (n := t.args.length) (cap := ac) Tryz.underlying23 rfl) ?_
      refine zAF (oj := _) rfl rfl (by decide) (congrArg Value.bool g2) ?_
      refine qF bp 0 2 rfl Tryz.underlying25 rfl zBI rfl ?_
      refine zAF (oj := _) rfl rfl (by decide) (congrArg Value.bool g2) ?_
      refine qV (zAK (v := (.slice aa2 u.args.length ac2)) rfl zAv (Bp.cell rfl)) ?_
      refine zAF (oj := _) rfl rfl (by decide) (congrArg Value.bool g2) ?_
      refine qV (zAV (ad := aa2) (n := u.args.length) (cap := ac2) Tryz.underlying23 rfl) ?_
      refine zAF (oj := _) rfl rfl (by decide) (congrArg Value.bool g2) ?_
      refine qV (zBz (k := .i64) (a := (t.args.length : Int)) (b := (u.args.length : Int)) rfl rfl) ?_
      refine qV (zAd (b := !(decide (t.set = u.set))) (v := (.bool (decide (((t.args.length : Int) : Int) ≠ (u.args.length : Int))))) rfl (by rw [g2]; rfl)) ?_
      refine qM (.bool (decide (((t.args.length : Int) : Int) ≠ (u.args.length : Int)))) rfl ?_
      rcases Bool.eq_false_or_eq_true (decide ((((t.args.length : Nat) : Int) : Int) ≠ ((u.args.length : Nat) : Int))) with g3 | g3
      · have kg3 := g3
        replace kg3 := of_decide_eq_true kg3
        refine zAD (oj := _) rfl rfl (by decide) (v := .bool true) (congrArg Value.bool g3) (Or.inl rfl) ?_
        refine zAD (oj := _) rfl rfl (by decide) (v := .bool true) (congrArg Value.bool g3) (Or.inl rfl) ?_
        refine zAD (oj := _) rfl rfl (by decide) (v := .bool true) (congrArg Value.bool g3) (Or.inl rfl) ?_
        refine zAD (oj := _) rfl rfl (by decide) (v := .bool true) (congrArg Value.bool g3) (Or.inl rfl) ?_
        refine zAD (oj := _) rfl rfl (by decide) (v := .bool true) (congrArg Value.bool g3) (Or.inl rfl) ?_
        refine qV (zAd (b := decide (((t.args.length : Int) : Int) ≠ (u.args.length : Int))) (v := (.bool true)) rfl (by rw [g3]; rfl)) ?_
        refine qM (.bool true) rfl ?_
        refine zAD (oj := _) rfl rfl (by decide) (v := .bool true) rfl (Or.inl rfl) ?_
        refine zAD (oj := _) rfl rfl (by decide) (v := .bool true) rfl (Or.inl rfl) ?_
        refine zAD (oj := _) rfl rfl (by decide) (v := .bool true) rfl (Or.inl rfl) ?_
        refine zAD (oj := _) rfl rfl (by decide) (v := .bool true) rfl (Or.inl rfl) ?_
        refine zAD (oj := _) rfl rfl (by decide) (v := .bool true) rfl (Or.inl rfl) ?_
        refine qV (zAd (b := true) (v := (.bool true)) rfl rfl) ?_
        refine qM (.bool true) rfl ?_
        refine zAD (oj := _) rfl rfl (by decide) (v := .bool true) rfl (Or.inl rfl) ?_
        refine zAD (oj := _) rfl rfl (by decide) (v := .bool true) rfl (Or.inl rfl) ?_
        refine zAD (oj := _) rfl rfl (by decide) (v := .bool true) rfl (Or.inl rfl) ?_
        refine zAD (oj := _) rfl rfl (by decide) (v := .bool true) rfl (Or.inl rfl) ?_
        refine zAD (oj := _) rfl rfl (by decide) (v := .bool true) rfl (Or.inl rfl) ?_
        refine qV (zAd (b := true) (v := (.bool true)) rfl rfl) ?_
        refine zAB ?_
        refine zAl rfl ?_
        refine zAA ?_
        refine qA (.bool false) rfl ?_
        refine zAB (zAQ (zAI ?_))
        refine zAS Tryz.results15 (v := (.bool false)) rfl ?_
        exact ⟨zAt (by symm; rw [← Bool.not_eq_true, zBb]; intro h; subst h; simp at g3), E⟩
      · have kg3 := g3
        replace kg3 := of_decide_eq_false kg3
        refine zAF (oj := _) rfl rfl (by decide) (congrArg Value.bool g3) ?_
        refine qF br 0 3 rfl Tryz.underlying25 rfl zAw rfl ?_
        refine zAF (oj := _) rfl rfl (by decide) (congrArg Value.bool g3) ?_
        refine qV (zAK (v := (I6 t.mn)) rfl zAf (Br.cell rfl)) ?_
        refine zAF (oj := _) rfl rfl (by decide) (congrArg Value.bool g3) ?_
        refine qF bp 0 3 rfl Tryz.underlying25 rfl zAw rfl ?_
        refine zAF (oj := _) rfl rfl (by decide) (congrArg Value.bool g3) ?_
        refine qV (zAK (v := (I6 u.mn)) rfl zAf (Bp.cell rfl)) ?_
        refine zAF (oj := _) rfl rfl (by decide) (congrArg Value.bool g3) ?_
        refine qV (zBz (k := .i64) (a := t.mn) (b := u.mn) rfl rfl) ?_
        refine qV (zAd (b := decide (((t.args.length : Int) : Int) ≠ (u.args.length : Int))) (v := (.bool (decide ((t.mn : Int) ≠ u.mn)))) rfl (by rw [g3]; rfl)) ?_
        refine qM (.bool (decide ((t.mn : Int) ≠ u.mn))) rfl ?_
        rcases Bool.eq_false_or_eq_true (decide ((t.mn : Int) ≠ u.mn)) with g4 | g4
        · have kg4 := g4
          replace kg4 := of_decide_eq_true kg4
          refine zAD (oj := _) rfl rfl (by decide) (v := .bool true) (congrArg Value.bool g4) (Or.inl rfl) ?_
          refine zAD (oj := _) rfl rfl (by decide) (v := .bool true) (congrArg Value.bool g4) (Or.inl rfl) ?_
          refine zAD (oj := _) rfl rfl (by decide) (v := .bool true) (congrArg Value.bool g4) (Or.inl rfl) ?_
          refine zAD (oj := _) rfl rfl (by decide) (v := .bool true) (congrArg Value.bool g4) (Or.inl rfl) ?_
          refine zAD (oj := _) rfl rfl (by decide) (v := .bool true) (congrArg Value.bool g4) (Or.inl rfl) ?_
          refine qV (zAd (b := decide ((t.mn : Int) ≠ u.mn)) (v := (.bool true)) rfl (by rw [g4]; rfl)) ?_
          refine qM (.bool true) rfl ?_
          refine zAD (oj := _) rfl rfl (by decide) (v := .bool true) rfl (Or.inl rfl) ?_
          refine zAD (oj := _) rfl rfl (by decide) (v := .bool true) rfl (Or.inl rfl) ?_
          refine zAD (oj := _) rfl rfl (by decide) (v := .bool true) rfl (Or.inl rfl) ?_
          refine zAD (oj := _) rfl rfl (by decide) (v := .bool true) rfl (Or.inl rfl) ?_
          refine zAD (oj := _) rfl rfl (by decide) (v := .bool true) rfl (Or.inl rfl) ?_
          refine qV (zAd (b := true) (v := (.bool true)) rfl rfl) ?_
          refine zAB ?_
          refine zAl rfl ?_
          refine zAA ?_
          refine qA (.bool false) rfl ?_
          refine zAB (zAQ (zAI ?_))
          refine zAS Tryz.results15 (v := (.bool false)) rfl ?_
          exact ⟨zAt (by rw [hF]; simp at g4; simp [g4]), E⟩
        · have kg4 := g4
          replace kg4 := of_decide_eq_false kg4
          refine zAF (oj := _) rfl rfl (by decide) (congrArg Value.bool g4) ?_
          refine qF br 0 4 rfl Tryz.underlying25 rfl zAw rfl ?_
          refine zAF (oj := _) rfl rfl (by decide) (congrArg Value.bool g4) ?_
          refine qV (zAK (v := (I6 t.mx)) rfl zAf (Br.cell rfl)) ?_
          refine zAF (oj := _) rfl rfl (by decide) (congrArg Value.bool g4) ?_
          refine qF bp 0 4 rfl Tryz.underlying25 rfl zAw rfl ?_
          refine zAF (oj := _) rfl rfl (by decide) (congrArg Value.bool g4) ?_
          refine qV (zAK (v := (I6 u.mx)) rfl zAf (Bp.cell rfl)) ?_
          refine zAF (oj := _) rfl rfl (by decide) (congrArg Value.bool g4) ?_
          refine qV (zBz (k := .i64) (a := t.mx) (b := u.mx) rfl rfl) ?_
          refine qV (zAd (b := decide ((t.mn : Int) ≠ u.mn)) (v := (.bool (decide ((t.mx : Int) ≠ u.mx)))) rfl (by rw [g4]; rfl)) ?_
          refine qM (.bool (decide ((t.mx : Int) ≠ u.mx))) rfl ?_
          rcases Bool.eq_false_or_eq_true (decide ((t.mx : Int) ≠ u.mx)) with g5 | g5
          · have kg5 := g5
            replace kg5 := of_decide_eq_true kg5
            refine zAD (oj := _) rfl rfl (by decide) (v := .bool true) (congrArg Value.bool g5) (Or.inl rfl) ?_
            refine zAD (oj := _) rfl rfl (by decide) (v := .bool true) (congrArg Value.bool g5) (Or.inl rfl) ?_
            refine zAD (oj := _) rfl rfl (by decide) (v := .bool true) (congrArg Value.bool g5) (Or.inl rfl) ?_
            refine zAD (oj := _) rfl rfl (by decide) (v := .bool true) (congrArg Value.bool g5) (Or.inl rfl) ?_
            refine zAD (oj := _) rfl rfl (by decide) (v := .bool true) (congrArg Value.bool g5) (Or.inl rfl) ?_
            refine qV (zAd (b := decide ((t.mx : Int) ≠ u.mx)) (v := (.bool true)) rfl (by rw [g5]; rfl)) ?_
            refine zAB ?_
            refine zAl rfl ?_
            refine zAA ?_
            refine qA (.bool false) rfl ?_
            refine zAB (zAQ (zAI ?_))
            refine zAS Tryz.results15 (v := (.bool false)) rfl ?_
            exact ⟨zAt (by rw [hF]; simp at g5; simp [g5]), E⟩
          · have kg5 := g5
            replace kg5 := of_decide_eq_false kg5
            refine zAF (oj := _) rfl rfl (by decide) (congrArg Value.bool g5) ?_
            refine qF br 0 5 rfl Tryz.underlying25 rfl zNq rfl ?_
            refine zAF (oj := _) rfl rfl (by decide) (congrArg Value.bool g5) ?_
            refine qV (zAK (v := (.bool t.neg)) rfl zHv (Br.cell rfl)) ?_
            refine zAF (oj := _) rfl rfl (by decide) (congrArg Value.bool g5) ?_
            refine qF bp 0 5 rfl Tryz.underlying25 rfl zNq rfl ?_
            refine zAF (oj := _) rfl rfl (by decide) (congrArg Value.bool g5) ?_
            refine qV (zAK (v := (.bool u.neg)) rfl zHv (Bp.cell rfl)) ?_
            refine zAF (oj := _) rfl rfl (by decide) (congrArg Value.bool g5) ?_
            refine qV (zMQ (p := t.neg) (q := u.neg) Tryz.underlying4 rfl rfl) ?_
            refine qV (zAd (b := decide ((t.mx : Int) ≠ u.mx)) (v := (.bool (t.neg != u.neg))) rfl (by rw [g5]; rfl)) ?_
            refine zAB ?_
            refine zAM (b := t.neg != u.neg) rfl (fun g6 => ?_) (fun g6 => ?_)
            · have kg6 := g6
              refine zAA ?_
              refine qA (.bool false) rfl ?_
              refine zAB (zAQ (zAI ?_))
              refine zAS Tryz.results15 (v := (.bool false)) rfl ?_
              exact ⟨zAt (by rw [hF]; simp at g6; simp [g6]), E⟩
            · have kg6 := g6
              simp at g1 g2 g3 g4 g5 g6
              refine zAR (zAC (zAP (zAA ?_)))
              refine qF br 0 2 rfl Tryz.underlying25 rfl zBI rfl ?_
              refine qV (zAK (v := (.slice aa t.args.length ac)) rfl zAv (Br.cell rfl)) ?_
              refine qV (zAV (ad := aa) (n := t.args.length) (cap := ac) Tryz.underlying23 rfl) ?_
              refine qM (I6 0) rfl ?_
              refine zAB (zAZ ?_)
              refine zBA (fun nn_ σ W7 => ∃ (k : Nat), (∃ jj_, σ = zCl jj_ [(2, (P6 br 0)), (3, (P6 bp 0)), (51, (I6 (t.args.length : Int))), (52, (I6 (k : Int)))]) ∧ Chg zAh w0 W7 ∧ Blk W7 br (R6 t sa sc aa ac) 25 ∧ Blk W7 bp (R6 u sa2 sc2 aa2 ac2) 25 ∧ (k ≤ t.args.length) ∧ (∀ (i : Nat), i < k → t.args[i]? = u.args[i]?) ∧ nn_ = t.args.length - k) (n := t.args.length - 0) ?_ ?_
              · exact ⟨0, zBG.out ⟨rfl, rfl, rfl, rfl, trivial⟩, E, Br, Bp, Nat.zero_le _, (fun i h => absurd h (Nat.not_lt_zero _)), rfl⟩
              · clear E Br Bp
                rintro _ _ W7 ⟨k, ⟨j7, rfl⟩, E, Br, Bp, hk, heq, rfl⟩
                refine zAA ?_
                refine qV (zBS (k := .i64) (a := (k : Int)) (b := (t.args.length : Int)) rfl rfl) ?_
                refine zAB (zAP ?_)
                refine zAM (b := decide (((k : Int) : Int) < (t.args.length : Int))) rfl (fun hlt => ?_) (fun hlt => ?_)
                · have khlt := hlt
                  replace hlt := of_decide_eq_true hlt
                  obtain ⟨x, hx⟩ := zAa (l := t.args) (i := k) (by omega)
                  obtain ⟨y, hy⟩ := zAa (l := u.args) (i := k) (by omega)
                  obtain ⟨b1, o1, rfl, hc1⟩ := (zBC.rs ht0).cells (by omega)
                  obtain ⟨b2, o2, rfl, hc2⟩ := (zBC.rs hu0).cells (by omega)
                  obtain ⟨xs, hcx, hxr⟩ := hc1 k x hx
                  obtain ⟨ys, hcy, hyr⟩ := hc2 k y hy
                  have hxr0 := hxr
                  have hyr0 := hyr
                  obtain ⟨xsa, xsc, xaa, xac, rfl, _, _, _⟩ := hxr.form
                  obtain ⟨ysa, ysc, yaa, yac, rfl, _, _, _⟩ := hyr.form
                  refine zAR (zAC (zAP (zAZ (zAA ?_))))
                  refine qM (I6 (k : Int)) rfl ?_
                  refine qA (I6 (k : Int)) rfl ?_
                  refine zAB (zAP ?_)
                  obtain ⟨Fs9, hFs9⟩ : ∃ Fs : List Fact, Fs = [.eq (P6 br 2), .eq (.slice (some ⟨b1, o1, none⟩) t.args.length ac), .eq (I6 (k : Int)), .eq (.pointer (some ⟨b1, o1 + k * 6, none⟩)), .eq (.agg (R6 x xsa xsc xaa xac)), .eq (P6 bp 2), .eq (.slice (some ⟨b2, o2, none⟩) u.args.length ac2), .eq (I6 (k : Int)), .eq (.pointer (some ⟨b2, o2 + k * 6, none⟩)), .eq (.agg (R6 y ysa ysc yaa yac)), .eq (.bool (zBT x y)), .eq (.bool (!(zBT x y)))] := ⟨_, rfl⟩
                  refine zEF [55, 56, 57, 58, 59, 60, 61, 62, 63, 64, 65, 66] [[], [0], [], [1, 2], [3], [], [5], [], [6, 7], [8], [4, 9], [10]] Fs9 hFs9 mixed (by kernel_rfl) (by kernel_rfl) ?_ ?_
                  · intro wd X0
                    refine DagSteps.cons (fun s' w' X U H => Or.inl ⟨?_, ?_⟩) ?_
                    · exact zAE rfl
                    · exact zAJ (zAN (b := br) (o := 0) (o' := 2) (U 2 rfl) Tryz.underlying25 rfl zBI rfl) (Ext.refl _) rfl
                    refine DagSteps.cons (fun s' w' X U H => Or.inl ⟨?_, ?_⟩) ?_
                    · exact zAE rfl
                    · have e55 : s' 55 = (.pointer (some ⟨br, 2, none⟩)) := H 0 rfl 55 (.eq (.pointer (some ⟨br, 2, none⟩))) rfl (by rw [hFs9]; rfl)
                      exact zAJ (zAK (v := (.slice (some ⟨b1, o1, none⟩) t.args.length ac)) e55 zAv (((X0.trans X).keep Br).cell rfl)) (Ext.refl _) rfl
                    refine DagSteps.cons (fun s' w' X U H => Or.inl ⟨?_, ?_⟩) ?_
                    · exact zAE rfl
                    · exact zAJ (zAn (v := (I6 (k : Int))) (U 5 rfl)) (Ext.refl _) rfl
                    refine DagSteps.cons (fun s' w' X U H => Or.inl ⟨?_, ?_⟩) ?_
                    · exact zAE rfl
                    · have e56 : s' 56 = (.slice (some ⟨b1, o1, none⟩) t.args.length ac) := H 1 rfl 56 (.eq (.slice (some ⟨b1, o1, none⟩) t.args.length ac)) rfl (by rw [hFs9]; rfl)
                      have e57 : s' 57 = (.int .i64 ((k : Nat) : Int)) := H 2 rfl 57 (.eq (.int .i64 ((k : Nat) : Int))) rfl (by rw [hFs9]; rfl)
                      exact zAJ (zAO (b := b1) (o := o1) (len := t.args.length) (cap := ac) (i := k) (o' := o1 + k * 6) e56 e57 rfl Tryz.underlying23 zAH (by omega) (by omega)) (Ext.refl _) rfl
                    refine DagSteps.cons (fun s' w' X U H => Or.inl ⟨?_, ?_⟩) ?_
                    · exact zAE rfl
                    · have e58 : s' 58 = (.pointer (some ⟨b1, o1 + k * 6, none⟩)) := H 3 rfl 58 (.eq (.pointer (some ⟨b1, o1 + k * 6, none⟩))) rfl (by rw [hFs9]; rfl)
                      exact zAJ (zAG (vs := [(I6 x.kind), (.slice xsa x.set.length xsc), (.slice xaa x.args.length xac), (I6 x.mn), (I6 x.mx), (.bool x.neg)]) e58 zAb zAH rfl (hcx.ext (Ext.trans E (X0.trans X)))) (Ext.refl _) rfl
                    refine DagSteps.cons (fun s' w' X U H => Or.inl ⟨?_, ?_⟩) ?_
                    · exact zAE rfl
                    · exact zAJ (zAN (b := bp) (o := 0) (o' := 2) (U 3 rfl) Tryz.underlying25 rfl zBI rfl) (Ext.refl _) rfl
                    refine DagSteps.cons (fun s' w' X U H => Or.inl ⟨?_, ?_⟩) ?_
                    · exact zAE rfl
                    · have e60 : s' 60 = (.pointer (some ⟨bp, 2, none⟩)) := H 5 rfl 60 (.eq (.pointer (some ⟨bp, 2, none⟩))) rfl (by rw [hFs9]; rfl)
                      exact zAJ (zAK (v := (.slice (some ⟨b2, o2, none⟩) u.args.length ac2)) e60 zAv (((X0.trans X).keep Bp).cell rfl)) (Ext.refl _) rfl
                    refine DagSteps.cons (fun s' w' X U H => Or.inl ⟨?_, ?_⟩) ?_
                    · exact zAE rfl
                    · exact zAJ (zAn (v := (I6 (k : Int))) (U 5 rfl)) (Ext.refl _) rfl
                    refine DagSteps.cons (fun s' w' X U H => Or.inl ⟨?_, ?_⟩) ?_
                    · exact zAE rfl
                    · have e61 : s' 61 = (.slice (some ⟨b2, o2, none⟩) u.args.length ac2) := H 6 rfl 61 (.eq (.slice (some ⟨b2, o2, none⟩) u.args.length ac2)) rfl (by rw [hFs9]; rfl)
                      have e62 : s' 62 = (.int .i64 ((k : Nat) : Int)) := H 7 rfl 62 (.eq (.int .i64 ((k : Nat) : Int))) rfl (by rw [hFs9]; rfl)
                      exact zAJ (zAO (b := b2) (o := o2) (len := u.args.length) (cap := ac2) (i := k) (o' := o2 + k * 6) e61 e62 rfl Tryz.underlying23 zAH (by omega) (by omega)) (Ext.refl _) rfl
                    refine DagSteps.cons (fun s' w' X U H => Or.inl ⟨?_, ?_⟩) ?_
                    · exact zAE rfl
                    · have e63 : s' 63 = (.pointer (some ⟨b2, o2 + k * 6, none⟩)) := H 8 rfl 63 (.eq (.pointer (some ⟨b2, o2 + k * 6, none⟩))) rfl (by rw [hFs9]; rfl)
                      exact zAJ (zAG (vs := [(I6 y.kind), (.slice ysa y.set.length ysc), (.slice yaa y.args.length yac), (I6 y.mn), (I6 y.mx), (.bool y.neg)]) e63 zAb zAH rfl (hcy.ext (Ext.trans E (X0.trans X)))) (Ext.refl _) rfl
                    refine DagSteps.cons (fun s' w' X U H => Or.inl ⟨?_, ?_⟩) ?_
                    · exact zAE rfl
                    · have e59 : s' 59 = (.agg #[(.int .i64 x.kind), (.slice xsa x.set.length xsc), (.slice xaa x.args.length xac), (.int .i64 x.mn), (.int .i64 x.mx), (.bool x.neg)]) := H 4 rfl 59 (.eq (.agg #[(.int .i64 x.kind), (.slice xsa x.set.length xsc), (.slice xaa x.args.length xac), (.int .i64 x.mn), (.int .i64 x.mx), (.bool x.neg)])) rfl (by rw [hFs9]; rfl)
                      have e64 : s' 64 = (.agg #[(.int .i64 y.kind), (.slice ysa y.set.length ysc), (.slice yaa y.args.length yac), (.int .i64 y.mn), (.int .i64 y.mx), (.bool y.neg)]) := H 9 rfl 64 (.eq (.agg #[(.int .i64 y.kind), (.slice ysa y.set.length ysc), (.slice yaa y.args.length yac), (.int .i64 y.mn), (.int .i64 y.mx), (.bool y.neg)])) rfl (by rw [hFs9]; rfl)
                      exact zAp (zAT (vs := [(.agg (R6 x xsa xsc xaa xac)), (.agg (R6 y ysa ysc yaa yac))]) Tryz.func15 zPI zPT (zGt e59 e64)) (ih x y _ _ _ (by have := Re.size_arg hx; omega) (zBC.ext (Ext.trans E (X0.trans X)) x hxr0) (zBC.ext (Ext.trans E (X0.trans X)) y hyr0))
                    refine DagSteps.cons (fun s' w' X U H => Or.inl ⟨?_, ?_⟩) ?_
                    · exact zAE rfl
                    · have e65 : s' 65 = (.bool (zBT x y)) := H 10 rfl 65 (.eq (.bool (zBT x y))) rfl (by rw [hFs9]; rfl)
                      exact zAJ (zCV (b := zBT x y) e65) (Ext.refl _) rfl
                    exact DagSteps.nil
                  · intro s' w9 X9 U H
                    obtain ⟨j9, rfl⟩ := zBG.out (σ := s') (l := [(2, (.pointer (some ⟨br, 0, none⟩))), (3, (.pointer (some ⟨bp, 0, none⟩))), (51, (.int .i64 ((t.args.length : Nat) : Int))), (52, (.int .i64 ((k : Nat) : Int))), (66, (.bool (!(zBT x y))))]) ⟨U 2 rfl, U 3 rfl, U 51 rfl, U 52 rfl, (show s' 66 = (.bool (!(zBT x y))) from H 11 66 (.eq (.bool (!(zBT x y)))) rfl (by rw [hFs9]; rfl)), trivial⟩
                    clear U H
                    replace Br := X9.keep Br
                    replace Bp := X9.keep Bp
                    replace E := E.ext X9
                    refine zAC ?_
                    refine zAM (b := !(zBT x y)) rfl (fun hpq => ?_) (fun hpq => ?_)
                    · have khpq := hpq
                      replace hpq := by simpa using hpq
                      refine zAA ?_
                      refine qA (.bool false) rfl ?_
                      refine zAB (zAQ (zAY (zAI (zAI (zAY (zAI ?_))))))
                      refine zAS Tryz.results15 (v := (.bool false)) rfl ?_
                      exact ⟨zAt (by symm; rw [← Bool.not_eq_true, zBb]; intro h; subst h; rw [hx] at hy; cases hy; rw [(zBb x x).2 rfl] at hpq; cases hpq), E⟩
                    · have khpq := hpq
                      replace hpq := by simpa using hpq
                      have hpq2 : x = y := (zBb x y).1 (by simpa using hpq)
                      refine zAR (zAU (zAC (zAW ?_)))
                      refine qV (zBQ (k := .i64) (a := (k : Int)) (b := 1) (c := (k : Int) + 1) rfl rfl (zBs (by omega))) ?_
                      refine qM (I6 ((k : Int) + 1)) rfl ?_
                      refine zAB (zAC ?_)
                      exact ⟨t.args.length - (k + 1), by omega, k + 1, zBG.out ⟨rfl, rfl, rfl, rfl, trivial⟩, E, Br, Bp, (by omega), (fun i hi => by rcases Nat.lt_or_ge i k with h | h; exact heq i h; obtain rfl : i = k := (by omega); rw [hx, hy, hpq2]), rfl⟩
                · have khlt := hlt
                  replace hlt := of_decide_eq_false hlt
                  have hkk : k = t.args.length := by omega
                  refine zBB (zAe (zAe (zAr (zAC (zAA ?_)))))
                  refine qA (.bool true) rfl ?_
                  refine zAB (zAQ ?_)
                  refine zAS Tryz.results15 (v := (.bool true)) rfl ?_
                  exact ⟨zAt (by symm; rw [hF, (zDK t.args u.args).2 (zHt (by omega) (fun i hi => heq i (by omega)))]; simp [g1, g2, g4, g5, g6]), E⟩
theorem zGN (w0 : World) : Ret Tryz.prog 129 #[] w0 fun v w => v = .agg #[.int .i64 0, .slice none 0 0, .slice none 0 0, .int .i64 0, .int .i64 0, .bool false] ∧ Ext w0 w := by
 refine zAk Tryz.func129 rfl Tryz.ntmps129 (Nat.le_of_ble_eq_true rfl) ?_
 have E : Chg zAh w0 w0 := Chg.refl _ _
 refine zAA ?_
 refine zBD (c := #[(I6 0), (.slice none 0 0), (.slice none 0 0), (I6 0), (I6 0), (.bool false)]) (by decide) zAs rfl ?_
 intro b1 w1 N1
 have F1 := N1.ge E
 replace E := E.ext N1.ext
 have B1 := N1.blk
 refine zAB (zAA ?_)
 refine qV (zBW (ps := []) (v := (.agg #[(I6 0), (.slice none 0 0), (.slice none 0 0), (I6 0), (I6 0), (.bool false)])) rfl (by kernel_rfl)) ?_
 refine qW (#[(I6 0), (.slice none 0 0), (.slice none 0 0), (I6 0), (I6 0), (.bool false)]) rfl rfl zAH B1 ?_
 intro w2 S2
 replace E := S2.stp E
 replace B1 := S2.blk
 refine zAB (zAQ ?_)
 refine zAm Tryz.results129 (vs := [(.int .i64 0), (.slice none 0 0), (.slice none 0 0), (.int .i64 0), (.int .i64 0), (.bool false)]) (b := b1) rfl zAb zAH rfl (B1.cells rfl) ?_
 exact ⟨rfl, E⟩
theorem zFy (w0 : World) : Ret Tryz.prog 72 #[] w0 fun v w => v = .agg #[.int .i64 1, .slice none 0 0, .slice none 0 0, .int .i64 0, .int .i64 0, .bool false] ∧ Ext w0 w := by
 refine zAk Tryz.func72 rfl Tryz.ntmps72 (Nat.le_of_ble_eq_true rfl) ?_
 have E : Chg zAh w0 w0 := Chg.refl _ _
 refine zAA ?_
 refine zBD (c := #[(I6 0), (.slice none 0 0), (.slice none 0 0), (I6 0), (I6 0), (.bool false)]) (by decide) zAs rfl ?_
 intro b1 w1 N1
 have F1 := N1.ge E
 replace E := E.ext N1.ext
 have B1 := N1.blk
 refine zAB (zAA ?_)
 refine qV (zBW (ps := [(0, (I6 1))]) (v := (.agg #[(I6 1), (.slice none 0 0), (.slice none 0 0), (I6 0), (I6 0), (.bool false)])) rfl (by kernel_rfl)) ?_
 refine qW (#[(I6 1), (.slice none 0 0), (.slice none 0 0), (I6 0), (I6 0), (.bool false)]) rfl rfl zAH B1 ?_
 intro w2 S2
 replace E := S2.stp E
 replace B1 := S2.blk
 refine zAB (zAQ ?_)
 refine zAm Tryz.results72 (vs := [(.int .i64 1), (.slice none 0 0), (.slice none 0 0), (.int .i64 0), (.int .i64 0), (.bool false)]) (b := b1) rfl zAb zAH rfl (B1.cells rfl) ?_
 exact ⟨rfl, E⟩
end Go.Proofs
namespace Go.Proofs
open Go Go.Eng
set_option maxRecDepth 100000
theorem zOK {S D : Nat → Prop} {base n1 : Nat} {w w1 w2 : World} {v v' : Value} {ts : List Re} {rows : List (List Value)} {x : Re} {us : List Value}
  (hR : zAj (fun b => S b ∨ D b) w ts rows) (hE : Ext w w1) (hn1 : n1 = w.heap.size) (hS : ∀ b, S b → b < base) (hD : ∀ b, D b → base ≤ b ∧ b < w.heap.size) (hv : ∀ q, v.ownBlock = some q → ¬ D q ∧ (base ≤ q ∧ q < n1))
  (hx : zAc (fun b => S b ∨ n1 ≤ b) w1 x us) (C : Chg (fun y => v.ownBlock = some y) w1 w2) (hv' : ∀ q, v'.ownBlock = some q → v.ownBlock = some q ∨ w1.heap.size ≤ q) (hb : base ≤ n1) :
  zAj (fun b => S b ∨ (D b ∨ (n1 ≤ b ∧ b < w1.heap.size))) w2 (ts ++ [x]) (rows ++ [us]) ∧ (∀ b, (D b ∨ (n1 ≤ b ∧ b < w1.heap.size)) → base ≤ b ∧ b < w2.heap.size) ∧ (∀ q, v'.ownBlock = some q → ¬ (D q ∨ (n1 ≤ q ∧ q < w1.heap.size))) := by
 have hs := C.size
 have hs1 := hE.size
 refine ⟨zAj.append (zAj.single ?_) ?_, ?_, ?_⟩
 ·refine zAc.mono (S := fun b => (S b ∨ n1 ≤ b) ∧ b < w1.heap.size) ?_ _ (zAc.chg C ?_ _ (zAc.lt _ hx))
  ·rintro b ⟨h | h, h2⟩
   ·exact .inl h
   exact .inr (.inr ⟨h, h2⟩)
  rintro b ⟨h | h, h2⟩ hm
  ·have := (hv b hm).2; have := hS b h; omega
  have := (hv b hm).2; omega
 ·refine zAj.mono (S := fun b => S b ∨ D b) (fun b hb => hb.imp id .inl) (zAj.chg C ?_ (zAj.ext hE hR))
  rintro b (h | h) hm
  ·have := (hv b hm).2; have := hS b h; omega
  exact (hv b hm).1 h
 ·rintro b (h | h)
  ·have := hD b h; omega
  omega
 intro q hq
 rcases hv' q hq with h | h
 ·rintro (h2 | h2)
  ·exact (hv q h).1 h2
  have := (hv q h).2; omega
 rintro (h2 | h2)
 ·have := hD q h2; omega
 omega
theorem zPx {S : Nat → Prop} {w : World} {k mn mx : Int} {ng : Bool} {set : List (Int × Int)} {a : List Re} {sa aa : Option Addr} {sc ac n : Nat} (hn : a.length = n)
  (h : zAc S w (.mk k set a mn mx ng) [.int .i64 k, .slice sa set.length sc, .slice aa a.length ac, .int .i64 mn, .int .i64 mx, .bool ng]) : zAc S w (.mk k set a mn mx ng) [.int .i64 k, .slice sa set.length sc, .slice aa n ac, .int .i64 mn, .int .i64 mx, .bool ng] := by
 rw [← hn]; exact h
set_option maxHeartbeats 2000000 in
theorem zKR (w0 : World) (S : Nat → Prop) (t : Re) (vs : List Value) (fv : Value) (g : Re → Re) (ht : zAc S w0 t vs) (hS : ∀ b, S b → b < w0.heap.size) (hM : t.size ≤ 1000000)
  (hf : ∀ (w : World) (x : Re) (xs : List Value), Ext w0 w → x ∈ t.args → zAc S w x xs → zBu Tryz.prog fv #[.agg xs.toArray] w fun r w' => ∃ us, r = .agg us.toArray ∧ zAc (fun b => S b ∨ w.heap.size ≤ b) w' (g x) us ∧ Ext w w') :
  Ret Tryz.prog 69 #[.agg vs.toArray, fv] w0 fun v w => ∃ us, v = .agg us.toArray ∧ zAc (fun b => S b ∨ w0.heap.size ≤ b) w (.mk t.kind t.set (t.args.map g) t.mn t.mx t.neg) us ∧ Ext w0 w := by
 have ht0 := ht
 obtain ⟨sa, sc, aa, ac, rfl, hset, hac, hta⟩ := ht.form
 have hal := zCg t.args
 have hse := t.size_eq
 refine zAk Tryz.func69 rfl Tryz.ntmps69 (Nat.le_of_ble_eq_true rfl) ?_
 have E : Chg zAh w0 w0 := Chg.refl _ _
 refine zAA ?_
 refine zBL (v := (.agg (R6 t sa sc aa ac))) (c := (R6 t sa sc aa ac)) (by decide) rfl rfl ?_
 intro br wr Nr
 have Fr := Nr.ge E
 replace E := E.ext Nr.ext
 have Br := Nr.blk
 refine zBD (c := #[(I6 0), (.slice none 0 0), (.slice none 0 0), (I6 0), (I6 0), (.bool false)]) (by decide) zAs rfl ?_
 intro bo wo No
 have Fo := No.ge E
 have Oo_br := No.lt Br
 replace Br := No.keep Br
 replace E := E.ext No.ext
 have Bo := No.blk
 refine zAB (zAA ?_)
 refine qA (.slice none 0 0) rfl ?_
 refine zAB (zAP (zAA ?_))
 refine qF br 0 2 rfl Tryz.underlying25 rfl zBI rfl ?_
 refine qV (zAK (v := (.slice aa t.args.length ac)) rfl zAv (Br.cell rfl)) ?_
 refine qV (zAV (ad := aa) (n := t.args.length) (cap := ac) Tryz.underlying23 rfl) ?_
 refine qM (I6 0) rfl ?_
 refine zAB (zAZ ?_)
 obtain ⟨base, hbase⟩ : ∃ base, base = wo.heap.size := ⟨_, rfl⟩
 have hbo : bo < base := by rw [hbase]; exact Bo.lt
 have hbr : br < base := by rw [hbase]; exact Br.lt
 have hSb : ∀ b, S b → b < base := fun b hb => by have := hS b hb; omega
 refine zBA (fun nn_ σ W1 => ∃ (k : Nat) (la : Option Addr) (lc : Nat) (rows : List (List Value)) (D : Nat → Prop), (∃ jj_, σ = zCl jj_ [(1, fv), (2, (P6 br 0)), (4, (P6 bo 0)), (9, (.slice aa t.args.length ac)), (10, (I6 (t.args.length : Int))), (11, (I6 (k : Int))), (5, (.slice la k lc))]) ∧ Chg zAh w0 W1 ∧ Blk W1 br (R6 t sa sc aa ac) 25 ∧ Blk W1 bo #[(I6 0), (.slice none 0 0), (.slice none 0 0), (I6 0), (I6 0), (.bool false)] 25 ∧ (k ≤ t.args.length) ∧ (W1.ownsRow base TRe 6 (.slice la k lc) k rows.flatten) ∧ (zAj (fun b => S b ∨ D b) W1 ((t.args.take k).map g) rows) ∧ (∀ b, D b → base ≤ b ∧ b < W1.heap.size) ∧ (∀ q, (Value.slice la k lc).ownBlock = some q → ¬ D q) ∧ (base ≤ W1.heap.size) ∧ nn_ = t.args.length - k) (n := t.args.length - 0) ?_ ?_
 ·exact ⟨0, none, 0, [], (fun _ => False), zBG.out ⟨rfl, rfl, rfl, rfl, rfl, rfl, rfl, trivial⟩, E, Br, Bo, Nat.zero_le _, World.ownsRow_nil _ _ _ _, rfl, (fun b f => f.elim), (by simp [Value.ownBlock]), (by omega), rfl⟩
 clear E Br Bo
 rintro _ _ W1 ⟨k, la, lc, rows, D, ⟨j1, rfl⟩, E, Br, Bo, hk, hown, hR, hD, hv, hbs, rfl⟩
 refine zAA ?_
 refine qV (zBS (k := .i64) (a := (k : Int)) (b := (t.args.length : Int)) rfl rfl) ?_
 refine zAB (zAP ?_)
 refine zAM (b := decide (((k : Int) : Int) < (t.args.length : Int))) rfl (fun hlt => ?_) (fun hlt => ?_)
 ·have khlt := hlt
  replace hlt := of_decide_eq_true hlt
  obtain ⟨x, hx⟩ := zAa (l := t.args) (i := k) (by omega)
  obtain ⟨b, o, hSb1, rfl, hxr⟩ := hta.resolve_left (fun h => by rw [h] at hx; simp at hx)
  obtain ⟨xs, hcx, hrx⟩ := zBM.get hxr hx
  have hrx0 := hrx
  obtain ⟨xsa, xsc, xaa, xac, rfl, _, _, _⟩ := hrx.form
  have hxm : x ∈ t.args := List.mem_of_getElem? hx
  obtain ⟨wk, hwk⟩ : ∃ wk, wk = (W1) := ⟨_, rfl⟩
  have hlt3 := hown.lt
  have hbs0 := hbs
  refine zAR (zAC (zAP (zAZ (zAA ?_))))
  refine qV (zAO (b := b) (o := o) (len := t.args.length) (cap := ac) (i := k) (o' := o + k * 6) rfl rfl rfl Tryz.underlying23 zAH (by omega) (by omega)) ?_
  refine qV (zAG (vs := [(I6 x.kind), (.slice xsa x.set.length xsc), (.slice xaa x.args.length xac), (I6 x.mn), (I6 x.mx), (.bool x.neg)]) rfl zAb zAH rfl (hcx.ext E)) ?_
  refine zAi (v := (.agg (R6 x xsa xsc xaa xac))) (c := (R6 x xsa xsc xaa xac)) (n := 6) (by decide) zAs rfl zAH rfl rfl rfl (by simp [Value.oneCell']) ?_
  intro bs ws Ns
  have Fs := Ns.ge E
  have Os_br := Ns.lt Br
  have Os_bo := Ns.lt Bo
  replace Br := Ns.keep Br
  replace Bo := Ns.keep Bo
  replace hown := zBE hown Ns.ext
  replace hR := zAj.ext Ns.ext hR
  replace hbs := Nat.le_trans hbs Ns.ext.size
  replace E := E.ext Ns.ext
  have Bs := Ns.blk
  refine zAB (zAW ?_)
  refine qM (.slice la k lc) rfl ?_
  refine qM fv rfl ?_
  refine qV (zAG (vs := [(I6 x.kind), (.slice xsa x.set.length xsc), (.slice xaa x.args.length xac), (I6 x.mn), (I6 x.mx), (.bool x.neg)]) rfl zAb zAH rfl (Bs.cells rfl)) ?_
  obtain ⟨n1, hn1⟩ : ∃ n1, n1 = ws.heap.size := ⟨_, rfl⟩
  have hD1 : ∀ b, D b → base ≤ b ∧ b < ws.heap.size := fun b hb => by have := hD b hb; have := Ns.ext.size; omega
  have hRs := hR
  refine zCj (fv := fv) (vs := [(.agg (R6 x xsa xsc xaa xac))]) (by decide) rfl rfl (hf _ x _ E hxm (zAc.ext E x hrx0)) ?_
  rintro _ w9 ⟨us, rfl, hus, X9⟩
  replace Br := X9.keep Br
  replace Bo := X9.keep Bo
  replace Bs := X9.keep Bs
  replace hown := zBE hown X9
  replace hbs := Nat.le_trans hbs X9.size
  replace E := E.ext X9
  rw [← hn1] at hus
  have hus0 := hus
  obtain ⟨usa, usc, uaa, uac, rfl, _, _, _⟩ := hus.form
  have Y9 : Ext ws (w9) := X9
  refine zAu (ps := [(0, (.agg #[(I6 ((g x).kind)), (.slice usa ((g x).set.length) usc), (.slice uaa ((g x).args.length) uac), (I6 ((g x).mn)), (I6 ((g x).mx)), (.bool ((g x).neg))]))]) (c := #[(I6 ((g x).kind)), (.slice usa ((g x).set.length) usc), (.slice uaa ((g x).args.length) uac), (I6 ((g x).mn)), (I6 ((g x).mx)), (.bool ((g x).neg))]) (by decide) rfl Tryz.underlying23 zAH zAs (by decide) (by decide) (by kernel_rfl) ?_
  intro bq wq Nq
  have Fq := Nq.ge E
  have Oq_br := Nq.lt Br
  have Oq_bo := Nq.lt Bo
  have Oq_bs := Nq.lt Bs
  replace Br := Nq.keep Br
  replace Bo := Nq.keep Bo
  replace Bs := Nq.keep Bs
  replace hown := zBE hown Nq.ext
  replace hbs := Nat.le_trans hbs Nq.ext.size
  replace Y9 := Ext.trans Y9 Nq.ext
  replace hus0 := zAc.ext Nq.ext _ hus0
  replace E := E.ext Nq.ext
  have Bq := Nq.blk
  refine zBh (base := base) (n := k) (m := 1) (xs := rows.flatten) (news := [(I6 ((g x).kind)), (.slice usa ((g x).set.length) usc), (.slice uaa ((g x).args.length) uac), (I6 ((g x).mn)), (I6 ((g x).mx)), (.bool ((g x).neg))]) (size := 6) (bytes := 80) (v := (.slice la k lc)) (by decide) Tryz.underlying23 zAH zEj zAs rfl (by decide) rfl hown rfl (rfl) (Bq.cells rfl) (by simp [Value.oneCell']) (by unfold maxLen; omega) (by omega) (hbs) ?_
  intro v9 w29 Ov9 Cv9 Dv9
  replace Br := Cv9.keep (fun h => by have := (hown.lt _ h).1; omega) Br
  replace Bo := Cv9.keep (fun h => by have := (hown.lt _ h).1; omega) Bo
  replace E := E.step Cv9 (fun x hx h => absurd (hown.lt x h).1 (by omega))
  obtain ⟨la2, lc2, rfl⟩ := zBY Ov9
  have hstep := zOK (base := base) (n1 := n1) hRs Y9 hn1 hSb hD1 (fun q hq => ⟨hv q hq, by have := hlt3 q hq; have := Ns.ext.size; omega⟩) hus0 Cv9 Dv9 (by have := Ns.ext.size; omega)
  refine qA (.slice la2 (k + 1) lc2) rfl ?_
  refine zAB (zAU (zAC (zAW ?_)))
  refine qV (zBQ (k := .i64) (a := (k : Int)) (b := 1) (c := (k : Int) + 1) rfl rfl (zBs (by omega))) ?_
  refine qM (I6 ((k : Int) + 1)) rfl ?_
  refine zAB (zAC ?_)
  exact ⟨t.args.length - (k + 1), by omega, k + 1, la2, lc2, rows ++ [[.int .i64 (g x).kind, .slice usa (g x).set.length usc, .slice uaa (g x).args.length uac, .int .i64 (g x).mn, .int .i64 (g x).mx, .bool (g x).neg]], (fun b => D b ∨ (n1 ≤ b ∧ b < wq.heap.size)), zBG.out ⟨rfl, rfl, rfl, rfl, rfl, rfl, rfl, trivial⟩, E, Br, Bo, (by omega), (by simpa using Ov9), (by rw [List.take_add_one, hx, List.map_append]; exact hstep.1), hstep.2.1, hstep.2.2, Nat.le_trans hbs Cv9.size, rfl⟩
 have khlt := hlt
 replace hlt := of_decide_eq_false hlt
 have hkk : k = t.args.length := by omega
 subst hkk
 rw [List.take_length] at hR
 obtain ⟨hcl, hcells⟩ := zDz hown hR (by simp)
 have hset9 : zDE (fun y => S y ∨ base ≤ y) (W1) 2 (.slice sa t.set.length sc) (t.set.map zDA) := (zDE.chg hset E (fun _ _ f => f)).mono (fun y hy => Or.inl hy)
 have hC9 : Chg (fun y => y = bo ∨ y = br) (W1) (W1) := Chg.refl _ _
 refine zBB (zAe (zAe (zAr (zAC (zAA ?_)))))
 refine qM (.slice la t.args.length lc) rfl ?_
 refine qF br 0 2 rfl Tryz.underlying25 rfl zBI rfl ?_
 refine zDQ (b := br) (o := 2) (c' := (R6 t sa sc la lc)) (v := (.slice la t.args.length lc)) rfl rfl rfl zBI Br (by simp) rfl ?_
 intro w3 S3
 replace hC9 := hC9.step S3.chg (fun y _ h => by first | exact .inl h | exact .inr h)
 replace Bo := S3.keep (by omega) Bo
 replace E := S3.stp E
 replace Br := S3.blk
 refine zAB (zAA ?_)
 refine qV (zAG (vs := [(I6 t.kind), (.slice sa t.set.length sc), (.slice la t.args.length lc), (I6 t.mn), (I6 t.mx), (.bool t.neg)]) rfl zAb zAH rfl (Br.cells rfl)) ?_
 refine qW (R6 t sa sc la lc) rfl rfl zAH Bo ?_
 intro w4 S4
 replace hC9 := hC9.step S4.chg (fun y _ h => by first | exact .inl h | exact .inr h)
 replace Br := S4.keep (by omega) Br
 replace E := S4.stp E
 replace Bo := S4.blk
 refine zAB (zAQ ?_)
 refine zAm Tryz.results69 (vs := [(.int .i64 t.kind), (.slice sa t.set.length sc), (.slice la t.args.length lc), (.int .i64 t.mn), (.int .i64 t.mx), (.bool t.neg)]) (b := bo) rfl zAb zAH rfl (Bo.cells rfl) ?_
 refine ⟨_, rfl, ?_, E⟩
 have hlm : (t.args.map g).length = t.args.length := by simp
 have hne : ∀ y, (S y ∨ base ≤ y) → ¬ (y = bo ∨ y = br) := by
  rintro y (h | h) (h2 | h2)
  ·have := hSb y h; have := hS y h; omega
  ·have := hSb y h; have := hS y h; omega
  ·omega
  omega
 refine zPx (by simp) (zAc.mono (S := fun y => S y ∨ base ≤ y) (fun y hy => hy.imp id (fun h => by omega)) _ (zAc.chg hC9 hne _ (zAc.of (set := t.set) (args := t.args.map g) hset9 (by rw [hlm]; exact hcl) ?_)))
 rcases hcells with h | ⟨gb, h1, h2, h3, h4⟩
 ·exact .inl h
 exact .inr ⟨gb, 0, .inr h1, h3, zCx fun i u hu => by obtain ⟨us, h5, h6⟩ := h4 i u hu; exact ⟨us, h5, zAc.mono (fun y hy => hy.imp id (fun h => (hD y h).1)) u h6⟩⟩
end Go.Proofs
