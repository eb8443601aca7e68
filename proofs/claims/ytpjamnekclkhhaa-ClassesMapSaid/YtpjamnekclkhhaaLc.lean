/- Classes of runes, plain. -/
import Derived.Test.YtpjamnekclkhhaaSm
import Derived.Test.YtpjamnekclkhhaaSo2
namespace Go.Proofs
open Go Go.Eng Go.Sort

def markL (ll : List (List Sp)) (r : Int) : List Bool := ll.map fun l => inS l r
def addF (acc : List (List Bool)) (m : List Bool) : List (List Bool) := if m ∈ acc then acc else acc ++ [m]
def firsts (l : List (List Bool)) : List (List Bool) := l.foldl addF []
theorem firsts_snoc (l : List (List Bool)) (m : List Bool) : firsts (l ++ [m]) = addF (firsts l) m := by simp [firsts, List.foldl_append]
theorem addF_mem {acc : List (List Bool)} {m x : List Bool} : x ∈ addF acc m ↔ x ∈ acc ∨ x = m := by
  unfold addF
  split
  · constructor
    · exact .inl
    · rintro (h | rfl) <;> assumption
  · simp
theorem addF_nodup {acc : List (List Bool)} {m : List Bool} (h : acc.Nodup) : (addF acc m).Nodup := by
  unfold addF
  split
  · exact h
  · rename_i hm
    rw [List.nodup_append]
    exact ⟨h, by simp, fun a ha b hb => by rw [List.mem_singleton] at hb; subst hb; exact fun e => hm (e ▸ ha)⟩
theorem same_piece {ll : List (List Sp)} {p : List Int} (hp : PcsOf ll.flatten p) (hok : ∀ s ∈ ll.flatten, vSp s) {i : Nat} {lo r : Int} (hlo : p[i]? = some lo) (h0 : lo ≤ r) (h1 : r < nx p (i + 1)) : markL ll r = markL ll lo := by
  unfold markL
  apply List.map_congr_left
  intro l hl
  exact CInv.same hp hok (pcs_const hp hl) hlo h0 h1
structure GInv (ll : List (List Sp)) (p : List Int) (i : Nat) (ks : List (List Bool)) (outs : List (List Sp)) : Prop where
  keys : ks = firsts ((p.take i).map (markL ll))
  nd : ks.Nodup
  len : outs.length = ks.length
  cnt : ks.length ≤ i
  ok : ∀ (k : Nat) o, outs[k]? = some o → (∀ s ∈ o, vSp s) ∧ o.length ≤ i
  cov : ∀ r, 0 ≤ r → r < nx p i → markL ll r ∈ ks
  mem : ∀ (k : Nat) key o r, ks[k]? = some key → outs[k]? = some o → 0 ≤ r → r ≤ 1114111 → inS o r = (decide (r < nx p i) && decide (markL ll r = key))
theorem GInv.start {ll : List (List Sp)} {p : List Int} (hp : PcsOf ll.flatten p) (hok : ∀ s ∈ ll.flatten, vSp s) : GInv ll p 0 [] [] where
  keys := rfl
  nd := List.nodup_nil
  len := rfl
  cnt := Nat.le_refl _
  ok := fun k o h => by simp at h
  cov := fun r h0 h1 => by rw [pcs_first hp hok] at h1; omega
  mem := fun k key o r h => by simp at h
theorem get_nodup {l : List (List Bool)} (h : l.Nodup) {i j : Nat} {x : List Bool} (hi : l[i]? = some x) (hj : l[j]? = some x) : i = j := by
  have h1 := lt_of_get hi
  have h2 := lt_of_get hj
  rw [List.getElem?_eq_getElem h1] at hi
  rw [List.getElem?_eq_getElem h2] at hj
  have e := (Option.some.inj hi).trans (Option.some.inj hj).symm
  rcases Nat.lt_trichotomy i j with h3 | h3 | h3
  · exact absurd e (List.pairwise_iff_getElem.1 h i j h1 h2 h3)
  · exact h3
  · exact absurd e.symm (List.pairwise_iff_getElem.1 h j i h2 h1 h3)
theorem inS_snoc (o : List Sp) (x : Sp) (r : Int) : inS (o ++ [x]) r = (inS o r || (decide (x.1 ≤ r) && decide (r ≤ x.2))) := by
  induction o with
  | nil => simp [inS_cons, inS_nil]
  | cons y o ih => simp only [List.cons_append, inS_cons, ih, Bool.or_assoc]
theorem GInv.step {ll : List (List Sp)} {p : List Int} {i k : Nat} {ks ks1 : List (List Bool)} {outs outs1 : List (List Sp)} {o : List Sp} {lo : Int} (h : GInv ll p i ks outs) (hp : PcsOf ll.flatten p) (hok : ∀ s ∈ ll.flatten, vSp s) (hlo : p[i]? = some lo)
    (hk : ks1 = addF ks (markL ll lo)) (hl1 : outs1.length = ks1.length) (hsame : ∀ (j : Nat) q, outs1[j]? = some q → outs[j]? = some q ∨ (j = ks.length ∧ q = [] ∧ markL ll lo ∉ ks)) (hkm : ks1[k]? = some (markL ll lo)) (ho : outs1[k]? = some o) :
    GInv ll p (i + 1) ks1 (outs1.set k (o ++ [(lo, nx p (i + 1) - 1)])) := by
  have hrng := pcs_range hp hok (List.mem_of_getElem? hlo)
  have hub : ∀ q ∈ p, q ≤ 1114111 := fun q hq => (pcs_range hp hok hq).2
  have hnx := nx_mono hp.1 hlo hub
  have hnx0 : nx p i = lo := by unfold nx; rw [hlo]; rfl
  have hnx1 : nx p (i + 1) ≤ 1114112 := by
    unfold nx
    cases hq : p[i + 1]? with
    | none => simp
    | some y => have := hub y (List.mem_of_getElem? hq); simp; omega
  have hkl := lt_of_get ho
  have nd1 : ks1.Nodup := by rw [hk]; exact addF_nodup h.nd
  have hvx : vSp (lo, nx p (i + 1) - 1) := by unfold vSp; simp; omega
  have hold : ∀ (j : Nat) key, ks1[j]? = some key → j < ks.length → ks[j]? = some key := by
    intro j key h1 h2
    rw [hk] at h1
    unfold addF at h1
    split at h1
    · exact h1
    · rwa [List.getElem?_append_left h2] at h1
  refine ⟨?_, nd1, by simp [hl1], by rw [hk]; unfold addF; have := h.cnt; split; omega; simp; omega, ?_, ?_, ?_⟩
  · rw [hk, take_snoc hlo, List.map_append, List.map_cons, List.map_nil, firsts_snoc, ← h.keys]
  · intro j q hq
    rw [List.getElem?_set] at hq
    split at hq
    · rename_i hkj
      have hq' := Option.some.inj hq
      subst hq'
      rcases hsame k o ho with h2 | ⟨_, h2, _⟩
      · have h3 := h.ok k o h2
        exact ⟨fun s hs => by rcases List.mem_append.1 hs with h4 | h4; exact h3.1 s h4; rw [List.mem_singleton] at h4; subst h4; exact hvx, by simp; omega⟩
      · subst h2
        exact ⟨fun s hs => by simp at hs; subst hs; exact hvx, by simp⟩
    · rcases hsame j q hq with h2 | ⟨_, h2, _⟩
      · exact ⟨(h.ok j q h2).1, by have := (h.ok j q h2).2; omega⟩
      · subst h2; exact ⟨fun s hs => absurd hs List.not_mem_nil, by simp⟩
  · intro r h0 h1
    rw [hk, addF_mem]
    rcases ltLe r lo with h2 | h2
    · exact .inl (h.cov r h0 (by rw [hnx0]; exact h2))
    · exact .inr (same_piece hp hok hlo h2 h1)
  · intro j key q r hj hq h0 h1
    rw [List.getElem?_set] at hq
    split at hq
    · rename_i hkj
      have hq' := Option.some.inj hq
      subst hq'
      subst hkj
      rw [hkm] at hj
      have hkey := Option.some.inj hj
      subst hkey
      rw [inS_snoc]
      have hin : inS o r = (decide (r < lo) && decide (markL ll r = markL ll lo)) := by
        rcases hsame k o ho with h2 | ⟨_, h2, h3⟩
        · have := h.mem k _ o r (hold k _ hkm (by have := lt_of_get h2; have := h.len; omega)) h2 h0 h1
          rw [hnx0] at this; exact this
        · subst h2
          symm
          rw [inS_nil, Bool.and_eq_false_iff]
          rcases ltLe r lo with h4 | h4
          · right; rw [decide_eq_false_iff_not]; intro h5; exact h3 (h5 ▸ h.cov r h0 (by rw [hnx0]; exact h4))
          · left; rw [decide_eq_false_iff_not]; omega
      rw [hin]
      rcases ltLe r lo with h4 | h4
      · have e1 : decide (r < lo) = true := decide_eq_true h4
        have e2 : decide (lo ≤ r) = false := decide_eq_false (by omega)
        have e3 : decide (r < nx p (i + 1)) = true := decide_eq_true (by omega)
        simp only [e1, e2, e3, Bool.true_and, Bool.false_and, Bool.or_false]
      · have e1 : decide (r < lo) = false := decide_eq_false (by omega)
        have e2 : decide (lo ≤ r) = true := decide_eq_true h4
        simp only [e1, e2, Bool.true_and, Bool.false_and, Bool.false_or]
        rcases ltLe r (nx p (i + 1)) with h5 | h5
        · rw [decide_eq_true h5, decide_eq_true (same_piece hp hok hlo h4 h5)]
          simp; omega
        · rw [decide_eq_false (show ¬ r < nx p (i + 1) by omega)]
          simp; omega
    · rename_i hkj
      have hne : key ≠ markL ll lo := fun e => by subst e; exact hkj (get_nodup nd1 hkm hj)
      rcases hsame j q hq with h2 | ⟨h2, _, h3⟩
      · have hjl : j < ks.length := by have := lt_of_get h2; have := h.len; omega
        have := h.mem j key q r (hold j key hj hjl) h2 h0 h1
        rw [this, hnx0]
        rcases ltLe r lo with h4 | h4
        · rw [decide_eq_true h4, decide_eq_true (show r < nx p (i + 1) by omega)]
        · rw [decide_eq_false (show ¬ r < lo by omega)]
          rcases ltLe r (nx p (i + 1)) with h5 | h5
          · rw [same_piece hp hok hlo h4 h5, decide_eq_false (show ¬ markL ll lo = key from fun e => hne e.symm)]; simp
          · rw [decide_eq_false (show ¬ r < nx p (i + 1) by omega)]
      · exfalso
        subst h2
        rw [hk] at hj
        unfold addF at hj
        rw [if_neg h3, List.getElem?_append_right (Nat.le_refl _)] at hj
        simp at hj
        exact hne hj.symm
def badE : List (List Sp) → Int
  | [] => 0
  | l :: ll => if checkE l ≠ 0 then checkE l else badE ll
def clsL (ll : List (List Sp)) (cs : List (List Sp)) : Prop := ∃ p, PcsOf ll.flatten p ∧ cs.length = (firsts (p.map (markL ll))).length ∧ ∀ (k : Nat) key c, (firsts (p.map (markL ll)))[k]? = some key → cs[k]? = some c → IsSet c (fun r => decide (markL ll r = key))
def largeB (cs : List (List Sp)) : Prop := (∃ c ∈ cs, 16 < c.length) ∨ 16 < cs.length
def clsP (ll out : List (List Sp)) (e : Int) : Prop := (badE ll ≠ 0 ∧ e = badE ll ∧ out = []) ∨ (badE ll = 0 ∧ ∃ cs, clsL ll cs ∧ ((largeB cs ∧ e = 2 ∧ out = []) ∨ (¬ largeB cs ∧ e = 0 ∧ out = cs)))
theorem clsL.uniq {ll cs cs' : List (List Sp)} (h : clsL ll cs) (h' : clsL ll cs') : cs = cs' := by
  obtain ⟨p, hp, hl, hm⟩ := h
  obtain ⟨q, hq, hl', hm'⟩ := h'
  obtain rfl : p = q := lt_unique hp.1 hq.1 fun x => (hp.2 x).trans (hq.2 x).symm
  apply get_ext (by omega)
  intro i hi
  obtain ⟨c, hc⟩ := get_of_lt (l := cs) (i := i) hi
  obtain ⟨c', hc'⟩ := get_of_lt (l := cs') (i := i) (by omega)
  obtain ⟨key, hk⟩ := get_of_lt (l := firsts (p.map (markL ll))) (i := i) (by omega)
  rw [hc, hc', IsSet.eq (hm i key c hk hc) (hm' i key c' hk hc') fun _ _ _ => rfl]
theorem clsP.uniq {ll o o' : List (List Sp)} {e e' : Int} (h : clsP ll o e) (h' : clsP ll o' e') : e = e' ∧ o = o' := by
  rcases h with ⟨h1, rfl, rfl⟩ | ⟨h1, cs, hc, hf⟩ <;> rcases h' with ⟨h2, rfl, rfl⟩ | ⟨h2, ds, hd, hg⟩
  · exact ⟨rfl, rfl⟩
  · exact absurd h2 h1
  · exact absurd h1 h2
  · obtain rfl := hc.uniq hd
    rcases hf with ⟨h3, rfl, rfl⟩ | ⟨h3, rfl, rfl⟩ <;> rcases hg with ⟨h4, rfl, rfl⟩ | ⟨h4, rfl, rfl⟩
    · exact ⟨rfl, rfl⟩
    · exact absurd h3 h4
    · exact absurd h4 h3
    · exact ⟨rfl, rfl⟩
theorem GInv.done {ll : List (List Sp)} {p : List Int} {ks : List (List Bool)} {outs cs : List (List Sp)} (h : GInv ll p p.length ks outs) (hp : PcsOf ll.flatten p) (hl : cs.length = outs.length) (hj : ∀ (k : Nat) o c, outs[k]? = some o → cs[k]? = some c → JoinOf o c) : clsL ll cs := by
  have hks := h.keys
  rw [List.take_length] at hks
  refine ⟨p, hp, by rw [← hks, hl, h.len], fun k key c hk hc => ?_⟩
  rw [← hks] at hk
  obtain ⟨o, ho⟩ := get_of_lt (l := outs) (i := k) (by have := lt_of_get hc; omega)
  have h1 := IsSet.join (hj k o c ho hc) (h.ok k o ho).1
  refine ⟨h1.1.1, fun r r0 r1 => ?_⟩
  rw [h1.1.2 r r0 r1, h.mem k key o r hk ho r0 r1]
  have : r < nx p p.length := by unfold nx; rw [List.getElem?_eq_none (Nat.le_refl _)]; simp; omega
  rw [decide_eq_true this]; simp
end Go.Proofs
