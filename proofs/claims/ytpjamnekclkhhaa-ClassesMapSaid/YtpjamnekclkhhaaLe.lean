/- Partitions of the runes, plain: what Check tells. -/
import Derived.Test.YtpjamnekclkhhaaCn
namespace Go.Proofs
open Go Go.Eng Go.Sort

def hasS (s : Sp) (r : Int) : Bool := decide (s.1 ≤ r) && decide (r ≤ s.2)
theorem inS_has (l : List Sp) (r : Int) : inS l r = l.any fun s => hasS s r := rfl
def isPart (ll : List (List Sp)) : Prop := ∀ r, 0 ≤ r → r ≤ 1114111 → ll.countP (fun l => inS l r) = 1
def headLo : List Sp → Int
  | [] => -1
  | s :: _ => s.1
def lastLo (ll : List (List Sp)) : Nat → Int
  | 0 => -1
  | k + 1 => headLo (ll.getD k [])
def hdOk (ll : List (List Sp)) (k : Nat) : Prop := ll.getD k [] ≠ [] ∧ lastLo ll k < headLo (ll.getD k [])
def headsP (ll : List (List Sp)) : Prop := ∀ k, k < ll.length → hdOk ll k
open Classical in
noncomputable def partE (ll : List (List Sp)) : Int := if 16 < ll.length then 2 else if badE ll ≠ 0 then badE ll else if headsP ll ∧ isPart ll then 0 else 3
theorem partE_large {ll : List (List Sp)} (h : 16 < ll.length) : partE ll = 2 := by unfold partE; rw [if_pos h]
theorem partE_bad {ll : List (List Sp)} (h : ¬ 16 < ll.length) (hb : badE ll ≠ 0) : partE ll = badE ll := by unfold partE; rw [if_neg h, if_pos hb]
theorem partE_form {ll : List (List Sp)} (h : ¬ 16 < ll.length) (hb : badE ll = 0) (hp : ¬ (headsP ll ∧ isPart ll)) : partE ll = 3 := by unfold partE; rw [if_neg h, if_neg (by simp [hb]), if_neg hp]
theorem partE_ok {ll : List (List Sp)} (h : ¬ 16 < ll.length) (hb : badE ll = 0) (hp : headsP ll ∧ isPart ll) : partE ll = 0 := by unfold partE; rw [if_neg h, if_neg (by simp [hb]), if_pos hp]
theorem partE_zero {ll : List (List Sp)} (h : partE ll = 0) : ¬ 16 < ll.length ∧ badE ll = 0 ∧ headsP ll ∧ isPart ll := by
  unfold partE at h
  split at h
  · cases h
  · split at h
    · rename_i h1 h2; exact absurd h h2
    · split at h
      · rename_i h1 h2 h3; exact ⟨h1, by simpa using h2, h3.1, h3.2⟩
      · cases h
theorem badE_all : ∀ {ll : List (List Sp)}, badE ll = 0 → ∀ l ∈ ll, checkE l = 0
  | x :: ll, h, l, hl => by
    unfold badE at h
    split at h
    · rename_i h1; exact absurd h h1
    · rename_i h1
      rcases List.mem_cons.1 hl with rfl | h2
      · simpa using h1
      · exact badE_all h l h2
/-- A canonical set has at most one span around a rune. -/
theorem canon_count : ∀ {l : List Sp} {r : Int}, Canon l → l.countP (fun s => hasS s r) = if inS l r then 1 else 0
  | [], r, _ => rfl
  | s :: l, r, h => by
    rw [List.countP_cons, canon_count h.tail, inS_cons]
    have e : (decide (s.1 ≤ r) && decide (r ≤ s.2)) = hasS s r := rfl
    rw [e]
    cases hs : hasS s r with
    | false => simp
    | true =>
      have : inS l r = false := canon_low h (by unfold hasS at hs; simp at hs; omega)
      simp [this]
theorem flat_count : ∀ {ll : List (List Sp)} {r : Int}, (∀ l ∈ ll, Canon l) → ll.flatten.countP (fun s => hasS s r) = ll.countP fun l => inS l r
  | [], r, _ => rfl
  | l :: ll, r, h => by
    rw [List.flatten_cons, List.countP_append, List.countP_cons, canon_count (h l List.mem_cons_self), flat_count fun x hx => h x (List.mem_cons_of_mem _ hx)]
    omega
def chain : Int → List Sp → Bool
  | n, [] => decide (n = 1114112)
  | n, s :: l => decide (s.1 = n) && chain (s.2 + 1) l
theorem chain_low : ∀ {l : List Sp} {n : Int}, (∀ s ∈ l, vSp s) → chain n l = true → ∀ s ∈ l, n ≤ s.1
  | x :: l, n, hv, h, s, hs => by
    simp only [chain, Bool.and_eq_true, decide_eq_true_eq] at h
    rcases List.mem_cons.1 hs with rfl | h1
    · omega
    · have h2 := chain_low (fun y hy => hv y (List.mem_cons_of_mem _ hy)) h.2 s h1
      have h3 := hv x List.mem_cons_self
      unfold vSp at h3
      omega
theorem count_zero {l : List Sp} {r : Int} (h : ∀ s ∈ l, r < s.1) : l.countP (fun s => hasS s r) = 0 := by
  rw [List.countP_eq_zero]
  intro s hs
  have := h s hs
  unfold hasS
  simp only [Bool.and_eq_true, decide_eq_true_eq]
  omega
theorem chain_count : ∀ {l : List Sp} {n : Int}, (∀ s ∈ l, vSp s) → chain n l = true → ∀ r, n ≤ r → r ≤ 1114111 → l.countP (fun s => hasS s r) = 1
  | [], n, _, h, r, h1, h2 => by simp [chain] at h; omega
  | s :: l, n, hv, h, r, h1, h2 => by
    have hv' : ∀ t ∈ l, vSp t := fun y hy => hv y (List.mem_cons_of_mem _ hy)
    simp only [chain, Bool.and_eq_true, decide_eq_true_eq] at h
    rw [List.countP_cons]
    rcases ltLe s.2 r with h3 | h3
    · rw [chain_count hv' h.2 r (by omega) h2]
      have : hasS s r = false := by unfold hasS; rw [decide_eq_false (show ¬ r ≤ s.2 by omega), Bool.and_false]
      simp [this]
    · rw [count_zero fun t ht => by have := chain_low hv' h.2 t ht; omega]
      have : hasS s r = true := by unfold hasS; rw [decide_eq_true h3, decide_eq_true (by omega)]; rfl
      simp [this]
theorem chain_of : ∀ {l : List Sp} {n : Int}, (∀ s ∈ l, vSp s) → l.Pairwise (fun s t => s.1 ≤ t.1) → n ≤ 1114112 → (∀ s ∈ l, n ≤ s.1) → (∀ r, n ≤ r → r ≤ 1114111 → l.countP (fun s => hasS s r) = 1) → chain n l = true
  | [], n, _, _, hn, _, hc => by
    rcases Int.lt_or_le n 1114112 with h | h
    · have := hc n (Int.le_refl _) (by omega); simp at this
    · simp [chain]; omega
  | s :: l, n, hv, hp, hn, hl, hc => by
    have hv' : ∀ t ∈ l, vSp t := fun y hy => hv y (List.mem_cons_of_mem _ hy)
    have hvs := hv s List.mem_cons_self
    unfold vSp at hvs
    have hls := hl s List.mem_cons_self
    have hp' := List.pairwise_cons.1 hp
    have hsn : s.1 = n := by
      rcases Int.lt_or_le n s.1 with h | h
      · have h1 := hc n (Int.le_refl _) (by omega)
        rw [count_zero fun t ht => by
          rcases List.mem_cons.1 ht with rfl | h2
          · exact h
          · have := hp'.1 t h2; omega] at h1
        cases h1
      · omega
    have hlow : ∀ t ∈ l, s.2 + 1 ≤ t.1 := by
      intro t ht
      rcases Int.lt_or_le s.2 t.1 with h | h
      · omega
      · exfalso
        have h1 := hp'.1 t ht
        have hvt := hv' t ht
        unfold vSp at hvt
        have h2 := hc t.1 (by omega) (by omega)
        rw [List.countP_cons] at h2
        have h3 : hasS s t.1 = true := by unfold hasS; rw [decide_eq_true h1, decide_eq_true h]; rfl
        have h4 : 0 < l.countP (fun s => hasS s t.1) := List.countP_pos_iff.2 ⟨t, ht, by unfold hasS; rw [decide_eq_true (Int.le_refl _), decide_eq_true hvt.2.1]; rfl⟩
        rw [h3, if_pos rfl] at h2
        omega
    simp only [chain, Bool.and_eq_true, decide_eq_true_eq]
    refine ⟨hsn, chain_of hv' hp'.2 (by omega) hlow fun r h1 h2 => ?_⟩
    have h3 := hc r (by omega) h2
    rw [List.countP_cons] at h3
    have : hasS s r = false := by unfold hasS; rw [decide_eq_false (show ¬ r ≤ s.2 by omega), Bool.and_false]
    simpa [this] using h3
theorem part_chain {ll : List (List Sp)} {ls : List Sp} (hk : ∀ l ∈ ll, Canon l) (hp : ls.Perm ll.flatten) (hs : ls.Pairwise fun s t => s.1 ≤ t.1) : chain 0 ls = true ↔ isPart ll := by
  have hv : ∀ s ∈ ls, vSp s := fun s h => by
    obtain ⟨l, hl, h1⟩ := List.mem_flatten.1 (hp.mem_iff.1 h)
    exact (hk l hl).ok s h1
  constructor
  · intro h r h0 h1
    rw [← flat_count hk, ← hp.countP_eq]
    exact chain_count hv h r h0 h1
  · intro h
    refine chain_of hv hs (by omega) (fun s h1 => (hv s h1).1) fun r h0 h1 => ?_
    rw [hp.countP_eq, flat_count hk]
    exact h r h0 h1
/-- Each rune has the marks of the piece that it lies in. -/
theorem pcs_cover {ll : List (List Sp)} {p : List Int} (hp : PcsOf ll.flatten p) (hok : ∀ s ∈ ll.flatten, vSp s) : ∀ i, i ≤ p.length → ∀ r, 0 ≤ r → r < nx p i → ∃ k lo, p[k]? = some lo ∧ lo ≤ r ∧ r < nx p (k + 1) ∧ markL ll r = markL ll lo
  | 0, _, r, h0, h1 => by rw [pcs_first hp hok] at h1; omega
  | i + 1, hi, r, h0, h1 => by
    obtain ⟨lo, hlo⟩ := get_of_lt (l := p) (i := i) (by omega)
    rcases ltLe r lo with h2 | h2
    · exact pcs_cover hp hok i (by omega) r h0 (by rw [nx_at hlo]; exact h2)
    · exact ⟨i, lo, hlo, h2, h1, same_piece hp hok hlo h2 h1⟩
theorem pcs_some {ll : List (List Sp)} {p : List Int} (hp : PcsOf ll.flatten p) (hok : ∀ s ∈ ll.flatten, vSp s) {r : Int} (h0 : 0 ≤ r) (h1 : r ≤ 1114111) : ∃ lo ∈ p, markL ll r = markL ll lo := by
  obtain ⟨k, lo, h2, _, _, h3⟩ := pcs_cover hp hok p.length (Nat.le_refl _) r h0 (by unfold nx; rw [List.getElem?_eq_none (Nat.le_refl _)]; simp; omega)
  exact ⟨lo, List.mem_of_getElem? h2, h3⟩
theorem count_mark (ll : List (List Sp)) (r : Int) : ll.countP (fun l => inS l r) = (markL ll r).countP id := by
  unfold markL
  rw [List.countP_map]; rfl
theorem part_pcs {ll : List (List Sp)} {p : List Int} (hp : PcsOf ll.flatten p) (hok : ∀ s ∈ ll.flatten, vSp s) : isPart ll ↔ ∀ r ∈ p, ll.countP (fun l => inS l r) = 1 := by
  constructor
  · intro h r hr
    have := pcs_range hp hok hr
    exact h r this.1 this.2
  · intro h r h0 h1
    obtain ⟨lo, h2, h3⟩ := pcs_some hp hok h0 h1
    rw [count_mark, h3, ← count_mark]
    exact h lo h2
/-- The number of the class of a rune. -/
def atL (ll : List (List Sp)) (r : Int) : Int := match ll.findIdx? (fun l => inS l r) with
  | some k => ((k : Nat) : Int)
  | none => -1
def leastL (ll : List (List Sp)) : List Int := ll.map headLo
end Go.Proofs
