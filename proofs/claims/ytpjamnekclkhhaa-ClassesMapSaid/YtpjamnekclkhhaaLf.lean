/- What the partition with the fewest classes is: few and short classes, in the order of their least runes. Plain. -/
import Derived.Test.YtpjamnekclkhhaaLe
namespace Go.Proofs
open Go Go.Eng Go.Sort

theorem nodup_le {α : Type} [DecidableEq α] : ∀ {l m : List α}, l.Nodup → (∀ x ∈ l, x ∈ m) → l.length ≤ m.length
  | [], _, _, _ => Nat.zero_le _
  | x :: l, m, hd, h => by
    have hd' := List.nodup_cons.1 hd
    have hx := h x List.mem_cons_self
    have h1 := nodup_le (l := l) (m := m.erase x) hd'.2 fun y hy => (List.mem_erase_of_ne (show y ≠ x from fun e => hd'.1 (by rw [← e]; exact hy))).2 (h y (List.mem_cons_of_mem _ hy))
    rw [List.length_erase_of_mem hx] at h1
    have := List.length_pos_of_mem hx
    simp only [List.length_cons]
    omega
def ptsL : List Sp → List Int
  | [] => []
  | s :: l => s.1 :: (s.2 + 1) :: ptsL l
theorem ptsL_len : ∀ l : List Sp, (ptsL l).length = 2 * l.length
  | [] => rfl
  | s :: l => by simp only [ptsL, List.length_cons, ptsL_len l]; omega
theorem ptsL_mem : ∀ {l : List Sp} {x : Int}, x ∈ ptsL l ↔ ∃ s ∈ l, x = s.1 ∨ x = s.2 + 1
  | [], x => by simp [ptsL]
  | s :: l, x => by
    simp only [ptsL, List.mem_cons, ptsL_mem (l := l), exists_eq_or_imp]
    constructor
    · rintro (h | h | h)
      · exact .inl (.inl h)
      · exact .inl (.inr h)
      · exact .inr h
    · rintro ((h | h) | h)
      · exact .inl h
      · exact .inr (.inl h)
      · exact .inr (.inr h)
theorem ptsL_lt : ∀ {l : List Sp}, Canon l → (ptsL l).Pairwise (· < ·)
  | [], _ => List.Pairwise.nil
  | s :: l, h => by
    have hv := h.head
    unfold vSp at hv
    have hf := h.far
    have hlow : ∀ x ∈ ptsL l, s.2 + 1 < x := fun x hx => by
      obtain ⟨t, ht, h1⟩ := ptsL_mem.1 hx
      have := hf t ht
      have hvt := h.tail.ok t ht
      unfold vSp at hvt
      rcases h1 with h1 | h1 <;> omega
    refine List.Pairwise.cons (fun x hx => ?_) (List.Pairwise.cons (fun x hx => hlow x hx) (ptsL_lt h.tail))
    rcases List.mem_cons.1 hx with h1 | h1
    · omega
    · have := hlow x h1; omega
/-- A canonical set whose membership is constant between cuts has its ends at cuts. -/
theorem const_ends {p : List Int} {f : Int → Bool} {c : List Sp} (hp0 : (0 : Int) ∈ p) (hc : Const f p) (h : IsSet c f) {s : Sp} (hs : s ∈ c) : s.1 ∈ p ∧ (s.2 < 1114111 → s.2 + 1 ∈ p) := by
  have hv := h.1.ok s hs
  unfold vSp at hv
  have hgap : ∀ t ∈ c, t = s ∨ t.2 + 2 ≤ s.1 ∨ s.2 + 2 ≤ t.1 := by
    intro t ht
    have hg := h.1.gap
    obtain ⟨i, hi⟩ := List.getElem?_of_mem hs
    obtain ⟨j, hj⟩ := List.getElem?_of_mem ht
    have hil := lt_of_get hi
    have hjl := lt_of_get hj
    rw [List.getElem?_eq_getElem hil] at hi
    rw [List.getElem?_eq_getElem hjl] at hj
    cases hi; cases hj
    rcases Nat.lt_trichotomy i j with h1 | h1 | h1
    · exact .inr (.inr (List.pairwise_iff_getElem.1 hg i j hil hjl h1))
    · subst h1; exact .inl rfl
    · exact .inr (.inl (List.pairwise_iff_getElem.1 hg j i hjl hil h1))
  have hout : ∀ r, (r = s.1 - 1 ∨ r = s.2 + 1) → inS c r = false := by
    intro r hr
    cases hh : inS c r with
    | false => rfl
    | true =>
      obtain ⟨t, ht, h1, h2⟩ := inS_iff.1 hh
      rcases hgap t ht with h3 | h3 | h3
      · subst h3; omega
      · omega
      · omega
  have hin : ∀ r, s.1 ≤ r → r ≤ s.2 → f r = true := fun r h1 h2 => by rw [← h.2 r (by omega) (by omega)]; exact inS_iff.2 ⟨s, hs, h1, h2⟩
  -- between the greatest cut at or below a point and the point f is constant
  have key : ∀ x : Int, 1 ≤ x → x ≤ 1114111 → f (x - 1) ≠ f x → x ∈ p := by
    intro x h1 h2 hne
    apply Classical.byContradiction
    intro hx
    -- the greatest cut below x
    obtain ⟨a, ha, hax, hmax⟩ : ∃ a ∈ p, a ≤ x - 1 ∧ ∀ k ∈ p, k ≤ x - 1 → k ≤ a := by
      have : ∀ l : List Int, (∃ a ∈ l, a ≤ x - 1) → ∃ a ∈ l, a ≤ x - 1 ∧ ∀ k ∈ l, k ≤ x - 1 → k ≤ a := by
        intro l
        induction l with
        | nil => rintro ⟨a, ha, _⟩; cases ha
        | cons y l ih =>
          rintro ⟨a, ha, hax⟩
          by_cases hl : ∃ a ∈ l, a ≤ x - 1
          · obtain ⟨b, hb, hbx, hbm⟩ := ih hl
            by_cases hy : y ≤ x - 1 ∧ b < y
            · exact ⟨y, List.mem_cons_self, hy.1, fun k hk hkx => by rcases List.mem_cons.1 hk with rfl | h3; omega; have := hbm k h3 hkx; omega⟩
            · exact ⟨b, List.mem_cons_of_mem _ hb, hbx, fun k hk hkx => by rcases List.mem_cons.1 hk with rfl | h3; omega; exact hbm k h3 hkx⟩
          · rcases List.mem_cons.1 ha with rfl | h3
            · exact ⟨a, List.mem_cons_self, hax, fun k hk hkx => by rcases List.mem_cons.1 hk with rfl | h4; omega; exact absurd ⟨k, h4, hkx⟩ hl⟩
            · exact absurd ⟨a, h3, hax⟩ hl
      exact this p ⟨0, hp0, by omega⟩
    have hb : ∀ k ∈ p, k ≤ a ∨ x < k := fun k hk => by
      rcases Int.lt_or_le x k with h3 | h3
      · exact .inr h3
      · left
        refine hmax k hk ?_
        rcases Int.lt_or_le k x with h4 | h4
        · omega
        · have e : x = k := by omega
          exact absurd (e ▸ hk) hx
    have e1 := hc a x ha (by omega) h2 hb
    have e2 := hc a (x - 1) ha hax (by omega) fun k hk => by rcases hb k hk with h3 | h3; exact .inl h3; right; omega
    exact hne (e2.trans e1.symm)
  constructor
  · rcases Int.lt_or_le 0 s.1 with h0 | h0
    · refine key s.1 (by omega) (by omega) ?_
      rw [hin s.1 (Int.le_refl _) hv.2.1, ← h.2 (s.1 - 1) (by omega) (by omega), hout _ (.inl rfl)]
      decide
    · have : s.1 = 0 := by omega
      rw [this]; exact hp0
  · intro h1
    refine key (s.2 + 1) (by omega) (by omega) ?_
    rw [show s.2 + 1 - 1 = s.2 by omega, hin s.2 hv.2.1 (Int.le_refl _), ← h.2 (s.2 + 1) (by omega) (by omega), hout _ (.inr rfl)]
    decide
theorem const_len {p : List Int} {f : Int → Bool} {c : List Sp} (hp0 : (0 : Int) ∈ p) (hc : Const f p) (h : IsSet c f) : 2 * c.length ≤ p.length + 1 := by
  have h1 := ptsL_lt h.1
  have h2 : (ptsL c).Nodup := h1.imp fun hx => by omega
  have h3 := nodup_le (l := ptsL c) (m := 1114112 :: p) h2 fun x hx => by
    obtain ⟨s, hs, hh⟩ := ptsL_mem.1 hx
    have hv := h.1.ok s hs
    unfold vSp at hv
    obtain ⟨e1, e2⟩ := const_ends hp0 hc h hs
    rcases hh with hh | hh
    · rw [hh]; exact List.mem_cons_of_mem _ e1
    · rcases Int.lt_or_le s.2 1114111 with h4 | h4
      · rw [hh]; exact List.mem_cons_of_mem _ (e2 h4)
      · rw [hh, show s.2 + 1 = 1114112 by omega]; exact List.mem_cons_self
  rw [ptsL_len] at h3
  simpa using h3
theorem pcs_few {l : List Sp} {p : List Int} (h : PcsOf l p) : p.length ≤ 2 * l.length + 1 := by
  have h1 := nodup_le (l := p) (m := 0 :: ptsL l) (h.1.imp fun hx => by omega) fun x hx => by
    rcases (h.2 x).1 hx with h2 | ⟨s, hs, h2⟩
    · rw [h2]; exact List.mem_cons_self
    · refine List.mem_cons_of_mem _ (ptsL_mem.2 ⟨s, hs, ?_⟩)
      rcases h2 with h2 | ⟨_, h2⟩
      · exact .inl h2
      · exact .inr h2
  rw [List.length_cons, ptsL_len] at h1
  exact h1
theorem mark_const {ll : List (List Sp)} {p : List Int} (hp : PcsOf ll.flatten p) (key : List Bool) : Const (fun r => decide (markL ll r = key)) p := by
  intro a r ha h0 h1 hb
  have : markL ll r = markL ll a := by
    unfold markL
    apply List.map_congr_left
    intro l hl
    exact pcs_const hp hl a r ha h0 h1 hb
  show decide (markL ll r = key) = decide (markL ll a = key)
  rw [this]
/-- The marks in the order of their first place. -/
structure FirstAt (l : List (List Bool)) (ks : List (List Bool)) (js : List Nat) : Prop where
  len : js.length = ks.length
  lt : js.Pairwise (· < ·)
  at' : ∀ (k j : Nat) key, js[k]? = some j → ks[k]? = some key → l[j]? = some key ∧ ∀ i, i < j → l[i]? ≠ some key
theorem first_at (l : List (List Bool)) : ∃ js, FirstAt l (firsts l) js ∧ (∀ j ∈ js, j < l.length) ∧ ∀ m ∈ l, m ∈ firsts l := by
  suffices h : ∀ n, n ≤ l.length → ∃ js, FirstAt (l.take n) (firsts (l.take n)) js ∧ (∀ j ∈ js, j < n) ∧ ∀ m ∈ l.take n, m ∈ firsts (l.take n) by
    have := h l.length (Nat.le_refl _)
    rwa [List.take_length] at this
  intro n
  induction n with
  | zero => intro _; exact ⟨[], ⟨rfl, List.Pairwise.nil, fun k j key h => by simp at h⟩, fun j h => (by cases h), fun m h => (by simp at h)⟩
  | succ n ih =>
    intro hn
    obtain ⟨js, hF, hb, hm⟩ := ih (by omega)
    obtain ⟨x, hx⟩ := get_of_lt (l := l) (i := n) (by omega)
    rw [take_snoc hx, firsts_snoc]
    have hlen : (l.take n).length = n := by simp; omega
    have hold : ∀ (i : Nat) key, i < n → ((l.take n ++ [x])[i]? = some key ↔ (l.take n)[i]? = some key) := fun i key hi => by rw [List.getElem?_append_left (by omega)]
    unfold addF
    split
    · rename_i hmem
      refine ⟨js, ⟨hF.len, hF.lt, fun k j key h1 h2 => ?_⟩, fun j hj => by have := hb j hj; omega, fun m h => ?_⟩
      · have hjn := hb j (List.mem_of_getElem? h1)
        obtain ⟨h3, h4⟩ := hF.at' k j key h1 h2
        exact ⟨(hold j key hjn).2 h3, fun i hi h5 => h4 i hi ((hold i key (by omega)).1 h5)⟩
      · rcases List.mem_append.1 h with h1 | h1
        · exact hm m h1
        · rw [List.mem_singleton] at h1; rw [h1]; exact hmem
    · rename_i hmem
      refine ⟨js ++ [n], ⟨by simp [hF.len], ?_, fun k j key h1 h2 => ?_⟩, fun j hj => ?_, fun m h => ?_⟩
      · rw [List.pairwise_append]
        exact ⟨hF.lt, List.pairwise_singleton _ _, fun a ha b hb' => by rw [List.mem_singleton] at hb'; subst hb'; exact hb a ha⟩
      · rcases Nat.lt_or_ge k js.length with h3 | h3
        · rw [List.getElem?_append_left h3] at h1
          rw [List.getElem?_append_left (by rw [← hF.len]; exact h3)] at h2
          have hjn := hb j (List.mem_of_getElem? h1)
          obtain ⟨h4, h5⟩ := hF.at' k j key h1 h2
          exact ⟨(hold j key hjn).2 h4, fun i hi h6 => h5 i hi ((hold i key (by omega)).1 h6)⟩
        · rw [List.getElem?_append_right h3] at h1
          rw [List.getElem?_append_right (by rw [← hF.len]; exact h3)] at h2
          have h4 := lt_of_get h1
          simp at h4
          rw [show k - js.length = 0 by omega] at h1
          rw [show k - (firsts (l.take n)).length = 0 by have := hF.len; omega] at h2
          simp at h1 h2
          subst h1; subst h2
          refine ⟨by rw [List.getElem?_append_right (by omega), hlen, Nat.sub_self]; rfl, fun i hi h5 => hmem (hm _ (List.mem_of_getElem? ((hold i _ hi).1 h5)))⟩
      · rcases List.mem_append.1 hj with h1 | h1
        · have := hb j h1; omega
        · rw [List.mem_singleton] at h1; omega
      · rcases List.mem_append.1 h with h1 | h1
        · exact List.mem_append_left _ (hm m h1)
        · exact List.mem_append_right _ h1
theorem head_least {c : List Sp} {m : Int} (h : Canon c) (hm : inS c m = true) (hl : ∀ r, 0 ≤ r → r < m → inS c r = false) : c ≠ [] ∧ headLo c = m := by
  cases c with
  | nil => cases hm
  | cons s l =>
    refine ⟨fun e => (by cases e), ?_⟩
    have hv := h.head
    unfold vSp at hv
    show s.1 = m
    rcases Int.lt_trichotomy s.1 m with h1 | h1 | h1
    · have := hl s.1 (by omega) h1
      have h2 : inS (s :: l) s.1 = true := inS_iff.2 ⟨s, List.mem_cons_self, Int.le_refl _, hv.2.1⟩
      rw [this] at h2; cases h2
    · exact h1
    · rw [canon_below h h1] at hm; cases hm
structure Parted (ll cs : List (List Sp)) : Prop where
  can : ∀ c ∈ cs, Canon c
  part : isPart cs
  heads : headsP cs
  mark : ∀ (k : Nat) c r, cs[k]? = some c → 0 ≤ r → r ≤ 1114111 → (inS c r = true ↔ markL ll r = markL ll (headLo c))
  low : ∀ c ∈ cs, 0 ≤ headLo c ∧ headLo c ≤ 1114111
  inj : ∀ (i j : Nat) c d, cs[i]? = some c → cs[j]? = some d → markL ll (headLo c) = markL ll (headLo d) → i = j
theorem clsL.parted {ll cs : List (List Sp)} (h : clsL ll cs) (hok : ∀ s ∈ ll.flatten, vSp s) : Parted ll cs := by
  obtain ⟨p, hp, hl, hm⟩ := h
  obtain ⟨js, hF, hb, hall⟩ := first_at (p.map (markL ll))
  have hset : ∀ (k : Nat) c, cs[k]? = some c → ∃ key j lo, (firsts (p.map (markL ll)))[k]? = some key ∧ js[k]? = some j ∧ p[j]? = some lo ∧ markL ll lo = key ∧ IsSet c (fun r => decide (markL ll r = key)) ∧ c ≠ [] ∧ headLo c = lo ∧ 0 ≤ lo ∧ lo ≤ 1114111 := by
    intro k c hc
    obtain ⟨key, hk⟩ := get_of_lt (l := firsts (p.map (markL ll))) (i := k) (by have := lt_of_get hc; omega)
    obtain ⟨j, hj⟩ := get_of_lt (l := js) (i := k) (by have := lt_of_get hk; have := hF.len; omega)
    obtain ⟨h1, h2⟩ := hF.at' k j key hj hk
    rw [List.getElem?_map] at h1
    obtain ⟨lo, hlo, he⟩ := Option.map_eq_some_iff.1 h1
    have hS := hm k key c hk hc
    have hrg := pcs_range hp hok (List.mem_of_getElem? hlo)
    obtain ⟨e1, e2⟩ := head_least (m := lo) hS.1 (by rw [hS.2 lo hrg.1 hrg.2]; exact decide_eq_true he) fun r r0 r1 => by
      rw [hS.2 r r0 (by omega), decide_eq_false_iff_not]
      intro hr
      obtain ⟨i, li, h4, h5, _, h6⟩ := pcs_cover hp hok j (by have := lt_of_get hlo; omega) r r0 (by rw [nx_at hlo]; exact r1)
      have hij : i < j := by
        rcases Nat.lt_or_ge i j with h7 | h7
        · exact h7
        · exfalso
          have h8 : lo ≤ li := by
            rcases Nat.lt_or_ge j i with h9 | h9
            · have hjl := lt_of_get hlo
              have hil := lt_of_get h4
              rw [List.getElem?_eq_getElem hjl] at hlo
              rw [List.getElem?_eq_getElem hil] at h4
              cases hlo; cases h4
              exact Int.le_of_lt (List.pairwise_iff_getElem.1 hp.1 j i hjl hil h9)
            · obtain rfl : i = j := by omega
              rw [hlo] at h4; cases h4; exact Int.le_refl _
          omega
      exact h2 i hij (by rw [List.getElem?_map, h4, Option.map_some, ← h6, hr])
    exact ⟨key, j, lo, hk, hj, hlo, he, hS, e1, e2, hrg.1, hrg.2⟩
  have hnd : ∀ (i j : Nat) key, (firsts (p.map (markL ll)))[i]? = some key → (firsts (p.map (markL ll)))[j]? = some key → i = j := by
    intro i j key hi hj
    obtain ⟨a, ha⟩ := get_of_lt (l := js) (i := i) (by have := lt_of_get hi; have := hF.len; omega)
    obtain ⟨b, hb'⟩ := get_of_lt (l := js) (i := j) (by have := lt_of_get hj; have := hF.len; omega)
    obtain ⟨h1, h2⟩ := hF.at' i a key ha hi
    obtain ⟨h3, h4⟩ := hF.at' j b key hb' hj
    have hab : a = b := by
      rcases Nat.lt_trichotomy a b with h5 | h5 | h5
      · exact absurd h1 (h4 a h5)
      · exact h5
      · exact absurd h3 (h2 b h5)
    subst hab
    have hil := lt_of_get ha
    have hjl := lt_of_get hb'
    rw [List.getElem?_eq_getElem hil] at ha
    rw [List.getElem?_eq_getElem hjl] at hb'
    have e := (Option.some.inj ha).trans (Option.some.inj hb').symm
    rcases Nat.lt_trichotomy i j with h3 | h3 | h3
    · have := List.pairwise_iff_getElem.1 hF.lt i j hil hjl h3; omega
    · exact h3
    · have := List.pairwise_iff_getElem.1 hF.lt j i hjl hil h3; omega
  have hinj : ∀ (i j : Nat) c d, cs[i]? = some c → cs[j]? = some d → markL ll (headLo c) = markL ll (headLo d) → i = j := by
    intro i j c d hc hd he
    obtain ⟨key, _, lo, h1, _, _, h2, _, _, h3, _⟩ := hset i c hc
    obtain ⟨key', _, lo', h1', _, _, h2', _, _, h3', _⟩ := hset j d hd
    rw [h3, h3', h2, h2'] at he
    subst he
    exact hnd i j key h1 h1'
  have hmk : ∀ (k : Nat) c r, cs[k]? = some c → 0 ≤ r → r ≤ 1114111 → (inS c r = true ↔ markL ll r = markL ll (headLo c)) := by
    intro k c r hc r0 r1
    obtain ⟨key, _, lo, _, _, _, h2, hS, _, h3, _⟩ := hset k c hc
    rw [hS.2 r r0 r1, decide_eq_true_eq, h3, h2]
  refine ⟨?_, ?_, ?_, hmk, ?_, hinj⟩
  · intro c hc
    obtain ⟨k, hk⟩ := List.getElem?_of_mem hc
    obtain ⟨_, _, _, _, _, _, _, hS, _⟩ := hset k c hk
    exact hS.1
  · intro r r0 r1
    obtain ⟨lo, hlo, hml⟩ := pcs_some hp hok r0 r1
    have hin := hall (markL ll lo) (List.mem_map.2 ⟨lo, hlo, rfl⟩)
    obtain ⟨k, hk⟩ := List.getElem?_of_mem hin
    obtain ⟨c, hc⟩ := get_of_lt (l := cs) (i := k) (by have := lt_of_get hk; omega)
    have hS := hm k _ c hk hc
    have h1 : inS c r = true := by rw [hS.2 r r0 r1]; exact decide_eq_true hml
    have huni : ∀ (j : Nat) d, cs[j]? = some d → inS d r = true → j = k := fun j d hd h2 =>
      hinj j k d c hd hc (((hmk j d r hd r0 r1).1 h2).symm.trans ((hmk k c r hc r0 r1).1 h1))
    have hkl := lt_of_get hc
    rw [show cs = cs.take k ++ c :: cs.drop (k + 1) by rw [← drop_cons hc, List.take_append_drop], List.countP_append, List.countP_cons, h1]
    have z1 : (cs.take k).countP (fun l => inS l r) = 0 := by
      rw [List.countP_eq_zero]
      intro d hd h2
      obtain ⟨j, hj⟩ := List.getElem?_of_mem hd
      have hjl := lt_of_get hj
      simp at hjl
      rw [List.getElem?_take_of_lt (by omega)] at hj
      have := huni j d hj h2; omega
    have z2 : (cs.drop (k + 1)).countP (fun l => inS l r) = 0 := by
      rw [List.countP_eq_zero]
      intro d hd h2
      obtain ⟨j, hj⟩ := List.getElem?_of_mem hd
      rw [List.getElem?_drop] at hj
      have := huni _ d hj h2; omega
    rw [z1, z2]; rfl
  · intro k hk
    obtain ⟨c, hc⟩ := get_of_lt hk
    obtain ⟨_, j, lo, _, hj, hlo, _, _, hne, hh, h0, _⟩ := hset k c hc
    have hgd : cs.getD k [] = c := by simp [List.getD, hc]
    refine ⟨by rw [hgd]; exact hne, ?_⟩
    rw [hgd, hh]
    cases k with
    | zero => show (-1 : Int) < lo; omega
    | succ k =>
      obtain ⟨d, hd⟩ := get_of_lt (l := cs) (i := k) (by omega)
      obtain ⟨_, j', lo', _, hj', hlo', _, _, _, hh', _⟩ := hset k d hd
      have hgd' : cs.getD k [] = d := by simp [List.getD, hd]
      show headLo (cs.getD k []) < lo
      rw [hgd', hh']
      have a1 := lt_of_get hj
      have a2 := lt_of_get hj'
      rw [List.getElem?_eq_getElem a1] at hj
      rw [List.getElem?_eq_getElem a2] at hj'
      cases hj; cases hj'
      have h9 := List.pairwise_iff_getElem.1 hF.lt k (k + 1) a2 a1 (by omega)
      have b1 := lt_of_get hlo
      have b2 := lt_of_get hlo'
      rw [List.getElem?_eq_getElem b1] at hlo
      rw [List.getElem?_eq_getElem b2] at hlo'
      cases hlo; cases hlo'
      exact List.pairwise_iff_getElem.1 hp.1 _ _ b2 b1 h9
  · intro c hc
    obtain ⟨k, hk⟩ := List.getElem?_of_mem hc
    obtain ⟨_, _, lo, _, _, _, _, _, _, h3, h4, h5⟩ := hset k c hk
    rw [h3]; exact ⟨h4, h5⟩
theorem clsL.short {ll cs : List (List Sp)} (h : clsL ll cs) : ∀ c ∈ cs, 2 * c.length ≤ 2 * ll.flatten.length + 2 := by
  obtain ⟨p, hp, hl, hm⟩ := h
  intro c hc
  obtain ⟨k, hk⟩ := List.getElem?_of_mem hc
  obtain ⟨key, hkey⟩ := get_of_lt (l := firsts (p.map (markL ll))) (i := k) (by have := lt_of_get hk; omega)
  have h1 := const_len ((hp.2 0).2 (.inl rfl)) (mark_const hp key) (hm k key c hkey hk)
  have h2 := pcs_few hp
  omega
def allMarks : Nat → List (List Bool)
  | 0 => [[]]
  | n + 1 => (allMarks n).map (true :: ·) ++ (allMarks n).map (false :: ·)
theorem allMarks_mem : ∀ (m : List Bool), m ∈ allMarks m.length
  | [] => List.mem_cons_self
  | b :: m => by
    simp only [List.length_cons, allMarks]
    have := allMarks_mem m
    cases b
    · exact List.mem_append_right _ (List.mem_map.2 ⟨m, this, rfl⟩)
    · exact List.mem_append_left _ (List.mem_map.2 ⟨m, this, rfl⟩)
theorem firsts_nodup : ∀ (l : List (List Bool)), (firsts l).Nodup := by
  intro l
  suffices h : ∀ (l acc : List (List Bool)), acc.Nodup → (l.foldl addF acc).Nodup from h l [] List.nodup_nil
  intro l
  induction l with
  | nil => exact fun acc h => h
  | cons x l ih => exact fun acc h => ih _ (addF_nodup h)
theorem firsts_sub (l : List (List Bool)) : ∀ m ∈ firsts l, m ∈ l := by
  suffices h : ∀ (l acc : List (List Bool)), ∀ m ∈ l.foldl addF acc, m ∈ acc ∨ m ∈ l by
    intro m hm
    rcases h l [] m hm with h1 | h1
    · cases h1
    · exact h1
  intro l
  induction l with
  | nil => exact fun acc m h => .inl h
  | cons x l ih =>
    intro acc m h
    rcases ih _ m h with h1 | h1
    · rcases addF_mem.1 h1 with h2 | h2
      · exact .inl h2
      · rw [h2]; exact .inr List.mem_cons_self
    · exact .inr (List.mem_cons_of_mem _ h1)
theorem clsL.few {ll cs : List (List Sp)} (h : clsL ll cs) : cs.length ≤ (allMarks ll.length).length := by
  obtain ⟨p, hp, hl, hm⟩ := h
  rw [hl]
  refine nodup_le (firsts_nodup _) fun m hm => ?_
  obtain ⟨r, _, rfl⟩ := List.mem_map.1 (firsts_sub _ m hm)
  have := allMarks_mem (markL ll r)
  rwa [show (markL ll r).length = ll.length by simp [markL]] at this
end Go.Proofs
