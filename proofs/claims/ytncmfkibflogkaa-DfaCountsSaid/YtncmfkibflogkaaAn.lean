/- The automaton of the words that are not accepted, plain; a clone that is one's own. -/
import Derived.Test.YtncmfkibflogkaaAm
namespace Go.Proofs
open Go Go.Eng Go.Sort
set_option maxRecDepth 100000

--BEGIN
def nt (n : Nat) (t : Int) : Int := if t < 0 then (n : Int) else t
def ntR (n : Nat) (l : List Int) (x : Nat) : List Int := (l.take x).map (nt n) ++ l.drop x
def fl (a : Int) : Int := if a < 0 then 0 else -1
def notD (n c : Nat) (d : Dfa) : Dfa := ⟨d.start, d.accept.map fl ++ [0], d.next.map (fun r => r.map (nt n)) ++ [List.replicate c (n : Int)]⟩
theorem ntR_len (n : Nat) (l : List Int) (x : Nat) : (ntR n l x).length = l.length := by simp [ntR]; omega
theorem ntR_zero (n : Nat) (l : List Int) : ntR n l 0 = l := by simp [ntR]
theorem ntR_all (n : Nat) (l : List Int) : ntR n l l.length = l.map (nt n) := by simp [ntR]
theorem ntR_get {n : Nat} {l : List Int} {x : Nat} {t : Int} (h : l[x]? = some t) : (ntR n l x)[x]? = some t := by
  have hx := lt_of_get h
  rw [ntR, List.getElem?_append_right (by simp; omega)]
  simp only [List.length_map, List.length_take, List.getElem?_drop]
  rw [show x + (x - min x l.length) = x by omega, h]
theorem ntR_split {n : Nat} {l : List Int} {x : Nat} {t : Int} (h : l[x]? = some t) : ntR n l x = (l.take x).map (nt n) ++ t :: l.drop (x + 1) := by
  have hx := lt_of_get h
  have : l[x] = t := by rw [List.getElem?_eq_getElem hx] at h; simpa using h
  rw [ntR, List.drop_eq_getElem_cons hx, this]
theorem ntR_next {n : Nat} {l : List Int} {x : Nat} {t : Int} (h : l[x]? = some t) : ntR n l (x + 1) = (l.take x).map (nt n) ++ nt n t :: l.drop (x + 1) := by
  rw [ntR, List.take_add_one, h]; simp
theorem ntR_same {n : Nat} {l : List Int} {x : Nat} {t : Int} (h : l[x]? = some t) (ht : ¬ t < 0) : ntR n l x = ntR n l (x + 1) := by
  rw [ntR_split h, ntR_next h, nt, if_neg ht]
theorem ntR_set {n : Nat} {l : List Int} {x : Nat} {t : Int} (h : l[x]? = some t) (ht : t < 0) : (ntR n l x).set x (n : Int) = ntR n l (x + 1) := by
  have hx := lt_of_get h
  rw [ntR_split h, ntR_next h, nt, if_pos ht, List.set_append_right _ _ (by simp; omega)]
  simp only [List.length_map, List.length_take]
  rw [show x - min x l.length = 0 by omega]; rfl
theorem nt_rng {n : Nat} {t : Int} (h : -1 ≤ t ∧ t < n) : 0 ≤ nt n t ∧ nt n t < (n + 1 : Nat) := by
  unfold nt; split <;> omega
theorem okNot {n c : Nat} {d : Dfa} (h : OkD n c d) : OkD (n + 1) c (notD n c d) where
  nl := by simp [notD, h.nl]
  al := by simp [notD, h.al]
  st := by have := h.st; show 0 ≤ d.start ∧ d.start < ((n + 1 : Nat) : Int); omega
  acc := fun x hx => by
    simp only [notD, List.mem_append, List.mem_map, List.mem_singleton] at hx
    rcases hx with ⟨a, _, rfl⟩ | rfl
    · unfold fl; split <;> omega
    · decide
  row := fun r hr => by
    simp only [notD, List.mem_append, List.mem_map, List.mem_singleton] at hr
    rcases hr with ⟨q, hq, rfl⟩ | rfl
    · have h1 := h.row q hq
      refine ⟨by simpa using h1.1, fun x hx => ?_⟩
      obtain ⟨t, ht, rfl⟩ := List.mem_map.1 hx
      have := nt_rng (h1.2 t ht)
      omega
    · refine ⟨by simp, fun x hx => ?_⟩
      rw [List.eq_of_mem_replicate hx]
      omega
theorem toD_not {n c : Nat} {d : Dfa} (h : OkD n c d) {s : Int} {x : Nat} (hs : -1 ≤ s ∧ s < n) (hx : x < c) : toD (notD n c d) (nt n s) x = nt n (toD d s x) := by
  have hnl := h.nl
  rcases Int.lt_or_le s 0 with h1 | h1
  · rw [toD_neg h1, show nt n s = ((n : Nat) : Int) by unfold nt; rw [if_pos h1]]
    rw [toD_get (r := List.replicate c (n : Int)) (t := (n : Int)) (by simp [notD, hnl]) (by simp [hx])]
    rfl
  · obtain ⟨sN, rfl⟩ := Int.eq_ofNat_of_zero_le h1
    rw [show nt n ((sN : Nat) : Int) = ((sN : Nat) : Int) by unfold nt; rw [if_neg (by omega)]]
    obtain ⟨row, hrow⟩ := get_of_lt (l := d.next) (i := sN) (by omega)
    have hrl := (h.row row (List.mem_of_getElem? hrow)).1
    obtain ⟨t, ht⟩ := get_of_lt (l := row) (i := x) (by omega)
    rw [toD_get hrow ht, toD_get (r := row.map (nt n)) (t := nt n t)]
    · simp only [notD]
      rw [List.getElem?_append_left (by simp; omega), List.getElem?_map, hrow]; rfl
    · rw [List.getElem?_map, ht]; rfl
theorem atD_not {n c : Nat} {d : Dfa} (h : OkD n c d) {s : Int} (hs : -1 ≤ s ∧ s < n) : atD (notD n c d) (nt n s) = fl (atD d s) := by
  have hal := h.al
  rcases Int.lt_or_le s 0 with h1 | h1
  · rw [show nt n s = ((n : Nat) : Int) by unfold nt; rw [if_pos h1], show atD d s = -1 by unfold atD; rw [if_pos h1]]
    rw [atD_get (t := 0) (by simp [notD, hal])]
    rfl
  · obtain ⟨sN, rfl⟩ := Int.eq_ofNat_of_zero_le h1
    rw [show nt n ((sN : Nat) : Int) = ((sN : Nat) : Int) by unfold nt; rw [if_neg (by omega)]]
    obtain ⟨a, ha⟩ := get_of_lt (l := d.accept) (i := sN) (by omega)
    rw [atD_get ha, atD_get (t := fl a)]
    simp only [notD]
    rw [List.getElem?_append_left (by simp; omega), List.getElem?_map, ha]; rfl
theorem beh_not {n c : Nat} {d : Dfa} (h : OkD n c d) : ∀ {w : List Nat} {s : Int}, inW c w → -1 ≤ s ∧ s < n → beh (notD n c d) (nt n s) w = fl (beh d s w)
  | [], s, _, hs => atD_not h hs
  | x :: w, s, hw, hs => by
    simp only [beh]
    rw [toD_not h hs hw.head]
    exact beh_not h hw.tail h.to
theorem beh_notD {n c : Nat} {d : Dfa} (h : OkD n c d) {w : List Nat} (hw : inW c w) : beh (notD n c d) (notD n c d).start w = fl (beh d d.start w) := by
  have hst := h.st
  have := beh_not h (s := d.start) hw (by omega)
  rwa [show nt n d.start = d.start by unfold nt; rw [if_neg (by omega)]] at this
theorem notD_acc {n c : Nat} {d : Dfa} : ∀ x ∈ (notD n c d).accept, x < 2147483648 := fun x hx => by
  simp only [notD, List.mem_append, List.mem_map, List.mem_singleton] at hx
  rcases hx with ⟨a, _, rfl⟩ | rfl
  · unfold fl; split <;> omega
  · decide
theorem CanOf.congr {c : Nat} {f g : List Nat → Int} {C : Dfa} (h : CanOf c f C) (e : ∀ w, inW c w → f w = g w) : CanOf c g C := by
  obtain ⟨m, h1, h2, h3, h4⟩ := h
  exact ⟨m, h1, fun w hw => (h2 w hw).trans (e w hw), h3, h4⟩
--END

def cloF (l : List Int) (hs : Nat) (r : Value) (w : World) : Prop := ∃ b rest k, r = .slice (some ⟨b, 0, none⟩) l.length k ∧ hs ≤ b ∧ Blk w b (l.map (Value.int .i64) ++ rest).toArray TDI ∧ l.length + rest.length = k ∧ k ≤ 9223372036854775807
set_option maxHeartbeats 400000 in
theorem cloneo_c (w0 : World) (v : Value) (l : List Int) (h : IntsAt w0 v l) (hl : l.length ≤ 2000000) (h1 : 0 < l.length) :
    Ret Try.prog 74 #[v] w0 fun r w => cloF l w0.heap.size r w ∧ Ext w0 w := by
  obtain ⟨a, c, rfl⟩ := SlAt.form h
  simp only [List.length_map] at h ⊢
  obtain ⟨base, hbase⟩ : ∃ base, base = w0.heap.size := ⟨_, rfl⟩
  obtain ⟨b, o, rfl, hcl⟩ := ints_cells h h1
  refine Ret_of Try.func74 rfl Try.ntmps74 (Nat.le_of_ble_eq_true rfl) ?_
  have E : Chg none1 w0 w0 := Chg.refl _ _
  refine Wp_seq_region ?_
  refine WpL_val rfl rfl (by decide) (r_assign (v := (.slice none 0 0)) rfl) ?_
  refine WpL_nil ?_
  refine Wp_seq ?_
  refine Wp_seq_region ?_
  refine WpL_val rfl rfl (by decide) (r_move (v := (.slice (some ⟨b, o, none⟩) l.length c)) rfl) ?_
  refine WpL_val (v := (.bool ((some (⟨b, o, none⟩ : Addr)).isNone))) rfl rfl (by decide) (r_eqlNil Try.underlying22 rfl rfl) ?_
  refine WpL_nil ?_
  have hc1 : ((some (⟨b, o, none⟩ : Addr)).isNone) = false := rfl
  refine Wp_cond_false (congrArg Value.bool hc1) ?_
  refine Wp_skip ?_
  refine thn_normal ?_
  refine Wp_seq_region ?_
  refine s_build0 (by decide) Try.underlying22 siz3 ?_
  intro bq wq Nq
  have Fq := Nq.ge E
  replace E := E.ext Nq.ext
  have Bq := Nq.blk
  refine WpL_val rfl rfl (by decide) (r_move (v := (.slice (some ⟨b, o, none⟩) l.length c)) rfl) ?_
  have hown := own_empty (base := base) (size := 1) Bq (by omega)
  have hbs : base ≤ wq.heap.size := by have := Nq.ext.size; omega
  refine s_append (base := base) (n := 0) (m := l.length) (xs := []) (news := l.map (Value.int .i64)) (size := 1) (bytes := 8) (v := (.slice (some ⟨bq, 0, none⟩) 0 0)) (by decide) Try.underlying22 siz3 byt3 zer3 rfl (by decide) rfl hown rfl (by simp) (fun i u hu => by rw [List.getElem?_map, Option.map_eq_some_iff] at hu; obtain ⟨x, hx, rfl⟩ := hu; exact Nq.ext.cell (hcl i x hx)) (by simp [Value.oneCell']) (by unfold maxLen; omega) (by omega) (hbs) ?_
  intro v9 w29 Ov9 Cv9 Dv9
  replace E := E.step Cv9 (fun x hx h => absurd (hown.lt x h).1 (by omega))
  obtain ⟨la, lc, rfl⟩ := own_form Ov9
  refine WpL_val rfl rfl (by decide) (r_assign (v := (.slice la (0 + l.length) lc)) rfl) ?_
  refine WpL_nil ?_
  refine Wp_ret ?_
  refine fin_tmp Try.results74 (v := (.slice la (0 + l.length) lc)) rfl ?_
  simp only [Nat.zero_add, List.nil_append] at Ov9
  simp only [Nat.zero_add]
  rcases Ov9.2 with ⟨_, h2⟩ | ⟨g, cap, cur, h1, h2, h3, h4, h5, h6, h7⟩
  · omega
  · simp only [Value.slice.injEq] at h1
    obtain ⟨rfl, _, rfl⟩ := h1
    have e9 : (l.map (Value.int .i64) ++ cur.toList.drop (l.length * 1)).toArray = cur := by rw [← h7, List.take_append_drop]
    refine ⟨⟨g, cur.toList.drop (l.length * 1), lc, rfl, by omega, by rw [e9]; exact h3, ?_, h5⟩, E⟩
    have e8 := congrArg Array.size e9
    simp only [List.size_toArray, List.length_append, List.length_map] at e8
    omega
theorem own_cap {w : World} {b base k : Nat} {l : List Int} {rest : List Value} (h : Blk w b (l.map (Value.int .i64) ++ rest).toArray TDI) (hb : base ≤ b) (hk : l.length + rest.length = k) (hm : k ≤ 9223372036854775807) : w.ownsRow base TDI 1 (.slice (some ⟨b, 0, none⟩) l.length k) l.length (l.map (Value.int .i64)) :=
  ⟨by simp, .inr ⟨b, k, _, rfl, hb, h, by omega, hm, by simp; omega, by simp [List.take_append_of_le_length]⟩⟩
end Go.Proofs
