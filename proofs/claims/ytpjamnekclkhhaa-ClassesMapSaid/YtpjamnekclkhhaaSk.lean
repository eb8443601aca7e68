/- Contracts: the reference's pieces and what is chosen of them. -/
import Derived.Test.YtpjamnekclkhhaaSh
import Derived.Test.YtpjamnekclkhhaaMp
namespace Go.Proofs
open Go Go.Eng Go.Sort
set_option maxRecDepth 100000

abbrev TInt : Nat := 3
def OwnI (w : World) (base : Nat) (r : Value) (l : List Int) : Prop := (∃ a c, r = .slice a l.length c) ∧ w.ownsRow base TInt 1 r l.length (l.map (Value.int .i64))
theorem ints_flat (l : List Int) : (l.map intV).flatten = l.map (Value.int .i64) := by
  induction l with
  | nil => rfl
  | cons x l ih => simp [intV]; simpa [intV] using ih
theorem OwnI.at {w : World} {base : Nat} {r : Value} {l : List Int} (h : OwnI w base r l) : IntsAt w r l := by
  have h2 := h.2
  rw [← ints_flat] at h2
  exact own_slat h2 (by intro x hx; simp only [List.mem_map] at hx; obtain ⟨p, _, rfl⟩ := hx; rfl) (by simp) (by decide)
theorem ownI_holds {w : World} {base g n c : Nat} {l : List Int} (h : w.ownsRow base TInt 1 (.slice (some ⟨g, 0, none⟩) n c) n (l.map (Value.int .i64))) : Sort.Holds (Value.int .i64) w g 0 l.toArray := by
  intro j hj
  simp only [List.size_toArray] at hj
  have hx : l[j]? = some l[j] := List.getElem?_eq_getElem hj
  have h1 := h.cells (g := g) rfl j (.int .i64 l[j]) (by simp [hx])
  rw [Addr.add_lit] at h1
  have he : l.toArray[j]! = l[j] := by rw [getElem!_pos l.toArray j (by simpa using hj)]; simp
  rw [he]
  refine ⟨h1, ?_⟩
  rcases h.2 with ⟨h1, _⟩ | ⟨g', cap, cur, hv, _, hg, _⟩
  · simp at h1
  · simp only [Value.slice.injEq, Option.some.injEq, Addr.mk.injEq, and_true] at hv
    obtain ⟨rfl, _⟩ := hv
    simp [World.frozen?, hg]
theorem holds_ints {w : World} {g n c : Nat} {l : List Int} (h : Sort.Holds (Value.int .i64) w g 0 l.toArray) (hn : l.length = n) (hc : n ≤ c) (hl : n ≤ 9223372036854775807) : IntsAt w (.slice (some ⟨g, 0, none⟩) n c) l := by
  refine ⟨_, c, by simp [hn], by simp; omega, by simp; omega, .inr ⟨g, 0, rfl, fun i r hr j u hu => ?_⟩⟩
  simp only [List.getElem?_map, Option.map_eq_some_iff] at hr
  obtain ⟨x, hx, rfl⟩ := hr
  have hi := lt_of_get hx
  have hj : j < 1 := by have := lt_of_get hu; simpa [intV] using this
  obtain rfl : j = 0 := by omega
  have h1 := (h i (by simpa using hi)).1
  have he : l.toArray[i]! = x := by
    rw [getElem!_pos l.toArray i (by simpa using hi)]
    rw [List.getElem?_eq_getElem hi] at hx
    simpa using hx
  rw [he] at h1
  simp [intV] at hu
  subst hu
  simpa using h1
theorem putRow_chg {α : Type} [Inhabited α] (enc : α → Value) (w : World) (g off m : Nat) (dk : Array α) (os : Array Obj) : Chg (fun x => x = g) w (grow (putRow enc (Sort.ahead w m) g off dk) os) := by
  refine ⟨rfl, rfl, rfl, Nat.le_add_right _ _, ?_, fun b hb hne => ?_⟩
  · simp [grow, putRow, mapBlock, Sort.ahead]
  · simp only [grow, putRow, mapBlock, Sort.ahead]
    rw [Array.getElem?_append_left (by simpa using hb), Array.getElem?_modify, if_neg (fun h => hne h.symm)]
def leB (x y : Int) : Bool := decide (x ≤ y)
theorem sorti_c (w0 : World) (base : Nat) (v : Value) (l : List Int) (h : OwnI w0 base v l) (hne : l ≠ []) (hl : l.length ≤ 17592186044416) :
    Ret Try.prog 82 #[v] w0 fun r w => r = .tuple #[] ∧ IntsAt w v (l.mergeSort leB) ∧ Chg (fun x => v.ownBlock = some x) w0 w := by
  obtain ⟨⟨a, c, rfl⟩, h⟩ := h
  rcases h.2 with ⟨h1, h0⟩ | ⟨g, cap, cur, hv, hbg, hg, hnc, hcm, hcs, htake⟩
  · exact absurd (List.eq_nil_of_length_eq_zero h0) hne
  · simp only [Value.slice.injEq] at hv
    obtain ⟨rfl, _, rfl⟩ := hv
    have hH := ownI_holds h
    have hblk : g < w0.heap.size := (Array.getElem?_eq_some_iff.1 hg).1
    refine Calls.mono (Any.slices_Sort_int Try.sortI g 0 c l w0 hH hblk (by omega)) ?_
    rintro e w' ⟨rfl, n, os, rfl⟩
    refine ⟨_, rfl, rfl, ?_, (putRow_chg _ w0 g 0 n _ os).mono fun x _ hx => by subst hx; rfl⟩
    have hh : Sort.Holds (Value.int .i64) (grow (putRow (Value.int .i64) (Sort.ahead w0 n) g 0 (l.mergeSort fun x y => decide (x ≤ y)).toArray) os) g 0 (l.mergeSort fun x y => decide (x ≤ y)).toArray :=
      holds_grow _ _ os g 0 _ (by simpa [putRow, mapBlock, Sort.ahead] using hblk) (holds_putRow _ (Sort.ahead w0 n) g 0 l.toArray _ hH (by simp))
    exact holds_ints (l := l.mergeSort leB) hh (by simp) hnc (by omega)
theorem sortInts_c (w0 : World) (base : Nat) (v : Value) (l : List Int) (h : OwnI w0 base v l) (hne : l ≠ []) (hl : l.length ≤ 17592186044416) :
    Ret Try.prog 68 #[v] w0 fun r w => r = .tuple #[] ∧ IntsAt w v (l.mergeSort leB) ∧ Chg (fun x => v.ownBlock = some x) w0 w := by
  refine Ret_of Try.func68 rfl Try.ntmps68 (Nat.le_of_ble_eq_true rfl) ?_
  have E : Chg (fun x => v.ownBlock = some x) w0 w0 := Chg.refl _ _
  refine Wp_region ?_
  refine WpL_val rfl rfl (by decide) (r_move (v := v) rfl) ?_
  refine WpL_enter rfl rfl (by decide) (r_callF (vs := [v]) Try.func82 nm82 bd82 rfl) (sorti_c _ base v l h hne hl) ?_
  rintro _ w9 ⟨rfl, I9, C9⟩
  replace E := E.step C9 (fun x hx hm => hm)
  refine WpL_nil ?_
  refine fin_none Try.results68 ?_
  exact ⟨rfl, I9, E⟩
theorem mergeSort_lt {l : List Int} (hd : l.Nodup) : (l.mergeSort leB).Pairwise (· < ·) := by
  have h1 : (l.mergeSort leB).Pairwise (fun a b => leB a b = true) := List.pairwise_mergeSort (fun a b c h1 h2 => by simp [leB] at *; omega) (fun a b => by simp [leB]; omega) l
  have h2 : (l.mergeSort leB).Nodup := (List.mergeSort_perm l leB).nodup_iff.2 hd
  have h3 := h1.and h2
  exact h3.imp fun {a b} ⟨h4, h5⟩ => by simp [leB] at h4; omega

/-! Pieces. -/
def PieceP (l : List Sp) (k : Int) : Prop := k = 0 ∨ ∃ s ∈ l, k = s.1 ∨ (s.2 < 1114111 ∧ k = s.2 + 1)
def KP (es : List (Int × Bool)) (l : List Sp) : Prop := KeysOk es ∧ ∀ k, k ∈ es.map (·.1) ↔ PieceP l k
theorem mem_putM {κ ν : Type} [DecidableEq κ] {es : List (κ × ν)} {k q : κ} {v : ν} : q ∈ (putM es k v).map (·.1) ↔ q = k ∨ q ∈ es.map (·.1) := by
  rw [← getM_isSome, getM_put]
  by_cases h : k = q
  · simp [h]
  · rw [if_neg h, getM_isSome]; simp [Ne.symm h]
theorem putM_len {κ ν : Type} [DecidableEq κ] (es : List (κ × ν)) (k : κ) (v : ν) : (putM es k v).length ≤ es.length + 1 ∧ es.length ≤ (putM es k v).length := by
  induction es with
  | nil => simp [putM]
  | cons p r ih => unfold putM; split <;> simp <;> omega
theorem KP.start : KP (putM [] 0 true) [] := by
  refine ⟨KeysOk.nil.put _ _, fun k => ?_⟩
  simp [putM, PieceP]
theorem KP.lo {es : List (Int × Bool)} {l : List Sp} (h : KP es l) (s : Sp) (hs : ¬ s.2 < 1114111) : KP (putM es s.1 true) (l ++ [s]) := by
  refine ⟨h.1.put _ _, fun k => ?_⟩
  rw [mem_putM, h.2 k]
  unfold PieceP
  constructor
  · rintro (h1 | h1 | ⟨t, ht, h1⟩)
    · exact .inr ⟨s, by simp, .inl h1⟩
    · exact .inl h1
    · exact .inr ⟨t, by simp [ht], h1⟩
  · rintro (h1 | ⟨t, ht, h1⟩)
    · exact .inr (.inl h1)
    · rcases List.mem_append.1 ht with ht | ht
      · exact .inr (.inr ⟨t, ht, h1⟩)
      · rw [List.mem_singleton] at ht; subst ht
        rcases h1 with h1 | ⟨h1, _⟩
        · exact .inl h1
        · exact absurd h1 hs
theorem KP.both {es : List (Int × Bool)} {l : List Sp} (h : KP es l) (s : Sp) (hs : s.2 < 1114111) : KP (putM (putM es s.1 true) (s.2 + 1) true) (l ++ [s]) := by
  refine ⟨(h.1.put _ _).put _ _, fun k => ?_⟩
  rw [mem_putM, mem_putM, h.2 k]
  unfold PieceP
  constructor
  · rintro (h1 | h1 | h1 | ⟨t, ht, h1⟩)
    · exact .inr ⟨s, by simp, .inr ⟨hs, h1⟩⟩
    · exact .inr ⟨s, by simp, .inl h1⟩
    · exact .inl h1
    · exact .inr ⟨t, by simp [ht], h1⟩
  · rintro (h1 | ⟨t, ht, h1⟩)
    · exact .inr (.inr (.inl h1))
    · rcases List.mem_append.1 ht with ht | ht
      · exact .inr (.inr (.inr ⟨t, ht, h1⟩))
      · rw [List.mem_singleton] at ht; subst ht
        rcases h1 with h1 | ⟨_, h1⟩
        · exact .inr (.inl h1)
        · exact .inl h1
theorem take_snoc {α : Type} {l : List α} {k : Nat} {x : α} (h : l[k]? = some x) : l.take (k + 1) = l.take k ++ [x] := by rw [List.take_add_one, h]; rfl
def kAt (es : List (Int × Bool)) (i : Nat) : Int := ((es[i]?).map (·.1)).getD 0
theorem keys_perm {es : List (Int × Bool)} {seen : List Nat} (hd : seen.Nodup) (hl : ∀ i ∈ seen, i < es.length) (ha : ∀ i, i < es.length → i ∈ seen) : (seen.map (kAt es)).Perm (es.map (·.1)) := by
  have h1 := (seen_perm hd hl ha).map (kAt es)
  have h2 : (List.range es.length).map (kAt es) = es.map (·.1) := by
    apply List.ext_getElem?
    intro i
    rw [List.getElem?_map, List.getElem?_map]
    by_cases hi : i < es.length
    · rw [List.getElem?_range hi, List.getElem?_eq_getElem hi]
      simp [kAt, List.getElem?_eq_getElem hi]
    · rw [List.getElem?_eq_none (by simpa using hi), List.getElem?_eq_none (by omega)]; rfl
  rw [h2] at h1; exact h1
def PcsOf (l : List Sp) (p : List Int) : Prop := p.Pairwise (· < ·) ∧ ∀ k, k ∈ p ↔ PieceP l k
set_option maxHeartbeats 4000000 in
theorem pieces_c (w0 : World) (v : Value) (ll : List (List Sp)) (h : SpssAt w0 v ll) (hl : ll.flatten.length ≤ 8796093022200) (hok : ∀ s ∈ ll.flatten, vSp s) :
    Ret Try.prog 84 #[v] w0 fun r w => (∃ p, PcsOf ll.flatten p ∧ (∃ a c, r = .slice a p.length c) ∧ IntsAt w r p) ∧ Ext w0 w := by
  obtain ⟨a, c, rfl, _, hle⟩ := h.form
  obtain ⟨base, hbase⟩ : ∃ base, base = w0.heap.size := ⟨_, rfl⟩
  refine Ret_of Try.func84 rfl Try.ntmps84 (Nat.le_of_ble_eq_true rfl) ?_
  have E : Chg none1 w0 w0 := Chg.refl _ _
  refine Wp_seq_region ?_
  refine WpL_val rfl rfl (by decide) (r_assign (v := (.slice none 0 0)) rfl) ?_
  refine WpL_nil ?_
  refine Wp_seq_region ?_
  refine s_makeMap kInt kBool (by decide) ?_
  intro bm wm Nm
  have Fm := Nm.ge E
  replace E := E.ext Nm.ext
  intro Mm
  refine s_insert (k := 0) (v := true) Try.underlying79 (keyInt Try.underlying3) Mm rfl rfl rfl ?_
  intro w1 S1 H1
  replace E := S1.step E (by first | exact Or.inl (by omega) | exact Or.inr rfl | exact Or.inr (by assumption) | exact Or.inr (by simp) | exact Or.inr (by omega) | exact Or.inr (by dsimp only; omega))
  replace Mm := H1
  refine WpL_val rfl rfl (by decide) (r_move (v := (.map (some bm))) rfl) ?_
  refine WpL_val rfl rfl (by decide) (r_assign (v := (.map (some bm))) rfl) ?_
  refine WpL_nil ?_
  refine Wp_seq ?_
  refine Wp_seq_region ?_
  refine WpL_val rfl rfl (by decide) (r_move (v := (.slice a ll.length c)) rfl) ?_
  refine WpL_val rfl rfl (by decide) (r_lenSlice (ad := a) (n := ll.length) (cap := c) Try.underlying53 rfl) ?_
  refine WpL_val rfl rfl (by decide) (r_move (v := (.int .i64 0)) rfl) ?_
  refine WpL_nil ?_
  refine Wp_block ?_
  refine Wp_loop (fun nn_ σ W2 => ∃ (k : Nat) (es : List (Int × Bool)), (∃ jj_, σ = upds jj_ [(3, (.map (some bm))), (12, (.slice a ll.length c)), (13, (.int .i64 ((ll.length : Nat) : Int))), (14, (.int .i64 ((k : Nat) : Int)))]) ∧ Chg none1 w0 W2 ∧ MapAt W2 bm kInt kBool es ∧ (k ≤ ll.length) ∧ (KP es (ll.take k).flatten) ∧ (es.length ≤ 1 + 2 * (ll.take k).flatten.length) ∧ nn_ = ll.length - k) (n := ll.length - 0) ?_ ?_
  · exact ⟨0, putM [] 0 true, Fits.out ⟨rfl, rfl, rfl, rfl, trivial⟩, E, Mm, Nat.zero_le _, KP.start, (by simp [putM]), rfl⟩
  · clear E Mm
    rintro _ _ W2 ⟨k, es, ⟨j2, rfl⟩, E, Mm, hk, hKP, hel, rfl⟩
    refine Wp_seq_region ?_
    refine WpL_val rfl rfl (by decide) (r_lss (k := .i64) (a := ((k : Nat) : Int)) (b := ((ll.length : Nat) : Int)) rfl rfl) ?_
    refine WpL_nil ?_
    refine Wp_seq ?_
    refine Wp_cond (b := decide ((((k : Nat) : Int) : Int) < ((ll.length : Nat) : Int))) rfl (fun hlt => ?_) (fun hlt => ?_)
    · have khlt := hlt
      replace hlt := of_decide_eq_true hlt
      obtain ⟨l, hx⟩ := get_of_lt (l := ll) (i := k) (by omega)
      obtain ⟨b, o, hab, hcl⟩ := spss_cells h (by omega)
      subst hab
      obtain ⟨ra, rc, hcell, hsp⟩ := hcl k l hx
      have hlt1 := lens_take hx
      have hll : l.length ≤ 9223372036854775807 := by simpa using SlAt.le hsp
      refine Wp_skip ?_
      refine thn_normal ?_
      refine Wp_seq ?_
      refine Wp_block ?_
      refine Wp_seq_region ?_
      refine WpL_val rfl rfl (by decide) (r_indexSlice (b := b) (o := o) (len := ll.length) (cap := c) (i := k) (o' := o + k) rfl rfl rfl Try.underlying53 siz23 (by omega) (by omega)) ?_
      refine WpL_val rfl rfl (by decide) (r_load (v := (.slice ra l.length rc)) rfl flat23 (E.cell (fun f => f) hcell)) ?_
      refine WpL_val rfl rfl (by decide) (r_assign (v := (.slice ra l.length rc)) rfl) ?_
      refine WpL_nil ?_
      refine Wp_seq_region ?_
      refine WpL_val rfl rfl (by decide) (r_move (v := (.slice ra l.length rc)) rfl) ?_
      refine WpL_val rfl rfl (by decide) (r_lenSlice (ad := ra) (n := l.length) (cap := rc) Try.underlying23 rfl) ?_
      refine WpL_val rfl rfl (by decide) (r_move (v := (.int .i64 0)) rfl) ?_
      refine WpL_nil ?_
      refine Wp_block ?_
      refine Wp_loop (fun nn_ σ W4 => ∃ (i : Nat) (es2 : List (Int × Bool)), (∃ jj_, σ = upds jj_ [(3, (.map (some bm))), (12, (.slice (some ⟨b, o, none⟩) ll.length c)), (13, (.int .i64 ((ll.length : Nat) : Int))), (14, (.int .i64 ((k : Nat) : Int))), (18, (.slice ra l.length rc)), (19, (.int .i64 ((l.length : Nat) : Int))), (20, (.int .i64 ((i : Nat) : Int)))]) ∧ Chg none1 w0 W4 ∧ MapAt W4 bm kInt kBool es2 ∧ (i ≤ l.length) ∧ (KP es2 ((ll.take k).flatten ++ l.take i)) ∧ (es2.length ≤ 1 + 2 * (ll.take k).flatten.length + 2 * i) ∧ nn_ = l.length - i) (n := l.length - 0) ?_ ?_
      · exact ⟨0, es, Fits.out ⟨rfl, rfl, rfl, rfl, rfl, rfl, rfl, trivial⟩, E, Mm, Nat.zero_le _, (by simpa using hKP), (by omega), rfl⟩
      · clear E Mm
        rintro _ _ W4 ⟨i, es2, ⟨j4, rfl⟩, E, Mm, hi, hKP2, hel2, rfl⟩
        refine Wp_seq_region ?_
        refine WpL_val rfl rfl (by decide) (r_lss (k := .i64) (a := ((i : Nat) : Int)) (b := ((l.length : Nat) : Int)) rfl rfl) ?_
        refine WpL_nil ?_
        refine Wp_seq ?_
        refine Wp_cond (b := decide ((((i : Nat) : Int) : Int) < ((l.length : Nat) : Int))) rfl (fun hlt2 => ?_) (fun hlt2 => ?_)
        · have khlt2 := hlt2
          replace hlt2 := of_decide_eq_true hlt2
          obtain ⟨s, hs⟩ := get_of_lt (l := l) (i := i) (by omega)
          obtain ⟨rb, ro, hrab, hrc⟩ := spans_cells hsp (by omega)
          subst hrab
          have hts := take_snoc hs
          have hq1 := putM_len es2 s.1 true
          have hv : vSp s := hok s (List.mem_flatten.2 ⟨l, List.mem_of_getElem? hx, List.mem_of_getElem? hs⟩)
          unfold vSp at hv
          refine Wp_skip ?_
          refine thn_normal ?_
          refine Wp_seq ?_
          refine Wp_block ?_
          refine Wp_seq_region ?_
          refine WpL_val rfl rfl (by decide) (r_indexSlice (b := rb) (o := ro) (len := l.length) (cap := rc) (i := i) (o' := ro + i * 2) rfl rfl rfl Try.underlying23 siz37 (by omega) (by omega)) ?_
          refine WpL_val rfl rfl (by decide) (r_loadAgg (vs := [(.int .i64 s.1), (.int .i64 s.2)]) rfl agg37 siz37 rfl ((hrc i s hs).ext E)) ?_
          refine s_allocStore (v := (.agg #[(.int .i64 s.1), (.int .i64 s.2)])) (c := #[(.int .i64 s.1), (.int .i64 s.2)]) (n := 2) (by decide) zer37 rfl siz37 rfl rfl rfl (by simp [Value.oneCell']) ?_
          intro b6 w6 N6
          have F6 := N6.ge E
          have O6_bm := N6.ltM Mm
          replace Mm := N6.keepM Mm
          replace E := E.ext N6.ext
          have B6 := N6.blk
          refine WpL_nil ?_
          refine Wp_seq_region ?_
          refine WpL_val rfl rfl (by decide) (r_move (v := (.map (some bm))) rfl) ?_
          refine WpL_val rfl rfl (by decide) (r_fieldAddr (b := b6) (o := 0) (o' := 0) rfl Try.underlying37 rfl siz3 rfl) ?_
          refine WpL_val rfl rfl (by decide) (r_load (v := (.int .i64 s.1)) rfl flat3 (B6.cell rfl)) ?_
          refine s_mapUpdate (k := s.1) (v := true) Try.underlying79 (keyInt Try.underlying3) Mm rfl rfl rfl ?_
          intro w7 S7 H7
          replace B6 := S7.keep (by omega) B6
          replace E := S7.step E (by first | exact Or.inl (by omega) | exact Or.inr rfl | exact Or.inr (by assumption) | exact Or.inr (by simp) | exact Or.inr (by omega) | exact Or.inr (by dsimp only; omega))
          replace Mm := H7
          refine WpL_nil ?_
          refine Wp_seq_region ?_
          refine WpL_val rfl rfl (by decide) (r_fieldAddr (b := b6) (o := 0) (o' := 1) rfl Try.underlying37 rfl siz3 rfl) ?_
          refine WpL_val rfl rfl (by decide) (r_load (v := (.int .i64 s.2)) rfl flat3 (B6.cell rfl)) ?_
          refine WpL_val rfl rfl (by decide) (r_lss (k := .i64) (a := s.2) (b := 1114111) rfl rfl) ?_
          refine WpL_nil ?_
          refine Wp_cond (b := decide ((s.2 : Int) < 1114111)) rfl (fun hM => ?_) (fun hM => ?_)
          · have khM := hM
            replace hM := of_decide_eq_true hM
            have hq2 := putM_len (putM es2 s.1 true) (s.2 + 1) true
            refine Wp_region ?_
            refine WpL_val rfl rfl (by decide) (r_move (v := (.map (some bm))) rfl) ?_
            refine WpL_val rfl rfl (by decide) (r_fieldAddr (b := b6) (o := 0) (o' := 1) rfl Try.underlying37 rfl siz3 rfl) ?_
            refine WpL_val rfl rfl (by decide) (r_load (v := (.int .i64 s.2)) rfl flat3 (B6.cell rfl)) ?_
            refine WpL_val rfl rfl (by decide) (r_add (k := .i64) (a := s.2) (b := 1) (c := s.2 + 1) rfl rfl (wI64 (by omega))) ?_
            refine s_mapUpdate (k := (s.2 + 1)) (v := true) Try.underlying79 (keyInt Try.underlying3) Mm rfl rfl rfl ?_
            intro w9 S9 H9
            replace B6 := S9.keep (by omega) B6
            replace E := S9.step E (by first | exact Or.inl (by omega) | exact Or.inr rfl | exact Or.inr (by assumption) | exact Or.inr (by simp) | exact Or.inr (by omega) | exact Or.inr (by dsimp only; omega))
            replace Mm := H9
            refine WpL_nil ?_
            refine inB_normal ?_
            refine thn_normal ?_
            refine Wp_region ?_
            refine WpL_val rfl rfl (by decide) (r_add (k := .i64) (a := ((i : Nat) : Int)) (b := 1) (c := ((i : Nat) : Int) + 1) rfl rfl (wI64 (by omega))) ?_
            refine WpL_val rfl rfl (by decide) (r_move (v := (.int .i64 (((i : Nat) : Int) + 1))) rfl) ?_
            refine WpL_nil ?_
            refine thn_normal ?_
            exact ⟨l.length - (i + 1), by omega, i + 1, putM (putM es2 s.1 true) (s.2 + 1) true, Fits.out ⟨rfl, rfl, rfl, rfl, rfl, rfl, rfl, trivial⟩, E, Mm, (by omega), (by rw [hts, ← List.append_assoc]; exact hKP2.both s hM), (by omega), rfl⟩
          · have khM := hM
            replace hM := of_decide_eq_false hM
            refine Wp_skip ?_
            refine inB_normal ?_
            refine thn_normal ?_
            refine Wp_region ?_
            refine WpL_val rfl rfl (by decide) (r_add (k := .i64) (a := ((i : Nat) : Int)) (b := 1) (c := ((i : Nat) : Int) + 1) rfl rfl (wI64 (by omega))) ?_
            refine WpL_val rfl rfl (by decide) (r_move (v := (.int .i64 (((i : Nat) : Int) + 1))) rfl) ?_
            refine WpL_nil ?_
            refine thn_normal ?_
            exact ⟨l.length - (i + 1), by omega, i + 1, putM es2 s.1 true, Fits.out ⟨rfl, rfl, rfl, rfl, rfl, rfl, rfl, trivial⟩, E, Mm, (by omega), (by rw [hts, ← List.append_assoc]; exact hKP2.lo s hM), (by omega), rfl⟩
        · have khlt2 := hlt2
          replace hlt2 := of_decide_eq_false hlt2
          have hii : i = l.length := by omega
          rw [hii, List.take_length, ← hlt1] at hKP2
          refine Wp_exit ?_
          refine thn_exit ?_
          refine thn_exit ?_
          refine inB_here ?_
          refine inB_normal ?_
          refine thn_normal ?_
          refine Wp_region ?_
          refine WpL_val rfl rfl (by decide) (r_add (k := .i64) (a := ((k : Nat) : Int)) (b := 1) (c := ((k : Nat) : Int) + 1) rfl rfl (wI64 (by omega))) ?_
          refine WpL_val rfl rfl (by decide) (r_move (v := (.int .i64 (((k : Nat) : Int) + 1))) rfl) ?_
          refine WpL_nil ?_
          refine thn_normal ?_
          exact ⟨ll.length - (k + 1), by omega, k + 1, es2, Fits.out ⟨rfl, rfl, rfl, rfl, trivial⟩, E, Mm, (by omega), hKP2, (by rw [hlt1, List.length_append]; omega), rfl⟩
    · have khlt := hlt
      replace hlt := of_decide_eq_false hlt
      have hkk : k = ll.length := by omega
      rw [hkk, List.take_length] at hKP hel
      have hbs1 := E.size
      refine Wp_exit ?_
      refine thn_exit ?_
      refine thn_exit ?_
      refine inB_here ?_
      refine thn_normal ?_
      refine Wp_seq_region ?_
      refine WpL_val rfl rfl (by decide) (r_assign (v := (.slice none 0 0)) rfl) ?_
      refine WpL_nil ?_
      refine Wp_seq ?_
      refine Wp_seq_region ?_
      refine WpL_val rfl rfl (by decide) (r_move (v := (.map (some bm))) rfl) ?_
      refine s_range (by decide) Try.underlying79 Mm rfl ?_
      intro br wr Nr
      have Fr := Nr.ge E
      have Or_bm := Nr.ltM Mm
      replace Mm := Nr.keepM Mm
      replace E := E.ext Nr.ext
      have Ir : IterAt wr br bm es.length [] := Nr.at'
      refine WpL_nil ?_
      refine Wp_block ?_
      have hwr := Nr.size
      have hbr : br < wr.heap.size := Ir.lt
      refine Wp_loop (fun nn_ σ W10 => ∃ (seen : List Nat) (la : Option Addr) (lc : Nat) (n : Nat), (∃ jj_, σ = upds jj_ [(37, (.pointer (some ⟨br, 0, none⟩))), (8, (.slice la n lc))]) ∧ Chg none1 w0 W10 ∧ MapAt W10 bm kInt kBool es ∧ IterAt W10 br bm es.length seen ∧ (seen.Nodup) ∧ (∀ j ∈ seen, j < es.length) ∧ (n = seen.length) ∧ (W10.ownsRow wr.heap.size TInt 1 (.slice la n lc) n ((seen.map (kAt es)).map (Value.int .i64))) ∧ (wr.heap.size ≤ W10.heap.size) ∧ nn_ = es.length - seen.length) (n := es.length - ([] : List Nat).length) ?_ ?_
      · exact ⟨([] : List Nat), none, 0, 0, Fits.out ⟨rfl, rfl, trivial⟩, E, Mm, Ir, List.nodup_nil, (fun j hj => absurd hj List.not_mem_nil), rfl, World.ownsRow_nil _ _ _ _, Nat.le_refl _, rfl⟩
      · clear E Mm Ir
        rintro _ _ W10 ⟨seen, la, lc, n, ⟨j10, rfl⟩, E, Mm, Ir, hnd, hsl, hn, hown, hbs, rfl⟩
        refine Wp_seq_region ?_
        refine s_next (by decide) Mm Ir rfl (fun hall => ?_) ?_
        · skip
          have hperm := keys_perm (es := es) hnd hsl hall
          have hKd : (seen.map (kAt es)).Nodup := hperm.nodup_iff.2 hKP.1
          have hO : OwnI W10 wr.heap.size (.slice la n lc) (seen.map (kAt es)) := ⟨⟨la, lc, by simp [hn]⟩, by simpa [hn] using hown⟩
          have h0m : (0 : Int) ∈ seen.map (kAt es) := hperm.mem_iff.2 ((hKP.2 0).2 (.inl rfl))
          have hsn := seen_len hnd hsl
          refine WpL_val rfl rfl (by decide) (r_extract (vs := #[(.bool false)]) (v := (.bool false)) rfl rfl) ?_
          refine WpL_nil ?_
          refine Wp_seq ?_
          refine Wp_cond_false rfl ?_
          refine Wp_exit ?_
          refine thn_exit ?_
          refine thn_exit ?_
          refine inB_here ?_
          refine thn_normal ?_
          refine Wp_seq_region ?_
          refine WpL_val rfl rfl (by decide) (r_move (v := (.slice la n lc)) rfl) ?_
          refine WpL_enter rfl rfl (by decide) (r_callF (vs := [(.slice la n lc)]) Try.func68 nm68 bd68 rfl) (sortInts_c _ wr.heap.size (.slice la n lc) _ hO (fun h9 => by rw [h9] at h0m; cases h0m) (by simp; omega)) ?_
          rintro _ w19 ⟨rfl, I19, C19⟩
          replace E := E.step C19 (fun x hx hy => absurd (hown.lt x hy).1 (by omega))
          refine WpL_nil ?_
          refine Wp_seq_region ?_
          refine WpL_val rfl rfl (by decide) (r_move (v := (.slice la n lc)) rfl) ?_
          refine WpL_val rfl rfl (by decide) (r_assign (v := (.slice la n lc)) rfl) ?_
          refine WpL_nil ?_
          refine Wp_ret ?_
          refine fin_tmp Try.results84 (v := (.slice la n lc)) rfl ?_
          refine ⟨⟨(seen.map (kAt es)).mergeSort leB, ⟨mergeSort_lt hKd, fun q => ?_⟩, ⟨la, lc, by simp [hn]⟩, I19⟩, E⟩
          rw [List.mem_mergeSort, hperm.mem_iff]
          exact hKP.2 q
        · intro i p w11 hp hns S11
          replace hown := own_chg hown S11.chg (fun x hx h9 => by have := (hown.lt x hx).1; omega)
          replace hbs := Nat.le_trans hbs (Nat.le_of_eq S11.size.symm)
          replace Mm := S11.keepM (by omega) Mm
          replace E := S11.step E (by first | exact Or.inl (by omega) | exact Or.inr rfl | exact Or.inr (by omega))
          replace Ir : IterAt w11 br bm es.length (seen ++ [i]) := S11.at'
          have hnd2 : (seen ++ [i]).Nodup := List.nodup_append.2 ⟨hnd, by simp, fun x hx z hz => by simp at hz; subst hz; exact fun h9 => hns (h9 ▸ hx)⟩
          have hsl2 : ∀ j ∈ seen ++ [i], j < es.length := fun j hj => by rcases List.mem_append.1 hj with h9 | h9; exact hsl j h9; rw [List.mem_singleton] at h9; subst h9; exact lt_of_get hp
          have hl2 := seen_len hnd2 hsl2
          have hl3 : (seen ++ [i]).length = seen.length + 1 := by simp
          have hka : kAt es i = p.1 := by unfold kAt; rw [hp]; rfl
          refine WpL_val rfl rfl (by decide) (r_extract (vs := #[(.bool true), (.int .i64 p.1), (.bool p.2)]) (v := (.bool true)) rfl rfl) ?_
          refine WpL_nil ?_
          refine Wp_seq ?_
          refine Wp_cond_true rfl ?_
          refine Wp_skip ?_
          refine thn_normal ?_
          refine Wp_block ?_
          refine Wp_seq_region ?_
          refine WpL_val (v := (.tuple #[(.int .i64 p.1), (.bool p.2)])) rfl rfl (by decide) (r_entry Mm Ir hp rfl) ?_
          refine WpL_val rfl rfl (by decide) (r_extract (vs := #[(.int .i64 p.1), (.bool p.2)]) (v := (.int .i64 p.1)) rfl rfl) ?_
          refine WpL_val rfl rfl (by decide) (r_assign (v := (.int .i64 p.1)) rfl) ?_
          refine WpL_nil ?_
          refine Wp_region ?_
          refine WpL_val rfl rfl (by decide) (r_move (v := (.slice la n lc)) rfl) ?_
          refine WpL_val rfl rfl (by decide) (r_move (v := (.int .i64 p.1)) rfl) ?_
          refine s_buildSlice (ps := [(0, (.int .i64 p.1))]) (c := #[(.int .i64 p.1)]) (by decide) rfl Try.underlying22 siz3 zer3 (by decide) (by decide) (by kernel_rfl) ?_
          intro bq wq Nq
          have Fq := Nq.ge E
          have Oq_bm := Nq.ltM Mm
          have Oq_br := New.ltI Ir Nq
          replace Mm := Nq.keepM Mm
          replace Ir := New.keepI Ir Nq
          replace hown := own_ext hown Nq.ext
          replace hbs := Nat.le_trans hbs Nq.ext.size
          replace E := E.ext Nq.ext
          have Bq := Nq.blk
          refine s_append (base := wr.heap.size) (n := n) (m := 1) (xs := (seen.map (kAt es)).map (Value.int .i64)) (news := [(.int .i64 p.1)]) (size := 1) (bytes := 8) (v := (.slice la n lc)) (by decide) Try.underlying22 siz3 byt3 zer3 rfl (by decide) rfl hown rfl (rfl) (Bq.cells rfl) (by simp [Value.oneCell']) (by unfold maxLen; omega) (by omega) (hbs) ?_
          intro v9 w29 Ov9 Cv9 Dv9
          replace Mm := Cv9.keepM (fun h => by have := (hown.lt _ h).1; omega) Mm
          replace Ir := Chg.keepI Ir Cv9 (fun h => by have := (hown.lt _ h).1; omega)
          replace E := E.step Cv9 (fun x hx h => absurd (hown.lt x h).1 (by omega))
          obtain ⟨la2, lc2, rfl⟩ := own_form Ov9
          refine WpL_val rfl rfl (by decide) (r_assign (v := (.slice la2 (n + 1) lc2)) rfl) ?_
          refine WpL_nil ?_
          refine inB_normal ?_
          refine thn_normal ?_
          exact ⟨es.length - (seen ++ [i]).length, by omega, seen ++ [i], la2, lc2, n + 1, Fits.out ⟨rfl, rfl, trivial⟩, E, Mm, Ir, hnd2, hsl2, (by rw [hl3, hn]), (by rw [List.map_append, List.map_append, List.map_singleton, List.map_singleton, hka]; exact Ov9), Nat.le_trans hbs Cv9.size, rfl⟩
end Go.Proofs
