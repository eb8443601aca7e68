/- Equivalent states: the numbering closure and dfa.Parts, walked. -/
import Derived.Test.YtncmfkibflogkaaAf
namespace Go.Proofs
open Go Go.Eng Go.Sort
set_option maxRecDepth 100000

def keysOf (M : List Bool) (keyf : Nat → List Int) (n : Nat) : List (Option (List Int)) := (List.range n).map fun s => if M[s]? = some true then some (keyf s) else none
theorem keysOf_succ (M : List Bool) (keyf : Nat → List Int) (n : Nat) : keysOf M keyf (n + 1) = keysOf M keyf n ++ [if M[n]? = some true then some (keyf n) else none] := by
  unfold keysOf
  rw [List.range_succ, List.map_append]; rfl
theorem keysI_at {ks : List (List Int)} {k : List Int} {j : Nat} (hk : ∀ k ∈ ks, okK k) (hd : ks.Nodup) (hj : ks[j]? = some k) : getM (keysI ks 0) (encI k) = some ((j : Nat) : Int) := by
  have hm := List.mem_of_getElem? hj
  have h1 := getM_isSome.2 (keysI_key (n := 0) hm)
  obtain ⟨v, hv⟩ := Option.isSome_iff_exists.1 h1
  obtain ⟨i, rfl, hi⟩ := keysI_get hk (hk k hm) hv
  have a := lt_of_get hi
  have b := lt_of_get hj
  rw [List.getElem?_eq_getElem a] at hi
  rw [List.getElem?_eq_getElem b] at hj
  have e := (Option.some.inj hi).trans (Option.some.inj hj).symm
  have : i = j := by
    rcases Nat.lt_trichotomy i j with h5 | h5 | h5
    · exact absurd e (List.pairwise_iff_getElem.1 hd i j a b h5)
    · exact h5
    · exact absurd e.symm (List.pairwise_iff_getElem.1 hd j i b a h5)
  rw [hv, this]
theorem ints_setD {L : List Int} {k : Nat} (x : Int) : ((L.map (Value.int .i64)).toArray).setIfInBounds (0 + k) (.int .i64 x) = ((L.set k x).map (Value.int .i64)).toArray := by
  apply Array.ext'
  rw [Array.toList_setIfInBounds, Nat.zero_add, ← List.map_set]
theorem take_set_succ {L : List Int} {s : Nat} {x : Int} (hs : s < L.length) : (L.set s x).take (s + 1) = L.take s ++ [x] := by
  rw [List.take_add_one, List.getElem?_set, if_pos rfl, if_pos hs, List.take_set_of_le (Nat.le_refl s)]; rfl
theorem num_join {M : List Bool} {keyf : Nat → List Int} {s j : Nat} {ks ks1 : List (List Int)} {out : List Int} (hN : Num (keysOf M keyf s) ks out) (hq : M[s]? = some true) (hk : ks1 = ks ∨ (keyf s ∉ ks ∧ ks1 = ks ++ [keyf s] ∧ j = ks.length)) (hj : ks1[j]? = some (keyf s)) : Num (keysOf M keyf (s + 1)) ks1 (out ++ [((j : Nat) : Int)]) := by
  rw [keysOf_succ, if_pos hq]
  rcases hk with h1 | ⟨h1, h2, h3⟩
  · subst h1; exact hN.hit hj
  · subst h2; subst h3; exact hN.new h1
theorem okK_join {ks ks1 : List (List Int)} {x : List Int} {j : Nat} (hks : ∀ k ∈ ks, okK k) (hx : okK x) (hk : ks1 = ks ∨ (x ∉ ks ∧ ks1 = ks ++ [x] ∧ j = ks.length)) : ∀ k ∈ ks1, okK k := by
  intro k h
  rcases hk with h1 | ⟨_, h2, _⟩
  · subst h1; exact hks k h
  · subst h2
    rcases List.mem_append.1 h with h3 | h3
    · exact hks k h3
    · rw [List.mem_singleton] at h3; subst h3; exact hx
set_option maxHeartbeats 1000000 in
theorem numb_c (w0 : World) (bp blv lb bc n pc : Nat) (pa : Option Addr) (fv : Value) (cnt0 : Int) (M : List Bool) (keyf : Nat → List Int)
    (hP : Blk w0 bp #[.slice pa n pc] 22) (hV : Blk w0 blv #[.slice (some ⟨lb, 0, none⟩) n n] 130) (hB : Blk w0 lb (M.map Value.bool).toArray 4) (hC : Blk w0 bc #[.int .i64 cnt0] 3)
    (hdis : bp ≠ blv ∧ bp ≠ lb ∧ bp ≠ bc ∧ bc ≠ blv ∧ bc ≠ lb) (hMl : M.length = n) (hn : n ≤ 20000)
    (hkey : ∀ (w : World) (s : Nat), s < n → M[s]? = some true → Ext w0 w → CallV Try.prog fv #[.int .i64 ((s : Nat) : Int)] w fun r w' => r = .string (encI (keyf s)) ∧ Ext w w')
    (hok : ∀ s, s < n → M[s]? = some true → okK (keyf s)) :
    Ret Try.prog 96 #[fv, .pointer (some ⟨bp, 0, none⟩), .pointer (some ⟨blv, 0, none⟩), .pointer (some ⟨bc, 0, none⟩)] w0 fun r w => r = .tuple #[] ∧ (∃ q ks b, Num (keysOf M keyf n) ks q ∧ Blk w bp #[.slice (some ⟨b, 0, none⟩) n n] 22 ∧ Blk w b (q.map (Value.int .i64)).toArray 3 ∧ w0.heap.size ≤ b ∧ Blk w bc #[.int .i64 ((ks.length : Nat) : Int)] 3) ∧ Chg (fun y => y = bp ∨ y = bc) w0 w := by
  have l1 := hP.lt
  have l2 := hV.lt
  have l3 := hB.lt
  have l4 := hC.lt
  obtain ⟨d1, d2, d3, d4, d5⟩ := hdis
  refine Ret_of Try.func96 rfl Try.ntmps96 (Nat.le_of_ble_eq_true rfl) ?_
  have E : Chg (fun y => y = bp ∨ y = bc) w0 w0 := Chg.refl _ _
  have E9 : Chg none1 w0 w0 := Chg.refl _ _
  refine Wp_seq_region ?_
  refine s_makeMap kStr kInt (by decide) ?_
  intro bm wm Nm
  have Fm := Nm.ge E
  have Fm_E9 := Nm.ge E9
  have Om_bp := Nm.lt hP
  have Om_blv := Nm.lt hV
  have Om_lb := Nm.lt hB
  have Om_bc := Nm.lt hC
  replace hP := Nm.keep hP
  replace hV := Nm.keep hV
  replace hB := Nm.keep hB
  replace hC := Nm.keep hC
  replace E := E.ext Nm.ext
  replace E9 := E9.ext Nm.ext
  intro Mm
  refine WpL_val rfl rfl (by decide) (r_assign (v := (.map (some bm))) rfl) ?_
  refine WpL_nil ?_
  refine Wp_seq_region ?_
  refine WpL_val rfl rfl (by decide) (r_load (v := (.slice pa n pc)) rfl flat22 (hP.cell rfl)) ?_
  refine WpL_val rfl rfl (by decide) (r_lenSlice (ad := pa) (n := n) (cap := pc) Try.underlying22 rfl) ?_
  refine s_make (n := n) (z := (.int .i64 0)) (bytes := 8) (by decide) Try.underlying22 siz3 byt3 zer3 rfl rfl rfl (by omega) (by omega) ?_
  intro bq wq Nq
  have Fq := Nq.ge E
  have Fq_E9 := Nq.ge E9
  have Oq_bp := Nq.lt hP
  have Oq_blv := Nq.lt hV
  have Oq_lb := Nq.lt hB
  have Oq_bc := Nq.lt hC
  have Oq_bm := Nq.ltM Mm
  replace hP := Nq.keep hP
  replace hV := Nq.keep hV
  replace hB := Nq.keep hB
  replace hC := Nq.keep hC
  replace Mm := Nq.keepM Mm
  replace E := E.ext Nq.ext
  have Bq := Nq.blk
  replace E9 := E9.ext Nq.ext
  refine WpL_val rfl rfl (by decide) (r_assign (v := (.slice (some ⟨bq, 0, none⟩) n n)) rfl) ?_
  refine WpL_nil ?_
  refine Wp_seq ?_
  refine Wp_seq_region ?_
  refine WpL_val rfl rfl (by decide) (r_load (v := (.slice pa n pc)) rfl flat22 (hP.cell rfl)) ?_
  refine WpL_val rfl rfl (by decide) (r_lenSlice (ad := pa) (n := n) (cap := pc) Try.underlying22 rfl) ?_
  refine WpL_val rfl rfl (by decide) (r_move (v := (.int .i64 0)) rfl) ?_
  refine WpL_nil ?_
  refine Wp_block ?_
  rw [show List.replicate n (Value.int .i64 0) = (List.replicate n (0 : Int)).map (Value.int .i64) by simp] at Bq
  refine Wp_loop (fun nn_ σ W1 => ∃ (s : Nat) (ks : List (List Int)) (L : List Int), (∃ jj_, σ = upds jj_ [(0, fv), (1, (.pointer (some ⟨bp, 0, none⟩))), (2, (.pointer (some ⟨blv, 0, none⟩))), (3, (.pointer (some ⟨bc, 0, none⟩))), (5, (.map (some bm))), (6, (.slice (some ⟨bq, 0, none⟩) n n)), (16, (.int .i64 ((n : Nat) : Int))), (17, (.int .i64 ((s : Nat) : Int)))]) ∧ Chg (fun y => y = bp ∨ y = bc) w0 W1 ∧ Chg none1 w0 W1 ∧ Blk W1 bp #[(.slice pa n pc)] 22 ∧ Blk W1 blv #[(.slice (some ⟨lb, 0, none⟩) n n)] 130 ∧ Blk W1 lb ((M.map Value.bool).toArray) 4 ∧ Blk W1 bc #[(.int .i64 cnt0)] 3 ∧ MapAt W1 bm kStr kInt (keysI ks 0) ∧ Blk W1 bq ((L.map (Value.int .i64)).toArray) 3 ∧ (s ≤ n) ∧ (L.length = n) ∧ (Num (keysOf M keyf s) ks (L.take s)) ∧ (∀ k ∈ ks, okK k) ∧ nn_ = n - s) (n := n - 0) ?_ ?_
  · exact ⟨0, [], List.replicate n 0, Fits.out ⟨rfl, rfl, rfl, rfl, rfl, rfl, rfl, rfl, trivial⟩, E, E9, hP, hV, hB, hC, Mm, Bq, Nat.zero_le _, (by simp), Num.start, (fun k h => absurd h List.not_mem_nil), rfl⟩
  · clear E E9 hP hV hB hC Mm Bq
    rintro _ _ W1 ⟨s, ks, L, ⟨j1, rfl⟩, E, E9, hP, hV, hB, hC, Mm, Bq, hs, hLl, hN, hks, rfl⟩
    refine Wp_seq_region ?_
    refine WpL_val rfl rfl (by decide) (r_lss (k := .i64) (a := ((s : Nat) : Int)) (b := ((n : Nat) : Int)) rfl rfl) ?_
    refine WpL_nil ?_
    refine Wp_seq ?_
    refine Wp_cond (b := decide ((((s : Nat) : Int) : Int) < ((n : Nat) : Int))) rfl (fun hlt => ?_) (fun hlt => ?_)
    · have khlt := hlt
      replace hlt := of_decide_eq_true hlt
      obtain ⟨q, hq⟩ := get_of_lt (l := M) (i := s) (by omega)
      have hts := take_set_succ (L := L) (s := s) (x := -1) (by omega)
      refine Wp_skip ?_
      refine thn_normal ?_
      refine Wp_seq ?_
      refine Wp_block ?_
      refine Wp_seq_region ?_
      refine WpL_val rfl rfl (by decide) (r_move (v := (.int .i64 ((s : Nat) : Int))) rfl) ?_
      refine WpL_val rfl rfl (by decide) (r_assign (v := (.int .i64 ((s : Nat) : Int))) rfl) ?_
      refine WpL_nil ?_
      refine Wp_seq ?_
      refine Wp_seq_region ?_
      refine WpL_val rfl rfl (by decide) (r_move (v := (.slice (some ⟨bq, 0, none⟩) n n)) rfl) ?_
      refine WpL_val rfl rfl (by decide) (r_move (v := (.int .i64 ((s : Nat) : Int))) rfl) ?_
      refine WpL_val rfl rfl (by decide) (r_indexSlice (b := bq) (o := 0) (len := n) (cap := n) (i := s) (o' := 0 + s) rfl rfl rfl Try.underlying22 siz3 (by omega) (by omega)) ?_
      refine s_store (b := bq) (o := 0 + s) (c' := ((L.set s (-1)).map (Value.int .i64)).toArray) (v := (.int .i64 (-1))) rfl rfl rfl siz3 Bq (by simp; omega) (ints_setD _) ?_
      intro w3 S3
      replace hP := S3.keep (by omega) hP
      replace hV := S3.keep (by omega) hV
      replace hB := S3.keep (by omega) hB
      replace hC := S3.keep (by omega) hC
      replace Mm := S3.keepM (by omega) Mm
      replace E := S3.step E (by first | exact Or.inl (by omega) | exact Or.inr rfl | exact Or.inr (by assumption) | exact Or.inr (by simp) | exact Or.inr (by omega) | exact Or.inr (by dsimp only; omega))
      replace E9 := S3.step E9 (Or.inl (by omega))
      replace Bq := S3.blk
      refine WpL_nil ?_
      refine Wp_seq_region ?_
      refine WpL_val rfl rfl (by decide) (r_load (v := (.slice (some ⟨lb, 0, none⟩) n n)) rfl flat130 (hV.cell rfl)) ?_
      refine WpL_val rfl rfl (by decide) (r_move (v := (.int .i64 ((s : Nat) : Int))) rfl) ?_
      refine WpL_val rfl rfl (by decide) (r_indexSlice (b := lb) (o := 0) (len := n) (cap := n) (i := s) (o' := 0 + s) rfl rfl rfl Try.underlying130 siz4 (by omega) (by omega)) ?_
      refine WpL_val rfl rfl (by decide) (r_load (v := (.bool q)) rfl flat4 (hB.cell (by simp [hq]))) ?_
      refine WpL_val rfl rfl (by decide) (r_not (b := q) rfl) ?_
      refine WpL_nil ?_
      refine Wp_cond (b := !q) rfl (fun hqf => ?_) (fun hqf => ?_)
      · have khqf := hqf
        replace hqf := by simpa using hqf
        refine Wp_exit ?_
        refine thn_exit ?_
        refine inB_here ?_
        refine thn_normal ?_
        refine Wp_region ?_
        refine WpL_val rfl rfl (by decide) (r_add (k := .i64) (a := ((s : Nat) : Int)) (b := 1) (c := ((s : Nat) : Int) + 1) rfl rfl (wI64 (by omega))) ?_
        refine WpL_val rfl rfl (by decide) (r_move (v := (.int .i64 (((s : Nat) : Int) + 1))) rfl) ?_
        refine WpL_nil ?_
        refine thn_normal ?_
        exact ⟨n - (s + 1), by omega, s + 1, ks, L.set s (-1), Fits.out ⟨rfl, rfl, rfl, rfl, rfl, rfl, rfl, rfl, trivial⟩, E, E9, hP, hV, hB, hC, Mm, Bq, (by omega), (by simp [hLl]), (by rw [keysOf_succ, hts, if_neg (by rw [hq, hqf]; simp)]; exact hN.none), hks, rfl⟩
      · have khqf := hqf
        replace hqf := by simpa using hqf
        have hqt : M[s]? = some true := by rw [hq]; simpa using hqf
        have hok1 := hok s (by omega) hqt
        refine Wp_skip ?_
        refine thn_normal ?_
        refine Wp_seq_region ?_
        refine WpL_val rfl rfl (by decide) (r_move (v := fv) rfl) ?_
        refine WpL_val rfl rfl (by decide) (r_move (v := (.int .i64 ((s : Nat) : Int))) rfl) ?_
        refine WpL_callV (fv := fv) (vs := [(.int .i64 ((s : Nat) : Int))]) (by decide) rfl rfl (hkey _ s (by omega) hqt E9) ?_
        rintro _ w9 ⟨rfl, X9⟩
        replace hP := X9.keep hP
        replace hV := X9.keep hV
        replace hB := X9.keep hB
        replace hC := X9.keep hC
        replace Mm := X9.keepM Mm
        replace Bq := X9.keep Bq
        replace E := E.ext X9
        replace E9 := E9.ext X9
        refine WpL_val rfl rfl (by decide) (r_assign (v := (.string (encI (keyf s)))) rfl) ?_
        refine WpL_nil ?_
        refine Wp_cut (fun σ W5 => ∃ (ks1 : List (List Int)) (j : Nat), (∃ jj_, σ = upds jj_ [(0, fv), (1, (.pointer (some ⟨bp, 0, none⟩))), (2, (.pointer (some ⟨blv, 0, none⟩))), (3, (.pointer (some ⟨bc, 0, none⟩))), (5, (.map (some bm))), (6, (.slice (some ⟨bq, 0, none⟩) n n)), (7, (.int .i64 ((s : Nat) : Int))), (8, (.string (encI (keyf s)))), (16, (.int .i64 ((n : Nat) : Int))), (17, (.int .i64 ((s : Nat) : Int)))]) ∧ Chg (fun y => y = bp ∨ y = bc) w0 W5 ∧ Chg none1 w0 W5 ∧ Blk W5 bp #[(.slice pa n pc)] 22 ∧ Blk W5 blv #[(.slice (some ⟨lb, 0, none⟩) n n)] 130 ∧ Blk W5 lb ((M.map Value.bool).toArray) 4 ∧ Blk W5 bc #[(.int .i64 cnt0)] 3 ∧ MapAt W5 bm kStr kInt (keysI ks1 0) ∧ Blk W5 bq (((L.set s (-1)).map (Value.int .i64)).toArray) 3 ∧ ((ks1 = ks ∨ (keyf s ∉ ks ∧ ks1 = ks ++ [keyf s] ∧ j = ks.length))) ∧ (ks1[j]? = some (keyf s))) ?_ ?_
        · skip
          refine Wp_seq_region ?_
          refine WpL_val rfl rfl (by decide) (r_move (v := (.map (some bm))) rfl) ?_
          refine WpL_val rfl rfl (by decide) (r_move (v := (.string (encI (keyf s)))) rfl) ?_
          refine WpL_val (v := (.tuple #[(.int .i64 ((getM (keysI ks 0) (encI (keyf s))).getD 0)), (.bool ((getM (keysI ks 0) (encI (keyf s))).isSome))])) rfl rfl (by decide) (r_lookup2 (k := (encI (keyf s))) (z := 0) Try.underlying124 (keyStr Try.underlying9) zer3 Mm rfl rfl) ?_
          refine WpL_val rfl rfl (by decide) (r_move (v := (.tuple #[(.int .i64 ((getM (keysI ks 0) (encI (keyf s))).getD 0)), (.bool ((getM (keysI ks 0) (encI (keyf s))).isSome))])) rfl) ?_
          refine WpL_val rfl rfl (by decide) (r_extract (vs := #[(.int .i64 ((getM (keysI ks 0) (encI (keyf s))).getD 0)), (.bool ((getM (keysI ks 0) (encI (keyf s))).isSome))]) (v := (.int .i64 ((getM (keysI ks 0) (encI (keyf s))).getD 0))) rfl rfl) ?_
          refine WpL_val rfl rfl (by decide) (r_extract (vs := #[(.int .i64 ((getM (keysI ks 0) (encI (keyf s))).getD 0)), (.bool ((getM (keysI ks 0) (encI (keyf s))).isSome))]) (v := (.bool ((getM (keysI ks 0) (encI (keyf s))).isSome))) rfl rfl) ?_
          refine WpL_val rfl rfl (by decide) (r_assign (v := (.int .i64 ((getM (keysI ks 0) (encI (keyf s))).getD 0))) rfl) ?_
          refine WpL_val rfl rfl (by decide) (r_assign (v := (.bool ((getM (keysI ks 0) (encI (keyf s))).isSome))) rfl) ?_
          refine WpL_nil ?_
          refine Wp_seq_region ?_
          refine WpL_val rfl rfl (by decide) (r_move (v := (.bool ((getM (keysI ks 0) (encI (keyf s))).isSome))) rfl) ?_
          refine WpL_val rfl rfl (by decide) (r_not (b := (getM (keysI ks 0) (encI (keyf s))).isSome) rfl) ?_
          refine WpL_nil ?_
          refine Wp_cond (b := !((getM (keysI ks 0) (encI (keyf s))).isSome)) rfl (fun hnew => ?_) (fun hnew => ?_)
          · have khnew := hnew
            replace hnew := by simpa using hnew
            have hgm : getM (keysI ks 0) (encI (keyf s)) = none := by simpa using hnew
            obtain ⟨hnin, hput⟩ := keysI_none hgm
            have hkl := keysI_len ks 0
            refine Wp_region ?_
            refine WpL_val rfl rfl (by decide) (r_move (v := (.map (some bm))) rfl) ?_
            refine WpL_val rfl rfl (by decide) (r_move (v := (.string (encI (keyf s)))) rfl) ?_
            refine WpL_val rfl rfl (by decide) (r_move (v := (.map (some bm))) rfl) ?_
            refine WpL_val (v := (.int .i64 (((keysI ks 0).length : Nat) : Int))) rfl rfl (by decide) (r_lenMap Try.underlying124 Mm rfl) ?_
            refine s_mapUpdate (k := (encI (keyf s))) (v := (((keysI ks 0).length : Nat) : Int)) Try.underlying124 (keyStr Try.underlying9) Mm rfl rfl rfl ?_
            intro w7 S7 H7
            replace hP := S7.keep (by omega) hP
            replace hV := S7.keep (by omega) hV
            replace hB := S7.keep (by omega) hB
            replace hC := S7.keep (by omega) hC
            replace Bq := S7.keep (by omega) Bq
            replace E := S7.step E (by first | exact Or.inl (by omega) | exact Or.inr rfl | exact Or.inr (by assumption) | exact Or.inr (by simp) | exact Or.inr (by omega) | exact Or.inr (by dsimp only; omega))
            replace E9 := S7.step E9 (Or.inl (by omega))
            replace Mm := H7
            refine WpL_nil ?_
            refine thn_normal ?_
            rw [hkl, hput] at Mm
            exact ⟨ks ++ [keyf s], ks.length, Fits.out ⟨rfl, rfl, rfl, rfl, rfl, rfl, rfl, rfl, rfl, rfl, trivial⟩, E, E9, hP, hV, hB, hC, Mm, Bq, .inr ⟨hnin, rfl, rfl⟩, (by simp)⟩
          · have khnew := hnew
            replace hnew := by simpa using hnew
            have hgs : (getM (keysI ks 0) (encI (keyf s))).isSome = true := by simpa using hnew
            obtain ⟨v9, hv9⟩ := Option.isSome_iff_exists.1 hgs
            obtain ⟨j9, rfl, hj9⟩ := keysI_get hks hok1 hv9
            refine Wp_skip ?_
            refine thn_normal ?_
            exact ⟨ks, j9, Fits.out ⟨rfl, rfl, rfl, rfl, rfl, rfl, rfl, rfl, rfl, rfl, trivial⟩, E, E9, hP, hV, hB, hC, Mm, Bq, .inl rfl, hj9⟩
        · clear E E9 hP hV hB hC Mm Bq
          rintro _ W5 ⟨ks1, j, ⟨j5, rfl⟩, E, E9, hP, hV, hB, hC, Mm, Bq, hk1, hj1⟩
          have hN1 := num_join hN hqt hk1 hj1
          have hks1 := okK_join hks hok1 hk1
          have hat := keysI_at hks1 hN1.nd hj1
          have hts2 := take_set_succ (L := L.set s (-1)) (s := s) (x := ((j : Nat) : Int)) (by simp; omega)
          refine Wp_region ?_
          refine WpL_val rfl rfl (by decide) (r_move (v := (.slice (some ⟨bq, 0, none⟩) n n)) rfl) ?_
          refine WpL_val rfl rfl (by decide) (r_move (v := (.int .i64 ((s : Nat) : Int))) rfl) ?_
          refine WpL_val rfl rfl (by decide) (r_move (v := (.map (some bm))) rfl) ?_
          refine WpL_val rfl rfl (by decide) (r_move (v := (.string (encI (keyf s)))) rfl) ?_
          refine WpL_val (v := (.int .i64 ((getM (keysI ks1 0) (encI (keyf s))).getD 0))) rfl rfl (by decide) (r_lookup (k := (encI (keyf s))) (z := 0) Try.underlying124 (keyStr Try.underlying9) zer3 Mm rfl rfl) ?_
          refine WpL_val rfl rfl (by decide) (r_indexSlice (b := bq) (o := 0) (len := n) (cap := n) (i := s) (o' := 0 + s) rfl rfl rfl Try.underlying22 siz3 (by omega) (by omega)) ?_
          refine s_store (b := bq) (o := 0 + s) (c' := (((L.set s (-1)).set s ((j : Nat) : Int)).map (Value.int .i64)).toArray) (v := (.int .i64 ((getM (keysI ks1 0) (encI (keyf s))).getD 0))) rfl rfl rfl siz3 Bq (by simp; omega) (by rw [hat]; exact ints_setD _) ?_
          intro w8 S8
          replace hP := S8.keep (by omega) hP
          replace hV := S8.keep (by omega) hV
          replace hB := S8.keep (by omega) hB
          replace hC := S8.keep (by omega) hC
          replace Mm := S8.keepM (by omega) Mm
          replace E := S8.step E (by first | exact Or.inl (by omega) | exact Or.inr rfl | exact Or.inr (by assumption) | exact Or.inr (by simp) | exact Or.inr (by omega) | exact Or.inr (by dsimp only; omega))
          replace E9 := S8.step E9 (Or.inl (by omega))
          replace Bq := S8.blk
          refine WpL_nil ?_
          refine inB_normal ?_
          refine thn_normal ?_
          refine Wp_region ?_
          refine WpL_val rfl rfl (by decide) (r_add (k := .i64) (a := ((s : Nat) : Int)) (b := 1) (c := ((s : Nat) : Int) + 1) rfl rfl (wI64 (by omega))) ?_
          refine WpL_val rfl rfl (by decide) (r_move (v := (.int .i64 (((s : Nat) : Int) + 1))) rfl) ?_
          refine WpL_nil ?_
          refine thn_normal ?_
          exact ⟨n - (s + 1), by omega, s + 1, ks1, (L.set s (-1)).set s ((j : Nat) : Int), Fits.out ⟨rfl, rfl, rfl, rfl, rfl, rfl, rfl, rfl, trivial⟩, E, E9, hP, hV, hB, hC, Mm, Bq, (by omega), (by simp [hLl]), (by rw [hts2, List.take_set_of_le (Nat.le_refl s)]; exact hN1), hks1, rfl⟩
    · have khlt := hlt
      replace hlt := of_decide_eq_false hlt
      have hss : s = n := by omega
      have hNn : Num (keysOf M keyf n) ks L := by rw [hss, ← hLl, List.take_length] at hN; rw [← hLl]; exact hN
      have hkl := keysI_len ks 0
      refine Wp_exit ?_
      refine thn_exit ?_
      refine thn_exit ?_
      refine inB_here ?_
      refine thn_normal ?_
      refine Wp_region ?_
      refine WpL_val rfl rfl (by decide) (r_move (v := (.slice (some ⟨bq, 0, none⟩) n n)) rfl) ?_
      refine WpL_val rfl rfl (by decide) (r_move (v := (.map (some bm))) rfl) ?_
      refine WpL_val (v := (.int .i64 (((keysI ks 0).length : Nat) : Int))) rfl rfl (by decide) (r_lenMap Try.underlying124 Mm rfl) ?_
      refine s_store (b := bp) (o := 0) (c' := #[(.slice (some ⟨bq, 0, none⟩) n n)]) (v := (.slice (some ⟨bq, 0, none⟩) n n)) rfl rfl rfl siz22 hP (by simp) rfl ?_
      intro w9 S9
      replace hV := S9.keep (by omega) hV
      replace hB := S9.keep (by omega) hB
      replace hC := S9.keep (by omega) hC
      replace Mm := S9.keepM (by omega) Mm
      replace Bq := S9.keep (by omega) Bq
      replace E := S9.step E (by first | exact Or.inl (by omega) | exact Or.inr rfl | exact Or.inr (by assumption) | exact Or.inr (by simp) | exact Or.inr (by omega) | exact Or.inr (by dsimp only; omega))
      replace hP := S9.blk
      refine s_store (b := bc) (o := 0) (c' := #[(.int .i64 (((keysI ks 0).length : Nat) : Int))]) (v := (.int .i64 (((keysI ks 0).length : Nat) : Int))) rfl rfl rfl siz3 hC (by simp) rfl ?_
      intro w10 S10
      replace hP := S10.keep (by omega) hP
      replace hV := S10.keep (by omega) hV
      replace hB := S10.keep (by omega) hB
      replace Mm := S10.keepM (by omega) Mm
      replace Bq := S10.keep (by omega) Bq
      replace E := S10.step E (by first | exact Or.inl (by omega) | exact Or.inr rfl | exact Or.inr (by assumption) | exact Or.inr (by simp) | exact Or.inr (by omega) | exact Or.inr (by dsimp only; omega))
      replace hC := S10.blk
      refine WpL_nil ?_
      refine fin_none Try.results96 ?_
      rw [hkl] at hC
      exact ⟨rfl, ⟨L, ks, bq, hNn, hP, Bq, by omega, hC⟩, E⟩
end Go.Proofs
