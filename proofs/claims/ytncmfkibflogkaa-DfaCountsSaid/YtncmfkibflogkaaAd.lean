/- dfa.Live, walked. -/
import Derived.Test.YtncmfkibflogkaaAc
import Derived.Test.YtncmfkibflogkaaGx
import Derived.Test.YtncmfkibflogkaaDa
namespace Go.Proofs
open Go Go.Eng Go.Sort
set_option maxRecDepth 100000

abbrev TDI : Nat := 3
abbrev TDIs : Nat := 22
def iRow (l : List Int) : Nat × List Value := (l.length, l.map (Value.int .i64))
theorem iRow_rep (n : Nat) : (List.replicate n ([] : List Int)).map iRow = List.replicate n (0, []) := by simp [iRow]
theorem ints_flatD (l : List Int) : (l.map intV).flatten = l.map (Value.int .i64) := by
  induction l with
  | nil => rfl
  | cons x l ih => simp [intV]; simpa [intV] using ih
theorem own_intsD {w : World} {base n : Nat} {v : Value} {l : List Int} (h : w.ownsRow base TDI 1 v n (l.map (Value.int .i64))) (hn : n = l.length) : IntsAt w v l := by
  rw [← ints_flatD] at h
  exact own_slat h (by intro x hx; simp only [List.mem_map] at hx; obtain ⟨p, _, rfl⟩ := hx; rfl) (by simp [hn]) (by decide)
theorem toD_row {n c : Nat} {d : Dfa} (ok : OkD n c d) {s k : Nat} {row : List Int} {x : Int} (hr : d.next[s]? = some row) (hx : row[k]? = some x) : toD d ((s : Nat) : Int) k = x ∧ k < c ∧ s < n ∧ -1 ≤ x ∧ x < n := by
  have h1 := ok.row row (List.mem_of_getElem? hr)
  exact ⟨toD_get hr hx, by rw [← h1.1]; exact lt_of_get hx, by rw [← ok.nl]; exact lt_of_get hr, (h1.2 x (List.mem_of_getElem? hx)).1, (h1.2 x (List.mem_of_getElem? hx)).2⟩
theorem clos_none (n : Nat) (into : List (List Int)) : ClosP into (List.replicate n false) [] := fun t h => by
  have := (List.mem_replicate.1 (List.mem_of_getElem? h)).2
  cases this
theorem bools_set {M : List Bool} {k : Nat} (b : Bool) : ((M.map Value.bool).toArray).setIfInBounds (0 + k) (.bool b) = ((M.set k b).map Value.bool).toArray := by
  apply Array.ext'
  rw [Array.toList_setIfInBounds, Nat.zero_add, ← List.map_set]
theorem snocs {α : Type} {l : List α} (h : 0 < l.length) : ∃ o c, l = o ++ [c] := ⟨l.dropLast, l.getLast (List.ne_nil_of_length_pos h), (List.dropLast_concat_getLast _).symm⟩
set_option maxHeartbeats 4000000 in
theorem live_c (w0 : World) (n c : Nat) (d : Dfa) (dv : List Value) (ok : OkD n c d) (h : DfaAt w0 d dv) (hn : n ≤ 20000 ∧ c ≤ 16) :
    Ret Try.prog 95 #[.agg dv.toArray] w0 fun r w => (∃ M b, LiveOf n c d M ∧ r = .slice (some ⟨b, 0, none⟩) n n ∧ w0.heap.size ≤ b ∧ Blk w b (M.map Value.bool).toArray 4) ∧ Ext w0 w := by
  obtain ⟨aa, ac, na, nc, rfl, hacc, hnxt⟩ := h
  have hnl := ok.nl
  have hal := ok.al
  have hnc : n * c ≤ 320000 := by have := Nat.mul_le_mul hn.1 hn.2; omega
  rw [hal] at hacc
  rw [hnl] at hnxt
  rw [hal, hnl]
  refine Ret_of Try.func95 rfl Try.ntmps95 (Nat.le_of_ble_eq_true rfl) ?_
  have E : Chg none1 w0 w0 := Chg.refl _ _
  refine Wp_seq_region ?_
  refine s_box (v := (.agg #[(.int .i64 d.start), (.slice aa n ac), (.slice na n nc)])) (c := #[(.int .i64 d.start), (.slice aa n ac), (.slice na n nc)]) (by decide) rfl rfl ?_
  intro bd wd Nd
  have Fd := Nd.ge E
  replace E := E.ext Nd.ext
  have Bd := Nd.blk
  refine WpL_val rfl rfl (by decide) (r_assign (v := (.slice none 0 0)) rfl) ?_
  refine WpL_nil ?_
  refine Wp_seq_region ?_
  refine WpL_val rfl rfl (by decide) (r_fieldAddr (b := bd) (o := 0) (o' := 2) rfl Try.underlying25 rfl siz23 rfl) ?_
  refine WpL_val rfl rfl (by decide) (r_load (v := (.slice na n nc)) rfl flat23 (Bd.cell rfl)) ?_
  refine WpL_val rfl rfl (by decide) (r_lenSlice (ad := na) (n := n) (cap := nc) Try.underlying23 rfl) ?_
  refine s_make (n := n) (z := (.slice none 0 0)) (bytes := 24) (by decide) Try.underlying23 siz22 byt22 zer22 rfl rfl rfl (by omega) (by omega) ?_
  intro bi wi Ni
  have Fi := Ni.ge E
  have Oi_bd := Ni.lt Bd
  replace Bd := Ni.keep Bd
  replace E := E.ext Ni.ext
  have Bi := Ni.blk
  refine WpL_val rfl rfl (by decide) (r_assign (v := (.slice (some ⟨bi, 0, none⟩) n n)) rfl) ?_
  refine WpL_nil ?_
  refine Wp_seq ?_
  refine Wp_seq_region ?_
  refine WpL_val rfl rfl (by decide) (r_fieldAddr (b := bd) (o := 0) (o' := 2) rfl Try.underlying25 rfl siz23 rfl) ?_
  refine WpL_val rfl rfl (by decide) (r_load (v := (.slice na n nc)) rfl flat23 (Bd.cell rfl)) ?_
  refine WpL_val rfl rfl (by decide) (r_lenSlice (ad := na) (n := n) (cap := nc) Try.underlying23 rfl) ?_
  refine WpL_val rfl rfl (by decide) (r_move (v := (.int .i64 0)) rfl) ?_
  refine WpL_nil ?_
  refine Wp_block ?_
  obtain ⟨n1, hn1e⟩ : ∃ n1, n1 = wd.heap.size := ⟨_, rfl⟩
  have hw1 : w0.heap.size ≤ n1 := by have := Nd.ext.size; omega
  have hbi1 : n1 ≤ bi := by have := Ni.eq; omega
  have hbd1 : bd < n1 := by have := Nd.eq; have := Nd.size; omega
  have hG0 := GSt.made (To := TDIs) (e := TDI) (sz := 1) (base := n1) (n := n) Bi hbi1 (by omega) hbi1
  have hs0 : n1 ≤ wi.heap.size := by have := Ni.ext.size; omega
  refine Wp_loop (fun nn_ σ W1 => ∃ (s : Nat) (into : List (List Int)) (vs : List Value), (∃ jj_, σ = upds jj_ [(1, (.pointer (some ⟨bd, 0, none⟩))), (3, (.slice (some ⟨bi, 0, none⟩) n n)), (20, (.slice na n nc)), (21, (.int .i64 ((n : Nat) : Int))), (22, (.int .i64 ((s : Nat) : Int)))]) ∧ Chg none1 w0 W1 ∧ Blk W1 bd #[(.int .i64 d.start), (.slice aa n ac), (.slice na n nc)] 25 ∧ (s ≤ n) ∧ (IntoP n c d into s 0) ∧ (GSt TDIs TDI 1 W1 n1 (.slice (some ⟨bi, 0, none⟩) n n) vs (into.map iRow)) ∧ (n1 ≤ W1.heap.size) ∧ nn_ = n - s) (n := n - 0) ?_ ?_
  · exact ⟨0, List.replicate n [], List.replicate n (.slice none 0 0), Fits.out ⟨rfl, rfl, rfl, rfl, rfl, trivial⟩, E, Bd, Nat.zero_le _, IntoP.start n c d, (by rw [iRow_rep]; exact hG0), hs0, rfl⟩
  · clear E Bd
    rintro _ _ W1 ⟨s, into, vs, ⟨j1, rfl⟩, E, Bd, hs, hI, hG, hsz, rfl⟩
    refine Wp_seq_region ?_
    refine WpL_val rfl rfl (by decide) (r_lss (k := .i64) (a := ((s : Nat) : Int)) (b := ((n : Nat) : Int)) rfl rfl) ?_
    refine WpL_nil ?_
    refine Wp_seq ?_
    refine Wp_cond (b := decide ((((s : Nat) : Int) : Int) < ((n : Nat) : Int))) rfl (fun hlt => ?_) (fun hlt => ?_)
    · have khlt := hlt
      replace hlt := of_decide_eq_true hlt
      obtain ⟨row, hrow⟩ := get_of_lt (l := d.next) (i := s) (by omega)
      have hrl := (ok.row row (List.mem_of_getElem? hrow)).1
      obtain ⟨b, o, rfl, hcl⟩ := intss_cells (n := n) hnxt (by omega)
      obtain ⟨ra, rc, hcell, hri⟩ := hcl s row hrow
      refine Wp_skip ?_
      refine thn_normal ?_
      refine Wp_seq ?_
      refine Wp_block ?_
      refine Wp_seq_region ?_
      refine WpL_val rfl rfl (by decide) (r_move (v := (.int .i64 ((s : Nat) : Int))) rfl) ?_
      refine WpL_val rfl rfl (by decide) (r_indexSlice (b := b) (o := o) (len := n) (cap := nc) (i := s) (o' := o + s) rfl rfl rfl Try.underlying23 siz22 (by omega) (by omega)) ?_
      refine WpL_val rfl rfl (by decide) (r_load (v := (.slice ra row.length rc)) rfl flat22 (E.cell (fun f => f) hcell)) ?_
      refine WpL_val rfl rfl (by decide) (r_assign (v := (.int .i64 ((s : Nat) : Int))) rfl) ?_
      refine WpL_val rfl rfl (by decide) (r_assign (v := (.slice ra row.length rc)) rfl) ?_
      refine WpL_nil ?_
      refine Wp_seq_region ?_
      refine WpL_val rfl rfl (by decide) (r_move (v := (.slice ra row.length rc)) rfl) ?_
      refine WpL_val rfl rfl (by decide) (r_lenSlice (ad := ra) (n := row.length) (cap := rc) Try.underlying22 rfl) ?_
      refine WpL_val rfl rfl (by decide) (r_move (v := (.int .i64 0)) rfl) ?_
      refine WpL_nil ?_
      refine Wp_block ?_
      refine Wp_loop (fun nn_ σ W3 => ∃ (k : Nat) (into : List (List Int)) (vs : List Value), (∃ jj_, σ = upds jj_ [(1, (.pointer (some ⟨bd, 0, none⟩))), (3, (.slice (some ⟨bi, 0, none⟩) n n)), (4, (.int .i64 ((s : Nat) : Int))), (20, (.slice (some ⟨b, o, none⟩) n nc)), (21, (.int .i64 ((n : Nat) : Int))), (22, (.int .i64 ((s : Nat) : Int))), (27, (.slice ra row.length rc)), (28, (.int .i64 ((row.length : Nat) : Int))), (29, (.int .i64 ((k : Nat) : Int)))]) ∧ Chg none1 w0 W3 ∧ Blk W3 bd #[(.int .i64 d.start), (.slice aa n ac), (.slice (some ⟨b, o, none⟩) n nc)] 25 ∧ (k ≤ c) ∧ (IntoP n c d into s k) ∧ (GSt TDIs TDI 1 W3 n1 (.slice (some ⟨bi, 0, none⟩) n n) vs (into.map iRow)) ∧ (n1 ≤ W3.heap.size) ∧ nn_ = c - k) (n := c - 0) ?_ ?_
      · exact ⟨0, into, vs, Fits.out ⟨rfl, rfl, rfl, rfl, rfl, rfl, rfl, rfl, rfl, trivial⟩, E, Bd, Nat.zero_le _, hI, hG, hsz, rfl⟩
      · clear E Bd
        rintro _ _ W3 ⟨k, into, vs, ⟨j3, rfl⟩, E, Bd, hk, hI, hG, hsz, rfl⟩
        refine Wp_seq_region ?_
        refine WpL_val rfl rfl (by decide) (r_lss (k := .i64) (a := ((k : Nat) : Int)) (b := ((row.length : Nat) : Int)) rfl rfl) ?_
        refine WpL_nil ?_
        refine Wp_seq ?_
        refine Wp_cond (b := decide ((((k : Nat) : Int) : Int) < ((row.length : Nat) : Int))) rfl (fun hlt2 => ?_) (fun hlt2 => ?_)
        · have khlt2 := hlt2
          replace hlt2 := of_decide_eq_true hlt2
          obtain ⟨x, hx⟩ := get_of_lt (l := row) (i := k) (by omega)
          obtain ⟨rb, ro, rfl, hrc⟩ := ints_cells hri (by omega)
          obtain ⟨htk, hkc, _, hxl, hxh⟩ := toD_row ok hrow hx
          refine Wp_skip ?_
          refine thn_normal ?_
          refine Wp_seq ?_
          refine Wp_block ?_
          refine Wp_seq_region ?_
          refine WpL_val rfl rfl (by decide) (r_indexSlice (b := rb) (o := ro) (len := row.length) (cap := rc) (i := k) (o' := ro + k) rfl rfl rfl Try.underlying22 siz3 (by omega) (by omega)) ?_
          refine WpL_val rfl rfl (by decide) (r_load (v := (.int .i64 x)) rfl flat3 (E.cell (fun f => f) (hrc k x hx))) ?_
          refine WpL_val rfl rfl (by decide) (r_assign (v := (.int .i64 x)) rfl) ?_
          refine WpL_nil ?_
          refine Wp_seq_region ?_
          refine WpL_val rfl rfl (by decide) (r_move (v := (.int .i64 x)) rfl) ?_
          refine WpL_val rfl rfl (by decide) (r_geq (k := .i64) (a := x) (b := 0) rfl rfl) ?_
          refine WpL_nil ?_
          refine Wp_cond (b := decide ((0 : Int) ≤ x)) rfl (fun hpos => ?_) (fun hpos => ?_)
          · have khpos := hpos
            replace hpos := of_decide_eq_true hpos
            obtain ⟨t, htx⟩ := Int.eq_ofNat_of_zero_le hpos
            rw [htx] at htk hxh
            obtain ⟨lt, hlt3⟩ := get_of_lt (l := into) (i := t) (by have := hI.len; omega)
            have hin := hI.sht lt (List.mem_of_getElem? hlt3)
            have hsc : s * c ≤ n * c := Nat.mul_le_mul_right c (by omega)
            have hlen : (into.map iRow).length = n := by rw [List.length_map]; exact hI.len
            obtain ⟨v1, hv1⟩ := get_of_lt (l := vs) (i := t) (by have := hG.l.len; omega)
            have hp1 : (into.map iRow)[t]? = some (lt.length, lt.map (Value.int .i64)) := by rw [List.getElem?_map, hlt3]; rfl
            have hinn := hG.l.inn t v1 _ hv1 hp1
            obtain ⟨va, vc, rfl⟩ := own_form hinn
            obtain ⟨gg, hgg, _, hg2⟩ := own_cells (hG.l.on hlen.symm) (by omega)
            simp only [Option.some.injEq, Addr.mk.injEq, and_true] at hgg
            subst hgg
            have hG0 := hG
            refine Wp_region ?_
            refine WpL_val rfl rfl (by decide) (r_move (v := (.slice (some ⟨bi, 0, none⟩) n n)) rfl) ?_
            refine WpL_val rfl rfl (by decide) (r_move (v := (.int .i64 x)) rfl) ?_
            refine WpL_val rfl rfl (by decide) (r_move (v := (.slice (some ⟨bi, 0, none⟩) n n)) rfl) ?_
            refine WpL_val rfl rfl (by decide) (r_move (v := (.int .i64 x)) rfl) ?_
            refine WpL_val rfl rfl (by decide) (r_indexSlice (b := bi) (o := 0) (len := n) (cap := n) (i := t) (o' := 0 + t) rfl rfl (by omega) Try.underlying23 siz22 (by omega) (by omega)) ?_
            refine WpL_val rfl rfl (by decide) (r_load (v := (.slice va lt.length vc)) rfl flat22 (hg2 t _ hv1)) ?_
            refine WpL_val rfl rfl (by decide) (r_move (v := (.int .i64 ((s : Nat) : Int))) rfl) ?_
            refine s_buildSlice (ps := [(0, (.int .i64 ((s : Nat) : Int)))]) (c := #[(.int .i64 ((s : Nat) : Int))]) (by decide) rfl Try.underlying22 siz3 zer3 (by decide) (by decide) (by kernel_rfl) ?_
            intro b6 w6 N6
            have F6 := N6.ge E
            have O6_bd := N6.lt Bd
            replace Bd := N6.keep Bd
            replace hG0 := hG0.ext N6.ext
            replace hinn := own_ext hinn N6.ext
            replace hsz := Nat.le_trans hsz N6.ext.size
            replace E := E.ext N6.ext
            have B6 := N6.blk
            refine s_append (base := n1) (n := lt.length) (m := 1) (xs := (lt.map (Value.int .i64))) (news := [(.int .i64 ((s : Nat) : Int))]) (size := 1) (bytes := 8) (v := (.slice va lt.length vc)) (by decide) Try.underlying22 siz3 byt3 zer3 rfl (by decide) rfl hinn rfl (rfl) (B6.cells rfl) (by simp [Value.oneCell']) (by unfold maxLen; omega) (by omega) (hsz) ?_
            intro v7 w59 Ov7 Cv7 Dv7
            replace Bd := Cv7.keep (fun h => by have := (hinn.lt _ h).1; omega) Bd
            replace E := E.step Cv7 (fun x hx h => absurd (hinn.lt x h).1 (by omega))
            obtain ⟨va2, vc2, rfl⟩ := own_form Ov7
            have hG1 := hG0.l
            have hCv := Cv7
            obtain ⟨cur, hBo, hcs⟩ := own_blkG (own_chg (hG1.on hlen.symm) Cv7 (fun b hb hm => hG1.apo t _ _ hv1 hm hb))
            have hs9 := Nat.le_trans hsz Cv7.size
            have hPx : True := trivial
            have hBo0 := hBo
            refine WpL_val rfl rfl (by decide) (r_indexSlice (b := bi) (o := 0) (len := n) (cap := n) (i := t) (o' := 0 + t) rfl rfl (by omega) Try.underlying23 siz22 (by omega) (by omega)) ?_
            refine s_store (b := bi) (o := 0 + t) (c' := cur.setIfInBounds (0 + t) (.slice va2 (lt.length + 1) vc2)) (v := (.slice va2 (lt.length + 1) vc2)) rfl rfl rfl siz22 hBo (by omega) (rfl) ?_
            intro w7 S7
            replace hPx := S7
            replace hs9 := Nat.le_trans hs9 S7.chg.size
            replace Bd := S7.keep (by omega) Bd
            replace E := S7.step E (by first | exact Or.inl (by omega) | exact Or.inr rfl | exact Or.inr (by assumption) | exact Or.inr (by simp) | exact Or.inr (by omega) | exact Or.inr (by dsimp only; omega))
            replace hBo := S7.blk
            have hG9 := hG0.grow hlen.symm hv1 hp1 (m' := lt.length + 1) (xs' := (lt ++ [((s : Nat) : Int)]).map (Value.int .i64)) (by rw [List.map_append]; exact Ov7) Cv7 Dv7 hBo0 (by simpa using hPx)
            refine WpL_nil ?_
            refine inB_normal ?_
            refine thn_normal ?_
            refine Wp_region ?_
            refine WpL_val rfl rfl (by decide) (r_add (k := .i64) (a := ((k : Nat) : Int)) (b := 1) (c := ((k : Nat) : Int) + 1) rfl rfl (wI64 (by omega))) ?_
            refine WpL_val rfl rfl (by decide) (r_move (v := (.int .i64 (((k : Nat) : Int) + 1))) rfl) ?_
            refine WpL_nil ?_
            refine thn_normal ?_
            exact ⟨c - (k + 1), by omega, k + 1, into.set t (lt ++ [((s : Nat) : Int)]), vs.set t (.slice va2 (lt.length + 1) vc2), Fits.out ⟨rfl, rfl, rfl, rfl, rfl, rfl, rfl, rfl, rfl, trivial⟩, E, Bd, (by omega), hI.add (by omega) hkc htk hlt3, (by rw [List.map_set]; simpa [iRow] using hG9), hs9, rfl⟩
          · have khpos := hpos
            replace hpos := of_decide_eq_false hpos
            refine Wp_skip ?_
            refine inB_normal ?_
            refine thn_normal ?_
            refine Wp_region ?_
            refine WpL_val rfl rfl (by decide) (r_add (k := .i64) (a := ((k : Nat) : Int)) (b := 1) (c := ((k : Nat) : Int) + 1) rfl rfl (wI64 (by omega))) ?_
            refine WpL_val rfl rfl (by decide) (r_move (v := (.int .i64 (((k : Nat) : Int) + 1))) rfl) ?_
            refine WpL_nil ?_
            refine thn_normal ?_
            exact ⟨c - (k + 1), by omega, k + 1, into, vs, Fits.out ⟨rfl, rfl, rfl, rfl, rfl, rfl, rfl, rfl, rfl, trivial⟩, E, Bd, (by omega), hI.skip (by rw [htk]; omega), hG, hsz, rfl⟩
        · have khlt2 := hlt2
          replace hlt2 := of_decide_eq_false hlt2
          refine Wp_exit ?_
          refine thn_exit ?_
          refine thn_exit ?_
          refine inB_here ?_
          refine inB_normal ?_
          refine thn_normal ?_
          refine Wp_region ?_
          refine WpL_val rfl rfl (by decide) (r_add (k := .i64) (a := ((s : Nat) : Int)) (b := 1) (c := ((s : Nat) : Int) + 1) rfl rfl (wI64 (by omega))) ?_
          refine WpL_val rfl rfl (by decide) (r_move (v := (.int .i64 (((s : Nat) : Int) + 1))) rfl) ?_
          refine WpL_nil ?_
          refine thn_normal ?_
          exact ⟨n - (s + 1), by omega, s + 1, into, vs, Fits.out ⟨rfl, rfl, rfl, rfl, rfl, trivial⟩, E, Bd, (by omega), hI.row (by omega), hG, hsz, rfl⟩
    · have khlt := hlt
      replace hlt := of_decide_eq_false hlt
      have hss : s = n := by omega
      rw [hss] at hI
      obtain ⟨n2, hn2e⟩ : ∃ n2, n2 = (W1).heap.size := ⟨_, rfl⟩
      have hbd2 : bd < n2 := by have := Bd.lt; omega
      have hbn2 : w0.heap.size ≤ n2 := by have := E.size; omega
      have E1 : Chg none1 W1 W1 := Chg.refl _ _
      refine Wp_exit ?_
      refine thn_exit ?_
      refine thn_exit ?_
      refine inB_here ?_
      refine thn_normal ?_
      refine Wp_seq_region ?_
      refine WpL_val rfl rfl (by decide) (r_fieldAddr (b := bd) (o := 0) (o' := 2) rfl Try.underlying25 rfl siz23 rfl) ?_
      refine WpL_val rfl rfl (by decide) (r_load (v := (.slice na n nc)) rfl flat23 (Bd.cell rfl)) ?_
      refine WpL_val rfl rfl (by decide) (r_lenSlice (ad := na) (n := n) (cap := nc) Try.underlying23 rfl) ?_
      refine s_make (n := n) (z := (.bool false)) (bytes := 1) (by decide) Try.underlying130 siz4 byt4 zer4 rfl rfl rfl (by omega) (by omega) ?_
      intro bl wl Nl
      have Fl := Nl.ge E
      have Fl_E1 := Nl.ge E1
      have Ol_bd := Nl.lt Bd
      replace Bd := Nl.keep Bd
      replace E := E.ext Nl.ext
      have Bl := Nl.blk
      replace E1 := E1.ext Nl.ext
      refine WpL_val rfl rfl (by decide) (r_assign (v := (.slice (some ⟨bl, 0, none⟩) n n)) rfl) ?_
      refine WpL_nil ?_
      refine Wp_seq_region ?_
      refine WpL_val rfl rfl (by decide) (r_assign (v := (.slice none 0 0)) rfl) ?_
      refine WpL_nil ?_
      refine Wp_seq ?_
      refine Wp_seq_region ?_
      refine WpL_val rfl rfl (by decide) (r_fieldAddr (b := bd) (o := 0) (o' := 1) rfl Try.underlying25 rfl siz22 rfl) ?_
      refine WpL_val rfl rfl (by decide) (r_load (v := (.slice aa n ac)) rfl flat22 (Bd.cell rfl)) ?_
      refine WpL_val rfl rfl (by decide) (r_lenSlice (ad := aa) (n := n) (cap := ac) Try.underlying22 rfl) ?_
      refine WpL_val rfl rfl (by decide) (r_move (v := (.int .i64 0)) rfl) ?_
      refine WpL_nil ?_
      refine Wp_block ?_
      obtain ⟨n3, hn3e⟩ : ∃ n3, n3 = wl.heap.size := ⟨_, rfl⟩
      have hbl3 : bl < n3 := by have := Bl.lt; omega
      have hn23 : n2 ≤ n3 := by have := Nl.ext.size; omega
      have hbl2 : n2 ≤ bl := by have := Nl.eq; omega
      rw [show List.replicate n (Value.bool false) = (List.replicate n false).map Value.bool by simp] at Bl
      have hs3 : n3 ≤ wl.heap.size := by omega
      refine Wp_loop (fun nn_ σ W8 => ∃ (k : Nat) (M : List Bool) (work : List Int) (ka : Option Addr) (kc kn : Nat), (∃ jj_, σ = upds jj_ [(3, (.slice (some ⟨bi, 0, none⟩) n n)), (8, (.slice (some ⟨bl, 0, none⟩) n n)), (52, (.slice aa n ac)), (53, (.int .i64 ((n : Nat) : Int))), (54, (.int .i64 ((k : Nat) : Int))), (9, (.slice ka kn kc))]) ∧ Chg none1 w0 W8 ∧ Chg none1 W1 W8 ∧ Blk W8 bd #[(.int .i64 d.start), (.slice aa n ac), (.slice na n nc)] 25 ∧ Blk W8 bl ((M.map Value.bool).toArray) 4 ∧ (k ≤ n) ∧ (LiveP n c d M work k) ∧ (ClosP into M work) ∧ (kn = work.length) ∧ (W8.ownsRow n3 TDI 1 (.slice ka kn kc) kn (work.map (Value.int .i64))) ∧ (n3 ≤ W8.heap.size) ∧ (∀ i, k ≤ i → i < n → M[i]? = some false) ∧ nn_ = n - k) (n := n - 0) ?_ ?_
      · exact ⟨0, List.replicate n false, [], none, 0, 0, Fits.out ⟨rfl, rfl, rfl, rfl, rfl, rfl, trivial⟩, E, E1, Bd, Bl, Nat.zero_le _, LiveP.start n c d, clos_none n into, rfl, World.ownsRow_nil _ _ _ _, hs3, (fun i _ hi => by simp [hi]), rfl⟩
      · clear E E1 Bd Bl
        rintro _ _ W8 ⟨k, M, work, ka, kc, kn, ⟨j8, rfl⟩, E, E1, Bd, Bl, hk, hL, hC, hkn, hw, hs3, hfr, rfl⟩
        refine Wp_seq_region ?_
        refine WpL_val rfl rfl (by decide) (r_lss (k := .i64) (a := ((k : Nat) : Int)) (b := ((n : Nat) : Int)) rfl rfl) ?_
        refine WpL_nil ?_
        refine Wp_seq ?_
        refine Wp_cond (b := decide ((((k : Nat) : Int) : Int) < ((n : Nat) : Int))) rfl (fun hlt4 => ?_) (fun hlt4 => ?_)
        · have khlt4 := hlt4
          replace hlt4 := of_decide_eq_true hlt4
          obtain ⟨x, hx⟩ := get_of_lt (l := d.accept) (i := k) (by omega)
          obtain ⟨ab, ao, rfl, hac⟩ := ints_cells (n := n) hacc (by omega)
          have hatk := atD_get hx
          refine Wp_skip ?_
          refine thn_normal ?_
          refine Wp_seq ?_
          refine Wp_block ?_
          refine Wp_seq_region ?_
          refine WpL_val rfl rfl (by decide) (r_move (v := (.int .i64 ((k : Nat) : Int))) rfl) ?_
          refine WpL_val rfl rfl (by decide) (r_indexSlice (b := ab) (o := ao) (len := n) (cap := ac) (i := k) (o' := ao + k) rfl rfl rfl Try.underlying22 siz3 (by omega) (by omega)) ?_
          refine WpL_val rfl rfl (by decide) (r_load (v := (.int .i64 x)) rfl flat3 (E.cell (fun f => f) (hac k x hx))) ?_
          refine WpL_val rfl rfl (by decide) (r_assign (v := (.int .i64 ((k : Nat) : Int))) rfl) ?_
          refine WpL_val rfl rfl (by decide) (r_assign (v := (.int .i64 x)) rfl) ?_
          refine WpL_nil ?_
          refine Wp_seq_region ?_
          refine WpL_val rfl rfl (by decide) (r_move (v := (.int .i64 x)) rfl) ?_
          refine WpL_val rfl rfl (by decide) (r_geq (k := .i64) (a := x) (b := 0) rfl rfl) ?_
          refine WpL_nil ?_
          refine Wp_cond (b := decide ((0 : Int) ≤ x)) rfl (fun hpos2 => ?_) (fun hpos2 => ?_)
          · have khpos2 := hpos2
            replace hpos2 := of_decide_eq_true hpos2
            have hMk := hfr k (Nat.le_refl _) (by omega)
            have hLk := (hL.mark hMk ⟨[], inW.nil c, by show 0 ≤ atD d _; rw [hatk]; omega⟩).next (fun _ => by rw [List.getElem?_set, if_pos rfl, if_pos (lt_of_get hMk)])
            have hcn := hL.cnt
            have hMl := hL.len
            refine Wp_seq_region ?_
            refine WpL_val rfl rfl (by decide) (r_move (v := (.slice (some ⟨bl, 0, none⟩) n n)) rfl) ?_
            refine WpL_val rfl rfl (by decide) (r_move (v := (.int .i64 ((k : Nat) : Int))) rfl) ?_
            refine WpL_val rfl rfl (by decide) (r_indexSlice (b := bl) (o := 0) (len := n) (cap := n) (i := k) (o' := 0 + k) rfl rfl rfl Try.underlying130 siz4 (by omega) (by omega)) ?_
            refine s_store (b := bl) (o := 0 + k) (c' := ((M.set k true).map Value.bool).toArray) (v := (.bool true)) rfl rfl rfl siz4 Bl (by simp; omega) (bools_set true) ?_
            intro w11 S11
            replace hw := own_chg hw S11.chg fun b hb h => by subst h; have := (hw.lt _ hb).1; omega
            replace hs3 := Nat.le_trans hs3 S11.chg.size
            replace Bd := S11.keep (by omega) Bd
            replace E := S11.step E (by first | exact Or.inl (by omega) | exact Or.inr rfl | exact Or.inr (by assumption) | exact Or.inr (by simp) | exact Or.inr (by omega) | exact Or.inr (by dsimp only; omega))
            replace E1 := S11.step E1 (Or.inl (by omega))
            replace Bl := S11.blk
            refine WpL_nil ?_
            refine Wp_region ?_
            refine WpL_val rfl rfl (by decide) (r_move (v := (.slice ka kn kc)) rfl) ?_
            refine WpL_val rfl rfl (by decide) (r_move (v := (.int .i64 ((k : Nat) : Int))) rfl) ?_
            refine s_buildSlice (ps := [(0, (.int .i64 ((k : Nat) : Int)))]) (c := #[(.int .i64 ((k : Nat) : Int))]) (by decide) rfl Try.underlying22 siz3 zer3 (by decide) (by decide) (by kernel_rfl) ?_
            intro b12 w12 N12
            have F12 := N12.ge E
            have F12_E1 := N12.ge E1
            have O12_bd := N12.lt Bd
            have O12_bl := N12.lt Bl
            replace Bd := N12.keep Bd
            replace Bl := N12.keep Bl
            replace hw := own_ext hw N12.ext
            replace hs3 := Nat.le_trans hs3 N12.ext.size
            replace E := E.ext N12.ext
            have B12 := N12.blk
            replace E1 := E1.ext N12.ext
            refine s_append (base := n3) (n := kn) (m := 1) (xs := (work.map (Value.int .i64))) (news := [(.int .i64 ((k : Nat) : Int))]) (size := 1) (bytes := 8) (v := (.slice ka kn kc)) (by decide) Try.underlying22 siz3 byt3 zer3 rfl (by decide) rfl hw rfl (rfl) (B12.cells rfl) (by simp [Value.oneCell']) (by unfold maxLen; omega) (by omega) (hs3) ?_
            intro v7 w59 Ov7 Cv7 Dv7
            replace Bd := Cv7.keep (fun h => by have := (hw.lt _ h).1; omega) Bd
            replace Bl := Cv7.keep (fun h => by have := (hw.lt _ h).1; omega) Bl
            replace E := E.step Cv7 (fun x hx h => absurd (hw.lt x h).1 (by omega))
            replace E1 := E1.step Cv7 (fun x hx h => absurd (hw.lt x h).1 (by omega))
            obtain ⟨ka2, kc2, rfl⟩ := own_form Ov7
            refine WpL_val rfl rfl (by decide) (r_assign (v := (.slice ka2 (kn + 1) kc2)) rfl) ?_
            refine WpL_nil ?_
            refine inB_normal ?_
            refine thn_normal ?_
            refine Wp_region ?_
            refine WpL_val rfl rfl (by decide) (r_add (k := .i64) (a := ((k : Nat) : Int)) (b := 1) (c := ((k : Nat) : Int) + 1) rfl rfl (wI64 (by omega))) ?_
            refine WpL_val rfl rfl (by decide) (r_move (v := (.int .i64 (((k : Nat) : Int) + 1))) rfl) ?_
            refine WpL_nil ?_
            refine thn_normal ?_
            exact ⟨n - (k + 1), by omega, k + 1, M.set k true, work ++ [((k : Nat) : Int)], ka2, kc2, kn + 1, Fits.out ⟨rfl, rfl, rfl, rfl, rfl, rfl, trivial⟩, E, E1, Bd, Bl, (by omega), hLk, hC.mark, (by simp; omega), (by rw [List.map_append]; exact Ov7), Nat.le_trans hs3 Cv7.size, (fun i h1 h2 => by rw [List.getElem?_set, if_neg (by omega)]; exact hfr i (by omega) h2), rfl⟩
          · have khpos2 := hpos2
            replace hpos2 := of_decide_eq_false hpos2
            refine Wp_skip ?_
            refine inB_normal ?_
            refine thn_normal ?_
            refine Wp_region ?_
            refine WpL_val rfl rfl (by decide) (r_add (k := .i64) (a := ((k : Nat) : Int)) (b := 1) (c := ((k : Nat) : Int) + 1) rfl rfl (wI64 (by omega))) ?_
            refine WpL_val rfl rfl (by decide) (r_move (v := (.int .i64 (((k : Nat) : Int) + 1))) rfl) ?_
            refine WpL_nil ?_
            refine thn_normal ?_
            exact ⟨n - (k + 1), by omega, k + 1, M, work, ka, kc, kn, Fits.out ⟨rfl, rfl, rfl, rfl, rfl, rfl, trivial⟩, E, E1, Bd, Bl, (by omega), hL.next (fun h => by rw [hatk] at h; omega), hC, hkn, hw, hs3, (fun i h1 h2 => hfr i (by omega) h2), rfl⟩
        · have khlt4 := hlt4
          replace hlt4 := of_decide_eq_false hlt4
          have hkn4 : k = n := by omega
          rw [hkn4] at hL
          refine Wp_exit ?_
          refine thn_exit ?_
          refine thn_exit ?_
          refine inB_here ?_
          refine thn_normal ?_
          refine Wp_seq ?_
          refine Wp_block ?_
          refine Wp_loop (fun nn_ σ W13 => ∃ (M : List Bool) (work : List Int) (ka : Option Addr) (kc kn : Nat), (∃ jj_, σ = upds jj_ [(3, (.slice (some ⟨bi, 0, none⟩) n n)), (8, (.slice (some ⟨bl, 0, none⟩) n n)), (9, (.slice ka kn kc))]) ∧ Chg none1 w0 W13 ∧ Chg none1 W1 W13 ∧ Blk W13 bd #[(.int .i64 d.start), (.slice aa n ac), (.slice na n nc)] 25 ∧ Blk W13 bl ((M.map Value.bool).toArray) 4 ∧ (LiveP n c d M work n) ∧ (ClosP into M work) ∧ (kn = work.length) ∧ (W13.ownsRow n3 TDI 1 (.slice ka kn kc) kn (work.map (Value.int .i64))) ∧ (n3 ≤ W13.heap.size) ∧ nn_ = 2 * M.countP (fun b => !b) + work.length) (n := 2 * M.countP (fun b => !b) + work.length) ?_ ?_
          · exact ⟨M, work, ka, kc, kn, Fits.out ⟨rfl, rfl, rfl, trivial⟩, E, E1, Bd, Bl, hL, hC, hkn, hw, hs3, rfl⟩
          · clear E E1 Bd Bl
            rintro _ _ W13 ⟨M, work, ka, kc, kn, ⟨j13, rfl⟩, E, E1, Bd, Bl, hL, hC, hkn, hw, hs3, rfl⟩
            refine Wp_seq ?_
            refine Wp_seq_region ?_
            refine WpL_val rfl rfl (by decide) (r_move (v := (.slice ka kn kc)) rfl) ?_
            refine WpL_val rfl rfl (by decide) (r_lenSlice (ad := ka) (n := kn) (cap := kc) Try.underlying22 rfl) ?_
            refine WpL_val rfl rfl (by decide) (r_gtr (k := .i64) (a := ((kn : Nat) : Int)) (b := 0) rfl rfl) ?_
            refine WpL_nil ?_
            refine Wp_cond (b := decide ((0 : Int) < ((kn : Nat) : Int))) rfl (fun hlt5 => ?_) (fun hlt5 => ?_)
            · have khlt5 := hlt5
              replace hlt5 := of_decide_eq_true hlt5
              have hcn := hL.cnt
              obtain ⟨wl, x, hwx⟩ := snocs (l := work) (by omega)
              have hwl : work.length = wl.length + 1 := by rw [hwx]; simp
              obtain ⟨u, hxu, hMu⟩ := hL.wrk x (by rw [hwx]; simp)
              have hMl := hL.len
              have hun : u < n := by have := lt_of_get hMu; omega
              obtain ⟨kg, rfl, _, hkc⟩ := own_cells hw (by omega)
              have hle := own_le hw
              obtain ⟨Z, hZ⟩ : ∃ Z, Z = 2 * M.countP (fun b => !b) + work.length := ⟨_, rfl⟩
              refine Wp_skip ?_
              refine thn_normal ?_
              refine Wp_block ?_
              refine Wp_seq_region ?_
              refine WpL_val rfl rfl (by decide) (r_move (v := (.slice (some ⟨kg, 0, none⟩) kn kc)) rfl) ?_
              refine WpL_val rfl rfl (by decide) (r_move (v := (.slice (some ⟨kg, 0, none⟩) kn kc)) rfl) ?_
              refine WpL_val rfl rfl (by decide) (r_lenSlice (ad := some ⟨kg, 0, none⟩) (n := kn) (cap := kc) Try.underlying22 rfl) ?_
              refine WpL_val rfl rfl (by decide) (r_sub (k := .i64) (a := ((kn : Nat) : Int)) (b := 1) (c := ((kn : Nat) : Int) - 1) rfl rfl (wI64 (by omega))) ?_
              refine WpL_val rfl rfl (by decide) (r_indexSlice (b := kg) (o := 0) (len := kn) (cap := kc) (i := kn - 1) (o' := 0 + (kn - 1)) rfl rfl (by omega) Try.underlying22 siz3 (by omega) (by omega)) ?_
              refine WpL_val rfl rfl (by decide) (r_load (v := (.int .i64 x)) rfl flat3 (hkc (kn - 1) _ (by rw [hkn, hwl, Nat.add_sub_cancel, List.getElem?_map, hwx]; simp))) ?_
              refine WpL_val rfl rfl (by decide) (r_assign (v := (.int .i64 x)) rfl) ?_
              refine WpL_nil ?_
              refine Wp_seq_region ?_
              refine WpL_val rfl rfl (by decide) (r_move (v := (.slice (some ⟨kg, 0, none⟩) kn kc)) rfl) ?_
              refine WpL_val rfl rfl (by decide) (r_move (v := (.slice (some ⟨kg, 0, none⟩) kn kc)) rfl) ?_
              refine WpL_val rfl rfl (by decide) (r_lenSlice (ad := some ⟨kg, 0, none⟩) (n := kn) (cap := kc) Try.underlying22 rfl) ?_
              refine WpL_val rfl rfl (by decide) (r_sub (k := .i64) (a := ((kn : Nat) : Int)) (b := 1) (c := ((kn : Nat) : Int) - 1) rfl rfl (wI64 (by omega))) ?_
              obtain ⟨a2, ha2⟩ : ∃ a' : Option Addr, (if kc = 0 then (some ⟨kg, 0, none⟩) else Option.map (fun q : Addr => q.add (0 * 1)) (some ⟨kg, 0, none⟩)) = a' := ⟨_, rfl⟩
              refine WpL_val rfl rfl (by decide) (r_sliceHi (a := (some ⟨kg, 0, none⟩)) (len := kn) (cap := kc) (hi := kn - 1) (l := ((kn : Nat) : Int) - 1) Try.underlying22 siz3 rfl rfl (by omega) (by omega) ha2) ?_
              refine WpL_val rfl rfl (by decide) (r_assign (v := (.slice a2 (kn - 1) kc)) rfl) ?_
              refine WpL_nil ?_
              refine Wp_seq_region ?_
              refine WpL_val rfl rfl (by decide) (r_move (v := (.slice (some ⟨bi, 0, none⟩) n n)) rfl) ?_
              refine WpL_val rfl rfl (by decide) (r_move (v := (.int .i64 x)) rfl) ?_
              have ha3 : a2 = some ⟨kg, 0, none⟩ := by rw [← ha2, if_neg (by omega)]; simp [Addr.add_lit]
              subst ha3
              have hw2 := own_cut hw (m := kn - 1) (by omega) (by omega)
              rw [show (work.map (Value.int .i64)).take ((kn - 1) * 1) = wl.map (Value.int .i64) by rw [hwx, List.map_append, Nat.mul_one, List.take_append_of_le_length (by simp; omega), List.take_of_length_le (by simp; omega)]] at hw2
              have hL2 : LiveP n c d M wl n := ⟨hL.len, fun y hy => hL.wrk y (by rw [hwx]; exact List.mem_append_left _ hy), hL.snd, hL.acc, by omega⟩
              obtain ⟨lu, hlu⟩ := get_of_lt (l := into) (i := u) (by have := hI.len; omega)
              have hlen : (into.map iRow).length = n := by rw [List.length_map]; exact hI.len
              obtain ⟨v1, hv1⟩ := get_of_lt (l := vs) (i := u) (by have := hG.l.len; omega)
              have hp1 : (into.map iRow)[u]? = some (lu.length, lu.map (Value.int .i64)) := by rw [List.getElem?_map, hlu]; rfl
              have hinn := hG.l.inn u v1 _ hv1 hp1
              obtain ⟨va, vc, rfl⟩ := own_form hinn
              obtain ⟨gg, hgg, _, hg2⟩ := own_cells (hG.l.on hlen.symm) (by omega)
              simp only [Option.some.injEq, Addr.mk.injEq, and_true] at hgg
              subst hgg
              have hQ0 := (show ClosP into M (wl ++ [((u : Nat) : Int)]) by rw [← hxu, ← hwx]; exact hC).open lu
              have hil := hI.sht lu (List.mem_of_getElem? hlu)
              refine WpL_val rfl rfl (by decide) (r_indexSlice (b := bi) (o := 0) (len := n) (cap := n) (i := u) (o' := 0 + u) rfl rfl (by omega) Try.underlying23 siz22 (by omega) (by omega)) ?_
              refine WpL_val rfl rfl (by decide) (r_load (v := (.slice va lu.length vc)) rfl flat22 (E1.cell (fun f => f) (hg2 u _ hv1))) ?_
              refine WpL_val rfl rfl (by decide) (r_lenSlice (ad := va) (n := lu.length) (cap := vc) Try.underlying22 rfl) ?_
              refine WpL_val rfl rfl (by decide) (r_move (v := (.int .i64 0)) rfl) ?_
              refine WpL_nil ?_
              refine Wp_block ?_
              refine Wp_loop (fun nn_ σ W15 => ∃ (j : Nat) (M : List Bool) (work : List Int) (ka : Option Addr) (kc kn : Nat), (∃ jj_, σ = upds jj_ [(3, (.slice (some ⟨bi, 0, none⟩) n n)), (8, (.slice (some ⟨bl, 0, none⟩) n n)), (86, (.slice va lu.length vc)), (87, (.int .i64 ((lu.length : Nat) : Int))), (88, (.int .i64 ((j : Nat) : Int))), (9, (.slice ka kn kc))]) ∧ Chg none1 w0 W15 ∧ Chg none1 W1 W15 ∧ Blk W15 bd #[(.int .i64 d.start), (.slice aa n ac), (.slice na n nc)] 25 ∧ Blk W15 bl ((M.map Value.bool).toArray) 4 ∧ (j ≤ lu.length) ∧ (LiveP n c d M work n) ∧ (ClosQ into M work u lu j) ∧ (M[u]? = some true) ∧ (kn = work.length) ∧ (W15.ownsRow n3 TDI 1 (.slice ka kn kc) kn (work.map (Value.int .i64))) ∧ (n3 ≤ W15.heap.size) ∧ (2 * M.countP (fun b => !b) + work.length < Z) ∧ nn_ = lu.length - j) (n := lu.length - 0) ?_ ?_
              · exact ⟨0, M, wl, some ⟨kg, 0, none⟩, kc, kn - 1, Fits.out ⟨rfl, rfl, rfl, rfl, rfl, rfl, trivial⟩, E, E1, Bd, Bl, Nat.zero_le _, hL2, hQ0, hMu, (by omega), hw2, hs3, (by omega), rfl⟩
              · clear E E1 Bd Bl
                rintro _ _ W15 ⟨j, M, work, ka, kc, kn, ⟨j15, rfl⟩, E, E1, Bd, Bl, hj, hL, hQ, hMu, hkn, hw, hs3, hZ, rfl⟩
                refine Wp_seq_region ?_
                refine WpL_val rfl rfl (by decide) (r_lss (k := .i64) (a := ((j : Nat) : Int)) (b := ((lu.length : Nat) : Int)) rfl rfl) ?_
                refine WpL_nil ?_
                refine Wp_seq ?_
                refine Wp_cond (b := decide ((((j : Nat) : Int) : Int) < ((lu.length : Nat) : Int))) rfl (fun hlt6 => ?_) (fun hlt6 => ?_)
                · have khlt6 := hlt6
                  replace hlt6 := of_decide_eq_true hlt6
                  obtain ⟨x, hx⟩ := get_of_lt (l := lu) (i := j) (by omega)
                  obtain ⟨hx0, hxn, y, hy, hyx⟩ := hI.snd u lu hlu x (List.mem_of_getElem? hx)
                  obtain ⟨i, hxi⟩ := Int.eq_ofNat_of_zero_le hx0
                  have hMl := hL.len
                  have hcn := hL.cnt
                  obtain ⟨q, hq⟩ := get_of_lt (l := M) (i := i) (by omega)
                  have hinE := own_intsD (own_ext hinn E1) rfl
                  obtain ⟨ub, uo, rfl, huc⟩ := ints_cells hinE (by omega)
                  refine Wp_skip ?_
                  refine thn_normal ?_
                  refine Wp_seq ?_
                  refine Wp_block ?_
                  refine Wp_seq_region ?_
                  refine WpL_val rfl rfl (by decide) (r_indexSlice (b := ub) (o := uo) (len := lu.length) (cap := vc) (i := j) (o' := uo + j) rfl rfl rfl Try.underlying22 siz3 (by omega) (by omega)) ?_
                  refine WpL_val rfl rfl (by decide) (r_load (v := (.int .i64 x)) rfl flat3 (huc j x hx)) ?_
                  refine WpL_val rfl rfl (by decide) (r_assign (v := (.int .i64 x)) rfl) ?_
                  refine WpL_nil ?_
                  refine Wp_seq_region ?_
                  refine WpL_val rfl rfl (by decide) (r_move (v := (.slice (some ⟨bl, 0, none⟩) n n)) rfl) ?_
                  refine WpL_val rfl rfl (by decide) (r_move (v := (.int .i64 x)) rfl) ?_
                  refine WpL_val rfl rfl (by decide) (r_indexSlice (b := bl) (o := 0) (len := n) (cap := n) (i := i) (o' := 0 + i) rfl rfl (by omega) Try.underlying130 siz4 (by omega) (by omega)) ?_
                  refine WpL_val rfl rfl (by decide) (r_load (v := (.bool q)) rfl flat4 (Bl.cell (by simp [hq]))) ?_
                  refine WpL_val rfl rfl (by decide) (r_not (b := q) rfl) ?_
                  refine WpL_nil ?_
                  refine Wp_cond (b := !q) rfl (fun hqf => ?_) (fun hqf => ?_)
                  · have khqf := hqf
                    replace hqf := by simpa using hqf
                    have hMi : M[i]? = some false := by rw [hq, hqf]
                    have hlvx : liveD c d ((i : Nat) : Int) := live_to (x := y) (by rw [← hxi, hyx]; exact hL.snd u hMu) hy
                    have hLk := hL.mark hMi hlvx
                    have hcs := count_set hMi
                    refine Wp_seq_region ?_
                    refine WpL_val rfl rfl (by decide) (r_move (v := (.slice (some ⟨bl, 0, none⟩) n n)) rfl) ?_
                    refine WpL_val rfl rfl (by decide) (r_move (v := (.int .i64 x)) rfl) ?_
                    refine WpL_val rfl rfl (by decide) (r_indexSlice (b := bl) (o := 0) (len := n) (cap := n) (i := i) (o' := 0 + i) rfl rfl (by omega) Try.underlying130 siz4 (by omega) (by omega)) ?_
                    refine s_store (b := bl) (o := 0 + i) (c' := ((M.set i true).map Value.bool).toArray) (v := (.bool true)) rfl rfl rfl siz4 Bl (by simp; omega) (bools_set true) ?_
                    intro w18 S18
                    replace hw := own_chg hw S18.chg fun b hb h => by subst h; have := (hw.lt _ hb).1; omega
                    replace hs3 := Nat.le_trans hs3 S18.chg.size
                    replace Bd := S18.keep (by omega) Bd
                    replace E := S18.step E (by first | exact Or.inl (by omega) | exact Or.inr rfl | exact Or.inr (by assumption) | exact Or.inr (by simp) | exact Or.inr (by omega) | exact Or.inr (by dsimp only; omega))
                    replace E1 := S18.step E1 (Or.inl (by omega))
                    replace Bl := S18.blk
                    refine WpL_nil ?_
                    refine Wp_region ?_
                    refine WpL_val rfl rfl (by decide) (r_move (v := (.slice ka kn kc)) rfl) ?_
                    refine WpL_val rfl rfl (by decide) (r_move (v := (.int .i64 x)) rfl) ?_
                    refine s_buildSlice (ps := [(0, (.int .i64 x))]) (c := #[(.int .i64 x)]) (by decide) rfl Try.underlying22 siz3 zer3 (by decide) (by decide) (by kernel_rfl) ?_
                    intro b19 w19 N19
                    have F19 := N19.ge E
                    have F19_E1 := N19.ge E1
                    have O19_bd := N19.lt Bd
                    have O19_bl := N19.lt Bl
                    replace Bd := N19.keep Bd
                    replace Bl := N19.keep Bl
                    replace hw := own_ext hw N19.ext
                    replace hs3 := Nat.le_trans hs3 N19.ext.size
                    replace E := E.ext N19.ext
                    have B19 := N19.blk
                    replace E1 := E1.ext N19.ext
                    refine s_append (base := n3) (n := kn) (m := 1) (xs := (work.map (Value.int .i64))) (news := [(.int .i64 x)]) (size := 1) (bytes := 8) (v := (.slice ka kn kc)) (by decide) Try.underlying22 siz3 byt3 zer3 rfl (by decide) rfl hw rfl (rfl) (B19.cells rfl) (by simp [Value.oneCell']) (by unfold maxLen; omega) (by omega) (hs3) ?_
                    intro v7 w59 Ov7 Cv7 Dv7
                    replace Bd := Cv7.keep (fun h => by have := (hw.lt _ h).1; omega) Bd
                    replace Bl := Cv7.keep (fun h => by have := (hw.lt _ h).1; omega) Bl
                    replace E := E.step Cv7 (fun x hx h => absurd (hw.lt x h).1 (by omega))
                    replace E1 := E1.step Cv7 (fun x hx h => absurd (hw.lt x h).1 (by omega))
                    obtain ⟨ka2, kc2, rfl⟩ := own_form Ov7
                    refine WpL_val rfl rfl (by decide) (r_assign (v := (.slice ka2 (kn + 1) kc2)) rfl) ?_
                    refine WpL_nil ?_
                    refine inB_normal ?_
                    refine thn_normal ?_
                    refine Wp_region ?_
                    refine WpL_val rfl rfl (by decide) (r_add (k := .i64) (a := ((j : Nat) : Int)) (b := 1) (c := ((j : Nat) : Int) + 1) rfl rfl (wI64 (by omega))) ?_
                    refine WpL_val rfl rfl (by decide) (r_move (v := (.int .i64 (((j : Nat) : Int) + 1))) rfl) ?_
                    refine WpL_nil ?_
                    refine thn_normal ?_
                    exact ⟨lu.length - (j + 1), by omega, j + 1, M.set i true, work ++ [((i : Nat) : Int)], ka2, kc2, kn + 1, Fits.out ⟨rfl, rfl, rfl, rfl, rfl, rfl, trivial⟩, E, E1, Bd, Bl, (by omega), hLk, hQ.mark (by rw [hx, hxi]) hMi, set_true hMu, (by simp; omega), (by rw [List.map_append, ← hxi]; exact Ov7), Nat.le_trans hs3 Cv7.size, (by simp; omega), rfl⟩
                  · have khqf := hqf
                    replace hqf := by simpa using hqf
                    refine Wp_skip ?_
                    refine inB_normal ?_
                    refine thn_normal ?_
                    refine Wp_region ?_
                    refine WpL_val rfl rfl (by decide) (r_add (k := .i64) (a := ((j : Nat) : Int)) (b := 1) (c := ((j : Nat) : Int) + 1) rfl rfl (wI64 (by omega))) ?_
                    refine WpL_val rfl rfl (by decide) (r_move (v := (.int .i64 (((j : Nat) : Int) + 1))) rfl) ?_
                    refine WpL_nil ?_
                    refine thn_normal ?_
                    exact ⟨lu.length - (j + 1), by omega, j + 1, M, work, ka, kc, kn, Fits.out ⟨rfl, rfl, rfl, rfl, rfl, rfl, trivial⟩, E, E1, Bd, Bl, (by omega), hL, hQ.seen hx (by rw [hxi, Int.toNat_natCast, hq, hqf]), hMu, hkn, hw, hs3, hZ, rfl⟩
                · have khlt6 := hlt6
                  replace hlt6 := of_decide_eq_false hlt6
                  refine Wp_exit ?_
                  refine thn_exit ?_
                  refine thn_exit ?_
                  refine inB_here ?_
                  refine inB_normal ?_
                  refine thn_normal ?_
                  exact ⟨2 * M.countP (fun b => !b) + work.length, by omega, M, work, ka, kc, kn, Fits.out ⟨rfl, rfl, rfl, trivial⟩, E, E1, Bd, Bl, hL, hQ.done hlu (by omega), hkn, hw, hs3, rfl⟩
            · have khlt5 := hlt5
              replace hlt5 := of_decide_eq_false hlt5
              have hw0 : work = [] := List.eq_nil_of_length_eq_zero (by omega)
              rw [hw0] at hL hC
              refine Wp_exit ?_
              refine thn_exit ?_
              refine thn_exit ?_
              refine inB_here ?_
              refine thn_normal ?_
              refine Wp_seq_region ?_
              refine WpL_val rfl rfl (by decide) (r_move (v := (.slice (some ⟨bl, 0, none⟩) n n)) rfl) ?_
              refine WpL_val rfl rfl (by decide) (r_assign (v := (.slice (some ⟨bl, 0, none⟩) n n)) rfl) ?_
              refine WpL_nil ?_
              refine Wp_ret ?_
              refine fin_tmp Try.results95 (v := (.slice (some ⟨bl, 0, none⟩) n n)) rfl ?_
              exact ⟨⟨M, bl, live_final ok hI hL hC, rfl, by omega, Bl⟩, E⟩
end Go.Proofs
