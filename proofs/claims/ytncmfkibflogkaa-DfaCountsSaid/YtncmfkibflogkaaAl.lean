/- dfa.Canon, walked. -/
import Derived.Test.YtncmfkibflogkaaAi
import Derived.Test.YtncmfkibflogkaaAj
import Derived.Test.YtncmfkibflogkaaAk
namespace Go.Proofs
open Go Go.Eng Go.Sort
set_option maxRecDepth 100000

abbrev TDf : Nat := 25
theorem ints_at_blk {w : World} {b : Nat} {l : List Int} {T : Nat} (h : Blk w b (l.map (Value.int .i64)).toArray T) {i : Nat} {x : Int} (hx : l[i]? = some x) : w.cell? ⟨b, 0 + i, none⟩ = some (.int .i64 x) := h.cell (by simp [hx])
theorem ptD_cell {p : List Int} {t : Nat} {n : Nat} (hl : p.length = n) (ht : t < n) : p[t]? = some (ptD p ((t : Nat) : Int)) := by
  have h1 : p[t]? = some (p[t]'(by omega)) := List.getElem?_eq_getElem _
  rw [h1, ptD_get h1]
theorem dead_dfa {w : World} {be bh bg c : Nat} {T T' : Nat} (he : Blk w be #[.int .i64 (-1)] T) (hh : Blk w bh #[.slice (some ⟨bg, 0, none⟩) c c] T') (hg : Blk w bg ((List.replicate c (-1 : Int)).map (Value.int .i64)).toArray TDI) (hc : c ≤ 60000) : DfaAt w ⟨0, [-1], [List.replicate c (-1)]⟩ [.int .i64 0, .slice (some ⟨be, 0, none⟩) 1 1, .slice (some ⟨bh, 0, none⟩) 1 1] := by
  refine ⟨_, 1, _, 1, rfl, ints_of_blk [-1] he (by simp) (by simp), [.slice (some ⟨bg, 0, none⟩) c c], ⟨some ⟨bh, 0, none⟩, 1, rfl, show (1 : Nat) ≤ 9223372036854775807 by decide, Nat.le_refl 1, .inr ⟨bh, 0, rfl, ?_⟩⟩, rfl, ?_⟩
  · intro i r hr j u hu
    rcases i with _ | i <;> simp at hr
    subst hr
    cases j with
    | zero => simp at hu; subst hu; exact hh.cell rfl
    | succ j => simp at hu
  · intro i u l hu hl
    rcases i with _ | i <;> simp at hu hl
    subst hu; subst hl
    exact blk_ints hg (by simp)
theorem out_push {E E' N N' : Value} {vs : List Value} {b bq n4 c : Nat} (h : ¬ OutB E N vs b ∧ b ≠ bq) (hb : b < n4) (DN : ∀ k, N'.ownBlock = some k → N.ownBlock = some k ∨ n4 ≤ k) (DE : ∀ k, E'.ownBlock = some k → E.ownBlock = some k ∨ n4 ≤ k) (ho : OutB E' N' (vs ++ [.slice (some ⟨bq, 0, none⟩) c c]) b) : False := by
  rcases ho with h1 | h1 | ⟨i, v, h1, h2⟩
  · rcases DE b h1 with h3 | h3
    · exact h.1 (.inl h3)
    · omega
  · rcases DN b h1 with h3 | h3
    · exact h.1 (.inr (.inl h3))
    · omega
  · rcases snoc_get h1 with h3 | ⟨_, h3⟩
    · exact h.1 (.inr (.inr ⟨i, v, h3, h2⟩))
    · subst h3
      cases h2
      exact h.2 rfl
theorem take_snoc' {α : Type} {l : List α} {k : Nat} {x : α} (h : l[k]? = some x) : l.take (k + 1) = l.take k ++ [x] := by rw [List.take_add_one, h]; rfl
theorem CanP.st_le {n c : Nat} {d : Dfa} {p : List Int} {rows : List (List Int)} {row st : List Int} (h : CanP n c d p rows row st) : st.length ≤ n := by
  have hd : (st.map Int.toNat).Nodup := by
    rw [List.nodup_iff_pairwise_ne, List.pairwise_iff_getElem]
    intro i j hi hj hij he
    simp only [List.length_map] at hi hj
    simp only [List.getElem_map] at he
    have a := List.getElem?_eq_getElem hi
    have b := List.getElem?_eq_getElem hj
    have h1 := h.sl _ (List.mem_of_getElem? a)
    have h2 := h.sl _ (List.mem_of_getElem? b)
    have e : st[i] = st[j] := by omega
    have := h.inj i j _ _ a b (by rw [e])
    omega
  have := nodup_leN (m := List.range n) hd fun x hx => by
    obtain ⟨s, hs, rfl⟩ := List.mem_map.1 hx
    have := h.sl s hs
    exact List.mem_range.2 (by omega)
  simpa using this
/-- An automaton in blocks that are not below m. -/
def DfaNew (m : Nat) (w : World) (d : Dfa) (vs : List Value) : Prop := ∀ (M : Nat → Prop) w', Chg M w w' → (∀ b, M b → b < m) → DfaAt w' d vs
theorem DfaNew.at' {m : Nat} {w : World} {d : Dfa} {vs : List Value} (h : DfaNew m w d vs) : DfaAt w d vs := h none1 w (Chg.refl _ _) fun _ f => f.elim
theorem DfaNew.chg {M : Nat → Prop} {m : Nat} {w w' : World} {d : Dfa} {vs : List Value} (h : DfaNew m w d vs) (c : Chg M w w') (hM : ∀ b, M b → b < m) : DfaNew m w' d vs := fun M2 w2 c2 h2 =>
  h (fun b => M b ∨ M2 b) w2 (Chg.trans (c.mono fun b _ hb => .inl hb) (c2.mono fun b _ hb => .inr hb)) fun b hb => hb.elim (hM b) (h2 b)
theorem DfaNew.low {m m' : Nat} {w : World} {d : Dfa} {vs : List Value} (h : DfaNew m w d vs) (hm : m' ≤ m) : DfaNew m' w d vs := fun M w' c hM => h M w' c fun b hb => by have := hM b hb; omega
set_option maxHeartbeats 8000000 in
theorem canon_c (w0 : World) (n c : Nat) (d : Dfa) (dv : List Value) (ok : OkD n c d) (h : DfaAt w0 d dv) (hn : n ≤ 20000 ∧ 1 ≤ c ∧ c ≤ 16) (hac : ∀ x ∈ d.accept, x < 2147483648) :
    Ret Try.prog 56 #[.agg dv.toArray] w0 fun r w => (∃ C cv, CanOf c (beh d d.start) C ∧ C.next.length ≤ n ∧ (∀ x ∈ C.accept, x < 2147483648) ∧ r = .agg cv.toArray ∧ DfaNew w0.heap.size w C cv) ∧ Ext w0 w := by
  obtain ⟨dv0, hdv0⟩ : ∃ x, x = dv := ⟨_, rfl⟩
  have hdfa := h
  rw [← hdv0] at hdfa
  obtain ⟨aa, ac, na, nc, rfl, hacc, hnxt⟩ := h
  have hnl := ok.nl
  have hal := ok.al
  have hst := ok.st
  rw [hal, hnl] at hdv0 ⊢
  rw [hal] at hacc
  rw [hnl] at hnxt
  have hdw : ∀ w, Ext w0 w → DfaAt w d [.int .i64 d.start, .slice aa n ac, .slice na n nc] := fun w e => by rw [hdv0] at hdfa; exact hdfa.ext e
  obtain ⟨nb, no, rfl, hnx⟩ := intss_cells (n := n) hnxt (by omega)
  obtain ⟨ab, ao, rfl, hax⟩ := ints_cells (n := n) hacc (by omega)
  obtain ⟨s0, hs0⟩ := Int.eq_ofNat_of_zero_le hst.1
  have habl : ab < w0.heap.size := World.block_lt_of_cell? w0 _ (hax s0 _ (acc_at ok (show s0 < n by omega)))
  have hrowc : ∀ (s : Nat), s < n → ∃ row ra rc, d.next[s]? = some row ∧ row.length = c ∧ w0.cell? ⟨nb, no + s, none⟩ = some (.slice ra c rc) ∧ IntsAt w0 (.slice ra c rc) row := fun s hs => by
    obtain ⟨row, hrow⟩ := get_of_lt (l := d.next) (i := s) (by omega)
    have hrl := (ok.row row (List.mem_of_getElem? hrow)).1
    obtain ⟨ra, rc, h1, h2⟩ := hnx s row hrow
    rw [hrl] at h1 h2
    exact ⟨row, ra, rc, hrow, hrl, h1, h2⟩
  obtain ⟨row0, ra0, rc0, hrow0, hrl0, hcell0, hri0⟩ := hrowc 0 (by omega)
  refine Ret_of Try.func56 rfl Try.ntmps56 (Nat.le_of_ble_eq_true rfl) ?_
  have E : Chg none1 w0 w0 := Chg.refl _ _
  refine Wp_seq_region ?_
  refine s_box (v := (.agg #[(.int .i64 d.start), (.slice (some ⟨ab, ao, none⟩) n ac), (.slice (some ⟨nb, no, none⟩) n nc)])) (c := #[(.int .i64 d.start), (.slice (some ⟨ab, ao, none⟩) n ac), (.slice (some ⟨nb, no, none⟩) n nc)]) (by decide) rfl rfl ?_
  intro bd wd Nd
  have Fd := Nd.ge E
  replace E := E.ext Nd.ext
  have Bd := Nd.blk
  refine s_alloc (c := #[(.int .i64 0), (.slice none 0 0), (.slice none 0 0)]) (by decide) zer25 rfl ?_
  intro bo wo No
  have Fo := No.ge E
  have Oo_bd := No.lt Bd
  replace Bd := No.keep Bd
  replace E := E.ext No.ext
  have Bo := No.blk
  refine WpL_nil ?_
  refine Wp_seq_region ?_
  refine WpL_val rfl rfl (by decide) (r_loadAgg (vs := [(.int .i64 d.start), (.slice (some ⟨ab, ao, none⟩) n ac), (.slice (some ⟨nb, no, none⟩) n nc)]) rfl agg25 siz25 rfl (Bd.cells rfl)) ?_
  have hbol := Bo.lt
  have hbdl := Bd.lt
  refine WpL_enter rfl rfl (by decide) (r_callF (vs := [(.agg #[(.int .i64 d.start), (.slice (some ⟨ab, ao, none⟩) n ac), (.slice (some ⟨nb, no, none⟩) n nc)])]) Try.func71 nm71 bd71 rfl) (parts_c _ n c d _ ok (hdw _ E) (by omega) hac) ?_
  rintro _ w9 ⟨⟨p, b1, hPt, rfl, hb1, hPB⟩, X9⟩
  replace Bd := X9.keep Bd
  replace Bo := X9.keep Bo
  replace E := E.ext X9
  refine WpL_val rfl rfl (by decide) (r_assign (v := (.slice (some ⟨b1, 0, none⟩) n n)) rfl) ?_
  refine WpL_nil ?_
  refine Wp_seq_region ?_
  refine WpL_val rfl rfl (by decide) (r_fieldAddr (b := bd) (o := 0) (o' := 2) rfl Try.underlying25 rfl siz23 rfl) ?_
  refine WpL_val rfl rfl (by decide) (r_load (v := (.slice (some ⟨nb, no, none⟩) n nc)) rfl flat23 (Bd.cell rfl)) ?_
  refine WpL_val rfl rfl (by decide) (r_indexSlice (b := nb) (o := no) (len := n) (cap := nc) (i := 0) (o' := no + 0) rfl rfl rfl Try.underlying23 siz22 (by omega) (by omega)) ?_
  refine WpL_val rfl rfl (by decide) (r_load (v := (.slice ra0 c rc0)) rfl flat22 (E.cell (fun f => f) (by rw [Nat.add_zero] at *; exact hcell0))) ?_
  have hb1l := hPB.lt
  have hps := ptD_cell hPt.len (show s0 < n by omega)
  refine WpL_val rfl rfl (by decide) (r_lenSlice (ad := ra0) (n := c) (cap := rc0) Try.underlying22 rfl) ?_
  refine WpL_val rfl rfl (by decide) (r_assign (v := (.int .i64 ((c : Nat) : Int))) rfl) ?_
  refine WpL_nil ?_
  refine Wp_seq ?_
  refine Wp_seq_region ?_
  refine WpL_val rfl rfl (by decide) (r_move (v := (.slice (some ⟨b1, 0, none⟩) n n)) rfl) ?_
  refine WpL_val rfl rfl (by decide) (r_fieldAddr (b := bd) (o := 0) (o' := 0) rfl Try.underlying25 rfl siz3 rfl) ?_
  refine WpL_val rfl rfl (by decide) (r_load (v := (.int .i64 d.start)) rfl flat3 (Bd.cell rfl)) ?_
  refine WpL_val rfl rfl (by decide) (r_indexSlice (b := b1) (o := 0) (len := n) (cap := n) (i := s0) (o' := 0 + s0) rfl rfl (by omega) Try.underlying22 siz3 (by omega) (by omega)) ?_
  refine WpL_val rfl rfl (by decide) (r_load (v := (.int .i64 (ptD p d.start))) rfl flat3 (by rw [hs0]; exact ints_at_blk hPB hps)) ?_
  refine WpL_val rfl rfl (by decide) (r_lss (k := .i64) (a := ptD p d.start) (b := 0) rfl rfl) ?_
  refine WpL_nil ?_
  refine Wp_cond (b := decide ((ptD p d.start : Int) < 0)) rfl (fun hdead => ?_) (fun hdead => ?_)
  · have khdead := hdead
    replace hdead := of_decide_eq_true hdead
    have hnl0 : ¬ liveD c d d.start := fun hl => by have := (hPt.live d.start ⟨by omega, hst.2⟩).1.2 hl; omega
    refine Wp_seq_region ?_
    refine s_buildSlice (ps := [(0, (.int .i64 (-1)))]) (c := #[(.int .i64 (-1))]) (by decide) rfl Try.underlying22 siz3 zer3 (by decide) (by decide) (by kernel_rfl) ?_
    intro be we Ne
    have Fe := Ne.ge E
    have Oe_bd := Ne.lt Bd
    have Oe_bo := Ne.lt Bo
    have Oe_b1 := Ne.lt hPB
    replace Bd := Ne.keep Bd
    replace Bo := Ne.keep Bo
    replace hPB := Ne.keep hPB
    replace E := E.ext Ne.ext
    have Be := Ne.blk
    refine s_buildSlice (ps := [(0, (.int .i64 (-1)))]) (c := #[(.int .i64 (-1))]) (by decide) rfl Try.underlying22 siz3 zer3 (by decide) (by decide) (by kernel_rfl) ?_
    intro bf wf Nf
    have Ff := Nf.ge E
    have Of_bd := Nf.lt Bd
    have Of_bo := Nf.lt Bo
    have Of_b1 := Nf.lt hPB
    have Of_be := Nf.lt Be
    replace Bd := Nf.keep Bd
    replace Bo := Nf.keep Bo
    replace hPB := Nf.keep hPB
    replace Be := Nf.keep Be
    replace E := E.ext Nf.ext
    have Bf := Nf.blk
    refine WpL_val rfl rfl (by decide) (r_move (v := (.int .i64 ((c : Nat) : Int))) rfl) ?_
    have hbfl := Bf.lt
    refine WpL_enter rfl rfl (by decide) (r_callF (vs := [(.slice (some ⟨bf, 0, none⟩) 1 1), (.int .i64 ((c : Nat) : Int))]) Try.func55 nm55 bd55 rfl) (repeat_c _ bf 1 c (-1) _ Bf hn.2.1 (by omega)) ?_
    rintro _ w19 ⟨⟨g, rfl, hg, hG⟩, X19⟩
    replace Bd := X19.keep Bd
    replace Bo := X19.keep Bo
    replace hPB := X19.keep hPB
    replace Be := X19.keep Be
    replace Bf := X19.keep Bf
    replace E := E.ext X19
    refine s_buildSlice (ps := [(0, (.slice (some ⟨g, 0, none⟩) c c))]) (c := #[(.slice (some ⟨g, 0, none⟩) c c)]) (by decide) rfl Try.underlying23 siz22 zer22 (by decide) (by decide) (by kernel_rfl) ?_
    intro bh wh Nh
    have Fh := Nh.ge E
    have Oh_bd := Nh.lt Bd
    have Oh_bo := Nh.lt Bo
    have Oh_b1 := Nh.lt hPB
    have Oh_be := Nh.lt Be
    have Oh_bf := Nh.lt Bf
    have Oh_g := Nh.lt hG
    replace Bd := Nh.keep Bd
    replace Bo := Nh.keep Bo
    replace hPB := Nh.keep hPB
    replace Be := Nh.keep Be
    replace Bf := Nh.keep Bf
    replace hG := Nh.keep hG
    replace E := E.ext Nh.ext
    have Bh := Nh.blk
    refine WpL_val rfl rfl (by decide) (r_build (ps := [(1, (.slice (some ⟨be, 0, none⟩) 1 1)), (2, (.slice (some ⟨bh, 0, none⟩) 1 1))]) (v := (.agg #[(.int .i64 0), (.slice (some ⟨be, 0, none⟩) 1 1), (.slice (some ⟨bh, 0, none⟩) 1 1)])) rfl (by kernel_rfl)) ?_
    refine s_storeAgg (b := bo) (o := 0) (c' := #[(.int .i64 0), (.slice (some ⟨be, 0, none⟩) 1 1), (.slice (some ⟨bh, 0, none⟩) 1 1)]) rfl rfl (by simp [Value.oneCell']) siz25 rfl Bo (by simp) rfl ?_
    intro w2 S2
    replace Bd := S2.keep (by omega) Bd
    replace hPB := S2.keep (by omega) hPB
    replace Be := S2.keep (by omega) Be
    replace Bf := S2.keep (by omega) Bf
    replace hG := S2.keep (by omega) hG
    replace Bh := S2.keep (by omega) Bh
    replace E := S2.step E (by first | exact Or.inl (by omega) | exact Or.inr rfl | exact Or.inr (by assumption) | exact Or.inr (by simp) | exact Or.inr (by omega) | exact Or.inr (by dsimp only; omega))
    replace Bo := S2.blk
    refine WpL_nil ?_
    refine Wp_ret ?_
    refine thn_ret ?_
    refine fin_agg Try.results56 (vs := [(.int .i64 0), (.slice (some ⟨be, 0, none⟩) 1 1), (.slice (some ⟨bh, 0, none⟩) 1 1)]) (b := bo) rfl agg25 siz25 rfl (Bo.cells rfl) ?_
    exact ⟨⟨⟨0, [-1], [List.replicate c (-1)]⟩, _, canOf_dead ok hnl0, by show 1 ≤ n; omega, fun x hx => by rw [List.mem_singleton] at hx; rw [hx]; decide, rfl, fun M w' ch hM => dead_dfa (ch.keep (fun h => by have := hM _ h; omega) Be) (ch.keep (fun h => by have := hM _ h; omega) Bh) (ch.keep (fun h => by have := hM _ h; omega) hG) (by omega)⟩, E⟩
  · have khdead := hdead
    replace hdead := of_decide_eq_false hdead
    have hlive0 : 0 ≤ ptD p d.start := by omega
    refine Wp_skip ?_
    refine thn_normal ?_
    refine Wp_seq_region ?_
    refine s_alloc (c := #[(.int .i64 0), (.slice none 0 0), (.slice none 0 0)]) (by decide) zer25 rfl ?_
    intro br wr Nr
    have Fr := Nr.ge E
    have Or_bd := Nr.lt Bd
    have Or_bo := Nr.lt Bo
    have Or_b1 := Nr.lt hPB
    replace Bd := Nr.keep Bd
    replace Bo := Nr.keep Bo
    replace hPB := Nr.keep hPB
    replace E := E.ext Nr.ext
    have Br := Nr.blk
    refine WpL_nil ?_
    refine Wp_seq_region ?_
    refine s_makeMap kInt kInt (by decide) ?_
    intro bm wm Nm
    have Fm := Nm.ge E
    have Om_bd := Nm.lt Bd
    have Om_bo := Nm.lt Bo
    have Om_b1 := Nm.lt hPB
    have Om_br := Nm.lt Br
    replace Bd := Nm.keep Bd
    replace Bo := Nm.keep Bo
    replace hPB := Nm.keep hPB
    replace Br := Nm.keep Br
    replace E := E.ext Nm.ext
    intro Mm
    refine WpL_val rfl rfl (by decide) (r_move (v := (.slice (some ⟨b1, 0, none⟩) n n)) rfl) ?_
    refine WpL_val rfl rfl (by decide) (r_fieldAddr (b := bd) (o := 0) (o' := 0) rfl Try.underlying25 rfl siz3 rfl) ?_
    refine WpL_val rfl rfl (by decide) (r_load (v := (.int .i64 d.start)) rfl flat3 (Bd.cell rfl)) ?_
    refine WpL_val rfl rfl (by decide) (r_indexSlice (b := b1) (o := 0) (len := n) (cap := n) (i := s0) (o' := 0 + s0) rfl rfl (by omega) Try.underlying22 siz3 (by omega) (by omega)) ?_
    refine WpL_val rfl rfl (by decide) (r_load (v := (.int .i64 (ptD p d.start))) rfl flat3 (by rw [hs0]; exact ints_at_blk hPB hps)) ?_
    refine s_insert (k := (ptD p d.start)) (v := 0) Try.underlying101 (keyInt Try.underlying3) Mm rfl rfl rfl ?_
    intro w3 S3 H3
    replace Bd := S3.keep (by omega) Bd
    replace Bo := S3.keep (by omega) Bo
    replace hPB := S3.keep (by omega) hPB
    replace Br := S3.keep (by omega) Br
    replace E := S3.step E (by first | exact Or.inl (by omega) | exact Or.inr rfl | exact Or.inr (by assumption) | exact Or.inr (by simp) | exact Or.inr (by omega) | exact Or.inr (by dsimp only; omega))
    replace Mm := H3
    refine WpL_val rfl rfl (by decide) (r_move (v := (.map (some bm))) rfl) ?_
    refine WpL_val rfl rfl (by decide) (r_assign (v := (.map (some bm))) rfl) ?_
    refine WpL_nil ?_
    refine Wp_seq_region ?_
    refine WpL_val rfl rfl (by decide) (r_fieldAddr (b := bd) (o := 0) (o' := 0) rfl Try.underlying25 rfl siz3 rfl) ?_
    refine WpL_val rfl rfl (by decide) (r_load (v := (.int .i64 d.start)) rfl flat3 (Bd.cell rfl)) ?_
    refine s_buildSlice (ps := [(0, (.int .i64 d.start))]) (c := #[(.int .i64 d.start)]) (by decide) rfl Try.underlying22 siz3 zer3 (by decide) (by decide) (by kernel_rfl) ?_
    intro bs ws Ns
    have Fs := Ns.ge E
    have Os_bd := Ns.lt Bd
    have Os_bo := Ns.lt Bo
    have Os_b1 := Ns.lt hPB
    have Os_br := Ns.lt Br
    have Os_bm := Ns.ltM Mm
    replace Bd := Ns.keep Bd
    replace Bo := Ns.keep Bo
    replace hPB := Ns.keep hPB
    replace Br := Ns.keep Br
    replace Mm := Ns.keepM Mm
    replace E := E.ext Ns.ext
    have Bs := Ns.blk
    refine WpL_val rfl rfl (by decide) (r_assign (v := (.slice (some ⟨bs, 0, none⟩) 1 1)) rfl) ?_
    refine WpL_nil ?_
    refine Wp_seq ?_
    refine Wp_seq_region ?_
    refine WpL_val rfl rfl (by decide) (r_assign (v := (.int .i64 0)) rfl) ?_
    refine WpL_nil ?_
    refine Wp_block ?_
    obtain ⟨n1, hn1e⟩ : ∃ n1, n1 = bs := ⟨_, rfl⟩
    have hbsn : bs < ws.heap.size := Bs.lt
    have hS0 := own_lit1 (base := n1) Bs (by omega)
    have hC0 := CanP.start (c := c) hst hlive0
    refine Wp_loop (fun nn_ σ W4 => ∃ (i : Nat) (rows : List (List Int)) (st acc : List Int) (vs : List Value) (sa ea na2 : Option Addr) (sc2 sn ec nc2 : Nat), (∃ jj_, σ = upds jj_ [(1, (.pointer (some ⟨bd, 0, none⟩))), (2, (.pointer (some ⟨bo, 0, none⟩))), (3, (.slice (some ⟨b1, 0, none⟩) n n)), (4, (.int .i64 ((c : Nat) : Int))), (5, (.pointer (some ⟨br, 0, none⟩))), (6, (.map (some bm))), (8, (.int .i64 ((i : Nat) : Int))), (7, (.slice sa sn sc2))]) ∧ Chg none1 w0 W4 ∧ Blk W4 bd #[(.int .i64 d.start), (.slice (some ⟨ab, ao, none⟩) n ac), (.slice (some ⟨nb, no, none⟩) n nc)] 25 ∧ Blk W4 bo #[(.int .i64 0), (.slice none 0 0), (.slice none 0 0)] 25 ∧ Blk W4 b1 ((p.map (Value.int .i64)).toArray) 3 ∧ Blk W4 br (#[Value.int .i64 0, .slice ea i ec, .slice na2 i nc2]) 25 ∧ MapAt W4 bm kInt kInt (keysC (st.map (ptD p)) 0) ∧ (CanP n c d p rows [] st) ∧ (rows.length = i) ∧ (sn = st.length) ∧ (i ≤ sn) ∧ (acc = (st.take i).map (atD d)) ∧ (W4.ownsRow n1 TDI 1 (.slice sa sn sc2) sn (st.map (Value.int .i64))) ∧ (OutSt W4 n1 (.slice ea i ec) (.slice na2 i nc2) vs acc rows) ∧ (∀ b, (Value.slice sa sn sc2).ownBlock = some b → ¬ OutB (.slice ea i ec) (.slice na2 i nc2) vs b) ∧ (n1 ≤ W4.heap.size) ∧ nn_ = n - i) (n := n - 0) ?_ ?_
    · exact ⟨0, [], [d.start], [], [], some ⟨bs, 0, none⟩, none, none, 1, 1, 0, 0, Fits.out ⟨rfl, rfl, rfl, rfl, rfl, rfl, rfl, rfl, trivial⟩, E, Bd, Bo, hPB, Br, Mm, hC0, rfl, rfl, (by omega), rfl, hS0, OutSt.start _ _, (fun b _ h => by rcases h with h | h | ⟨i, v, h, _⟩; cases h; cases h; simp at h), (by omega), rfl⟩
    · clear E Bd Bo hPB Br Mm
      rintro _ _ W4 ⟨i, rows, st, acc, vs, sa, ea, na2, sc2, sn, ec, nc2, ⟨j4, rfl⟩, E, Bd, Bo, hPB, Br, Mm, hC, hir, hsn, hisn, hacc2, hS, hO, hap, hsz, rfl⟩
      refine Wp_seq ?_
      refine Wp_seq_region ?_
      refine WpL_val rfl rfl (by decide) (r_move (v := (.int .i64 ((i : Nat) : Int))) rfl) ?_
      refine WpL_val rfl rfl (by decide) (r_move (v := (.slice sa sn sc2)) rfl) ?_
      refine WpL_val rfl rfl (by decide) (r_lenSlice (ad := sa) (n := sn) (cap := sc2) Try.underlying22 rfl) ?_
      refine WpL_val rfl rfl (by decide) (r_lss (k := .i64) (a := ((i : Nat) : Int)) (b := ((sn : Nat) : Int)) rfl rfl) ?_
      refine WpL_nil ?_
      refine Wp_cond (b := decide ((((i : Nat) : Int) : Int) < ((sn : Nat) : Int))) rfl (fun hlt => ?_) (fun hlt => ?_)
      · have khlt := hlt
        replace hlt := of_decide_eq_true hlt
        obtain ⟨s, hsi⟩ := get_of_lt (l := st) (i := i) (by omega)
        obtain ⟨hs0', hsn', hsp'⟩ := hC.sl s (List.mem_of_getElem? hsi)
        obtain ⟨sN, hsN⟩ := Int.eq_ofNat_of_zero_le hs0'
        obtain ⟨row, ra, rc, hrow, hrl, hcell, hri⟩ := hrowc sN (by omega)
        have hle := hC.st_le
        have hrch : ((rows.length : Nat) : Int) ≤ mxL rows.flatten := by have := hC.mx; rw [List.append_nil] at this; omega
        obtain ⟨sb, rfl, hsb1, hsc⟩ := own_cells hS (by omega)
        obtain ⟨z0, hz0⟩ : ∃ z0, z0 = (W4).heap.size := ⟨_, rfl⟩
        have hnz : n1 ≤ z0 := by omega
        have hOz : ∀ b, OutB (.slice ea i ec) (.slice na2 i nc2) vs b → b < z0 := fun b hb => by have := (hO.lt hb).2; omega
        have hSz : ∀ b, (Value.slice (some ⟨sb, 0, none⟩) sn sc2).ownBlock = some b → b < z0 := fun b hb => by have := (hS.lt b hb).2; omega
        refine Wp_skip ?_
        refine thn_normal ?_
        refine Wp_seq ?_
        refine Wp_block ?_
        refine Wp_seq_region ?_
        refine WpL_val rfl rfl (by decide) (r_move (v := (.int .i64 ((c : Nat) : Int))) rfl) ?_
        refine s_make (n := c) (z := (.int .i64 0)) (bytes := 8) (by decide) Try.underlying22 siz3 byt3 zer3 rfl rfl rfl (by omega) (by omega) ?_
        intro bq wq Nq
        have Fq := Nq.ge E
        have Oq_bd := Nq.lt Bd
        have Oq_bo := Nq.lt Bo
        have Oq_b1 := Nq.lt hPB
        have Oq_br := Nq.lt Br
        have Oq_bm := Nq.ltM Mm
        replace Bd := Nq.keep Bd
        replace Bo := Nq.keep Bo
        replace hPB := Nq.keep hPB
        replace Br := Nq.keep Br
        replace Mm := Nq.keepM Mm
        replace hS := own_ext hS Nq.ext
        replace hO := hO.ext Nq.ext
        replace hsz := Nat.le_trans hsz Nq.ext.size
        replace hsc := hsc.ext Nq.ext
        replace E := E.ext Nq.ext
        have Bq := Nq.blk
        refine WpL_val rfl rfl (by decide) (r_assign (v := (.slice (some ⟨bq, 0, none⟩) c c)) rfl) ?_
        refine WpL_nil ?_
        refine Wp_seq ?_
        refine Wp_seq ?_
        obtain ⟨Fs6, hFs6⟩ : ∃ Fs : List Fact, Fs = [.eq (.pointer (some ⟨bd, 2, none⟩)), .eq (.slice (some ⟨nb, no, none⟩) n nc), .eq (.slice (some ⟨sb, 0, none⟩) sn sc2), .eq (.int .i64 ((i : Nat) : Int)), .eq (.pointer (some ⟨sb, 0 + i, none⟩)), .eq (.int .i64 s), .eq (.pointer (some ⟨nb, no + sN, none⟩)), .eq (.slice ra c rc), .eq (.int .i64 ((c : Nat) : Int)), .eq (.int .i64 0)] := ⟨_, rfl⟩
        refine Wp_dag [51, 52, 53, 54, 55, 56, 57, 58, 59, 60] [[], [0], [], [], [2, 3], [4], [1, 5], [6], [7], []] Fs6 hFs6 mixed (by kernel_rfl) (by kernel_rfl) ?_ ?_
        · intro wd X0
          refine DagSteps.cons (fun s' w' X U H => Or.inl ⟨?_, ?_⟩) ?_
          · exact Guarded_none rfl
          · exact Does_val (r_fieldAddr (b := bd) (o := 0) (o' := 2) (U 1 rfl) Try.underlying25 rfl siz23 rfl) (Ext.refl _) rfl
          refine DagSteps.cons (fun s' w' X U H => Or.inl ⟨?_, ?_⟩) ?_
          · exact Guarded_none rfl
          · have e51 : s' 51 = (.pointer (some ⟨bd, 2, none⟩)) := H 0 rfl 51 (.eq (.pointer (some ⟨bd, 2, none⟩))) rfl (by rw [hFs6]; rfl)
            exact Does_val (r_load (v := (.slice (some ⟨nb, no, none⟩) n nc)) e51 flat23 (((X0.trans X).keep Bd).cell rfl)) (Ext.refl _) rfl
          refine DagSteps.cons (fun s' w' X U H => Or.inl ⟨?_, ?_⟩) ?_
          · exact Guarded_none rfl
          · exact Does_val (r_move (v := (.slice (some ⟨sb, 0, none⟩) sn sc2)) (U 7 rfl)) (Ext.refl _) rfl
          refine DagSteps.cons (fun s' w' X U H => Or.inl ⟨?_, ?_⟩) ?_
          · exact Guarded_none rfl
          · exact Does_val (r_move (v := (.int .i64 ((i : Nat) : Int))) (U 8 rfl)) (Ext.refl _) rfl
          refine DagSteps.cons (fun s' w' X U H => Or.inl ⟨?_, ?_⟩) ?_
          · exact Guarded_none rfl
          · have e53 : s' 53 = (.slice (some ⟨sb, 0, none⟩) sn sc2) := H 2 rfl 53 (.eq (.slice (some ⟨sb, 0, none⟩) sn sc2)) rfl (by rw [hFs6]; rfl)
            have e54 : s' 54 = (.int .i64 ((i : Nat) : Int)) := H 3 rfl 54 (.eq (.int .i64 ((i : Nat) : Int))) rfl (by rw [hFs6]; rfl)
            exact Does_val (r_indexSlice (b := sb) (o := 0) (len := sn) (cap := sc2) (i := i) (o' := 0 + i) e53 e54 rfl Try.underlying22 siz3 (by omega) (by omega)) (Ext.refl _) rfl
          refine DagSteps.cons (fun s' w' X U H => Or.inl ⟨?_, ?_⟩) ?_
          · exact Guarded_none rfl
          · have e55 : s' 55 = (.pointer (some ⟨sb, 0 + i, none⟩)) := H 4 rfl 55 (.eq (.pointer (some ⟨sb, 0 + i, none⟩))) rfl (by rw [hFs6]; rfl)
            exact Does_val (r_load (v := (.int .i64 s)) e55 flat3 ((X0.trans X).cell (hsc i _ (by rw [List.getElem?_map, hsi]; rfl)))) (Ext.refl _) rfl
          refine DagSteps.cons (fun s' w' X U H => Or.inl ⟨?_, ?_⟩) ?_
          · exact Guarded_none rfl
          · have e52 : s' 52 = (.slice (some ⟨nb, no, none⟩) n nc) := H 1 rfl 52 (.eq (.slice (some ⟨nb, no, none⟩) n nc)) rfl (by rw [hFs6]; rfl)
            have e56 : s' 56 = (.int .i64 s) := H 5 rfl 56 (.eq (.int .i64 s)) rfl (by rw [hFs6]; rfl)
            exact Does_val (r_indexSlice (b := nb) (o := no) (len := n) (cap := nc) (i := sN) (o' := no + sN) e52 e56 (by omega) Try.underlying23 siz22 (by omega) (by omega)) (Ext.refl _) rfl
          refine DagSteps.cons (fun s' w' X U H => Or.inl ⟨?_, ?_⟩) ?_
          · exact Guarded_none rfl
          · have e57 : s' 57 = (.pointer (some ⟨nb, no + sN, none⟩)) := H 6 rfl 57 (.eq (.pointer (some ⟨nb, no + sN, none⟩))) rfl (by rw [hFs6]; rfl)
            exact Does_val (r_load (v := (.slice ra c rc)) e57 flat22 ((Chg.ext E (X0.trans X)).cell (fun f => f) hcell)) (Ext.refl _) rfl
          refine DagSteps.cons (fun s' w' X U H => Or.inl ⟨?_, ?_⟩) ?_
          · exact Guarded_none rfl
          · have e58 : s' 58 = (.slice ra c rc) := H 7 rfl 58 (.eq (.slice ra c rc)) rfl (by rw [hFs6]; rfl)
            exact Does_val (r_lenSlice (ad := ra) (n := c) (cap := rc) Try.underlying22 e58) (Ext.refl _) rfl
          refine DagSteps.cons (fun s' w' X U H => Or.inl ⟨?_, ?_⟩) ?_
          · exact Guarded_none rfl
          · exact Does_val (r_move (v := (.int .i64 0)) rfl) (Ext.refl _) rfl
          exact DagSteps.nil
        · intro s' w6 X6 U H
          obtain ⟨j6, rfl⟩ := Fits.out (σ := s') (l := [(1, (.pointer (some ⟨bd, 0, none⟩))), (2, (.pointer (some ⟨bo, 0, none⟩))), (3, (.slice (some ⟨b1, 0, none⟩) n n)), (4, (.int .i64 ((c : Nat) : Int))), (5, (.pointer (some ⟨br, 0, none⟩))), (6, (.map (some bm))), (7, (.slice (some ⟨sb, 0, none⟩) sn sc2)), (8, (.int .i64 ((i : Nat) : Int))), (9, (.slice (some ⟨bq, 0, none⟩) c c)), (58, (.slice ra c rc)), (59, (.int .i64 ((c : Nat) : Int))), (60, (.int .i64 0))]) ⟨U 1 rfl, U 2 rfl, U 3 rfl, U 4 rfl, U 5 rfl, U 6 rfl, U 7 rfl, U 8 rfl, U 9 rfl, (show s' 58 = (.slice ra c rc) from H 7 58 (.eq (.slice ra c rc)) rfl (by rw [hFs6]; rfl)), (show s' 59 = (.int .i64 ((c : Nat) : Int)) from H 8 59 (.eq (.int .i64 ((c : Nat) : Int))) rfl (by rw [hFs6]; rfl)), (show s' 60 = (.int .i64 0) from H 9 60 (.eq (.int .i64 0)) rfl (by rw [hFs6]; rfl)), trivial⟩
          clear U H
          replace Bd := X6.keep Bd
          replace Bo := X6.keep Bo
          replace hPB := X6.keep hPB
          replace Br := X6.keep Br
          replace Mm := X6.keepM Mm
          replace Bq := X6.keep Bq
          replace hS := own_ext hS X6
          replace hO := hO.ext X6
          replace hsz := Nat.le_trans hsz X6.size
          replace hsc := hsc.ext X6
          replace E := E.ext X6
          have hqz : z0 ≤ bq := by have := Nq.eq; omega
          rw [show List.replicate c (Value.int .i64 0) = (List.replicate c (0 : Int)).map (Value.int .i64) by simp] at Bq
          refine thn_normal ?_
          refine Wp_block ?_
          refine Wp_loop (fun nn_ σ W7 => ∃ (x : Nat) (R : List Int) (st : List Int) (sa : Option Addr) (sc2 sn : Nat), (∃ jj_, σ = upds jj_ [(1, (.pointer (some ⟨bd, 0, none⟩))), (2, (.pointer (some ⟨bo, 0, none⟩))), (3, (.slice (some ⟨b1, 0, none⟩) n n)), (4, (.int .i64 ((c : Nat) : Int))), (5, (.pointer (some ⟨br, 0, none⟩))), (6, (.map (some bm))), (8, (.int .i64 ((i : Nat) : Int))), (9, (.slice (some ⟨bq, 0, none⟩) c c)), (58, (.slice ra c rc)), (59, (.int .i64 ((c : Nat) : Int))), (60, (.int .i64 ((x : Nat) : Int))), (7, (.slice sa sn sc2))]) ∧ Chg none1 w0 W7 ∧ Blk W7 bd #[(.int .i64 d.start), (.slice (some ⟨ab, ao, none⟩) n ac), (.slice (some ⟨nb, no, none⟩) n nc)] 25 ∧ Blk W7 bo #[(.int .i64 0), (.slice none 0 0), (.slice none 0 0)] 25 ∧ Blk W7 b1 ((p.map (Value.int .i64)).toArray) 3 ∧ Blk W7 br (#[Value.int .i64 0, .slice ea i ec, .slice na2 i nc2]) 25 ∧ MapAt W7 bm kInt kInt (keysC (st.map (ptD p)) 0) ∧ Blk W7 bq ((R.map (Value.int .i64)).toArray) 3 ∧ (x ≤ c) ∧ (R.length = c) ∧ (CanP n c d p rows (R.take x) st) ∧ (st[i]? = some s) ∧ (sn = st.length) ∧ ((st.take i).map (atD d) = acc) ∧ (W7.ownsRow n1 TDI 1 (.slice sa sn sc2) sn (st.map (Value.int .i64))) ∧ (OutSt W7 n1 (.slice ea i ec) (.slice na2 i nc2) vs acc rows) ∧ (∀ b, (Value.slice sa sn sc2).ownBlock = some b → ¬ OutB (.slice ea i ec) (.slice na2 i nc2) vs b ∧ b ≠ bq) ∧ (n1 ≤ W7.heap.size) ∧ nn_ = c - x) (n := c - 0) ?_ ?_
          · exact ⟨0, List.replicate c 0, st, some ⟨sb, 0, none⟩, sc2, sn, Fits.out ⟨rfl, rfl, rfl, rfl, rfl, rfl, rfl, rfl, rfl, rfl, rfl, rfl, trivial⟩, E, Bd, Bo, hPB, Br, Mm, Bq, Nat.zero_le _, (by simp), (by simpa using hC), hsi, hsn, hacc2.symm, hS, hO, (fun b hb => ⟨hap b hb, fun e => by have := hSz b hb; omega⟩), hsz, rfl⟩
          · clear E Bd Bo hPB Br Mm Bq
            rintro _ _ W7 ⟨x, R, st, sa, sc2, sn, ⟨j7, rfl⟩, E, Bd, Bo, hPB, Br, Mm, Bq, hx, hRl, hC, hsi, hsn, hta, hS, hO, hap, hsz, rfl⟩
            refine Wp_seq_region ?_
            refine WpL_val rfl rfl (by decide) (r_lss (k := .i64) (a := ((x : Nat) : Int)) (b := ((c : Nat) : Int)) rfl rfl) ?_
            refine WpL_nil ?_
            refine Wp_seq ?_
            refine Wp_cond (b := decide ((((x : Nat) : Int) : Int) < ((c : Nat) : Int))) rfl (fun hlt2 => ?_) (fun hlt2 => ?_)
            · have khlt2 := hlt2
              replace hlt2 := of_decide_eq_true hlt2
              obtain ⟨t, ht⟩ := get_of_lt (l := row) (i := x) (by omega)
              obtain ⟨rb, ro, rfl, hrc⟩ := ints_cells (n := c) hri (by omega)
              obtain ⟨htk, _, _, hxl, hxh⟩ := toD_row ok hrow ht
              rw [← hsN] at htk
              have hxl2 : (R.take x).length = x := by simp; omega
              have hsr : st[rows.length]? = some s := by rw [hir]; exact hsi
              have hts := take_set_succ (L := R) (s := x) (x := -1) (by omega)
              refine Wp_skip ?_
              refine thn_normal ?_
              refine Wp_seq ?_
              refine Wp_block ?_
              refine Wp_seq_region ?_
              refine WpL_val rfl rfl (by decide) (r_move (v := (.int .i64 ((x : Nat) : Int))) rfl) ?_
              refine WpL_val rfl rfl (by decide) (r_indexSlice (b := rb) (o := ro) (len := c) (cap := rc) (i := x) (o' := ro + x) rfl rfl rfl Try.underlying22 siz3 (by omega) (by omega)) ?_
              refine WpL_val rfl rfl (by decide) (r_load (v := (.int .i64 t)) rfl flat3 (E.cell (fun f => f) (hrc x t ht))) ?_
              refine WpL_val rfl rfl (by decide) (r_assign (v := (.int .i64 ((x : Nat) : Int))) rfl) ?_
              refine WpL_val rfl rfl (by decide) (r_assign (v := (.int .i64 t)) rfl) ?_
              refine WpL_nil ?_
              refine Wp_seq ?_
              refine Wp_seq_region ?_
              refine WpL_val rfl rfl (by decide) (r_move (v := (.slice (some ⟨bq, 0, none⟩) c c)) rfl) ?_
              refine WpL_val rfl rfl (by decide) (r_move (v := (.int .i64 ((x : Nat) : Int))) rfl) ?_
              refine WpL_val rfl rfl (by decide) (r_indexSlice (b := bq) (o := 0) (len := c) (cap := c) (i := x) (o' := 0 + x) rfl rfl rfl Try.underlying22 siz3 (by omega) (by omega)) ?_
              refine s_store (b := bq) (o := 0 + x) (c' := ((R.set x (-1)).map (Value.int .i64)).toArray) (v := (.int .i64 (-1))) rfl rfl rfl siz3 Bq (by simp; omega) (ints_setD _) ?_
              intro w9 S9
              replace hS := own_chg hS S9.chg fun b hb h => (hap b hb).2 h
              replace hO := hO.chg S9.chg fun b hb h => by have := hOz b hb; have h' : b = bq := h; omega
              replace hsz := Nat.le_trans hsz S9.chg.size
              replace Bd := S9.keep (by omega) Bd
              replace Bo := S9.keep (by omega) Bo
              replace hPB := S9.keep (by omega) hPB
              replace Br := S9.keep (by omega) Br
              replace Mm := S9.keepM (by omega) Mm
              replace E := S9.step E (by first | exact Or.inl (by omega) | exact Or.inr rfl | exact Or.inr (by assumption) | exact Or.inr (by simp) | exact Or.inr (by omega) | exact Or.inr (by dsimp only; omega))
              replace Bq := S9.blk
              refine WpL_nil ?_
              refine Wp_seq_region ?_
              refine WpL_val rfl rfl (by decide) (r_move (v := (.int .i64 t)) rfl) ?_
              refine WpL_val rfl rfl (by decide) (r_lss (k := .i64) (a := t) (b := 0) rfl rfl) ?_
              refine WpL_val rfl rfl (by decide) (r_move (v := (.bool (decide ((t : Int) < 0)))) rfl) ?_
              rcases Bool.eq_false_or_eq_true (decide ((t : Int) < 0)) with hneg | hneg
              · have khneg := hneg
                replace khneg := of_decide_eq_true khneg
                have hEd : EntP d p st s (R.take x).length (-1) := .inl ⟨rfl, by rw [hxl2, htk, ptD_neg khneg]; decide⟩
                refine WpL_guard_no (oj := _) rfl rfl (by decide) (v := .bool true) (congrArg Value.bool hneg) (Or.inl rfl) ?_
                refine WpL_guard_no (oj := _) rfl rfl (by decide) (v := .bool true) (congrArg Value.bool hneg) (Or.inl rfl) ?_
                refine WpL_guard_no (oj := _) rfl rfl (by decide) (v := .bool true) (congrArg Value.bool hneg) (Or.inl rfl) ?_
                refine WpL_guard_no (oj := _) rfl rfl (by decide) (v := .bool true) (congrArg Value.bool hneg) (Or.inl rfl) ?_
                refine WpL_guard_no (oj := _) rfl rfl (by decide) (v := .bool true) (congrArg Value.bool hneg) (Or.inl rfl) ?_
                refine WpL_val rfl rfl (by decide) (r_pick (b := decide ((t : Int) < 0)) (v := (.bool true)) rfl (by rw [hneg]; rfl)) ?_
                refine WpL_nil ?_
                refine Wp_cond_true rfl ?_
                refine Wp_exit ?_
                refine thn_exit ?_
                refine inB_here ?_
                refine thn_normal ?_
                refine Wp_region ?_
                refine WpL_val rfl rfl (by decide) (r_add (k := .i64) (a := ((x : Nat) : Int)) (b := 1) (c := ((x : Nat) : Int) + 1) rfl rfl (wI64 (by omega))) ?_
                refine WpL_val rfl rfl (by decide) (r_move (v := (.int .i64 (((x : Nat) : Int) + 1))) rfl) ?_
                refine WpL_nil ?_
                refine thn_normal ?_
                exact ⟨c - (x + 1), by omega, x + 1, R.set x (-1), st, sa, sc2, sn, Fits.out ⟨rfl, rfl, rfl, rfl, rfl, rfl, rfl, rfl, rfl, rfl, rfl, rfl, trivial⟩, E, Bd, Bo, hPB, Br, Mm, Bq, (by omega), (by simp [hRl]), (by rw [hts]; exact hC.add hsr hEd), hsi, hsn, hta, hS, hO, hap, hsz, rfl⟩
              · have khneg := hneg
                replace khneg := of_decide_eq_false khneg
                obtain ⟨tN, htN⟩ := Int.eq_ofNat_of_zero_le (show 0 ≤ t by omega)
                have hpt := ptD_cell hPt.len (show tN < n by omega)
                refine WpL_guard_yes (oj := _) rfl rfl (by decide) (congrArg Value.bool hneg) ?_
                refine WpL_val rfl rfl (by decide) (r_move (v := (.slice (some ⟨b1, 0, none⟩) n n)) rfl) ?_
                refine WpL_guard_yes (oj := _) rfl rfl (by decide) (congrArg Value.bool hneg) ?_
                refine WpL_val rfl rfl (by decide) (r_move (v := (.int .i64 t)) rfl) ?_
                refine WpL_guard_yes (oj := _) rfl rfl (by decide) (congrArg Value.bool hneg) ?_
                refine WpL_val rfl rfl (by decide) (r_indexSlice (b := b1) (o := 0) (len := n) (cap := n) (i := tN) (o' := 0 + tN) rfl rfl (by omega) Try.underlying22 siz3 (by omega) (by omega)) ?_
                refine WpL_guard_yes (oj := _) rfl rfl (by decide) (congrArg Value.bool hneg) ?_
                refine WpL_val rfl rfl (by decide) (r_load (v := (.int .i64 (ptD p t))) rfl flat3 (by rw [htN]; exact ints_at_blk hPB hpt)) ?_
                refine WpL_guard_yes (oj := _) rfl rfl (by decide) (congrArg Value.bool hneg) ?_
                refine WpL_val rfl rfl (by decide) (r_lss (k := .i64) (a := ptD p t) (b := 0) rfl rfl) ?_
                refine WpL_val rfl rfl (by decide) (r_pick (b := decide ((t : Int) < 0)) (v := (.bool (decide ((ptD p t : Int) < 0)))) rfl (by rw [hneg]; rfl)) ?_
                refine WpL_nil ?_
                refine Wp_cond (b := decide ((ptD p t : Int) < 0)) rfl (fun hdt => ?_) (fun hdt => ?_)
                · have khdt := hdt
                  replace hdt := of_decide_eq_true hdt
                  have hEd : EntP d p st s (R.take x).length (-1) := .inl ⟨rfl, by rw [hxl2, htk]; omega⟩
                  refine Wp_exit ?_
                  refine thn_exit ?_
                  refine inB_here ?_
                  refine thn_normal ?_
                  refine Wp_region ?_
                  refine WpL_val rfl rfl (by decide) (r_add (k := .i64) (a := ((x : Nat) : Int)) (b := 1) (c := ((x : Nat) : Int) + 1) rfl rfl (wI64 (by omega))) ?_
                  refine WpL_val rfl rfl (by decide) (r_move (v := (.int .i64 (((x : Nat) : Int) + 1))) rfl) ?_
                  refine WpL_nil ?_
                  refine thn_normal ?_
                  exact ⟨c - (x + 1), by omega, x + 1, R.set x (-1), st, sa, sc2, sn, Fits.out ⟨rfl, rfl, rfl, rfl, rfl, rfl, rfl, rfl, rfl, rfl, rfl, rfl, trivial⟩, E, Bd, Bo, hPB, Br, Mm, Bq, (by omega), (by simp [hRl]), (by rw [hts]; exact hC.add hsr hEd), hsi, hsn, hta, hS, hO, hap, hsz, rfl⟩
                · have khdt := hdt
                  replace hdt := of_decide_eq_false hdt
                  refine Wp_skip ?_
                  refine thn_normal ?_
                  refine Wp_seq_region ?_
                  refine WpL_val rfl rfl (by decide) (r_move (v := (.map (some bm))) rfl) ?_
                  refine WpL_val rfl rfl (by decide) (r_move (v := (.slice (some ⟨b1, 0, none⟩) n n)) rfl) ?_
                  refine WpL_val rfl rfl (by decide) (r_move (v := (.int .i64 t)) rfl) ?_
                  refine WpL_val rfl rfl (by decide) (r_indexSlice (b := b1) (o := 0) (len := n) (cap := n) (i := tN) (o' := 0 + tN) rfl rfl (by omega) Try.underlying22 siz3 (by omega) (by omega)) ?_
                  refine WpL_val rfl rfl (by decide) (r_load (v := (.int .i64 (ptD p t))) rfl flat3 (by rw [htN]; exact ints_at_blk hPB hpt)) ?_
                  refine WpL_val (v := (.tuple #[(.int .i64 ((getM (keysC (st.map (ptD p)) 0) (ptD p t)).getD 0)), (.bool ((getM (keysC (st.map (ptD p)) 0) (ptD p t)).isSome))])) rfl rfl (by decide) (r_lookup2 (k := (ptD p t)) (z := 0) Try.underlying101 (keyInt Try.underlying3) zer3 Mm rfl rfl) ?_
                  refine WpL_val rfl rfl (by decide) (r_move (v := (.tuple #[(.int .i64 ((getM (keysC (st.map (ptD p)) 0) (ptD p t)).getD 0)), (.bool ((getM (keysC (st.map (ptD p)) 0) (ptD p t)).isSome))])) rfl) ?_
                  refine WpL_val rfl rfl (by decide) (r_extract (vs := #[(.int .i64 ((getM (keysC (st.map (ptD p)) 0) (ptD p t)).getD 0)), (.bool ((getM (keysC (st.map (ptD p)) 0) (ptD p t)).isSome))]) (v := (.int .i64 ((getM (keysC (st.map (ptD p)) 0) (ptD p t)).getD 0))) rfl rfl) ?_
                  refine WpL_val rfl rfl (by decide) (r_extract (vs := #[(.int .i64 ((getM (keysC (st.map (ptD p)) 0) (ptD p t)).getD 0)), (.bool ((getM (keysC (st.map (ptD p)) 0) (ptD p t)).isSome))]) (v := (.bool ((getM (keysC (st.map (ptD p)) 0) (ptD p t)).isSome))) rfl rfl) ?_
                  refine WpL_val rfl rfl (by decide) (r_assign (v := (.int .i64 ((getM (keysC (st.map (ptD p)) 0) (ptD p t)).getD 0))) rfl) ?_
                  refine WpL_val rfl rfl (by decide) (r_assign (v := (.bool ((getM (keysC (st.map (ptD p)) 0) (ptD p t)).isSome))) rfl) ?_
                  refine WpL_nil ?_
                  refine Wp_cut (fun σ W12 => ∃ (st1 : List Int) (j : Nat) (sa1 : Option Addr) (sc1 sn1 : Nat), (∃ jj_, σ = upds jj_ [(1, (.pointer (some ⟨bd, 0, none⟩))), (2, (.pointer (some ⟨bo, 0, none⟩))), (3, (.slice (some ⟨b1, 0, none⟩) n n)), (4, (.int .i64 ((c : Nat) : Int))), (5, (.pointer (some ⟨br, 0, none⟩))), (6, (.map (some bm))), (8, (.int .i64 ((i : Nat) : Int))), (9, (.slice (some ⟨bq, 0, none⟩) c c)), (10, (.int .i64 ((x : Nat) : Int))), (58, (.slice (some ⟨rb, ro, none⟩) c rc)), (59, (.int .i64 ((c : Nat) : Int))), (60, (.int .i64 ((x : Nat) : Int))), (7, (.slice sa1 sn1 sc1)), (12, (.int .i64 ((j : Nat) : Int)))]) ∧ Chg none1 w0 W12 ∧ Blk W12 bd #[(.int .i64 d.start), (.slice (some ⟨ab, ao, none⟩) n ac), (.slice (some ⟨nb, no, none⟩) n nc)] 25 ∧ Blk W12 bo #[(.int .i64 0), (.slice none 0 0), (.slice none 0 0)] 25 ∧ Blk W12 b1 ((p.map (Value.int .i64)).toArray) 3 ∧ Blk W12 br (#[Value.int .i64 0, .slice ea i ec, .slice na2 i nc2]) 25 ∧ MapAt W12 bm kInt kInt (keysC (st1.map (ptD p)) 0) ∧ Blk W12 bq (((R.set x (-1)).map (Value.int .i64)).toArray) 3 ∧ (CanP n c d p rows (R.take x ++ [((j : Nat) : Int)]) st1) ∧ (st1[i]? = some s) ∧ (sn1 = st1.length) ∧ ((st1.take i).map (atD d) = acc) ∧ (W12.ownsRow n1 TDI 1 (.slice sa1 sn1 sc1) sn1 (st1.map (Value.int .i64))) ∧ (OutSt W12 n1 (.slice ea i ec) (.slice na2 i nc2) vs acc rows) ∧ (∀ b, (Value.slice sa1 sn1 sc1).ownBlock = some b → ¬ OutB (.slice ea i ec) (.slice na2 i nc2) vs b ∧ b ≠ bq) ∧ (n1 ≤ W12.heap.size)) ?_ ?_
                  · skip
                    refine Wp_seq_region ?_
                    refine WpL_val rfl rfl (by decide) (r_move (v := (.bool ((getM (keysC (st.map (ptD p)) 0) (ptD p t)).isSome))) rfl) ?_
                    refine WpL_val rfl rfl (by decide) (r_not (b := (getM (keysC (st.map (ptD p)) 0) (ptD p t)).isSome) rfl) ?_
                    refine WpL_nil ?_
                    refine Wp_cond (b := !((getM (keysC (st.map (ptD p)) 0) (ptD p t)).isSome)) rfl (fun hnew => ?_) (fun hnew => ?_)
                    · have khnew := hnew
                      replace hnew := by simpa using hnew
                      have hgm : getM (keysC (st.map (ptD p)) 0) (ptD p t) = none := by simpa using hnew
                      obtain ⟨hnin, hput⟩ := keysC_none hgm
                      have htk2 : toD d s (R.take x).length = t := by rw [hxl2, htk]
                      have hle2 := hC.st_le
                      refine Wp_seq_region ?_
                      refine WpL_val rfl rfl (by decide) (r_move (v := (.slice sa sn sc2)) rfl) ?_
                      refine WpL_val rfl rfl (by decide) (r_lenSlice (ad := sa) (n := sn) (cap := sc2) Try.underlying22 rfl) ?_
                      refine WpL_val rfl rfl (by decide) (r_assign (v := (.int .i64 ((sn : Nat) : Int))) rfl) ?_
                      refine WpL_nil ?_
                      refine Wp_seq_region ?_
                      refine WpL_val rfl rfl (by decide) (r_move (v := (.map (some bm))) rfl) ?_
                      refine WpL_val rfl rfl (by decide) (r_move (v := (.slice (some ⟨b1, 0, none⟩) n n)) rfl) ?_
                      refine WpL_val rfl rfl (by decide) (r_move (v := (.int .i64 t)) rfl) ?_
                      refine WpL_val rfl rfl (by decide) (r_indexSlice (b := b1) (o := 0) (len := n) (cap := n) (i := tN) (o' := 0 + tN) rfl rfl (by omega) Try.underlying22 siz3 (by omega) (by omega)) ?_
                      refine WpL_val rfl rfl (by decide) (r_load (v := (.int .i64 (ptD p t))) rfl flat3 (by rw [htN]; exact ints_at_blk hPB hpt)) ?_
                      refine WpL_val rfl rfl (by decide) (r_move (v := (.int .i64 ((sn : Nat) : Int))) rfl) ?_
                      refine s_mapUpdate (k := (ptD p t)) (v := ((sn : Nat) : Int)) Try.underlying101 (keyInt Try.underlying3) Mm rfl rfl rfl ?_
                      intro w14 S14 H14
                      replace hS := own_chg hS S14.chg fun b hb h => by have := (hS.lt b hb).1; have h' : b = bm := h; omega
                      replace hO := hO.chg S14.chg fun b hb h => by have := (hO.lt hb).1; have h' : b = bm := h; omega
                      replace hsz := Nat.le_trans hsz S14.chg.size
                      replace Bd := S14.keep (by omega) Bd
                      replace Bo := S14.keep (by omega) Bo
                      replace hPB := S14.keep (by omega) hPB
                      replace Br := S14.keep (by omega) Br
                      replace Bq := S14.keep (by omega) Bq
                      replace E := S14.step E (by first | exact Or.inl (by omega) | exact Or.inr rfl | exact Or.inr (by assumption) | exact Or.inr (by simp) | exact Or.inr (by omega) | exact Or.inr (by dsimp only; omega))
                      replace Mm := H14
                      refine WpL_nil ?_
                      refine Wp_region ?_
                      refine WpL_val rfl rfl (by decide) (r_move (v := (.slice sa sn sc2)) rfl) ?_
                      refine WpL_val rfl rfl (by decide) (r_move (v := (.int .i64 t)) rfl) ?_
                      refine s_buildSlice (ps := [(0, (.int .i64 t))]) (c := #[(.int .i64 t)]) (by decide) rfl Try.underlying22 siz3 zer3 (by decide) (by decide) (by kernel_rfl) ?_
                      intro b15 w15 N15
                      have F15 := N15.ge E
                      have O15_bd := N15.lt Bd
                      have O15_bo := N15.lt Bo
                      have O15_b1 := N15.lt hPB
                      have O15_br := N15.lt Br
                      have O15_bm := N15.ltM Mm
                      have O15_bq := N15.lt Bq
                      replace Bd := N15.keep Bd
                      replace Bo := N15.keep Bo
                      replace hPB := N15.keep hPB
                      replace Br := N15.keep Br
                      replace Mm := N15.keepM Mm
                      replace Bq := N15.keep Bq
                      replace hS := own_ext hS N15.ext
                      replace hO := hO.ext N15.ext
                      replace hsz := Nat.le_trans hsz N15.ext.size
                      replace E := E.ext N15.ext
                      have B15 := N15.blk
                      have hbql := Bq.lt
                      refine s_append (base := n1) (n := sn) (m := 1) (xs := (st.map (Value.int .i64))) (news := [(.int .i64 t)]) (size := 1) (bytes := 8) (v := (.slice sa sn sc2)) (by decide) Try.underlying22 siz3 byt3 zer3 rfl (by decide) rfl hS rfl (rfl) (B15.cells rfl) (by simp [Value.oneCell']) (by unfold maxLen; omega) (by omega) (hsz) ?_
                      intro v7 w59 Ov7 Cv7 Dv7
                      replace Bd := Cv7.keep (fun h => by have := (hS.lt _ h).1; omega) Bd
                      replace Bo := Cv7.keep (fun h => by have := (hS.lt _ h).1; omega) Bo
                      replace hPB := Cv7.keep (fun h => by have := (hS.lt _ h).1; omega) hPB
                      replace Br := Cv7.keep (fun h => by have := (hS.lt _ h).1; omega) Br
                      replace Mm := Cv7.keepM (fun h => by have := (hS.lt _ h).1; omega) Mm
                      replace Bq := Cv7.keep (fun h => (hap _ h).2 rfl) Bq
                      replace E := E.step Cv7 (fun x hx h => absurd (hS.lt x h).1 (by omega))
                      obtain ⟨sa3, sc3, rfl⟩ := own_form Ov7
                      rw [hsn, show ((st.length : Nat) : Int) = (((st.map (ptD p)).length : Nat) : Int) by rw [List.length_map], hput, show st.map (ptD p) ++ [ptD p t] = (st ++ [t]).map (ptD p) by simp] at Mm
                      refine WpL_val rfl rfl (by decide) (r_assign (v := (.slice sa3 (sn + 1) sc3)) rfl) ?_
                      refine WpL_nil ?_
                      refine thn_normal ?_
                      exact ⟨st ++ [t], sn, sa3, sc3, sn + 1, Fits.out ⟨rfl, rfl, rfl, rfl, rfl, rfl, rfl, rfl, rfl, rfl, rfl, rfl, rfl, rfl, trivial⟩, E, Bd, Bo, hPB, Br, Mm, Bq, (by rw [hsn]; have h9 := hC.new hsr (by rw [htk2]; omega) (by rw [htk2]; omega) (fun u hu he => hnin (by rw [← htk2, ← he]; exact List.mem_map.2 ⟨u, hu, rfl⟩)); rw [htk2] at h9; exact h9), (by rw [List.getElem?_append_left (lt_of_get hsi)]; exact hsi), (by simp; omega), (by rw [List.take_append_of_le_length (by have := lt_of_get hsi; omega)]; exact hta), (by rw [List.map_append]; exact Ov7), hO.chg Cv7 (fun b hb h => (hap b h).1 hb), (fun b hb => by rcases Dv7 b hb with h9 | h9; exact hap b h9; exact ⟨fun ho => by have := (hO.lt ho).2; omega, fun e => by omega⟩), Nat.le_trans hsz Cv7.size⟩
                    · have khnew := hnew
                      replace hnew := by simpa using hnew
                      have hgs : (getM (keysC (st.map (ptD p)) 0) (ptD p t)).isSome = true := by simpa using hnew
                      obtain ⟨v9, hv9⟩ := Option.isSome_iff_exists.1 hgs
                      obtain ⟨j9, rfl, hj9⟩ := keysC_get hv9
                      rw [List.getElem?_map] at hj9
                      obtain ⟨u, hu, hut⟩ := Option.map_eq_some_iff.1 hj9
                      rw [show (getM (keysC (st.map (ptD p)) 0) (ptD p t)).getD 0 = ((j9 : Nat) : Int) from by rw [hv9]; rfl]
                      refine Wp_skip ?_
                      refine thn_normal ?_
                      exact ⟨st, j9, sa, sc2, sn, Fits.out ⟨rfl, rfl, rfl, rfl, rfl, rfl, rfl, rfl, rfl, rfl, rfl, rfl, rfl, rfl, trivial⟩, E, Bd, Bo, hPB, Br, Mm, Bq, hC.add hsr (.inr ⟨j9, u, rfl, hu, by rw [hxl2, htk, hut], by rw [hut]; omega⟩), hsi, hsn, hta, hS, hO, hap, hsz⟩
                  · clear E Bd Bo hPB Br Mm Bq
                    rintro _ W12 ⟨st1, j, sa1, sc1, sn1, ⟨j12, rfl⟩, E, Bd, Bo, hPB, Br, Mm, Bq, hC1, hsi1, hsn1, hta1, hS1, hO1, hap1, hsz1⟩
                    have hts2 := take_set_succ (L := R.set x (-1)) (s := x) (x := ((j : Nat) : Int)) (by simp; omega)
                    refine Wp_region ?_
                    refine WpL_val rfl rfl (by decide) (r_move (v := (.slice (some ⟨bq, 0, none⟩) c c)) rfl) ?_
                    refine WpL_val rfl rfl (by decide) (r_move (v := (.int .i64 ((x : Nat) : Int))) rfl) ?_
                    refine WpL_val rfl rfl (by decide) (r_move (v := (.int .i64 ((j : Nat) : Int))) rfl) ?_
                    refine WpL_val rfl rfl (by decide) (r_indexSlice (b := bq) (o := 0) (len := c) (cap := c) (i := x) (o' := 0 + x) rfl rfl rfl Try.underlying22 siz3 (by omega) (by omega)) ?_
                    refine s_store (b := bq) (o := 0 + x) (c' := (((R.set x (-1)).set x ((j : Nat) : Int)).map (Value.int .i64)).toArray) (v := (.int .i64 ((j : Nat) : Int))) rfl rfl rfl siz3 Bq (by simp; omega) (ints_setD _) ?_
                    intro w16 S16
                    replace hS1 := own_chg hS1 S16.chg fun b hb h => (hap1 b hb).2 h
                    replace hO1 := hO1.chg S16.chg fun b hb h => by have := hOz b hb; have h' : b = bq := h; omega
                    replace hsz1 := Nat.le_trans hsz1 S16.chg.size
                    replace Bd := S16.keep (by omega) Bd
                    replace Bo := S16.keep (by omega) Bo
                    replace hPB := S16.keep (by omega) hPB
                    replace Br := S16.keep (by omega) Br
                    replace Mm := S16.keepM (by omega) Mm
                    replace E := S16.step E (by first | exact Or.inl (by omega) | exact Or.inr rfl | exact Or.inr (by assumption) | exact Or.inr (by simp) | exact Or.inr (by omega) | exact Or.inr (by dsimp only; omega))
                    replace Bq := S16.blk
                    refine WpL_nil ?_
                    refine inB_normal ?_
                    refine thn_normal ?_
                    refine Wp_region ?_
                    refine WpL_val rfl rfl (by decide) (r_add (k := .i64) (a := ((x : Nat) : Int)) (b := 1) (c := ((x : Nat) : Int) + 1) rfl rfl (wI64 (by omega))) ?_
                    refine WpL_val rfl rfl (by decide) (r_move (v := (.int .i64 (((x : Nat) : Int) + 1))) rfl) ?_
                    refine WpL_nil ?_
                    refine thn_normal ?_
                    exact ⟨c - (x + 1), by omega, x + 1, (R.set x (-1)).set x ((j : Nat) : Int), st1, sa1, sc1, sn1, Fits.out ⟨rfl, rfl, rfl, rfl, rfl, rfl, rfl, rfl, rfl, rfl, rfl, rfl, trivial⟩, E, Bd, Bo, hPB, Br, Mm, Bq, (by omega), (by simp [hRl]), (by rw [hts2, List.take_set_of_le (Nat.le_refl x)]; exact hC1), hsi1, hsn1, hta1, hS1, hO1, hap1, hsz1, rfl⟩
            · have khlt2 := hlt2
              replace hlt2 := of_decide_eq_false hlt2
              have hxc : x = c := by omega
              rw [hxc, show R.take c = R by rw [← hRl, List.take_length]] at hC
              obtain ⟨n4, hn4⟩ : ∃ n4, n4 = (W7).heap.size := ⟨_, rfl⟩
              obtain ⟨sb2, rfl, _, hsc2⟩ := own_cells hS (by have := lt_of_get hsi; omega)
              have hale : acc.length = i := by rw [← hta, List.length_map, List.length_take]; have := lt_of_get hsi; omega
              have hOe : (W7).ownsRow n1 TDI 1 (.slice ea i ec) i (acc.map (Value.int .i64)) := by have h9 := hO.e; rwa [hale] at h9
              have hOn : (W7).ownsRow n1 TDIs 1 (.slice na2 i nc2) i vs := hO.n.on (by rw [List.length_map]; omega)
              have hle3 := hC.st_le
              have hsil := lt_of_get hsi
              have hat := acc_at ok (show sN < n by omega)
              obtain ⟨yv, hyv⟩ : ∃ y, y = atD d s := ⟨_, rfl⟩
              rw [← hsN, ← hyv] at hat
              have hbql := Bq.lt
              have hUq := own_exact (base := bq) Bq (Nat.le_refl _) hRl
              refine Wp_exit ?_
              refine thn_exit ?_
              refine thn_exit ?_
              refine inB_here ?_
              refine thn_normal ?_
              obtain ⟨Fs17, hFs17⟩ : ∃ Fs : List FctE, Fs = [(fun _ v _ => v = (.pointer (some ⟨br, 2, none⟩))), (fun _ v _ => v = (.slice na2 i nc2)), (fun _ v _ => v = (.slice (some ⟨bq, 0, none⟩) c c)), (fun _ => litF TDIs #[.slice (some ⟨bq, 0, none⟩) c c] n4), (fun _ => appF n1 TDIs 1 (i + 1) (vs ++ [Value.slice (some ⟨bq, 0, none⟩) c c]) (.slice na2 i nc2) n4), (fun _ v _ => v = (.pointer (some ⟨br, 1, none⟩))), (fun _ v _ => v = (.slice ea i ec)), (fun _ v _ => v = (.pointer (some ⟨bd, 1, none⟩))), (fun _ v _ => v = (.slice (some ⟨ab, ao, none⟩) n ac)), (fun _ v _ => v = (.slice (some ⟨sb2, 0, none⟩) sn sc2)), (fun _ v _ => v = (.int .i64 ((i : Nat) : Int))), (fun _ v _ => v = (.pointer (some ⟨sb2, 0 + i, none⟩))), (fun _ v _ => v = (.int .i64 s)), (fun _ v _ => v = (.pointer (some ⟨ab, ao + sN, none⟩))), (fun _ v _ => v = (.int .i64 yv)), (fun _ => litF TDI #[.int .i64 yv] n4), (fun s v w => appF n1 TDI 1 (i + 1) (acc.map (Value.int .i64) ++ [Value.int .i64 yv]) (.slice ea i ec) n4 v w ∧ ∀ b, (s 109).ownBlock = some b → v.ownBlock ≠ some b), (fun _ v _ => v = (.pointer (some ⟨br, 2, none⟩)))] := ⟨_, rfl⟩
              refine Wp_dagX (two 4 16 (fun b => (Value.slice na2 i nc2).ownBlock = some b) (fun b => (Value.slice ea i ec).ownBlock = some b)) 18 [105, 106, 107, 108, 109, 110, 111, 112, 113, 114, 115, 116, 117, 118, 119, 120, 121, 122] [[], [0], [], [2], [1, 3], [], [5], [], [7], [], [], [9, 10], [11], [8, 12], [13], [14], [4, 6, 15], [0, 1, 2, 3, 4, 5, 6]] [[], [0], [], [2], [1, 0, 3, 2], [], [5], [], [7], [], [], [9, 10], [11, 9, 10], [8, 7, 12, 11, 9, 10], [13, 8, 7, 12, 11, 9, 10], [14, 13, 8, 7, 12, 11, 9, 10], [4, 1, 0, 3, 2, 6, 5, 15, 14, 13, 8, 7, 12, 11, 9, 10], [0, 1, 2, 3, 4, 5, 6]] Fs17 hFs17 (by kernel_rfl) mixed (by kernel_rfl) (by kernel_rfl) (by kernel_rfl) ?_ ?_
              · intro wd X0
                refine DagStepsX.cons (StabX.eq) (fun _ _ _ _ _ h => h) (fun s' w' X U H => ?_) ?_
                · exact DoesT_val (r_fieldAddr (b := br) (o := 0) (o' := 2) (U 5 rfl) Try.underlying25 rfl siz23 rfl) (Chg.refl _ _) rfl
                refine DagStepsX.cons (StabX.eq) (fun _ _ _ _ _ h => h) (fun s' w' X U H => ?_) ?_
                · have e105 : s' 105 = (.pointer (some ⟨br, 2, none⟩)) := H 0 rfl 105 ((fun _ v _ => v = (.pointer (some ⟨br, 2, none⟩)))) rfl (by rw [hFs17]; rfl)
                  exact DoesT_val (r_load (v := (.slice na2 i nc2)) e105 flat23 ((Chg.keep X (fun h => (fun h => h.elim (fun h => by have := (hOn.lt _ h).1; omega) (fun h => by have := (hOe.lt _ h).1; omega)) (Past.or h)) (X0.keep Br)).cell rfl)) (Chg.refl _ _) rfl
                refine DagStepsX.cons (StabX.eq) (fun _ _ _ _ _ h => h) (fun s' w' X U H => ?_) ?_
                · exact DoesT_val (r_move (v := (.slice (some ⟨bq, 0, none⟩) c c)) (U 9 rfl)) (Chg.refl _ _) rfl
                refine DagStepsX.cons (litF_stab (fun y h => by have := (hOn.lt y h).2; omega) (fun y h => by have := (hOe.lt y h).2; omega)) (LocX.const) (fun s' w' X U H => ?_) ?_
                · have e107 : s' 107 = (.slice (some ⟨bq, 0, none⟩) c c) := H 2 rfl 107 ((fun _ v _ => v = (.slice (some ⟨bq, 0, none⟩) c c))) rfl (by rw [hFs17]; rfl)
                  exact DoesT_lit (hs := n4) Try.underlying23 siz22 zer22 e107 (by decide) (by decide) (by kernel_rfl) (by have := X0.size; have := X.size; omega)
                refine DagStepsX.cons (appF_st1 (fun k hk hm => hk.elim (fun h => hO.en k hm h) (fun h => by have := (hOe.lt k hm).2; omega))) (LocX.const) (fun s' w' X U H => ?_) ?_
                · have e106 : s' 106 = (.slice na2 i nc2) := H 1 rfl 106 ((fun _ v _ => v = (.slice na2 i nc2))) rfl (by rw [hFs17]; rfl)
                  obtain ⟨b108, e108, B108, g108⟩ := (show ((fun _ => litF TDIs #[.slice (some ⟨bq, 0, none⟩) c c] n4) : FctE) s' (s' 108) w' from H 3 rfl 108 ((fun _ => litF TDIs #[.slice (some ⟨bq, 0, none⟩) c c] n4)) rfl (by rw [hFs17]; rfl))
                  exact DoesT_append (hs := n4) Try.underlying23 siz22 byt22 zer22 rfl (by decide) e106 (own_ext (own_ext hOn X0) (X.mono (fun y _ h => Past.none rfl rfl h))) e108 rfl (B108.cells rfl) (by simp [Value.oneCell']) (by unfold maxLen; omega) (by omega) (by have := X0.size; have := X.size; omega) (fun y h => h) (by have := X0.size; have := X.size; omega)
                refine DagStepsX.cons (StabX.eq) (fun _ _ _ _ _ h => h) (fun s' w' X U H => ?_) ?_
                · exact DoesT_val (r_fieldAddr (b := br) (o := 0) (o' := 1) (U 5 rfl) Try.underlying25 rfl siz22 rfl) (Chg.refl _ _) rfl
                refine DagStepsX.cons (StabX.eq) (fun _ _ _ _ _ h => h) (fun s' w' X U H => ?_) ?_
                · have e110 : s' 110 = (.pointer (some ⟨br, 1, none⟩)) := H 5 rfl 110 ((fun _ v _ => v = (.pointer (some ⟨br, 1, none⟩)))) rfl (by rw [hFs17]; rfl)
                  exact DoesT_val (r_load (v := (.slice ea i ec)) e110 flat22 ((Chg.keep X (fun h => (fun h => h.elim (fun h => by have := (hOn.lt _ h).1; omega) (fun h => by have := (hOe.lt _ h).1; omega)) (Past.or h)) (X0.keep Br)).cell rfl)) (Chg.refl _ _) rfl
                refine DagStepsX.cons (StabX.eq) (fun _ _ _ _ _ h => h) (fun s' w' X U H => ?_) ?_
                · exact DoesT_val (r_fieldAddr (b := bd) (o := 0) (o' := 1) (U 1 rfl) Try.underlying25 rfl siz22 rfl) (Chg.refl _ _) rfl
                refine DagStepsX.cons (StabX.eq) (fun _ _ _ _ _ h => h) (fun s' w' X U H => ?_) ?_
                · have e112 : s' 112 = (.pointer (some ⟨bd, 1, none⟩)) := H 7 rfl 112 ((fun _ v _ => v = (.pointer (some ⟨bd, 1, none⟩)))) rfl (by rw [hFs17]; rfl)
                  exact DoesT_val (r_load (v := (.slice (some ⟨ab, ao, none⟩) n ac)) e112 flat22 ((Chg.keep X (fun h => (fun h => h.elim (fun h => by have := (hOn.lt _ h).1; omega) (fun h => by have := (hOe.lt _ h).1; omega)) (Past.or h)) (X0.keep Bd)).cell rfl)) (Chg.refl _ _) rfl
                refine DagStepsX.cons (StabX.eq) (fun _ _ _ _ _ h => h) (fun s' w' X U H => ?_) ?_
                · exact DoesT_val (r_move (v := (.slice (some ⟨sb2, 0, none⟩) sn sc2)) (U 7 rfl)) (Chg.refl _ _) rfl
                refine DagStepsX.cons (StabX.eq) (fun _ _ _ _ _ h => h) (fun s' w' X U H => ?_) ?_
                · exact DoesT_val (r_move (v := (.int .i64 ((i : Nat) : Int))) (U 8 rfl)) (Chg.refl _ _) rfl
                refine DagStepsX.cons (StabX.eq) (fun _ _ _ _ _ h => h) (fun s' w' X U H => ?_) ?_
                · have e114 : s' 114 = (.slice (some ⟨sb2, 0, none⟩) sn sc2) := H 9 rfl 114 ((fun _ v _ => v = (.slice (some ⟨sb2, 0, none⟩) sn sc2))) rfl (by rw [hFs17]; rfl)
                  have e115 : s' 115 = (.int .i64 ((i : Nat) : Int)) := H 10 rfl 115 ((fun _ v _ => v = (.int .i64 ((i : Nat) : Int)))) rfl (by rw [hFs17]; rfl)
                  exact DoesT_val (r_indexSlice (b := sb2) (o := 0) (len := sn) (cap := sc2) (i := i) (o' := 0 + i) e114 e115 rfl Try.underlying22 siz3 (by omega) (by omega)) (Chg.refl _ _) rfl
                refine DagStepsX.cons (StabX.eq) (fun _ _ _ _ _ h => h) (fun s' w' X U H => ?_) ?_
                · have e116 : s' 116 = (.pointer (some ⟨sb2, 0 + i, none⟩)) := H 11 rfl 116 ((fun _ v _ => v = (.pointer (some ⟨sb2, 0 + i, none⟩)))) rfl (by rw [hFs17]; rfl)
                  exact DoesT_val (r_load (v := (.int .i64 s)) e116 flat3 (Chg.cell X (fun h => (Past.or h).elim (fun h => (hap _ rfl).1 (.inr (.inl h))) (fun h => (hap _ rfl).1 (.inl h))) (X0.cell (hsc2 i _ (by rw [List.getElem?_map, hsi]; rfl))))) (Chg.refl _ _) rfl
                refine DagStepsX.cons (StabX.eq) (fun _ _ _ _ _ h => h) (fun s' w' X U H => ?_) ?_
                · have e113 : s' 113 = (.slice (some ⟨ab, ao, none⟩) n ac) := H 8 rfl 113 ((fun _ v _ => v = (.slice (some ⟨ab, ao, none⟩) n ac))) rfl (by rw [hFs17]; rfl)
                  have e117 : s' 117 = (.int .i64 s) := H 12 rfl 117 ((fun _ v _ => v = (.int .i64 s))) rfl (by rw [hFs17]; rfl)
                  exact DoesT_val (r_indexSlice (b := ab) (o := ao) (len := n) (cap := ac) (i := sN) (o' := ao + sN) e113 e117 (by omega) Try.underlying22 siz3 (by omega) (by omega)) (Chg.refl _ _) rfl
                refine DagStepsX.cons (StabX.eq) (fun _ _ _ _ _ h => h) (fun s' w' X U H => ?_) ?_
                · have e118 : s' 118 = (.pointer (some ⟨ab, ao + sN, none⟩)) := H 13 rfl 118 ((fun _ v _ => v = (.pointer (some ⟨ab, ao + sN, none⟩)))) rfl (by rw [hFs17]; rfl)
                  exact DoesT_val (r_load (v := (.int .i64 yv)) e118 flat3 (Chg.cell X (fun h => (Past.or h).elim (fun h => by have := (hOn.lt ab h).1; omega) (fun h => by have := (hOe.lt ab h).1; omega)) (X0.cell (E.cell (fun f => f) (hax sN _ hat))))) (Chg.refl _ _) rfl
                refine DagStepsX.cons (litF_stab (fun y h => by have := (hOn.lt y h).2; omega) (fun y h => by have := (hOe.lt y h).2; omega)) (LocX.const) (fun s' w' X U H => ?_) ?_
                · have e119 : s' 119 = (.int .i64 yv) := H 14 rfl 119 ((fun _ v _ => v = (.int .i64 yv))) rfl (by rw [hFs17]; rfl)
                  exact DoesT_lit (hs := n4) Try.underlying22 siz3 zer3 e119 (by decide) (by decide) (by kernel_rfl) (by have := X0.size; have := X.size; omega)
                refine DagStepsX.cons (appF_st2 rfl) (fun s1 s2 h v w h2 => ⟨h2.1, by have := h 4 109 rfl rfl; rw [this]; exact h2.2⟩) (fun s' w' X U H => ?_) ?_
                · have e111 : s' 111 = (.slice ea i ec) := H 6 rfl 111 ((fun _ v _ => v = (.slice ea i ec))) rfl (by rw [hFs17]; rfl)
                  obtain ⟨b120, e120, B120, g120⟩ := (show ((fun _ => litF TDI #[.int .i64 yv] n4) : FctE) s' (s' 120) w' from H 15 rfl 120 ((fun _ => litF TDI #[.int .i64 yv] n4)) rfl (by rw [hFs17]; rfl))
                  exact app_two (H 4 rfl 109 _ rfl (by rw [hFs17]; rfl)) (DoesT_append (hs := w'.heap.size) Try.underlying22 siz3 byt3 zer3 rfl (by decide) e111 (own_chg (own_ext hOe X0) (X.mono (fun y _ h => Past.fst rfl h)) (fun k hk hm => hO.en k hk hm)) e120 rfl (B120.cells rfl) (by simp [Value.oneCell']) (by unfold maxLen; omega) (by omega) (by have := X0.size; have := X.size; omega) (fun y h => h) (Nat.le_refl _)) (by have := X0.size; have := X.size; omega) (fun k h1 h2 => h1.elim (fun h => hO.en k h2 h) (fun h => by have := (hOe.lt k h2).2; omega))
                refine DagStepsX.cons (StabX.eq) (fun _ _ _ _ _ h => h) (fun s' w' X U H => ?_) ?_
                · exact DoesT_val (r_fieldAddr (b := br) (o := 0) (o' := 2) (U 5 rfl) Try.underlying25 rfl siz23 rfl) (Chg.refl _ _) rfl
                exact DagStepsX.nil
              · intro s' wd17 w17 X0 X17 U H
                replace X17 := X17.mono (M' := fun y => (fun b => (Value.slice na2 i nc2).ownBlock = some b) y ∨ (fun b => (Value.slice ea i ec).ownBlock = some b) y) (fun y _ h => by obtain ⟨j, h⟩ := h; rcases two_or h with h | h; exact .inl h.2; exact .inr h.2)
                obtain ⟨⟨a109, c109, e109⟩, O109, D109⟩ := (show ((fun _ => appF n1 TDIs 1 (i + 1) (vs ++ [Value.slice (some ⟨bq, 0, none⟩) c c]) (.slice na2 i nc2) n4) : FctE) s' (s' 109) w17 from H 4 109 ((fun _ => appF n1 TDIs 1 (i + 1) (vs ++ [Value.slice (some ⟨bq, 0, none⟩) c c]) (.slice na2 i nc2) n4)) rfl (by rw [hFs17]; rfl))
                obtain ⟨⟨⟨a121, c121, e121⟩, O121, D121⟩, A121⟩ := (show ((fun s v w => appF n1 TDI 1 (i + 1) (acc.map (Value.int .i64) ++ [Value.int .i64 yv]) (.slice ea i ec) n4 v w ∧ ∀ b, (s 109).ownBlock = some b → v.ownBlock ≠ some b) : FctE) s' (s' 121) w17 from H 16 121 ((fun s v w => appF n1 TDI 1 (i + 1) (acc.map (Value.int .i64) ++ [Value.int .i64 yv]) (.slice ea i ec) n4 v w ∧ ∀ b, (s 109).ownBlock = some b → v.ownBlock ≠ some b)) rfl (by rw [hFs17]; rfl))
                have e122 : s' 122 = (.pointer (some ⟨br, 2, none⟩)) := H 17 122 ((fun _ v _ => v = (.pointer (some ⟨br, 2, none⟩)))) rfl (by rw [hFs17]; rfl)
                obtain ⟨j17, rfl⟩ := Fits.out (σ := s') (l := [(1, (.pointer (some ⟨bd, 0, none⟩))), (2, (.pointer (some ⟨bo, 0, none⟩))), (3, (.slice (some ⟨b1, 0, none⟩) n n)), (4, (.int .i64 ((c : Nat) : Int))), (5, (.pointer (some ⟨br, 0, none⟩))), (6, (.map (some bm))), (7, (.slice (some ⟨sb2, 0, none⟩) sn sc2)), (8, (.int .i64 ((i : Nat) : Int))), (109, (.slice a109 (i + 1) c109)), (121, (.slice a121 (i + 1) c121)), (122, (.pointer (some ⟨br, 2, none⟩)))]) ⟨U 1 rfl, U 2 rfl, U 3 rfl, U 4 rfl, U 5 rfl, U 6 rfl, U 7 rfl, U 8 rfl, e109, e121, e122, trivial⟩
                clear U H
                replace Bd := Chg.keep X17 (fun h => h.elim (fun h => by have := (hOn.lt _ h).1; omega) (fun h => by have := (hOe.lt _ h).1; omega)) (X0.keep Bd)
                replace Bo := Chg.keep X17 (fun h => h.elim (fun h => by have := (hOn.lt _ h).1; omega) (fun h => by have := (hOe.lt _ h).1; omega)) (X0.keep Bo)
                replace hPB := Chg.keep X17 (fun h => h.elim (fun h => by have := (hOn.lt _ h).1; omega) (fun h => by have := (hOe.lt _ h).1; omega)) (X0.keep hPB)
                replace Br := Chg.keep X17 (fun h => h.elim (fun h => by have := (hOn.lt _ h).1; omega) (fun h => by have := (hOe.lt _ h).1; omega)) (X0.keep Br)
                replace Mm := Chg.keepM X17 (fun h => h.elim (fun h => by have := (hOn.lt _ h).1; omega) (fun h => by have := (hOe.lt _ h).1; omega)) (X0.keepM Mm)
                replace Bq := Chg.keep X17 (fun h => h.elim (fun h => by have := hOz _ (.inr (.inl h)); omega) (fun h => by have := hOz _ (.inl h); omega)) (X0.keep Bq)
                have hXm := Chg.trans (Ext.chg X0) X17
                replace E := (E.ext X0).step X17 (fun y hy h => h.elim (fun h => by have := (hOn.lt y h).1; omega) (fun h => by have := (hOe.lt y h).1; omega))
                rw [e109] at O109 D109 A121
                rw [e121] at O121 D121 A121
                have hO2 := hO.push (y := yv) (N' := .slice a109 (i + 1) c109) (E' := .slice a121 (i + 1) c121) hUq hRl.symm (by omega) (fun b hb => by have := hOz b hb; omega) hXm (by rw [hir]; exact O109) (fun k hk => by rw [← hn4]; exact D109 k hk) (by rw [hale, List.map_append]; exact O121) (fun k hk => by rw [← hn4]; exact D121 k hk) A121
                have hS2 := own_chg hS hXm (fun b hb h => h.elim (fun h => (hap b hb).1 (.inr (.inl h))) (fun h => (hap b hb).1 (.inl h)))
                have hsz2 := Nat.le_trans hsz hXm.size
                have hap2 : ∀ b, (Value.slice (some ⟨sb2, 0, none⟩) sn sc2).ownBlock = some b → ¬ OutB (.slice a121 (i + 1) c121) (.slice a109 (i + 1) c109) (vs ++ [.slice (some ⟨bq, 0, none⟩) c c]) b := fun b hb ho => out_push (hap b hb) (by have := (hS.lt b hb).2; omega) D109 D121 ho
                refine s_store (b := br) (o := 2) (c' := #[(.int .i64 0), (.slice ea i ec), (.slice a109 (i + 1) c109)]) (v := (.slice a109 (i + 1) c109)) rfl rfl rfl siz23 Br (by simp) rfl ?_
                intro w18 S18
                replace hO2 := hO2.chg S18.chg fun b hb h => by have := (hO2.lt hb).1; have h' : b = br := h; omega
                replace hS2 := own_chg hS2 S18.chg fun b hb h => by have := (hS2.lt b hb).1; have h' : b = br := h; omega
                replace hsz2 := Nat.le_trans hsz2 S18.chg.size
                replace Bd := S18.keep (by omega) Bd
                replace Bo := S18.keep (by omega) Bo
                replace hPB := S18.keep (by omega) hPB
                replace Mm := S18.keepM (by omega) Mm
                replace Bq := S18.keep (by omega) Bq
                replace E := S18.step E (by first | exact Or.inl (by omega) | exact Or.inr rfl | exact Or.inr (by assumption) | exact Or.inr (by simp) | exact Or.inr (by omega) | exact Or.inr (by dsimp only; omega))
                replace Br := S18.blk
                refine WpL_val rfl rfl (by decide) (r_fieldAddr (b := br) (o := 0) (o' := 1) rfl Try.underlying25 rfl siz22 rfl) ?_
                refine s_store (b := br) (o := 1) (c' := #[(.int .i64 0), (.slice a121 (i + 1) c121), (.slice a109 (i + 1) c109)]) (v := (.slice a121 (i + 1) c121)) rfl rfl rfl siz22 Br (by simp) rfl ?_
                intro w19 S19
                replace hO2 := hO2.chg S19.chg fun b hb h => by have := (hO2.lt hb).1; have h' : b = br := h; omega
                replace hS2 := own_chg hS2 S19.chg fun b hb h => by have := (hS2.lt b hb).1; have h' : b = br := h; omega
                replace hsz2 := Nat.le_trans hsz2 S19.chg.size
                replace Bd := S19.keep (by omega) Bd
                replace Bo := S19.keep (by omega) Bo
                replace hPB := S19.keep (by omega) hPB
                replace Mm := S19.keepM (by omega) Mm
                replace Bq := S19.keep (by omega) Bq
                replace E := S19.step E (by first | exact Or.inl (by omega) | exact Or.inr rfl | exact Or.inr (by assumption) | exact Or.inr (by simp) | exact Or.inr (by omega) | exact Or.inr (by dsimp only; omega))
                replace Br := S19.blk
                refine WpL_nil ?_
                refine inB_normal ?_
                refine thn_normal ?_
                refine Wp_region ?_
                refine WpL_val rfl rfl (by decide) (r_move (v := (.int .i64 ((i : Nat) : Int))) rfl) ?_
                refine WpL_val rfl rfl (by decide) (r_add (k := .i64) (a := ((i : Nat) : Int)) (b := 1) (c := ((i : Nat) : Int) + 1) rfl rfl (wI64 (by omega))) ?_
                refine WpL_val rfl rfl (by decide) (r_assign (v := (.int .i64 (((i : Nat) : Int) + 1))) rfl) ?_
                refine WpL_nil ?_
                refine thn_normal ?_
                exact ⟨n - (i + 1), by omega, i + 1, rows ++ [R], st, acc ++ [yv], vs ++ [.slice (some ⟨bq, 0, none⟩) c c], some ⟨sb2, 0, none⟩, a121, a109, sc2, sn, c121, c109, Fits.out ⟨rfl, rfl, rfl, rfl, rfl, rfl, rfl, rfl, trivial⟩, E, Bd, Bo, hPB, Br, Mm, hC.row hRl hrch, (by simp [hir]), hsn, (by omega), (by rw [take_snoc' hsi, List.map_append, hta, hyv]; rfl), hS2, hO2, hap2, hsz2, rfl⟩
      · have khlt := hlt
        replace hlt := of_decide_eq_false hlt
        have hii : i = st.length := by omega
        have hlc := hC.st_le
        refine Wp_exit ?_
        refine thn_exit ?_
        refine thn_exit ?_
        refine inB_here ?_
        refine thn_normal ?_
        refine Wp_seq_region ?_
        refine WpL_val rfl rfl (by decide) (r_loadAgg (vs := [(.int .i64 0), (.slice ea i ec), (.slice na2 i nc2)]) rfl agg25 siz25 rfl (Br.cells rfl)) ?_
        refine s_storeAgg (b := bo) (o := 0) (c' := #[(.int .i64 0), (.slice ea i ec), (.slice na2 i nc2)]) rfl rfl (by simp [Value.oneCell']) siz25 rfl Bo (by simp) rfl ?_
        intro w20 S20
        replace hO := hO.chg S20.chg fun b hb h => by have := (hO.lt hb).1; have h' : b = bo := h; omega
        replace Bd := S20.keep (by omega) Bd
        replace hPB := S20.keep (by omega) hPB
        replace Br := S20.keep (by omega) Br
        replace Mm := S20.keepM (by omega) Mm
        replace E := S20.step E (by first | exact Or.inl (by omega) | exact Or.inr rfl | exact Or.inr (by assumption) | exact Or.inr (by simp) | exact Or.inr (by omega) | exact Or.inr (by dsimp only; omega))
        replace Bo := S20.blk
        refine WpL_nil ?_
        refine Wp_ret ?_
        refine fin_agg Try.results56 (vs := [(.int .i64 0), (.slice ea i ec), (.slice na2 i nc2)]) (b := bo) rfl agg25 siz25 rfl (Bo.cells rfl) ?_
        have hcan := hC.done ok hPt (by omega)
        have hacc3 : acc = st.map (atD d) := by rw [hacc2, hii, List.take_length]
        have hrl3 : rows.length = i := hir
        have hal3 : acc.length = i := by rw [hacc3, List.length_map]; omega
        rw [← hacc3] at hcan
        refine ⟨⟨⟨0, acc, rows⟩, _, hcan, by show rows.length ≤ n; omega, fun x hx => ?_, rfl, fun M w' ch hM => ⟨ea, ec, na2, nc2, by show [_, _, _] = [Value.int .i64 0, .slice ea acc.length ec, .slice na2 rows.length nc2]; rw [hal3, hrl3], ?_, ?_⟩⟩, E⟩
        · rw [hacc3] at hx
          obtain ⟨u, hu, hux⟩ := List.mem_map.1 hx
          have h9 := hC.sl u hu
          obtain ⟨uN, huN⟩ := Int.eq_ofNat_of_zero_le h9.1
          rw [← hux, huN]
          exact hac _ (List.mem_of_getElem? (acc_at ok (show uN < n by omega)))
        · show IntsAt _ (.slice ea acc.length ec) acc
          rw [hal3]
          have h9 := (hO.chg ch fun b hb h => by have := (hO.lt hb).1; have := hM b h; omega).e
          rw [hal3] at h9
          exact own_intsD h9 hal3.symm
        · show IntssAt _ (.slice na2 rows.length nc2) rows
          rw [hrl3]
          exact (hO.chg ch fun b hb h => by have := (hO.lt hb).1; have := hM b h; omega).intss
end Go.Proofs
