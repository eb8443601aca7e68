/- dfa.Parts, walked. -/
import Derived.Test.YtncmfkibflogkaaAg
namespace Go.Proofs
open Go Go.Eng Go.Sort
set_option maxRecDepth 100000

theorem keysOf_get {M : List Bool} {keyf : Nat → List Int} {n s : Nat} (hs : s < n) : (keysOf M keyf n)[s]? = some (if M[s]? = some true then some (keyf s) else none) := by
  unfold keysOf
  rw [List.getElem?_map, List.getElem?_range hs]; rfl
theorem refd_num {n c : Nat} {d : Dfa} {M : List Bool} {keyf : Nat → List Int} {ks : List (List Int)} {q : List Int} (hM : LiveOf n c d M) (hN : Num (keysOf M keyf n) ks q)
    (ha : ∀ s t : Nat, s < n → t < n → liveD c d s → liveD c d t → keyf s = keyf t → atD d s = atD d t) (he : ∀ s t : Nat, s < n → t < n → liveD c d s → liveD c d t → eqvD c d s t → keyf s = keyf t) : Refd n c d q ks.length :=
  Refd.of_num hN (by unfold keysOf; simp) (fun s hs h => by rw [keysOf_get hs, if_neg fun h1 => h ((hM.iff s hs).1 h1)]) (fun s hs h => by rw [keysOf_get hs, if_pos ((hM.iff s hs).2 h)]) ha he
theorem num_iff {n c : Nat} {d : Dfa} {M : List Bool} {keyf : Nat → List Int} {ks : List (List Int)} {q : List Int} (hM : LiveOf n c d M) (hN : Num (keysOf M keyf n) ks q) : ∀ s t : Nat, s < n → t < n → liveD c d s → liveD c d t → (q[s]? = q[t]? ↔ keyf s = keyf t) := fun s t hs ht l1 l2 =>
  hN.eq_iff (by rw [keysOf_get hs, if_pos ((hM.iff s hs).2 l1)]) (by rw [keysOf_get ht, if_pos ((hM.iff t ht).2 l2)])
theorem Refd.rng {n c cnt : Nat} {d : Dfa} {p : List Int} (h : Refd n c d p cnt) : ∀ x ∈ p, -1 ≤ x ∧ x < (n : Int) := by
  intro x hx
  obtain ⟨s, hs⟩ := List.getElem?_of_mem hx
  have hsn : s < n := by rw [← h.len]; exact lt_of_get hs
  have hc := h.cnt_le
  by_cases hl : liveD c d s
  · obtain ⟨j, h1, h2⟩ := h.liv s hsn hl
    rw [hs] at h1
    have := Option.some.inj h1
    omega
  · have h1 := h.dead s hsn hl
    rw [hs] at h1
    have := Option.some.inj h1
    omega
theorem Refd.next {n c cnt : Nat} {d : Dfa} {p q : List Int} {M : List Bool} {ks : List (List Int)} (ok : OkD n c d) (hM : LiveOf n c d M) (hp : Refd n c d p cnt) (hN : Num (keysOf M (nextKey c d p) n) ks q) : Refd n c d q ks.length := by
  refine refd_num hM hN (fun s t hs ht l1 l2 h => ?_) fun s t hs ht l1 l2 h => ?_
  · have h1 := (nextKey_eq.1 h).1
    obtain ⟨a, h2, _⟩ := hp.liv s hs l1
    obtain ⟨b, h3, _⟩ := hp.liv t ht l2
    rw [ptD_get h2, ptD_get h3] at h1
    exact hp.acc s t hs ht l1 l2 (by rw [h2, h3, h1])
  · refine nextKey_eq.2 ⟨hp.ptEqv (by omega) (by omega) h, fun x hx => hp.ptEqv ok.to ok.to (h.to hx)⟩
theorem Refd.finer {n c cnt : Nat} {d : Dfa} {p q : List Int} {M : List Bool} {ks : List (List Int)} (hM : LiveOf n c d M) (hp : Refd n c d p cnt) (hN : Num (keysOf M (nextKey c d p) n) ks q) : ∀ s t : Nat, s < n → t < n → liveD c d s → liveD c d t → q[s]? = q[t]? → p[s]? = p[t]? := fun s t hs ht l1 l2 h => by
  have h1 := (nextKey_eq.1 ((num_iff hM hN s t hs ht l1 l2).1 h)).1
  obtain ⟨a, h2, _⟩ := hp.liv s hs l1
  obtain ⟨b, h3, _⟩ := hp.liv t ht l2
  rw [ptD_get h2, ptD_get h3] at h1
  rw [h2, h3, h1]
theorem okK_next {n c cnt : Nat} {d : Dfa} {p : List Int} (h : Refd n c d p cnt) (hn : n ≤ 20000) (s : Nat) : okK (nextKey c d p s) := by
  intro x hx
  unfold nextKey at hx
  rcases List.mem_cons.1 hx with h1 | h1
  · rw [h1]; exact ptD_rng h.rng hn _
  · obtain ⟨y, _, h2⟩ := List.mem_map.1 h1
    rw [← h2]; exact ptD_rng h.rng hn _
def oldF (n0 : Nat) : Fct := fun v w => ∃ b, v = .pointer (some ⟨b, 0, none⟩) ∧ n0 ≤ b ∧ Blk w b #[.slice none 0 0] 22
theorem oldF_ext (n0 : Nat) : ∀ v w w', Chg none1 w w' → oldF n0 v w → oldF n0 v w' := by
  rintro v w w' e ⟨b, h1, h2, h3⟩
  exact ⟨b, h1, h2, Ext.keep e h3⟩
theorem DoesT_old {N n0 : Nat} {σ : Env} {w : World} {dst : Option Tmp} {ty : TypeId} {pos : String} {af : Array Edge} {g : Option (Nat × Bool)} (h0 : n0 ≤ w.heap.size) : DoesT none1 Try.prog N ⟨dst, .alloc 22, ty, pos, af, g⟩ (oldF n0) σ w := by
  refine DoesT_val (v := .pointer (some ⟨w.heap.size, 0, none⟩)) (w' := { w with heap := w.heap.push (.cells #[.slice none 0 0] 22 (0, 0)) }) ?_ (New.mk' w _ _).ext ⟨_, rfl, h0, (New.mk' w _ _).blk⟩
  simp [execOp, Instr.alloc, (zer22).run, newVar, newRow, Value.cells]
theorem blk_ints {w : World} {b n : Nat} {p : List Int} {T : Nat} (h : Blk w b (p.map (Value.int .i64)).toArray T) (hn : p.length = n) (hl : n ≤ 9223372036854775807 := by omega) : IntsAt w (.slice (some ⟨b, 0, none⟩) n n) p := by
  subst hn
  rw [← ints_flatD] at h
  exact ints_of_blk p h hl (Nat.le_refl _)
theorem acc_at {n c : Nat} {d : Dfa} (ok : OkD n c d) {s : Nat} (hs : s < n) : d.accept[s]? = some (atD d ((s : Nat) : Int)) := by
  have h1 : d.accept[s]? = some (d.accept[s]'(by rw [ok.al]; exact hs)) := List.getElem?_eq_getElem _
  rw [h1, atD_get h1]
set_option maxHeartbeats 4000000 in
theorem parts_c (w0 : World) (n c : Nat) (d : Dfa) (dv : List Value) (ok : OkD n c d) (h : DfaAt w0 d dv) (hn : n ≤ 20000 ∧ c ≤ 16) (hac : ∀ x ∈ d.accept, x < 2147483648) :
    Ret Try.prog 71 #[.agg dv.toArray] w0 fun r w => (∃ q b, PartsOf n c d q ∧ r = .slice (some ⟨b, 0, none⟩) n n ∧ w0.heap.size ≤ b ∧ Blk w b (q.map (Value.int .i64)).toArray 3) ∧ Ext w0 w := by
  obtain ⟨dv0, hdv0⟩ : ∃ x, x = dv := ⟨_, rfl⟩
  have hdfa := h
  rw [← hdv0] at hdfa
  obtain ⟨aa, ac, na, nc, rfl, hacc, hnxt⟩ := h
  have hnl := ok.nl
  have hal := ok.al
  rw [hal, hnl] at hdv0 ⊢
  refine Ret_of Try.func71 rfl Try.ntmps71 (Nat.le_of_ble_eq_true rfl) ?_
  have E : Chg none1 w0 w0 := Chg.refl _ _
  refine Wp_seq_region ?_
  refine s_box (v := (.agg #[(.int .i64 d.start), (.slice aa n ac), (.slice na n nc)])) (c := #[(.int .i64 d.start), (.slice aa n ac), (.slice na n nc)]) (by decide) rfl rfl ?_
  intro bd wd Nd
  have Fd := Nd.ge E
  replace E := E.ext Nd.ext
  have Bd := Nd.blk
  refine WpL_val rfl rfl (by decide) (r_assign (v := (.slice none 0 0)) rfl) ?_
  refine WpL_nil ?_
  refine Wp_seq_region ?_
  refine WpL_val rfl rfl (by decide) (r_loadAgg (vs := [(.int .i64 d.start), (.slice aa n ac), (.slice na n nc)]) rfl agg25 siz25 rfl (Bd.cells rfl)) ?_
  refine WpL_enter rfl rfl (by decide) (r_callF (vs := [(.agg #[(.int .i64 d.start), (.slice aa n ac), (.slice na n nc)])]) Try.func95 nm95 bd95 rfl) (live_c _ n c d _ ok (by rw [hdv0] at hdfa; exact hdfa.ext E) hn) ?_
  rintro _ w9 ⟨⟨M, lb, hM, rfl, hlb, hLB⟩, X9⟩
  replace Bd := X9.keep Bd
  replace E := E.ext X9
  have hlblt := hLB.lt
  have hdw : ∀ w, Ext w0 w → DfaAt w d [.int .i64 d.start, .slice aa n ac, .slice na n nc] := fun w e => by rw [hdv0] at hdfa; exact hdfa.ext e
  refine s_allocStore (v := (.slice (some ⟨lb, 0, none⟩) n n)) (c := #[(.slice (some ⟨lb, 0, none⟩) n n)]) (n := 1) (by decide) zer130 rfl siz130 rfl rfl rfl (by simp [Value.oneCell']) ?_
  intro bv wv Nv
  have Fv := Nv.ge E
  have Ov_bd := Nv.lt Bd
  have Ov_lb := Nv.lt hLB
  replace Bd := Nv.keep Bd
  replace hLB := Nv.keep hLB
  replace E := E.ext Nv.ext
  have Bv := Nv.blk
  refine WpL_nil ?_
  refine Wp_seq_region ?_
  refine WpL_val rfl rfl (by decide) (r_fieldAddr (b := bd) (o := 0) (o' := 2) rfl Try.underlying25 rfl siz23 rfl) ?_
  refine WpL_val rfl rfl (by decide) (r_load (v := (.slice na n nc)) rfl flat23 (Bd.cell rfl)) ?_
  refine WpL_val rfl rfl (by decide) (r_lenSlice (ad := na) (n := n) (cap := nc) Try.underlying23 rfl) ?_
  refine s_make (n := n) (z := (.int .i64 0)) (bytes := 8) (by decide) Try.underlying22 siz3 byt3 zer3 rfl rfl rfl (by omega) (by omega) ?_
  intro bz wz Nz
  have Fz := Nz.ge E
  have Oz_bd := Nz.lt Bd
  have Oz_lb := Nz.lt hLB
  have Oz_bv := Nz.lt Bv
  replace Bd := Nz.keep Bd
  replace hLB := Nz.keep hLB
  replace Bv := Nz.keep Bv
  replace E := E.ext Nz.ext
  have Bz := Nz.blk
  refine s_allocStore (v := (.slice (some ⟨bz, 0, none⟩) n n)) (c := #[(.slice (some ⟨bz, 0, none⟩) n n)]) (n := 1) (by decide) zer22 rfl siz22 rfl rfl rfl (by simp [Value.oneCell']) ?_
  intro bp wp Np
  have Fp := Np.ge E
  have Op_bd := Np.lt Bd
  have Op_lb := Np.lt hLB
  have Op_bv := Np.lt Bv
  have Op_bz := Np.lt Bz
  replace Bd := Np.keep Bd
  replace hLB := Np.keep hLB
  replace Bv := Np.keep Bv
  replace Bz := Np.keep Bz
  replace E := E.ext Np.ext
  have Bp := Np.blk
  refine WpL_nil ?_
  refine Wp_seq_region ?_
  refine s_allocStore (v := (.int .i64 0)) (c := #[(.int .i64 0)]) (n := 1) (by decide) zer3 rfl siz3 rfl rfl rfl (by simp [Value.oneCell']) ?_
  intro bc wc Nc
  have Fc := Nc.ge E
  have Oc_bd := Nc.lt Bd
  have Oc_lb := Nc.lt hLB
  have Oc_bv := Nc.lt Bv
  have Oc_bz := Nc.lt Bz
  have Oc_bp := Nc.lt Bp
  replace Bd := Nc.keep Bd
  replace hLB := Nc.keep hLB
  replace Bv := Nc.keep Bv
  replace Bz := Nc.keep Bz
  replace Bp := Nc.keep Bp
  replace E := E.ext Nc.ext
  have Bc := Nc.blk
  refine WpL_nil ?_
  refine Wp_seq_region ?_
  refine WpL_val rfl rfl (by decide) (r_makeFunc (vs := []) (us := [(.pointer (some ⟨bp, 0, none⟩)), (.pointer (some ⟨bv, 0, none⟩)), (.pointer (some ⟨bc, 0, none⟩))]) rfl rfl) ?_
  refine WpL_val rfl rfl (by decide) (r_assign (v := (.func (.func 96) #[] #[(.pointer (some ⟨bp, 0, none⟩)), (.pointer (some ⟨bv, 0, none⟩)), (.pointer (some ⟨bc, 0, none⟩))])) rfl) ?_
  refine WpL_nil ?_
  refine Wp_seq_region ?_
  refine s_allocStore (v := (.func (.func 97) #[] #[])) (c := #[(.func (.func 97) #[] #[])]) (n := 1) (by decide) zer134 rfl siz134 rfl rfl rfl (by simp [Value.oneCell']) ?_
  intro bw ww Nw
  have Fw := Nw.ge E
  have Ow_bd := Nw.lt Bd
  have Ow_lb := Nw.lt hLB
  have Ow_bv := Nw.lt Bv
  have Ow_bz := Nw.lt Bz
  have Ow_bp := Nw.lt Bp
  have Ow_bc := Nw.lt Bc
  replace Bd := Nw.keep Bd
  replace hLB := Nw.keep hLB
  replace Bv := Nw.keep Bv
  replace Bz := Nw.keep Bz
  replace Bp := Nw.keep Bp
  replace Bc := Nw.keep Bc
  replace E := E.ext Nw.ext
  have Bw := Nw.blk
  refine WpL_nil ?_
  refine Wp_seq_region ?_
  refine WpL_val rfl rfl (by decide) (r_move (v := (.func (.func 96) #[] #[(.pointer (some ⟨bp, 0, none⟩)), (.pointer (some ⟨bv, 0, none⟩)), (.pointer (some ⟨bc, 0, none⟩))])) rfl) ?_
  refine WpL_val rfl rfl (by decide) (r_makeFunc (vs := []) (us := [(.pointer (some ⟨bw, 0, none⟩)), (.pointer (some ⟨bd, 0, none⟩))]) rfl rfl) ?_
  have hbwl := Bw.lt
  refine WpL_enter rfl rfl (by decide) (r_callV (first := #[]) (cap := #[(.pointer (some ⟨bp, 0, none⟩)), (.pointer (some ⟨bv, 0, none⟩)), (.pointer (some ⟨bc, 0, none⟩))]) (vs := [(.func (.func 98) #[] #[(.pointer (some ⟨bw, 0, none⟩)), (.pointer (some ⟨bd, 0, none⟩))])]) (ws := #[(.func (.func 98) #[] #[(.pointer (some ⟨bw, 0, none⟩)), (.pointer (some ⟨bd, 0, none⟩))]), (.pointer (some ⟨bp, 0, none⟩)), (.pointer (some ⟨bv, 0, none⟩)), (.pointer (some ⟨bc, 0, none⟩))]) rfl Try.func96 nm96 bd96 rfl rfl) (numb_c _ bp bv lb bc n n _ _ 0 M (fun s => [atD d ((s : Nat) : Int)]) Bp Bv hLB Bc (by omega) hM.len hn.1 (fun w s hs hq hE => CallV.mk (first := #[]) (cap := #[.pointer (some ⟨bw, 0, none⟩), .pointer (some ⟨bd, 0, none⟩)]) Try.func98 nm98 bd98 rfl (key1_c w bw bd n d _ s _ (hE.keep Bw) (hE.keep Bd) (hdw _ (Chg.ext E hE)) hal (acc_at ok hs) ⟨ok.at', hac _ (List.mem_of_getElem? (acc_at ok hs))⟩)) (fun s hs _ x hx => by rw [List.mem_singleton] at hx; rw [hx]; exact ⟨ok.at', hac _ (List.mem_of_getElem? (acc_at ok hs))⟩)) ?_
  rintro _ w19 ⟨rfl, ⟨q0, ks0, b1, hN0, hP0, hB0, hb0, hC0⟩, C19⟩
  replace Bd := C19.keep (by omega) Bd
  replace hLB := C19.keep (by omega) hLB
  replace Bv := C19.keep (by omega) Bv
  replace Bz := C19.keep (by omega) Bz
  replace Bw := C19.keep (by omega) Bw
  replace E := E.step C19 (by intro x hx hm; omega)
  have hR0 : Refd n c d q0 ks0.length := refd_num hM hN0 (fun s t _ _ _ _ h => by simpa using h) (fun s t _ _ _ _ h => by have := h [] (inW.nil c); simpa [beh] using this)
  have hbw1 : bw < b1 := by omega
  refine WpL_nil ?_
  refine Wp_block ?_
  refine Wp_loop (fun nn_ σ W1 => ∃ (p : List Int) (cnt pb : Nat), (∃ jj_, σ = upds jj_ [(1, (.pointer (some ⟨bd, 0, none⟩))), (4, (.pointer (some ⟨bp, 0, none⟩))), (5, (.pointer (some ⟨bc, 0, none⟩))), (6, (.func (.func 96) #[] #[(.pointer (some ⟨bp, 0, none⟩)), (.pointer (some ⟨bv, 0, none⟩)), (.pointer (some ⟨bc, 0, none⟩))])), (7, (.pointer (some ⟨bw, 0, none⟩)))]) ∧ Chg none1 w0 W1 ∧ Blk W1 bd #[(.int .i64 d.start), (.slice aa n ac), (.slice na n nc)] 25 ∧ Blk W1 lb ((M.map Value.bool).toArray) 4 ∧ Blk W1 bv #[(.slice (some ⟨lb, 0, none⟩) n n)] 130 ∧ Blk W1 bz ((List.replicate n (.int .i64 0)).toArray) 3 ∧ Blk W1 bw #[(.func (.func 97) #[] #[])] 134 ∧ Blk W1 bp (#[Value.slice (some ⟨pb, 0, none⟩) n n]) 22 ∧ Blk W1 bc (#[Value.int .i64 ((cnt : Nat) : Int)]) 3 ∧ (Refd n c d p cnt) ∧ (Blk W1 pb (p.map (Value.int .i64)).toArray 3) ∧ (bw < pb) ∧ nn_ = n - cnt) (n := n - ks0.length) ?_ ?_
  · exact ⟨q0, ks0.length, b1, Fits.out ⟨rfl, rfl, rfl, rfl, rfl, trivial⟩, E, Bd, hLB, Bv, Bz, Bw, hP0, hC0, hR0, hB0, hbw1, rfl⟩
  · clear E Bd hLB Bv Bz Bw hP0 hC0
    rintro _ _ W1 ⟨p, cnt, pb, ⟨j1, rfl⟩, E, Bd, hLB, Bv, Bz, Bw, hP0, hC0, hR, hPB, hpb, rfl⟩
    have hPlt := hPB.lt
    obtain ⟨n9, hn9⟩ : ∃ n9, n9 = (W1).heap.size := ⟨_, rfl⟩
    refine Wp_block ?_
    refine Wp_seq ?_
    obtain ⟨Fs2, hFs2⟩ : ∃ Fs : List (FactT (none1)), Fs = [.eq (.int .i64 ((cnt : Nat) : Int)), .eq (.slice (some ⟨pb, 0, none⟩) n n), .gen (oldF n9) (oldF_ext _), .eq (.int .i64 ((cnt : Nat) : Int))] := ⟨_, rfl⟩
    refine Wp_dagT (none1) 4 2 [20, 21, 9, 8] [[], [], [], [0, 2]] Fs2 hFs2 rfl mixed (by kernel_rfl) (by kernel_rfl) (by kernel_rfl) ?_ ?_
    · intro wd X0
      refine DagStepsT.cons (fun s' w' X U H => ?_) ?_
      · exact DoesT_val (r_load (v := (.int .i64 ((cnt : Nat) : Int))) (U 5 rfl) flat3 ((Chg.keep X (fun f => f) (X0.keep hC0)).cell rfl)) (Chg.refl _ _) rfl
      refine DagStepsT.cons (fun s' w' X U H => ?_) ?_
      · exact DoesT_val (r_load (v := (.slice (some ⟨pb, 0, none⟩) n n)) (U 4 rfl) flat22 ((Chg.keep X (fun f => f) (X0.keep hP0)).cell rfl)) (Chg.refl _ _) rfl
      refine DagStepsT.cons (fun s' w' X U H => ?_) ?_
      · exact DoesT_old (by have := X0.size; have := X.size; omega)
      refine DagStepsT.cons (fun s' w' X U H => ?_) ?_
      · have e20 : s' 20 = (.int .i64 ((cnt : Nat) : Int)) := H 0 rfl 20 (.eq (.int .i64 ((cnt : Nat) : Int))) rfl (by rw [hFs2]; rfl)
        exact DoesT_val (r_assign (v := (.int .i64 ((cnt : Nat) : Int))) e20) (Chg.refl _ _) rfl
      exact DagStepsT.nil
    · intro s' wd2 w2 X0 X2 U H
      have e21 : s' 21 = (.slice (some ⟨pb, 0, none⟩) n n) := H 1 21 (.eq (.slice (some ⟨pb, 0, none⟩) n n)) rfl (by rw [hFs2]; rfl)
      obtain ⟨b9, e9, g9, B9⟩ := (show (.gen (oldF n9) (oldF_ext _) : FactT (none1)).In (s' 9) w2 from H 2 9 (.gen (oldF n9) (oldF_ext _)) rfl (by rw [hFs2]; rfl))
      have e8 : s' 8 = (.int .i64 ((cnt : Nat) : Int)) := H 3 8 (.eq (.int .i64 ((cnt : Nat) : Int))) rfl (by rw [hFs2]; rfl)
      obtain ⟨j2, rfl⟩ := Fits.out (σ := s') (l := [(1, (.pointer (some ⟨bd, 0, none⟩))), (4, (.pointer (some ⟨bp, 0, none⟩))), (5, (.pointer (some ⟨bc, 0, none⟩))), (6, (.func (.func 96) #[] #[(.pointer (some ⟨bp, 0, none⟩)), (.pointer (some ⟨bv, 0, none⟩)), (.pointer (some ⟨bc, 0, none⟩))])), (7, (.pointer (some ⟨bw, 0, none⟩))), (21, (.slice (some ⟨pb, 0, none⟩) n n)), (9, (.pointer (some ⟨b9, 0, none⟩))), (8, (.int .i64 ((cnt : Nat) : Int)))]) ⟨U 1 rfl, U 4 rfl, U 5 rfl, U 6 rfl, U 7 rfl, e21, e9, e8, trivial⟩
      clear U H
      replace Bd := Chg.keep X2 (fun f => f) (X0.keep Bd)
      replace hLB := Chg.keep X2 (fun f => f) (X0.keep hLB)
      replace Bv := Chg.keep X2 (fun f => f) (X0.keep Bv)
      replace Bz := Chg.keep X2 (fun f => f) (X0.keep Bz)
      replace Bw := Chg.keep X2 (fun f => f) (X0.keep Bw)
      replace hP0 := Chg.keep X2 (fun f => f) (X0.keep hP0)
      replace hC0 := Chg.keep X2 (fun f => f) (X0.keep hC0)
      replace hPB := Chg.keep X2 (fun f => f) (X0.keep hPB)
      replace E := (E.ext X0).step X2 (fun _ _ f => f.elim)
      refine s_store (b := b9) (o := 0) (c' := #[(.slice (some ⟨pb, 0, none⟩) n n)]) (v := (.slice (some ⟨pb, 0, none⟩) n n)) rfl rfl rfl siz22 B9 (by simp) rfl ?_
      intro w3 S3
      replace Bd := S3.keep (by omega) Bd
      replace hLB := S3.keep (by omega) hLB
      replace Bv := S3.keep (by omega) Bv
      replace Bz := S3.keep (by omega) Bz
      replace Bw := S3.keep (by omega) Bw
      replace hP0 := S3.keep (by omega) hP0
      replace hC0 := S3.keep (by omega) hC0
      replace hPB := S3.keep (by omega) hPB
      replace E := S3.step E (by first | exact Or.inl (by omega) | exact Or.inr rfl | exact Or.inr (by assumption) | exact Or.inr (by simp) | exact Or.inr (by omega) | exact Or.inr (by dsimp only; omega))
      replace B9 := S3.blk
      refine WpL_nil ?_
      refine thn_normal ?_
      refine Wp_seq_region ?_
      refine WpL_val rfl rfl (by decide) (r_move (v := (.func (.func 96) #[] #[(.pointer (some ⟨bp, 0, none⟩)), (.pointer (some ⟨bv, 0, none⟩)), (.pointer (some ⟨bc, 0, none⟩))])) rfl) ?_
      refine WpL_val rfl rfl (by decide) (r_makeFunc (vs := []) (us := [(.pointer (some ⟨bw, 0, none⟩)), (.pointer (some ⟨b9, 0, none⟩)), (.pointer (some ⟨bd, 0, none⟩))]) rfl rfl) ?_
      have hbwl2 := Bw.lt
      refine WpL_enter rfl rfl (by decide) (r_callV (first := #[]) (cap := #[(.pointer (some ⟨bp, 0, none⟩)), (.pointer (some ⟨bv, 0, none⟩)), (.pointer (some ⟨bc, 0, none⟩))]) (vs := [(.func (.func 99) #[] #[(.pointer (some ⟨bw, 0, none⟩)), (.pointer (some ⟨b9, 0, none⟩)), (.pointer (some ⟨bd, 0, none⟩))])]) (ws := #[(.func (.func 99) #[] #[(.pointer (some ⟨bw, 0, none⟩)), (.pointer (some ⟨b9, 0, none⟩)), (.pointer (some ⟨bd, 0, none⟩))]), (.pointer (some ⟨bp, 0, none⟩)), (.pointer (some ⟨bv, 0, none⟩)), (.pointer (some ⟨bc, 0, none⟩))]) rfl Try.func96 nm96 bd96 rfl rfl) (numb_c _ bp bv lb bc n n _ _ ((cnt : Nat) : Int) M (nextKey c d p) hP0 Bv hLB hC0 (by omega) hM.len hn.1 (fun w s hs hq hE => CallV.mk (first := #[]) (cap := #[.pointer (some ⟨bw, 0, none⟩), .pointer (some ⟨b9, 0, none⟩), .pointer (some ⟨bd, 0, none⟩)]) Try.func99 nm99 bd99 rfl (key2_c w bw b9 bd n c pb n d _ p s ok (hE.keep Bw) (hE.keep B9) (hE.keep Bd) (hdw _ (Chg.ext E hE)) (by have := blk_ints (hE.keep hPB) hR.len; exact this) hR.len hR.rng hs hn)) (fun s hs _ => okK_next hR hn.1 s)) ?_
      rintro _ w29 ⟨rfl, ⟨q1, ks1, b2, hN1, hP1, hB1, hb1, hC1⟩, C29⟩
      replace Bd := C29.keep (by omega) Bd
      replace hLB := C29.keep (by omega) hLB
      replace Bv := C29.keep (by omega) Bv
      replace Bz := C29.keep (by omega) Bz
      replace Bw := C29.keep (by omega) Bw
      replace hPB := C29.keep (by omega) hPB
      replace B9 := C29.keep (by omega) B9
      replace E := E.step C29 (by intro x hx hm; omega)
      have hR1 := hR.next ok hM hN1
      have hfi := hR.finer hM hN1
      have hmono := Refd.cnt_mono hR hR1 hfi
      have hcle := hR1.cnt_le
      refine WpL_nil ?_
      refine Wp_seq_region ?_
      refine WpL_val rfl rfl (by decide) (r_load (v := (.int .i64 ((ks1.length : Nat) : Int))) rfl flat3 (hC1.cell rfl)) ?_
      refine WpL_val rfl rfl (by decide) (r_move (v := (.int .i64 ((cnt : Nat) : Int))) rfl) ?_
      refine WpL_val rfl rfl (by decide) (r_eql (k := .i64) (a := ((ks1.length : Nat) : Int)) (b := ((cnt : Nat) : Int)) rfl rfl) ?_
      refine WpL_nil ?_
      refine Wp_cond (b := decide ((((ks1.length : Nat) : Int) : Int) = ((cnt : Nat) : Int))) rfl (fun hsame => ?_) (fun hsame => ?_)
      · have khsame := hsame
        replace hsame := of_decide_eq_true hsame
        have hce : ks1.length = cnt := by omega
        refine Wp_seq_region ?_
        refine WpL_val rfl rfl (by decide) (r_load (v := (.slice (some ⟨b2, 0, none⟩) n n)) rfl flat22 (hP1.cell rfl)) ?_
        refine WpL_val rfl rfl (by decide) (r_assign (v := (.slice (some ⟨b2, 0, none⟩) n n)) rfl) ?_
        refine WpL_nil ?_
        refine Wp_ret ?_
        refine inB_ret ?_
        refine thn_ret ?_
        refine inB_ret ?_
        refine fin_tmp Try.results71 (v := (.slice (some ⟨b2, 0, none⟩) n n)) rfl ?_
        rw [hce] at hR1
        exact ⟨⟨q1, b2, Refd.final ok hR hR1 (num_iff hM hN1), rfl, by omega, hB1⟩, E⟩
      · have khsame := hsame
        replace hsame := of_decide_eq_false hsame
        refine Wp_skip ?_
        refine inB_normal ?_
        refine thn_normal ?_
        exact ⟨n - ks1.length, by omega, q1, ks1.length, b2, Fits.out ⟨rfl, rfl, rfl, rfl, rfl, trivial⟩, E, Bd, hLB, Bv, Bz, Bw, hP1, hC1, hR1, hB1, (by omega), rfl⟩
end Go.Proofs
