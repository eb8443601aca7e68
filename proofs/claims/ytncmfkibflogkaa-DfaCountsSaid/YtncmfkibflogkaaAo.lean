/- dfa.not and dfa.Not, walked. -/
import Derived.Test.YtncmfkibflogkaaAn
namespace Go.Proofs
open Go Go.Eng Go.Sort
set_option maxRecDepth 100000

theorem repeat_h (w0 : World) (b sc n hs : Nat) (y : Int) (T : TypeId) (hB : Blk w0 b #[.int .i64 y] T) (h1 : 1 ≤ n) (hn : n ≤ 60000) (hhs : hs ≤ w0.heap.size) :
    Ret Try.prog 55 #[.slice (some ⟨b, 0, none⟩) 1 sc, .int .i64 ((n : Nat) : Int)] w0 fun r w => appF hs TDI 1 n ((List.replicate n y).map (Value.int .i64)) (.slice none 0 0) hs r w ∧ Ext w0 w := by
  refine (repeat_c w0 b sc n y T hB h1 hn).mono ?_
  rintro r w ⟨⟨g, rfl, hg, hG⟩, e⟩
  have ho : w.ownsRow hs TDI 1 (.slice (some ⟨g, 0, none⟩) n n) n ((List.replicate n y).map (Value.int .i64)) := own_exact hG (by omega) (by simp)
  exact ⟨⟨⟨_, _, rfl⟩, ho, fun k hk => .inr (ho.lt k hk).1⟩, e⟩
theorem dfflag2_c (y : Int) (w0 : World) : Ret Try.prog 92 #[.bool (decide (y < 0))] w0 fun r w => r = .int .i64 (fl y) ∧ Ext w0 w := by
  refine (dfflag_c (decide (y < 0)) w0).mono ?_
  rintro r w ⟨rfl, e⟩
  exact ⟨by unfold fl; simp only [decide_eq_true_eq], e⟩
theorem appF_st0 {c1 c2 i base e size n hs : Nat} {M1 M2 : Nat → Prop} {xs : List Value} {ws : List Nat} (h1 : ∀ y, M1 y → y < hs) (h2 : ∀ y, M2 y → y < hs) : StabX (two c1 c2 M1 M2) i ws (fun _ => appF base e size n xs (.slice none 0 0) hs) := by
  rintro p _ _ σ v w w' x ⟨h3, h4, h5⟩
  refine ⟨h3, own_chg h4 x fun k hk h => ?_, h5⟩
  have h6 : hs ≤ k := (h5 k hk).elim (fun h => by cases h) id
  rcases two_or h with h | h
  · have := h1 k h.2; omega
  · have := h2 k h.2; omega
theorem litF_stS {c1 c2 i e hs t : Nat} {M1 M2 : Nat → Prop} {ws : List Nat} (h1 : ∀ y, M1 y → y < hs) (h2 : ∀ y, M2 y → y < hs) : StabX (two c1 c2 M1 M2) i ws (fun s => litF e #[s t] hs) := by
  rintro p _ _ σ v w w' x ⟨b, h3, h4, h5⟩
  exact ⟨b, h3, x.keep (fun h => by rcases two_or h with h | h; have := h1 b h.2; omega; have := h2 b h.2; omega) h4, h5⟩
theorem appF_stS {c1 c2 base e size n hs t : Nat} {M1 M2 : Nat → Prop} {xs : List Value} {old : Value} {ws : List Nat} (h : ∀ k, (old.ownBlock = some k ∨ hs ≤ k) → ¬ M2 k) : StabX (two c1 c2 M1 M2) c1 ws (fun s v w => appF base e size n (xs ++ [s t]) old hs v w ∧ ∀ b, (s t).ownBlock = some b → v.ownBlock ≠ some b) := by
  rintro p hp _ σ v w w' x ⟨⟨h1, h2, h3⟩, h6⟩
  rcases two_ext x with h4 | h4 | h4
  · exact absurd h4.1 hp
  · exact ⟨⟨h1, own_chg h2 h4.2 (fun k hk => h k (h3 k hk)), h3⟩, h6⟩
  · exact ⟨⟨h1, own_ext h2 h4, h3⟩, h6⟩
theorem appF_stL {c1 c2 base e size n hs : Nat} {M1 M2 : Nat → Prop} {xs : List Value} {old : Value} {ws : List Nat} (hw : ws.contains c1 = true) : StabX (two c1 c2 M1 M2) c2 ws (fun _ => appF base e size n xs old hs) := by
  rintro p hp hpw σ v w w' x ⟨h1, h2, h3⟩
  rcases two_ext x with h5 | h5 | h5
  · rw [h5.1, hw] at hpw; cases hpw
  · exact absurd h5.1 hp
  · exact ⟨h1, own_ext h2 h5, h3⟩
theorem LSt.intss {w : World} {base : Nat} {N : Value} {vs : List Value} {rows : List (List Int)} (h : LSt TDIs TDI 1 w base N vs (rows.map iRow)) : IntssAt w N rows := by
  have hl : vs.length = rows.length := by simpa using h.len
  refine ⟨vs, ?_, hl, fun i u l hu hl => ?_⟩
  · have ho := h.o
    rw [show vs = (vs.map fun x => [x]).flatten by simp [List.flatten_eq_flatMap, List.flatMap_map]] at ho
    exact own_slat ho (by intro r hr; simp only [List.mem_map] at hr; obtain ⟨x, _, rfl⟩ := hr; rfl) (by simp [hl]) (by decide)
  · exact own_intsD (h.inn i u (iRow l) hu (by rw [List.getElem?_map, hl]; rfl)) rfl
/-- The last row, made in the region. -/
theorem OutSt.last {w w' : World} {base n4 : Nat} {E N N' u : Value} {vs : List Value} {acc row : List Int} {rows : List (List Int)} (h : OutSt w base E N vs acc rows) (h4 : n4 = w.heap.size) (hb : base ≤ n4) (C : Chg (fun b => N.ownBlock = some b ∨ E.ownBlock = some b) w w')
    (ON : w'.ownsRow base TDIs 1 N' (rows.length + 1) (vs ++ [u])) (hu : w'.ownsRow n4 TDI 1 u row.length (row.map (Value.int .i64))) (WN : ∀ k, N'.ownBlock = some k → N.ownBlock = some k ∨ n4 ≤ k) (ap : ∀ b, u.ownBlock = some b → N'.ownBlock ≠ some b) :
    LSt TDIs TDI 1 w' base N' (vs ++ [u]) ((rows ++ [row]).map iRow) := by
  have hl : vs.length = rows.length := by simpa using h.n.len
  have hold : ∀ (i : Nat) v, (vs ++ [u])[i]? = some v → vs[i]? = some v ∨ (i = vs.length ∧ v = u) := fun i v hv => by
    rcases Nat.lt_or_ge i vs.length with h1 | h1
    · left; rwa [List.getElem?_append_left h1] at hv
    · right
      rw [List.getElem?_append_right h1] at hv
      have h2 := lt_of_get hv
      simp at h2
      rw [show i - vs.length = 0 by omega] at hv
      simp at hv
      exact ⟨by omega, hv.symm⟩
  refine ⟨by simpa using ON, by simp [hl], fun i v p hv hp => ?_, fun i v b hv hb' e => ?_⟩
  · rw [List.map_append] at hp
    rcases hold i v hv with h1 | ⟨h1, rfl⟩
    · rw [List.getElem?_append_left (by have := lt_of_get h1; simp; omega)] at hp
      exact own_chg (h.n.inn i v p h1 hp) C fun b hb' hC => hC.elim (fun h4 => h.n.apo i v b h1 hb' h4) (fun h4 => h.ei i v b h1 hb' h4)
    · rw [h1, hl, List.getElem?_append_right (by simp), List.length_map, Nat.sub_self] at hp
      simp [iRow] at hp
      subst hp
      exact own_low hu hb
  · rcases hold i v hv with h1 | ⟨_, rfl⟩
    · rcases WN b e with h2 | h2
      · exact h.n.apo i v b h1 hb' h2
      · have := (h.lt (.inr (.inr ⟨i, v, h1, hb'⟩))).2; omega
    · exact ap b hb' e
theorem dfa_of_own {w : World} {base : Nat} {d : Dfa} {E N : Value} {vs : List Value} (hE : ∃ a c, E = .slice a d.accept.length c) (hN : ∃ a c, N = .slice a d.next.length c) (oE : w.ownsRow base TDI 1 E d.accept.length (d.accept.map (Value.int .i64))) (oN : LSt TDIs TDI 1 w base N vs (d.next.map iRow)) : DfaAt w d [.int .i64 d.start, E, N] := by
  obtain ⟨ea, ec, rfl⟩ := hE
  obtain ⟨na, nc, rfl⟩ := hN
  exact ⟨ea, ec, na, nc, rfl, own_intsD oE rfl, oN.intss⟩
/-- A canonical automaton as a result. -/
def CanR (c : Nat) (f : List Nat → Int) (n m : Nat) (r : Value) (w : World) : Prop := ∃ C ca cc ma mc, CanOf c f C ∧ C.next.length ≤ n ∧ (∀ x ∈ C.accept, x < 2147483648) ∧ r = .agg #[.int .i64 C.start, .slice ca C.accept.length cc, .slice ma C.next.length mc] ∧ DfaNew m w C [.int .i64 C.start, .slice ca C.accept.length cc, .slice ma C.next.length mc]
theorem canon_f (w0 : World) (n c : Nat) (d : Dfa) (dv : List Value) (ok : OkD n c d) (h : DfaAt w0 d dv) (hn : n ≤ 20000 ∧ 1 ≤ c ∧ c ≤ 16) (hac : ∀ x ∈ d.accept, x < 2147483648) :
    Ret Try.prog 56 #[.agg dv.toArray] w0 fun r w => CanR c (beh d d.start) n w0.heap.size r w ∧ Ext w0 w := by
  refine (canon_c w0 n c d dv ok h hn hac).mono ?_
  rintro r w ⟨⟨C, cv, hC, hl, ha, rfl, hN⟩, e⟩
  have h1 := hN.at'
  obtain ⟨ca, cc, ma, mc, rfl, _, _⟩ := h1
  exact ⟨⟨C, ca, cc, ma, mc, hC, hl, ha, rfl, hN⟩, e⟩
set_option maxHeartbeats 8000000 in
theorem dfnot_c (w0 : World) (n c : Nat) (d : Dfa) (dv : List Value) (ok : OkD n c d) (h : DfaAt w0 d dv) (hn : 1 ≤ n ∧ n ≤ 19999 ∧ 1 ≤ c ∧ c ≤ 16) :
    Ret Try.prog 63 #[.agg dv.toArray] w0 fun r w => CanR c (fun w => fl (beh d d.start w)) (n + 1) w0.heap.size r w ∧ Ext w0 w := by
  obtain ⟨aa, ac, na, nc, rfl, hacc, hnxt⟩ := h
  have hnl := ok.nl
  have hal := ok.al
  have hst := ok.st
  rw [hal, hnl]
  rw [hal] at hacc
  rw [hnl] at hnxt
  obtain ⟨nb, no, rfl, hnx⟩ := intss_cells (n := n) hnxt (by omega)
  obtain ⟨ab, ao, rfl, hax⟩ := ints_cells (n := n) hacc (by omega)
  have hrowc : ∀ (s : Nat), s < n → ∃ row ra rc, d.next[s]? = some row ∧ row.length = c ∧ w0.cell? ⟨nb, no + s, none⟩ = some (.slice ra row.length rc) ∧ IntsAt w0 (.slice ra row.length rc) row := fun s hs => by
    obtain ⟨row, hrow⟩ := get_of_lt (l := d.next) (i := s) (by omega)
    have hrl := (ok.row row (List.mem_of_getElem? hrow)).1
    obtain ⟨ra, rc, h1, h2⟩ := hnx s row hrow
    exact ⟨row, ra, rc, hrow, hrl, h1, h2⟩
  have hab : ab < w0.heap.size := by
    obtain ⟨x, hx⟩ := get_of_lt (l := d.accept) (i := 0) (by omega)
    exact World.block_lt_of_cell? w0 _ (hax 0 x hx)
  have hnb : nb < w0.heap.size := by
    obtain ⟨row, ra, rc, _, _, h1, _⟩ := hrowc 0 (by omega)
    exact World.block_lt_of_cell? w0 _ h1
  refine Ret_of Try.func63 rfl Try.ntmps63 (Nat.le_of_ble_eq_true rfl) ?_
  have E : Chg none1 w0 w0 := Chg.refl _ _
  refine Wp_seq_region ?_
  refine s_box (v := (.agg #[(.int .i64 d.start), (.slice (some ⟨ab, ao, none⟩) n ac), (.slice (some ⟨nb, no, none⟩) n nc)])) (c := #[(.int .i64 d.start), (.slice (some ⟨ab, ao, none⟩) n ac), (.slice (some ⟨nb, no, none⟩) n nc)]) (by decide) rfl rfl ?_
  intro bd wd Nd
  have Fd := Nd.ge E
  replace E := E.ext Nd.ext
  have Bd := Nd.blk
  refine s_alloc (c := #[(.int .i64 0), (.slice none 0 0), (.slice none 0 0)]) (by decide) zer25 rfl ?_
  intro bo wo No
  have Fo := No.ge E
  have Oo_bd := No.lt Bd
  replace Bd := No.keep Bd
  replace E := E.ext No.ext
  have Bo := No.blk
  refine WpL_nil ?_
  refine Wp_seq_region ?_
  refine WpL_val rfl rfl (by decide) (r_fieldAddr (b := bd) (o := 0) (o' := 2) rfl Try.underlying25 rfl siz23 rfl) ?_
  refine WpL_val rfl rfl (by decide) (r_load (v := (.slice (some ⟨nb, no, none⟩) n nc)) rfl flat23 (Bd.cell rfl)) ?_
  refine WpL_val rfl rfl (by decide) (r_lenSlice (ad := some ⟨nb, no, none⟩) (n := n) (cap := nc) Try.underlying23 rfl) ?_
  refine WpL_val rfl rfl (by decide) (r_assign (v := (.int .i64 ((n : Nat) : Int))) rfl) ?_
  refine WpL_nil ?_
  refine Wp_seq_region ?_
  refine WpL_val rfl rfl (by decide) (r_fieldAddr (b := bd) (o := 0) (o' := 0) rfl Try.underlying25 rfl siz3 rfl) ?_
  refine WpL_val rfl rfl (by decide) (r_load (v := (.int .i64 d.start)) rfl flat3 (Bd.cell rfl)) ?_
  refine WpL_val rfl rfl (by decide) (r_build (ps := [(0, (.int .i64 d.start))]) (v := (.agg #[(.int .i64 d.start), (.slice none 0 0), (.slice none 0 0)])) rfl (by kernel_rfl)) ?_
  refine s_allocStore (v := (.agg #[(.int .i64 d.start), (.slice none 0 0), (.slice none 0 0)])) (c := #[(.int .i64 d.start), (.slice none 0 0), (.slice none 0 0)]) (n := 3) (by decide) zer25 rfl siz25 rfl rfl rfl (by simp [Value.oneCell']) ?_
  intro bx wx Nx
  have Fx := Nx.ge E
  have Ox_bd := Nx.lt Bd
  have Ox_bo := Nx.lt Bo
  replace Bd := Nx.keep Bd
  replace Bo := Nx.keep Bo
  replace E := E.ext Nx.ext
  have Bx := Nx.blk
  refine WpL_nil ?_
  refine Wp_seq ?_
  refine Wp_seq_region ?_
  refine WpL_val rfl rfl (by decide) (r_fieldAddr (b := bd) (o := 0) (o' := 2) rfl Try.underlying25 rfl siz23 rfl) ?_
  refine WpL_val rfl rfl (by decide) (r_load (v := (.slice (some ⟨nb, no, none⟩) n nc)) rfl flat23 (Bd.cell rfl)) ?_
  refine WpL_val rfl rfl (by decide) (r_lenSlice (ad := some ⟨nb, no, none⟩) (n := n) (cap := nc) Try.underlying23 rfl) ?_
  refine WpL_val rfl rfl (by decide) (r_move (v := (.int .i64 0)) rfl) ?_
  refine WpL_nil ?_
  refine Wp_block ?_
  have hbdl := Bd.lt
  have hbol := Bo.lt
  obtain ⟨n1, hn1e⟩ : ∃ n1, n1 = wx.heap.size := ⟨_, rfl⟩
  have hbxn : bx < n1 := by have := Bx.lt; omega
  refine Wp_loop (fun nn_ σ W1 => ∃ (i : Nat) (rows : List (List Int)) (acc : List Int) (vs : List Value) (ea na2 : Option Addr) (ec nc2 : Nat), (∃ jj_, σ = upds jj_ [(1, (.pointer (some ⟨bd, 0, none⟩))), (2, (.pointer (some ⟨bo, 0, none⟩))), (3, (.int .i64 ((n : Nat) : Int))), (4, (.pointer (some ⟨bx, 0, none⟩))), (17, (.slice (some ⟨nb, no, none⟩) n nc)), (18, (.int .i64 ((n : Nat) : Int))), (19, (.int .i64 ((i : Nat) : Int)))]) ∧ Chg none1 w0 W1 ∧ Blk W1 bd #[(.int .i64 d.start), (.slice (some ⟨ab, ao, none⟩) n ac), (.slice (some ⟨nb, no, none⟩) n nc)] 25 ∧ Blk W1 bo #[(.int .i64 0), (.slice none 0 0), (.slice none 0 0)] 25 ∧ Blk W1 bx (#[Value.int .i64 d.start, .slice ea i ec, .slice na2 i nc2]) 25 ∧ (i ≤ n) ∧ (rows = (d.next.take i).map (fun r => r.map (nt n))) ∧ (acc = (d.accept.take i).map fl) ∧ (OutSt W1 n1 (.slice ea i ec) (.slice na2 i nc2) vs acc rows) ∧ (n1 ≤ W1.heap.size) ∧ nn_ = n - i) (n := n - 0) ?_ ?_
  · exact ⟨0, [], [], [], none, none, 0, 0, Fits.out ⟨rfl, rfl, rfl, rfl, rfl, rfl, rfl, trivial⟩, E, Bd, Bo, Bx, Nat.zero_le _, rfl, rfl, OutSt.start _ _, (by omega), rfl⟩
  · clear E Bd Bo Bx
    rintro _ _ W1 ⟨i, rows, acc, vs, ea, na2, ec, nc2, ⟨j1, rfl⟩, E, Bd, Bo, Bx, hi, hrows, hacc2, hO, hsz, rfl⟩
    refine Wp_seq_region ?_
    refine WpL_val rfl rfl (by decide) (r_lss (k := .i64) (a := ((i : Nat) : Int)) (b := ((n : Nat) : Int)) rfl rfl) ?_
    refine WpL_nil ?_
    refine Wp_seq ?_
    refine Wp_cond (b := decide ((((i : Nat) : Int) : Int) < ((n : Nat) : Int))) rfl (fun hlt => ?_) (fun hlt => ?_)
    · have khlt := hlt
      replace hlt := of_decide_eq_true hlt
      obtain ⟨row, ra, rc, hrow, hrl, hcell, hri⟩ := hrowc i (by omega)
      obtain ⟨z0, hz0⟩ : ∃ z0, z0 = (W1).heap.size := ⟨_, rfl⟩
      have hOz : ∀ b, OutB (.slice ea i ec) (.slice na2 i nc2) vs b → b < z0 := fun b hb => by have := (hO.lt hb).2; omega
      have hnz : n1 ≤ z0 := by omega
      refine Wp_skip ?_
      refine thn_normal ?_
      refine Wp_seq ?_
      refine Wp_block ?_
      refine Wp_seq_region ?_
      refine WpL_val rfl rfl (by decide) (r_move (v := (.int .i64 ((i : Nat) : Int))) rfl) ?_
      refine WpL_val rfl rfl (by decide) (r_indexSlice (b := nb) (o := no) (len := n) (cap := nc) (i := i) (o' := no + i) rfl rfl rfl Try.underlying23 siz22 (by omega) (by omega)) ?_
      refine WpL_val rfl rfl (by decide) (r_load (v := (.slice ra row.length rc)) rfl flat22 (E.cell (fun f => f) hcell)) ?_
      refine WpL_val rfl rfl (by decide) (r_assign (v := (.int .i64 ((i : Nat) : Int))) rfl) ?_
      refine WpL_val rfl rfl (by decide) (r_assign (v := (.slice ra row.length rc)) rfl) ?_
      refine WpL_nil ?_
      refine Wp_seq_region ?_
      refine WpL_val rfl rfl (by decide) (r_move (v := (.slice ra row.length rc)) rfl) ?_
      refine WpL_enter rfl rfl (by decide) (r_callF (vs := [(.slice ra row.length rc)]) Try.func74 nm74 bd74 rfl) (cloneo_c _ _ row (hri.ext E) (by omega) (by omega)) ?_
      rintro _ w9 ⟨⟨bq, rest, k9, rfl, hq, hQ, hk9, hkm⟩, X9⟩
      replace Bd := X9.keep Bd
      replace Bo := X9.keep Bo
      replace Bx := X9.keep Bx
      replace hO := hO.ext X9
      replace hsz := Nat.le_trans hsz X9.size
      replace E := E.ext X9
      have hqz : z0 ≤ bq := by omega
      rw [show row.map (Value.int .i64) = (ntR n row 0).map (Value.int .i64) by rw [ntR_zero]] at hQ
      refine WpL_val rfl rfl (by decide) (r_assign (v := (.slice (some ⟨bq, 0, none⟩) row.length k9)) rfl) ?_
      refine WpL_nil ?_
      refine Wp_seq ?_
      refine Wp_seq_region ?_
      refine WpL_val rfl rfl (by decide) (r_move (v := (.slice (some ⟨bq, 0, none⟩) row.length k9)) rfl) ?_
      refine WpL_val rfl rfl (by decide) (r_lenSlice (ad := some ⟨bq, 0, none⟩) (n := row.length) (cap := k9) Try.underlying22 rfl) ?_
      refine WpL_val rfl rfl (by decide) (r_move (v := (.int .i64 0)) rfl) ?_
      refine WpL_nil ?_
      refine Wp_block ?_
      refine Wp_loop (fun nn_ σ W3 => ∃ (x : Nat), (∃ jj_, σ = upds jj_ [(1, (.pointer (some ⟨bd, 0, none⟩))), (2, (.pointer (some ⟨bo, 0, none⟩))), (3, (.int .i64 ((n : Nat) : Int))), (4, (.pointer (some ⟨bx, 0, none⟩))), (5, (.int .i64 ((i : Nat) : Int))), (7, (.slice (some ⟨bq, 0, none⟩) row.length k9)), (17, (.slice (some ⟨nb, no, none⟩) n nc)), (18, (.int .i64 ((n : Nat) : Int))), (19, (.int .i64 ((i : Nat) : Int))), (26, (.slice (some ⟨bq, 0, none⟩) row.length k9)), (27, (.int .i64 ((row.length : Nat) : Int))), (28, (.int .i64 ((x : Nat) : Int)))]) ∧ Chg none1 w0 W3 ∧ Blk W3 bd #[(.int .i64 d.start), (.slice (some ⟨ab, ao, none⟩) n ac), (.slice (some ⟨nb, no, none⟩) n nc)] 25 ∧ Blk W3 bo #[(.int .i64 0), (.slice none 0 0), (.slice none 0 0)] 25 ∧ Blk W3 bx (#[Value.int .i64 d.start, .slice ea i ec, .slice na2 i nc2]) 25 ∧ Blk W3 bq (((ntR n row x).map (Value.int .i64) ++ rest).toArray) 3 ∧ (x ≤ c) ∧ (OutSt W3 n1 (.slice ea i ec) (.slice na2 i nc2) vs acc rows) ∧ (n1 ≤ W3.heap.size) ∧ nn_ = c - x) (n := c - 0) ?_ ?_
      · exact ⟨0, Fits.out ⟨rfl, rfl, rfl, rfl, rfl, rfl, rfl, rfl, rfl, rfl, rfl, rfl, trivial⟩, E, Bd, Bo, Bx, hQ, Nat.zero_le _, hO, hsz, rfl⟩
      · clear E Bd Bo Bx hQ
        rintro _ _ W3 ⟨x, ⟨j3, rfl⟩, E, Bd, Bo, Bx, hQ, hx, hO, hsz, rfl⟩
        refine Wp_seq_region ?_
        refine WpL_val rfl rfl (by decide) (r_lss (k := .i64) (a := ((x : Nat) : Int)) (b := ((row.length : Nat) : Int)) rfl rfl) ?_
        refine WpL_nil ?_
        refine Wp_seq ?_
        refine Wp_cond (b := decide ((((x : Nat) : Int) : Int) < ((row.length : Nat) : Int))) rfl (fun hlt2 => ?_) (fun hlt2 => ?_)
        · have khlt2 := hlt2
          replace hlt2 := of_decide_eq_true hlt2
          obtain ⟨t, ht⟩ := get_of_lt (l := row) (i := x) (by omega)
          refine Wp_skip ?_
          refine thn_normal ?_
          refine Wp_seq ?_
          refine Wp_block ?_
          refine Wp_seq_region ?_
          refine WpL_val rfl rfl (by decide) (r_move (v := (.int .i64 ((x : Nat) : Int))) rfl) ?_
          refine WpL_val rfl rfl (by decide) (r_indexSlice (b := bq) (o := 0) (len := row.length) (cap := k9) (i := x) (o' := 0 + x) rfl rfl rfl Try.underlying22 siz3 (by omega) (by omega)) ?_
          refine WpL_val rfl rfl (by decide) (r_load (v := (.int .i64 t)) rfl flat3 (by rw [Nat.zero_add]; exact ints_get hQ (ntR_get ht))) ?_
          refine WpL_val rfl rfl (by decide) (r_assign (v := (.int .i64 ((x : Nat) : Int))) rfl) ?_
          refine WpL_val rfl rfl (by decide) (r_assign (v := (.int .i64 t)) rfl) ?_
          refine WpL_nil ?_
          refine Wp_seq_region ?_
          refine WpL_val rfl rfl (by decide) (r_move (v := (.int .i64 t)) rfl) ?_
          refine WpL_val rfl rfl (by decide) (r_lss (k := .i64) (a := t) (b := 0) rfl rfl) ?_
          refine WpL_nil ?_
          refine Wp_cond (b := decide ((t : Int) < 0)) rfl (fun hneg => ?_) (fun hneg => ?_)
          · have khneg := hneg
            replace hneg := of_decide_eq_true hneg
            refine Wp_region ?_
            refine WpL_val rfl rfl (by decide) (r_move (v := (.slice (some ⟨bq, 0, none⟩) row.length k9)) rfl) ?_
            refine WpL_val rfl rfl (by decide) (r_move (v := (.int .i64 ((x : Nat) : Int))) rfl) ?_
            refine WpL_val rfl rfl (by decide) (r_move (v := (.int .i64 ((n : Nat) : Int))) rfl) ?_
            refine WpL_val rfl rfl (by decide) (r_indexSlice (b := bq) (o := 0) (len := row.length) (cap := k9) (i := x) (o' := 0 + x) rfl rfl rfl Try.underlying22 siz3 (by omega) (by omega)) ?_
            refine s_store (b := bq) (o := 0 + x) (c' := ((ntR n row (x + 1)).map (Value.int .i64) ++ rest).toArray) (v := (.int .i64 ((n : Nat) : Int))) rfl rfl rfl siz3 hQ (by simp [ntR_len]; omega) (by rw [Nat.zero_add, ints_set (by rw [ntR_len]; omega), ntR_set ht hneg]) ?_
            intro w6 S6
            replace hO := hO.chg S6.chg fun b hb h => by have := hOz b hb; have h' : b = bq := h; omega
            replace hsz := Nat.le_trans hsz S6.chg.size
            replace Bd := S6.keep (by omega) Bd
            replace Bo := S6.keep (by omega) Bo
            replace Bx := S6.keep (by omega) Bx
            replace E := S6.step E (by first | exact Or.inl (by omega) | exact Or.inr rfl | exact Or.inr (by assumption) | exact Or.inr (by simp) | exact Or.inr (by omega) | exact Or.inr (by dsimp only; omega))
            replace hQ := S6.blk
            refine WpL_nil ?_
            refine inB_normal ?_
            refine thn_normal ?_
            refine Wp_region ?_
            refine WpL_val rfl rfl (by decide) (r_add (k := .i64) (a := ((x : Nat) : Int)) (b := 1) (c := ((x : Nat) : Int) + 1) rfl rfl (wI64 (by omega))) ?_
            refine WpL_val rfl rfl (by decide) (r_move (v := (.int .i64 (((x : Nat) : Int) + 1))) rfl) ?_
            refine WpL_nil ?_
            refine thn_normal ?_
            exact ⟨c - (x + 1), by omega, x + 1, Fits.out ⟨rfl, rfl, rfl, rfl, rfl, rfl, rfl, rfl, rfl, rfl, rfl, rfl, trivial⟩, E, Bd, Bo, Bx, hQ, (by omega), hO, hsz, rfl⟩
          · have khneg := hneg
            replace hneg := of_decide_eq_false hneg
            rw [ntR_same ht hneg] at hQ
            refine Wp_skip ?_
            refine inB_normal ?_
            refine thn_normal ?_
            refine Wp_region ?_
            refine WpL_val rfl rfl (by decide) (r_add (k := .i64) (a := ((x : Nat) : Int)) (b := 1) (c := ((x : Nat) : Int) + 1) rfl rfl (wI64 (by omega))) ?_
            refine WpL_val rfl rfl (by decide) (r_move (v := (.int .i64 (((x : Nat) : Int) + 1))) rfl) ?_
            refine WpL_nil ?_
            refine thn_normal ?_
            exact ⟨c - (x + 1), by omega, x + 1, Fits.out ⟨rfl, rfl, rfl, rfl, rfl, rfl, rfl, rfl, rfl, rfl, rfl, rfl, trivial⟩, E, Bd, Bo, Bx, hQ, (by omega), hO, hsz, rfl⟩
        · have khlt2 := hlt2
          replace hlt2 := of_decide_eq_false hlt2
          have hxc : x = row.length := by omega
          rw [hxc, ntR_all] at hQ
          have hUq := own_cap (base := bq) hQ (Nat.le_refl _) (by rw [List.length_map]; exact hk9) hkm
          rw [List.length_map] at hUq
          obtain ⟨n4, hn4⟩ : ∃ n4, n4 = (W3).heap.size := ⟨_, rfl⟩
          have hir : rows.length = i := by rw [hrows, List.length_map, List.length_take]; omega
          have hale : acc.length = i := by rw [hacc2, List.length_map, List.length_take]; omega
          have hOe : (W3).ownsRow n1 TDI 1 (.slice ea i ec) i (acc.map (Value.int .i64)) := by have h9 := hO.e; rwa [hale] at h9
          have hOn : (W3).ownsRow n1 TDIs 1 (.slice na2 i nc2) i vs := hO.n.on (by rw [List.length_map]; omega)
          have hat := acc_at ok (show i < n by omega)
          obtain ⟨yv, hyv⟩ : ∃ y, y = atD d ((i : Nat) : Int) := ⟨_, rfl⟩
          rw [← hyv] at hat
          refine Wp_exit ?_
          refine thn_exit ?_
          refine thn_exit ?_
          refine inB_here ?_
          refine thn_normal ?_
          obtain ⟨Fs7, hFs7⟩ : ∃ Fs : List FctE, Fs = [(fun _ v _ => v = (.pointer (some ⟨bx, 2, none⟩))), (fun _ v _ => v = (.slice na2 i nc2)), (fun _ v _ => v = (.slice (some ⟨bq, 0, none⟩) row.length k9)), (fun _ => litF TDIs #[.slice (some ⟨bq, 0, none⟩) row.length k9] n4), (fun _ => appF n1 TDIs 1 (i + 1) (vs ++ [Value.slice (some ⟨bq, 0, none⟩) row.length k9]) (.slice na2 i nc2) n4), (fun _ v _ => v = (.pointer (some ⟨bx, 1, none⟩))), (fun _ v _ => v = (.slice ea i ec)), (fun _ v _ => v = (.pointer (some ⟨bd, 1, none⟩))), (fun _ v _ => v = (.slice (some ⟨ab, ao, none⟩) n ac)), (fun _ v _ => v = (.int .i64 ((i : Nat) : Int))), (fun _ v _ => v = (.pointer (some ⟨ab, ao + i, none⟩))), (fun _ v _ => v = (.int .i64 yv)), (fun _ v _ => v = (.bool (decide (yv < 0)))), (fun _ v _ => v = (.int .i64 (fl yv))), (fun _ => litF TDI #[.int .i64 (fl yv)] n4), (fun s v w => appF n1 TDI 1 (i + 1) (acc.map (Value.int .i64) ++ [Value.int .i64 (fl yv)]) (.slice ea i ec) n4 v w ∧ ∀ b, (s 44).ownBlock = some b → v.ownBlock ≠ some b), (fun _ v _ => v = (.pointer (some ⟨bx, 2, none⟩)))] := ⟨_, rfl⟩
          refine Wp_dagX (two 4 15 (fun b => (Value.slice na2 i nc2).ownBlock = some b) (fun b => (Value.slice ea i ec).ownBlock = some b)) 17 [40, 41, 42, 43, 44, 45, 46, 47, 48, 49, 50, 51, 52, 53, 54, 55, 56] [[], [0], [], [2], [1, 3], [], [5], [], [7], [], [8, 9], [10], [11], [4, 12], [13], [6, 13, 14], [0, 1, 2, 3, 4, 5, 6]] [[], [0], [], [2], [1, 0, 3, 2], [], [5], [], [7], [], [8, 7, 9], [10, 8, 7, 9], [11, 10, 8, 7, 9], [4, 1, 0, 3, 2, 12, 11, 10, 8, 7, 9], [13, 4, 1, 0, 3, 2, 12, 11, 10, 8, 7, 9], [6, 5, 13, 4, 1, 0, 3, 2, 12, 11, 10, 8, 7, 9, 14], [0, 1, 2, 3, 4, 5, 6]] Fs7 hFs7 (by kernel_rfl) mixed (by kernel_rfl) (by kernel_rfl) (by kernel_rfl) ?_ ?_
          · intro wd X0
            refine DagStepsX.cons (StabX.eq) (fun _ _ _ _ _ h => h) (fun s' w' X U H => ?_) ?_
            · exact DoesT_val (r_fieldAddr (b := bx) (o := 0) (o' := 2) (U 4 rfl) Try.underlying25 rfl siz23 rfl) (Chg.refl _ _) rfl
            refine DagStepsX.cons (StabX.eq) (fun _ _ _ _ _ h => h) (fun s' w' X U H => ?_) ?_
            · have e40 : s' 40 = (.pointer (some ⟨bx, 2, none⟩)) := H 0 rfl 40 ((fun _ v _ => v = (.pointer (some ⟨bx, 2, none⟩)))) rfl (by rw [hFs7]; rfl)
              exact DoesT_val (r_load (v := (.slice na2 i nc2)) e40 flat23 ((Chg.keep X (fun h => (fun h => h.elim (fun h => by have := (hOn.lt _ h).1; omega) (fun h => by have := (hOe.lt _ h).1; omega)) (Past.or h)) (X0.keep Bx)).cell rfl)) (Chg.refl _ _) rfl
            refine DagStepsX.cons (StabX.eq) (fun _ _ _ _ _ h => h) (fun s' w' X U H => ?_) ?_
            · exact DoesT_val (r_move (v := (.slice (some ⟨bq, 0, none⟩) row.length k9)) (U 7 rfl)) (Chg.refl _ _) rfl
            refine DagStepsX.cons (litF_stab (fun y h => by have := (hOn.lt y h).2; omega) (fun y h => by have := (hOe.lt y h).2; omega)) (LocX.const) (fun s' w' X U H => ?_) ?_
            · have e42 : s' 42 = (.slice (some ⟨bq, 0, none⟩) row.length k9) := H 2 rfl 42 ((fun _ v _ => v = (.slice (some ⟨bq, 0, none⟩) row.length k9))) rfl (by rw [hFs7]; rfl)
              exact DoesT_lit (hs := n4) Try.underlying23 siz22 zer22 e42 (by decide) (by decide) (by kernel_rfl) (by have := X0.size; have := X.size; omega)
            refine DagStepsX.cons (appF_st1 (fun k hk hm => hk.elim (fun h => hO.en k hm h) (fun h => by have := (hOe.lt k hm).2; omega))) (LocX.const) (fun s' w' X U H => ?_) ?_
            · have e41 : s' 41 = (.slice na2 i nc2) := H 1 rfl 41 ((fun _ v _ => v = (.slice na2 i nc2))) rfl (by rw [hFs7]; rfl)
              obtain ⟨b43, e43, B43, g43⟩ := (show ((fun _ => litF TDIs #[.slice (some ⟨bq, 0, none⟩) row.length k9] n4) : FctE) s' (s' 43) w' from H 3 rfl 43 ((fun _ => litF TDIs #[.slice (some ⟨bq, 0, none⟩) row.length k9] n4)) rfl (by rw [hFs7]; rfl))
              exact DoesT_append (hs := n4) Try.underlying23 siz22 byt22 zer22 rfl (by decide) e41 (own_ext (own_ext hOn X0) (X.mono (fun y _ h => Past.none rfl rfl h))) e43 rfl (B43.cells rfl) (by simp [Value.oneCell']) (by unfold maxLen; omega) (by omega) (by have := X0.size; have := X.size; omega) (fun y h => h) (by have := X0.size; have := X.size; omega)
            refine DagStepsX.cons (StabX.eq) (fun _ _ _ _ _ h => h) (fun s' w' X U H => ?_) ?_
            · exact DoesT_val (r_fieldAddr (b := bx) (o := 0) (o' := 1) (U 4 rfl) Try.underlying25 rfl siz22 rfl) (Chg.refl _ _) rfl
            refine DagStepsX.cons (StabX.eq) (fun _ _ _ _ _ h => h) (fun s' w' X U H => ?_) ?_
            · have e45 : s' 45 = (.pointer (some ⟨bx, 1, none⟩)) := H 5 rfl 45 ((fun _ v _ => v = (.pointer (some ⟨bx, 1, none⟩)))) rfl (by rw [hFs7]; rfl)
              exact DoesT_val (r_load (v := (.slice ea i ec)) e45 flat22 ((Chg.keep X (fun h => (fun h => h.elim (fun h => by have := (hOn.lt _ h).1; omega) (fun h => by have := (hOe.lt _ h).1; omega)) (Past.or h)) (X0.keep Bx)).cell rfl)) (Chg.refl _ _) rfl
            refine DagStepsX.cons (StabX.eq) (fun _ _ _ _ _ h => h) (fun s' w' X U H => ?_) ?_
            · exact DoesT_val (r_fieldAddr (b := bd) (o := 0) (o' := 1) (U 1 rfl) Try.underlying25 rfl siz22 rfl) (Chg.refl _ _) rfl
            refine DagStepsX.cons (StabX.eq) (fun _ _ _ _ _ h => h) (fun s' w' X U H => ?_) ?_
            · have e47 : s' 47 = (.pointer (some ⟨bd, 1, none⟩)) := H 7 rfl 47 ((fun _ v _ => v = (.pointer (some ⟨bd, 1, none⟩)))) rfl (by rw [hFs7]; rfl)
              exact DoesT_val (r_load (v := (.slice (some ⟨ab, ao, none⟩) n ac)) e47 flat22 ((Chg.keep X (fun h => (fun h => h.elim (fun h => by have := (hOn.lt _ h).1; omega) (fun h => by have := (hOe.lt _ h).1; omega)) (Past.or h)) (X0.keep Bd)).cell rfl)) (Chg.refl _ _) rfl
            refine DagStepsX.cons (StabX.eq) (fun _ _ _ _ _ h => h) (fun s' w' X U H => ?_) ?_
            · exact DoesT_val (r_move (v := (.int .i64 ((i : Nat) : Int))) (U 5 rfl)) (Chg.refl _ _) rfl
            refine DagStepsX.cons (StabX.eq) (fun _ _ _ _ _ h => h) (fun s' w' X U H => ?_) ?_
            · have e48 : s' 48 = (.slice (some ⟨ab, ao, none⟩) n ac) := H 8 rfl 48 ((fun _ v _ => v = (.slice (some ⟨ab, ao, none⟩) n ac))) rfl (by rw [hFs7]; rfl)
              have e49 : s' 49 = (.int .i64 ((i : Nat) : Int)) := H 9 rfl 49 ((fun _ v _ => v = (.int .i64 ((i : Nat) : Int)))) rfl (by rw [hFs7]; rfl)
              exact DoesT_val (r_indexSlice (b := ab) (o := ao) (len := n) (cap := ac) (i := i) (o' := ao + i) e48 e49 rfl Try.underlying22 siz3 (by omega) (by omega)) (Chg.refl _ _) rfl
            refine DagStepsX.cons (StabX.eq) (fun _ _ _ _ _ h => h) (fun s' w' X U H => ?_) ?_
            · have e50 : s' 50 = (.pointer (some ⟨ab, ao + i, none⟩)) := H 10 rfl 50 ((fun _ v _ => v = (.pointer (some ⟨ab, ao + i, none⟩)))) rfl (by rw [hFs7]; rfl)
              exact DoesT_val (r_load (v := (.int .i64 yv)) e50 flat3 (Chg.cell X (fun h => (Past.or h).elim (fun h => by have := (hOn.lt ab h).1; omega) (fun h => by have := (hOe.lt ab h).1; omega)) (X0.cell (E.cell (fun f => f) (hax i _ hat))))) (Chg.refl _ _) rfl
            refine DagStepsX.cons (StabX.eq) (fun _ _ _ _ _ h => h) (fun s' w' X U H => ?_) ?_
            · have e51 : s' 51 = (.int .i64 yv) := H 11 rfl 51 ((fun _ v _ => v = (.int .i64 yv))) rfl (by rw [hFs7]; rfl)
              exact DoesT_val (r_lss e51 rfl) (Chg.refl _ _) rfl
            refine DagStepsX.cons (StabX.eq) (fun _ _ _ _ _ h => h) (fun s' w' X U H => ?_) ?_
            · have e52 : s' 52 = (.bool (decide (yv < 0))) := H 12 rfl 52 ((fun _ v _ => v = (.bool (decide (yv < 0))))) rfl (by rw [hFs7]; rfl)
              exact DoesT_enter (r_callF (vs := [(.bool (decide (yv < 0)))]) Try.func92 nm92 bd92 (lst1 e52)) (dfflag2_c yv _)
            refine DagStepsX.cons (litF_stab (fun y h => by have := (hOn.lt y h).2; omega) (fun y h => by have := (hOe.lt y h).2; omega)) (LocX.const) (fun s' w' X U H => ?_) ?_
            · have e53 : s' 53 = (.int .i64 (fl yv)) := H 13 rfl 53 ((fun _ v _ => v = (.int .i64 (fl yv)))) rfl (by rw [hFs7]; rfl)
              exact DoesT_lit (hs := n4) Try.underlying22 siz3 zer3 e53 (by decide) (by decide) (by kernel_rfl) (by have := X0.size; have := X.size; omega)
            refine DagStepsX.cons (appF_st2 rfl) (fun s1 s2 h v w h2 => ⟨h2.1, by have := h 4 44 rfl rfl; rw [this]; exact h2.2⟩) (fun s' w' X U H => ?_) ?_
            · have e46 : s' 46 = (.slice ea i ec) := H 6 rfl 46 ((fun _ v _ => v = (.slice ea i ec))) rfl (by rw [hFs7]; rfl)
              obtain ⟨b54, e54, B54, g54⟩ := (show ((fun _ => litF TDI #[.int .i64 (fl yv)] n4) : FctE) s' (s' 54) w' from H 14 rfl 54 ((fun _ => litF TDI #[.int .i64 (fl yv)] n4)) rfl (by rw [hFs7]; rfl))
              exact app_two (H 4 rfl 44 _ rfl (by rw [hFs7]; rfl)) (DoesT_append (hs := w'.heap.size) Try.underlying22 siz3 byt3 zer3 rfl (by decide) e46 (own_chg (own_ext hOe X0) (X.mono (fun y _ h => Past.fst rfl h)) (fun k hk hm => hO.en k hk hm)) e54 rfl (B54.cells rfl) (by simp [Value.oneCell']) (by unfold maxLen; omega) (by omega) (by have := X0.size; have := X.size; omega) (fun y h => h) (Nat.le_refl _)) (by have := X0.size; have := X.size; omega) (fun k h1 h2 => h1.elim (fun h => hO.en k h2 h) (fun h => by have := (hOe.lt k h2).2; omega))
            refine DagStepsX.cons (StabX.eq) (fun _ _ _ _ _ h => h) (fun s' w' X U H => ?_) ?_
            · exact DoesT_val (r_fieldAddr (b := bx) (o := 0) (o' := 2) (U 4 rfl) Try.underlying25 rfl siz23 rfl) (Chg.refl _ _) rfl
            exact DagStepsX.nil
          · intro s' wd7 w7 X0 X7 U H
            replace X7 := X7.mono (M' := fun y => (fun b => (Value.slice na2 i nc2).ownBlock = some b) y ∨ (fun b => (Value.slice ea i ec).ownBlock = some b) y) (fun y _ h => by obtain ⟨j, h⟩ := h; rcases two_or h with h | h; exact .inl h.2; exact .inr h.2)
            obtain ⟨⟨a44, c44, e44⟩, O44, D44⟩ := (show ((fun _ => appF n1 TDIs 1 (i + 1) (vs ++ [Value.slice (some ⟨bq, 0, none⟩) row.length k9]) (.slice na2 i nc2) n4) : FctE) s' (s' 44) w7 from H 4 44 ((fun _ => appF n1 TDIs 1 (i + 1) (vs ++ [Value.slice (some ⟨bq, 0, none⟩) row.length k9]) (.slice na2 i nc2) n4)) rfl (by rw [hFs7]; rfl))
            obtain ⟨⟨⟨a55, c55, e55⟩, O55, D55⟩, A55⟩ := (show ((fun s v w => appF n1 TDI 1 (i + 1) (acc.map (Value.int .i64) ++ [Value.int .i64 (fl yv)]) (.slice ea i ec) n4 v w ∧ ∀ b, (s 44).ownBlock = some b → v.ownBlock ≠ some b) : FctE) s' (s' 55) w7 from H 15 55 ((fun s v w => appF n1 TDI 1 (i + 1) (acc.map (Value.int .i64) ++ [Value.int .i64 (fl yv)]) (.slice ea i ec) n4 v w ∧ ∀ b, (s 44).ownBlock = some b → v.ownBlock ≠ some b)) rfl (by rw [hFs7]; rfl))
            have e56 : s' 56 = (.pointer (some ⟨bx, 2, none⟩)) := H 16 56 ((fun _ v _ => v = (.pointer (some ⟨bx, 2, none⟩)))) rfl (by rw [hFs7]; rfl)
            obtain ⟨j7, rfl⟩ := Fits.out (σ := s') (l := [(1, (.pointer (some ⟨bd, 0, none⟩))), (2, (.pointer (some ⟨bo, 0, none⟩))), (3, (.int .i64 ((n : Nat) : Int))), (4, (.pointer (some ⟨bx, 0, none⟩))), (17, (.slice (some ⟨nb, no, none⟩) n nc)), (18, (.int .i64 ((n : Nat) : Int))), (19, (.int .i64 ((i : Nat) : Int))), (44, (.slice a44 (i + 1) c44)), (55, (.slice a55 (i + 1) c55)), (56, (.pointer (some ⟨bx, 2, none⟩)))]) ⟨U 1 rfl, U 2 rfl, U 3 rfl, U 4 rfl, U 17 rfl, U 18 rfl, U 19 rfl, e44, e55, e56, trivial⟩
            clear U H
            replace Bd := Chg.keep X7 (fun h => h.elim (fun h => by have := (hOn.lt _ h).1; omega) (fun h => by have := (hOe.lt _ h).1; omega)) (X0.keep Bd)
            replace Bo := Chg.keep X7 (fun h => h.elim (fun h => by have := (hOn.lt _ h).1; omega) (fun h => by have := (hOe.lt _ h).1; omega)) (X0.keep Bo)
            replace Bx := Chg.keep X7 (fun h => h.elim (fun h => by have := (hOn.lt _ h).1; omega) (fun h => by have := (hOe.lt _ h).1; omega)) (X0.keep Bx)
            replace hQ := Chg.keep X7 (fun h => h.elim (fun h => by have := hOz _ (.inr (.inl h)); omega) (fun h => by have := hOz _ (.inl h); omega)) (X0.keep hQ)
            have hXm := Chg.trans (Ext.chg X0) X7
            replace E := (E.ext X0).step X7 (fun y hy h => h.elim (fun h => by have := (hOn.lt y h).1; omega) (fun h => by have := (hOe.lt y h).1; omega))
            rw [e44] at O44 D44 A55
            rw [e55] at O55 D55 A55
            have hO2 := hO.push (y := fl yv) (row := row.map (nt n)) (N' := .slice a44 (i + 1) c44) (E' := .slice a55 (i + 1) c55) hUq (by rw [List.length_map]) (by omega) (fun b hb => by have := hOz b hb; omega) hXm (by rw [hir]; exact O44) (fun k hk => by rw [← hn4]; exact D44 k hk) (by rw [hale, List.map_append]; exact O55) (fun k hk => by rw [← hn4]; exact D55 k hk) A55
            have hsz2 := Nat.le_trans hsz hXm.size
            refine s_store (b := bx) (o := 2) (c' := #[(.int .i64 d.start), (.slice ea i ec), (.slice a44 (i + 1) c44)]) (v := (.slice a44 (i + 1) c44)) rfl rfl rfl siz23 Bx (by simp) rfl ?_
            intro w8 S8
            replace hO2 := hO2.chg S8.chg fun b hb h => by have := (hO2.lt hb).1; have h' : b = bx := h; omega
            replace hsz2 := Nat.le_trans hsz2 S8.chg.size
            replace Bd := S8.keep (by omega) Bd
            replace Bo := S8.keep (by omega) Bo
            replace hQ := S8.keep (by omega) hQ
            replace E := S8.step E (by first | exact Or.inl (by omega) | exact Or.inr rfl | exact Or.inr (by assumption) | exact Or.inr (by simp) | exact Or.inr (by omega) | exact Or.inr (by dsimp only; omega))
            replace Bx := S8.blk
            refine WpL_val rfl rfl (by decide) (r_fieldAddr (b := bx) (o := 0) (o' := 1) rfl Try.underlying25 rfl siz22 rfl) ?_
            refine s_store (b := bx) (o := 1) (c' := #[(.int .i64 d.start), (.slice a55 (i + 1) c55), (.slice a44 (i + 1) c44)]) (v := (.slice a55 (i + 1) c55)) rfl rfl rfl siz22 Bx (by simp) rfl ?_
            intro w9 S9
            replace hO2 := hO2.chg S9.chg fun b hb h => by have := (hO2.lt hb).1; have h' : b = bx := h; omega
            replace hsz2 := Nat.le_trans hsz2 S9.chg.size
            replace Bd := S9.keep (by omega) Bd
            replace Bo := S9.keep (by omega) Bo
            replace hQ := S9.keep (by omega) hQ
            replace E := S9.step E (by first | exact Or.inl (by omega) | exact Or.inr rfl | exact Or.inr (by assumption) | exact Or.inr (by simp) | exact Or.inr (by omega) | exact Or.inr (by dsimp only; omega))
            replace Bx := S9.blk
            refine WpL_nil ?_
            refine inB_normal ?_
            refine thn_normal ?_
            refine Wp_region ?_
            refine WpL_val rfl rfl (by decide) (r_add (k := .i64) (a := ((i : Nat) : Int)) (b := 1) (c := ((i : Nat) : Int) + 1) rfl rfl (wI64 (by omega))) ?_
            refine WpL_val rfl rfl (by decide) (r_move (v := (.int .i64 (((i : Nat) : Int) + 1))) rfl) ?_
            refine WpL_nil ?_
            refine thn_normal ?_
            exact ⟨n - (i + 1), by omega, i + 1, rows ++ [row.map (nt n)], acc ++ [fl yv], vs ++ [.slice (some ⟨bq, 0, none⟩) row.length k9], a55, a44, c55, c44, Fits.out ⟨rfl, rfl, rfl, rfl, rfl, rfl, rfl, trivial⟩, E, Bd, Bo, Bx, (by omega), (by rw [take_snoc' hrow, List.map_append, hrows]; rfl), (by rw [take_snoc' hat, List.map_append, hacc2]; rfl), hO2, hsz2, rfl⟩
    · have khlt := hlt
      replace hlt := of_decide_eq_false hlt
      have hin : i = n := by omega
      obtain ⟨row0, ra0, rc0, hrow0, hrl0, hcell0, hri0⟩ := hrowc 0 (by omega)
      obtain ⟨n4, hn4⟩ : ∃ n4, n4 = (W1).heap.size := ⟨_, rfl⟩
      have hir : rows.length = n := by rw [hrows, List.length_map, List.length_take]; omega
      have hale : acc.length = n := by rw [hacc2, List.length_map, List.length_take]; omega
      rw [hin] at hO Bx
      have hOe : (W1).ownsRow n1 TDI 1 (.slice ea n ec) n (acc.map (Value.int .i64)) := by have h9 := hO.e; rwa [hale] at h9
      have hOn : (W1).ownsRow n1 TDIs 1 (.slice na2 n nc2) n vs := hO.n.on (by rw [List.length_map]; omega)
      refine Wp_exit ?_
      refine thn_exit ?_
      refine thn_exit ?_
      refine inB_here ?_
      refine thn_normal ?_
      refine Wp_seq ?_
      obtain ⟨Fs10, hFs10⟩ : ∃ Fs : List FctE, Fs = [(fun _ v _ => v = (.pointer (some ⟨bx, 2, none⟩))), (fun _ v _ => v = (.slice na2 n nc2)), (fun _ v _ => v = (.int .i64 ((n : Nat) : Int))), (fun _ => litF TDI #[.int .i64 (n : Int)] n4), (fun _ v _ => v = (.pointer (some ⟨bd, 2, none⟩))), (fun _ v _ => v = (.slice (some ⟨nb, no, none⟩) n nc)), (fun _ v _ => v = (.pointer (some ⟨nb, no + 0, none⟩))), (fun _ v _ => v = (.slice ra0 row0.length rc0)), (fun _ v _ => v = (.int .i64 ((row0.length : Nat) : Int))), (fun _ => appF n4 TDI 1 row0.length ((List.replicate row0.length (n : Int)).map (Value.int .i64)) (.slice none 0 0) n4), (fun s v w => litF TDIs #[s 68] n4 v w), (fun s v w => appF n1 TDIs 1 (n + 1) (vs ++ [s 68]) (.slice na2 n nc2) n4 v w ∧ ∀ b, (s 68).ownBlock = some b → v.ownBlock ≠ some b), (fun _ v _ => v = (.pointer (some ⟨bx, 1, none⟩))), (fun _ v _ => v = (.slice ea n ec)), (fun _ => litF TDI #[.int .i64 0] n4), (fun _ => appF n1 TDI 1 (n + 1) (acc.map (Value.int .i64) ++ [Value.int .i64 0]) (.slice ea n ec) n4), (fun _ v _ => v = (.pointer (some ⟨bx, 2, none⟩)))] := ⟨_, rfl⟩
      refine Wp_dagX (two 11 15 (fun b => (Value.slice na2 n nc2).ownBlock = some b) (fun b => (Value.slice ea n ec).ownBlock = some b)) 17 [59, 60, 61, 62, 63, 64, 65, 66, 67, 68, 69, 70, 71, 72, 73, 74, 75] [[], [0], [], [2], [], [4], [5], [6], [7], [3, 8], [9], [1, 9, 10], [], [12], [], [11, 13, 14], [0, 1, 2, 3, 4, 5, 6, 7, 8, 9, 10, 11, 12, 13]] [[], [0], [], [2], [], [4], [5, 4], [6, 5, 4], [7, 6, 5, 4], [3, 2, 8, 7, 6, 5, 4], [9, 3, 2, 8, 7, 6, 5, 4], [1, 0, 9, 3, 2, 8, 7, 6, 5, 4, 10], [], [12], [], [11, 1, 0, 9, 3, 2, 8, 7, 6, 5, 4, 10, 13, 12, 14], [0, 1, 2, 3, 4, 5, 6, 7, 8, 9, 10, 11, 12, 13]] Fs10 hFs10 (by kernel_rfl) mixed (by kernel_rfl) (by kernel_rfl) (by kernel_rfl) ?_ ?_
      · intro wd X0
        refine DagStepsX.cons (StabX.eq) (fun _ _ _ _ _ h => h) (fun s' w' X U H => ?_) ?_
        · exact DoesT_val (r_fieldAddr (b := bx) (o := 0) (o' := 2) (U 4 rfl) Try.underlying25 rfl siz23 rfl) (Chg.refl _ _) rfl
        refine DagStepsX.cons (StabX.eq) (fun _ _ _ _ _ h => h) (fun s' w' X U H => ?_) ?_
        · have e59 : s' 59 = (.pointer (some ⟨bx, 2, none⟩)) := H 0 rfl 59 ((fun _ v _ => v = (.pointer (some ⟨bx, 2, none⟩)))) rfl (by rw [hFs10]; rfl)
          exact DoesT_val (r_load (v := (.slice na2 n nc2)) e59 flat23 ((Chg.keep X (fun h => (fun h => h.elim (fun h => by have := (hOn.lt _ h).1; omega) (fun h => by have := (hOe.lt _ h).1; omega)) (Past.or h)) (X0.keep Bx)).cell rfl)) (Chg.refl _ _) rfl
        refine DagStepsX.cons (StabX.eq) (fun _ _ _ _ _ h => h) (fun s' w' X U H => ?_) ?_
        · exact DoesT_val (r_move (v := (.int .i64 ((n : Nat) : Int))) (U 3 rfl)) (Chg.refl _ _) rfl
        refine DagStepsX.cons (litF_stab (fun y h => by have := (hOn.lt y h).2; omega) (fun y h => by have := (hOe.lt y h).2; omega)) (LocX.const) (fun s' w' X U H => ?_) ?_
        · have e61 : s' 61 = (.int .i64 ((n : Nat) : Int)) := H 2 rfl 61 ((fun _ v _ => v = (.int .i64 ((n : Nat) : Int)))) rfl (by rw [hFs10]; rfl)
          exact DoesT_lit (hs := n4) Try.underlying22 siz3 zer3 e61 (by decide) (by decide) (by kernel_rfl) (by have := X0.size; have := X.size; omega)
        refine DagStepsX.cons (StabX.eq) (fun _ _ _ _ _ h => h) (fun s' w' X U H => ?_) ?_
        · exact DoesT_val (r_fieldAddr (b := bd) (o := 0) (o' := 2) (U 1 rfl) Try.underlying25 rfl siz23 rfl) (Chg.refl _ _) rfl
        refine DagStepsX.cons (StabX.eq) (fun _ _ _ _ _ h => h) (fun s' w' X U H => ?_) ?_
        · have e63 : s' 63 = (.pointer (some ⟨bd, 2, none⟩)) := H 4 rfl 63 ((fun _ v _ => v = (.pointer (some ⟨bd, 2, none⟩)))) rfl (by rw [hFs10]; rfl)
          exact DoesT_val (r_load (v := (.slice (some ⟨nb, no, none⟩) n nc)) e63 flat23 ((Chg.keep X (fun h => (fun h => h.elim (fun h => by have := (hOn.lt _ h).1; omega) (fun h => by have := (hOe.lt _ h).1; omega)) (Past.or h)) (X0.keep Bd)).cell rfl)) (Chg.refl _ _) rfl
        refine DagStepsX.cons (StabX.eq) (fun _ _ _ _ _ h => h) (fun s' w' X U H => ?_) ?_
        · have e64 : s' 64 = (.slice (some ⟨nb, no, none⟩) n nc) := H 5 rfl 64 ((fun _ v _ => v = (.slice (some ⟨nb, no, none⟩) n nc))) rfl (by rw [hFs10]; rfl)
          exact DoesT_val (r_indexSlice (b := nb) (o := no) (len := n) (cap := nc) (i := 0) (o' := no + 0) e64 rfl rfl Try.underlying23 siz22 (by omega) (by omega)) (Chg.refl _ _) rfl
        refine DagStepsX.cons (StabX.eq) (fun _ _ _ _ _ h => h) (fun s' w' X U H => ?_) ?_
        · have e65 : s' 65 = (.pointer (some ⟨nb, no + 0, none⟩)) := H 6 rfl 65 ((fun _ v _ => v = (.pointer (some ⟨nb, no + 0, none⟩)))) rfl (by rw [hFs10]; rfl)
          exact DoesT_val (r_load (v := (.slice ra0 row0.length rc0)) e65 flat22 (Chg.cell X (fun h => (Past.or h).elim (fun h => by have := (hOn.lt nb h).1; omega) (fun h => by have := (hOe.lt nb h).1; omega)) (X0.cell (E.cell (fun f => f) hcell0)))) (Chg.refl _ _) rfl
        refine DagStepsX.cons (StabX.eq) (fun _ _ _ _ _ h => h) (fun s' w' X U H => ?_) ?_
        · have e66 : s' 66 = (.slice ra0 row0.length rc0) := H 7 rfl 66 ((fun _ v _ => v = (.slice ra0 row0.length rc0))) rfl (by rw [hFs10]; rfl)
          exact DoesT_val (r_lenSlice (ad := ra0) (n := row0.length) (cap := rc0) Try.underlying22 e66) (Chg.refl _ _) rfl
        refine DagStepsX.cons (appF_st0 (fun y h => by have := (hOn.lt y h).2; omega) (fun y h => by have := (hOe.lt y h).2; omega)) (LocX.const) (fun s' w' X U H => ?_) ?_
        · obtain ⟨b62, e62, B62, g62⟩ := (show ((fun _ => litF TDI #[.int .i64 (n : Int)] n4) : FctE) s' (s' 62) w' from H 3 rfl 62 ((fun _ => litF TDI #[.int .i64 (n : Int)] n4)) rfl (by rw [hFs10]; rfl))
          have e67 : s' 67 = (.int .i64 ((row0.length : Nat) : Int)) := H 8 rfl 67 ((fun _ v _ => v = (.int .i64 ((row0.length : Nat) : Int)))) rfl (by rw [hFs10]; rfl)
          exact DoesT_enter (r_callF (vs := [(.slice (some ⟨b62, 0, none⟩) 1 1), (.int .i64 ((row0.length : Nat) : Int))]) Try.func55 nm55 bd55 (lst2 e62 e67)) (repeat_h _ b62 1 row0.length n4 (n : Int) _ B62 (by omega) (by omega) (by have := X0.size; have := X.size; omega))
        refine DagStepsX.cons (litF_stS (fun y h => by have := (hOn.lt y h).2; omega) (fun y h => by have := (hOe.lt y h).2; omega)) (fun s1 s2 h v w h2 => by have := h 9 68 rfl rfl; rw [this]; exact h2) (fun s' w' X U H => ?_) ?_
        · obtain ⟨⟨a68, c68, e68⟩, O68, D68⟩ := (show ((fun _ => appF n4 TDI 1 row0.length ((List.replicate row0.length (n : Int)).map (Value.int .i64)) (.slice none 0 0) n4) : FctE) s' (s' 68) w' from H 9 rfl 68 ((fun _ => appF n4 TDI 1 row0.length ((List.replicate row0.length (n : Int)).map (Value.int .i64)) (.slice none 0 0) n4)) rfl (by rw [hFs10]; rfl))
          exact DoesT_lit (hs := n4) Try.underlying23 siz22 zer22 e68 (by decide) (by decide) (by rw [e68]; kernel_rfl) (by have := X0.size; have := X.size; omega)
        refine DagStepsX.cons (appF_stS (fun k hk hm => hk.elim (fun h => hO.en k hm h) (fun h => by have := (hOe.lt k hm).2; omega))) (fun s1 s2 h v w h2 => by have := h 9 68 rfl rfl; rw [this]; exact h2) (fun s' w' X U H => ?_) ?_
        · have e60 : s' 60 = (.slice na2 n nc2) := H 1 rfl 60 ((fun _ v _ => v = (.slice na2 n nc2))) rfl (by rw [hFs10]; rfl)
          obtain ⟨b69, e69, B69, g69⟩ := (show ((fun s v w => litF TDIs #[s 68] n4 v w) : FctE) s' (s' 69) w' from H 10 rfl 69 ((fun s v w => litF TDIs #[s 68] n4 v w)) rfl (by rw [hFs10]; rfl))
          exact app_two (H 9 rfl 68 _ rfl (by rw [hFs10]; rfl)) (DoesT_append (hs := w'.heap.size) Try.underlying23 siz22 byt22 zer22 rfl (by decide) e60 (own_ext (own_ext hOn X0) (X.mono (fun y _ h => Past.none rfl rfl h))) e69 rfl (B69.cells rfl) (by have h9 : appF n4 TDI 1 row0.length ((List.replicate row0.length (n : Int)).map (Value.int .i64)) (.slice none 0 0) n4 (s' 68) w' := H 9 rfl 68 _ rfl (by rw [hFs10]; rfl); obtain ⟨⟨_, _, e9⟩, _⟩ := h9; intro u hu; rw [List.mem_singleton] at hu; rw [hu, e9]; rfl) (by unfold maxLen; omega) (by omega) (by have := X0.size; have := X.size; omega) (fun y h => h) (Nat.le_refl _)) (by have := X0.size; have := X.size; omega) (fun k h1 h2 => h1.elim (fun h => by cases h) (fun h => by have := (hOn.lt k h2).2; omega))
        refine DagStepsX.cons (StabX.eq) (fun _ _ _ _ _ h => h) (fun s' w' X U H => ?_) ?_
        · exact DoesT_val (r_fieldAddr (b := bx) (o := 0) (o' := 1) (U 4 rfl) Try.underlying25 rfl siz22 rfl) (Chg.refl _ _) rfl
        refine DagStepsX.cons (StabX.eq) (fun _ _ _ _ _ h => h) (fun s' w' X U H => ?_) ?_
        · have e71 : s' 71 = (.pointer (some ⟨bx, 1, none⟩)) := H 12 rfl 71 ((fun _ v _ => v = (.pointer (some ⟨bx, 1, none⟩)))) rfl (by rw [hFs10]; rfl)
          exact DoesT_val (r_load (v := (.slice ea n ec)) e71 flat22 ((Chg.keep X (fun h => (fun h => h.elim (fun h => by have := (hOn.lt _ h).1; omega) (fun h => by have := (hOe.lt _ h).1; omega)) (Past.or h)) (X0.keep Bx)).cell rfl)) (Chg.refl _ _) rfl
        refine DagStepsX.cons (litF_stab (fun y h => by have := (hOn.lt y h).2; omega) (fun y h => by have := (hOe.lt y h).2; omega)) (LocX.const) (fun s' w' X U H => ?_) ?_
        · exact DoesT_lit (hs := n4) Try.underlying22 siz3 zer3 rfl (by decide) (by decide) (by kernel_rfl) (by have := X0.size; have := X.size; omega)
        refine DagStepsX.cons (appF_stL rfl) (LocX.const) (fun s' w' X U H => ?_) ?_
        · have e72 : s' 72 = (.slice ea n ec) := H 13 rfl 72 ((fun _ v _ => v = (.slice ea n ec))) rfl (by rw [hFs10]; rfl)
          obtain ⟨b73, e73, B73, g73⟩ := (show ((fun _ => litF TDI #[.int .i64 0] n4) : FctE) s' (s' 73) w' from H 14 rfl 73 ((fun _ => litF TDI #[.int .i64 0] n4)) rfl (by rw [hFs10]; rfl))
          exact DoesT_append (hs := n4) Try.underlying22 siz3 byt3 zer3 rfl (by decide) e72 (own_chg (own_ext hOe X0) (X.mono (fun y _ h => Past.fst rfl h)) (fun k hk hm => hO.en k hk hm)) e73 rfl (B73.cells rfl) (by simp [Value.oneCell']) (by unfold maxLen; omega) (by omega) (by have := X0.size; have := X.size; omega) (fun y h => h) (by have := X0.size; have := X.size; omega)
        refine DagStepsX.cons (StabX.eq) (fun _ _ _ _ _ h => h) (fun s' w' X U H => ?_) ?_
        · exact DoesT_val (r_fieldAddr (b := bx) (o := 0) (o' := 2) (U 4 rfl) Try.underlying25 rfl siz23 rfl) (Chg.refl _ _) rfl
        exact DagStepsX.nil
      · intro s' wd10 w10 X0 X10 U H
        replace X10 := X10.mono (M' := fun y => (fun b => (Value.slice na2 n nc2).ownBlock = some b) y ∨ (fun b => (Value.slice ea n ec).ownBlock = some b) y) (fun y _ h => by obtain ⟨j, h⟩ := h; rcases two_or h with h | h; exact .inl h.2; exact .inr h.2)
        obtain ⟨⟨a68, c68, e68⟩, O68, D68⟩ := (show ((fun _ => appF n4 TDI 1 row0.length ((List.replicate row0.length (n : Int)).map (Value.int .i64)) (.slice none 0 0) n4) : FctE) s' (s' 68) w10 from H 9 68 ((fun _ => appF n4 TDI 1 row0.length ((List.replicate row0.length (n : Int)).map (Value.int .i64)) (.slice none 0 0) n4)) rfl (by rw [hFs10]; rfl))
        obtain ⟨⟨⟨a70, c70, e70⟩, O70, D70⟩, A70⟩ := (show ((fun s v w => appF n1 TDIs 1 (n + 1) (vs ++ [s 68]) (.slice na2 n nc2) n4 v w ∧ ∀ b, (s 68).ownBlock = some b → v.ownBlock ≠ some b) : FctE) s' (s' 70) w10 from H 11 70 ((fun s v w => appF n1 TDIs 1 (n + 1) (vs ++ [s 68]) (.slice na2 n nc2) n4 v w ∧ ∀ b, (s 68).ownBlock = some b → v.ownBlock ≠ some b)) rfl (by rw [hFs10]; rfl))
        obtain ⟨⟨a74, c74, e74⟩, O74, D74⟩ := (show ((fun _ => appF n1 TDI 1 (n + 1) (acc.map (Value.int .i64) ++ [Value.int .i64 0]) (.slice ea n ec) n4) : FctE) s' (s' 74) w10 from H 15 74 ((fun _ => appF n1 TDI 1 (n + 1) (acc.map (Value.int .i64) ++ [Value.int .i64 0]) (.slice ea n ec) n4)) rfl (by rw [hFs10]; rfl))
        have e75 : s' 75 = (.pointer (some ⟨bx, 2, none⟩)) := H 16 75 ((fun _ v _ => v = (.pointer (some ⟨bx, 2, none⟩)))) rfl (by rw [hFs10]; rfl)
        obtain ⟨j10, rfl⟩ := Fits.out (σ := s') (l := [(2, (.pointer (some ⟨bo, 0, none⟩))), (4, (.pointer (some ⟨bx, 0, none⟩))), (70, (.slice a70 (n + 1) c70)), (74, (.slice a74 (n + 1) c74)), (75, (.pointer (some ⟨bx, 2, none⟩)))]) ⟨U 2 rfl, U 4 rfl, e70, e74, e75, trivial⟩
        clear U H
        replace Bd := Chg.keep X10 (fun h => h.elim (fun h => by have := (hOn.lt _ h).1; omega) (fun h => by have := (hOe.lt _ h).1; omega)) (X0.keep Bd)
        replace Bo := Chg.keep X10 (fun h => h.elim (fun h => by have := (hOn.lt _ h).1; omega) (fun h => by have := (hOe.lt _ h).1; omega)) (X0.keep Bo)
        replace Bx := Chg.keep X10 (fun h => h.elim (fun h => by have := (hOn.lt _ h).1; omega) (fun h => by have := (hOe.lt _ h).1; omega)) (X0.keep Bx)
        have hXm := Chg.trans (Ext.chg X0) X10
        replace E := (E.ext X0).step X10 (fun y hy h => h.elim (fun h => by have := (hOn.lt y h).1; omega) (fun h => by have := (hOe.lt y h).1; omega))
        rw [e70] at O70 D70 A70
        rw [e74] at O74 D74
        have hL := hO.last (row := List.replicate row0.length (n : Int)) hn4 (by omega) hXm (by rw [hir]; exact O70) (by rw [List.length_replicate]; exact O68) D70 A70
        have hE3 : (w10).ownsRow n1 TDI 1 (.slice a74 (n + 1) c74) (n + 1) ((acc ++ [0]).map (Value.int .i64)) := by rw [List.map_append]; exact O74
        have hND : (⟨d.start, acc ++ [0], rows ++ [List.replicate row0.length (n : Int)]⟩ : Dfa) = notD n c d := by rw [hrows, hacc2, hin, hrl0, List.take_of_length_le (by omega), List.take_of_length_le (by omega)]; rfl
        refine s_store (b := bx) (o := 2) (c' := #[(.int .i64 d.start), (.slice ea n ec), (.slice a70 (n + 1) c70)]) (v := (.slice a70 (n + 1) c70)) rfl rfl rfl siz23 Bx (by simp) rfl ?_
        intro w11 S11
        replace hL := hL.chg S11.chg fun b hb _ h => by have h' : b = bx := h; omega
        replace hE3 := own_chg hE3 S11.chg fun b hb h => by have := (hE3.lt b hb).1; have h' : b = bx := h; omega
        replace Bd := S11.keep (by omega) Bd
        replace Bo := S11.keep (by omega) Bo
        replace E := S11.step E (by first | exact Or.inl (by omega) | exact Or.inr rfl | exact Or.inr (by assumption) | exact Or.inr (by simp) | exact Or.inr (by omega) | exact Or.inr (by dsimp only; omega))
        replace Bx := S11.blk
        refine WpL_val rfl rfl (by decide) (r_fieldAddr (b := bx) (o := 0) (o' := 1) rfl Try.underlying25 rfl siz22 rfl) ?_
        refine s_store (b := bx) (o := 1) (c' := #[(.int .i64 d.start), (.slice a74 (n + 1) c74), (.slice a70 (n + 1) c70)]) (v := (.slice a74 (n + 1) c74)) rfl rfl rfl siz22 Bx (by simp) rfl ?_
        intro w12 S12
        replace hL := hL.chg S12.chg fun b hb _ h => by have h' : b = bx := h; omega
        replace hE3 := own_chg hE3 S12.chg fun b hb h => by have := (hE3.lt b hb).1; have h' : b = bx := h; omega
        replace Bd := S12.keep (by omega) Bd
        replace Bo := S12.keep (by omega) Bo
        replace E := S12.step E (by first | exact Or.inl (by omega) | exact Or.inr rfl | exact Or.inr (by assumption) | exact Or.inr (by simp) | exact Or.inr (by omega) | exact Or.inr (by dsimp only; omega))
        replace Bx := S12.blk
        refine WpL_nil ?_
        refine thn_normal ?_
        refine Wp_seq_region ?_
        refine WpL_val rfl rfl (by decide) (r_loadAgg (vs := [(.int .i64 d.start), (.slice a74 (n + 1) c74), (.slice a70 (n + 1) c70)]) rfl agg25 siz25 rfl (Bx.cells rfl)) ?_
        obtain ⟨n9, hn9⟩ : ∃ n9, n9 = (w12).heap.size := ⟨_, rfl⟩
        have hn9b : w0.heap.size ≤ n9 ∧ bo < n9 := ⟨by have := E.size; omega, by have := Bo.lt; omega⟩
        refine WpL_enter rfl rfl (by decide) (r_callF (vs := [(.agg #[(.int .i64 d.start), (.slice a74 (n + 1) c74), (.slice a70 (n + 1) c70)])]) Try.func56 nm56 bd56 rfl) (canon_f _ (n + 1) c (notD n c d) [.int .i64 d.start, .slice a74 (n + 1) c74, .slice a70 (n + 1) c70] (okNot ok) (by rw [← hND]; exact dfa_of_own ⟨a74, c74, by simp [hale]⟩ ⟨a70, c70, by simp [hir]⟩ (by simpa [hale] using hE3) hL) (by omega) notD_acc) ?_
        rintro _ w99 ⟨⟨C, ca, cc, ma, mc, hC, hCl, hCa, rfl, hCN⟩, X99⟩
        replace Bd := X99.keep Bd
        replace Bo := X99.keep Bo
        replace Bx := X99.keep Bx
        replace E := E.ext X99
        rw [← hn9] at hCN
        refine s_storeAgg (b := bo) (o := 0) (c' := #[(.int .i64 C.start), (.slice ca C.accept.length cc), (.slice ma C.next.length mc)]) rfl rfl (by simp [Value.oneCell']) siz25 rfl Bo (by simp) rfl ?_
        intro w13 S13
        replace hCN := hCN.chg S13.chg fun b h => by have h' : b = bo := h; omega
        replace Bd := S13.keep (by omega) Bd
        replace Bx := S13.keep (by omega) Bx
        replace E := S13.step E (by first | exact Or.inl (by omega) | exact Or.inr rfl | exact Or.inr (by assumption) | exact Or.inr (by simp) | exact Or.inr (by omega) | exact Or.inr (by dsimp only; omega))
        replace Bo := S13.blk
        refine WpL_nil ?_
        refine Wp_ret ?_
        refine fin_agg Try.results63 (vs := [(.int .i64 C.start), (.slice ca C.accept.length cc), (.slice ma C.next.length mc)]) (b := bo) rfl agg25 siz25 rfl (Bo.cells rfl) ?_
        exact ⟨⟨C, ca, cc, ma, mc, hC.congr (fun w hw => beh_notD ok hw), hCl, hCa, rfl, hCN.low hn9b.1⟩, E⟩
end Go.Proofs
