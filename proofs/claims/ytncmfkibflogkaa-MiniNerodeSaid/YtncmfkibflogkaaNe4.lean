/- Contracts and plain lemmas, part 4. -/
import Derived.Tactics
import Derived.Deep.Quiet
import Derived.Laws.AppendOwn
import Derived.KernelRfl
import Derived.Laws.Entries
import Derived.Laws.Build
import Derived.Below
import Derived.RowKit3
import Derived.StillTail
import Derived.Sort.Grow
import Derived.Deep.Draws
import Derived.Test.YtncmfkibflogkaaChecked
import Derived.Laws.StructEq
import Derived.MapKept
import Derived.Laws.BytesArg
import Derived.Laws.CopyRow
import Derived.DeepKeys3
import Derived.Shelf.Sort.Plain
import Derived.Shelf.Slices.CompactI
import Derived.Test.YtncmfkibflogkaaProg
import Derived.Test.YtncmfkibflogkaaNe3
namespace Go.Proofs
open Go Go.Eng Go.Sort
set_option maxRecDepth 100000
theorem repeat_h (w0 : World) (b sc n hs : Nat) (y : Int) (T : TypeId) (hB : Blk w0 b #[.int .i64 y] T) (h1 : 1 ≤ n) (hn : n ≤ 60000) (hhs : hs ≤ w0.heap.size) :
    Ret Try.prog 55 #[.slice (some ⟨b, 0, none⟩) 1 sc, .int .i64 ((n : Nat) : Int)] w0 fun r w => appF hs TDI 1 n ((List.replicate n y).map (Value.int .i64)) (.slice none 0 0) hs r w ∧ Ext w0 w := by
  refine (repeat_c w0 b sc n y T hB h1 hn).mono ?_
  rintro r w ⟨⟨g, rfl, hg, hG⟩, e⟩
  have ho : w.ownsRow hs TDI 1 (.slice (some ⟨g, 0, none⟩) n n) n ((List.replicate n y).map (Value.int .i64)) := own_exact hG (by omega) (by simp)
  exact ⟨⟨⟨_, _, rfl⟩, ho, fun k hk => .inr (ho.lt k hk).1⟩, e⟩
theorem dfflag2_c (y : Int) (w0 : World) : Ret Try.prog 92 #[.bool (decide (y < 0))] w0 fun r w => r = .int .i64 (fl y) ∧ Ext w0 w := by
  refine (dfflag_c (decide (y < 0)) w0).mono ?_
  rintro r w ⟨rfl, e⟩
  exact ⟨by unfold fl; simp only [decide_eq_true_eq], e⟩
theorem appF_st0 {c1 c2 i base e size n hs : Nat} {M1 M2 : Nat → Prop} {xs : List Value} {ws : List Nat} (h1 : ∀ y, M1 y → y < hs) (h2 : ∀ y, M2 y → y < hs) : StabX (two c1 c2 M1 M2) i ws (fun _ => appF base e size n xs (.slice none 0 0) hs) := by
  rintro p _ _ σ v w w' x ⟨h3, h4, h5⟩
  refine ⟨h3, own_chg h4 x fun k hk h => ?_, h5⟩
  have h6 : hs ≤ k := (h5 k hk).elim (fun h => by cases h) id
  rcases two_or h with h | h
  · have := h1 k h.2; omega
  · have := h2 k h.2; omega
theorem litF_stS {c1 c2 i e hs t : Nat} {M1 M2 : Nat → Prop} {ws : List Nat} (h1 : ∀ y, M1 y → y < hs) (h2 : ∀ y, M2 y → y < hs) : StabX (two c1 c2 M1 M2) i ws (fun s => litF e #[s t] hs) := by
  rintro p _ _ σ v w w' x ⟨b, h3, h4, h5⟩
  exact ⟨b, h3, x.keep (fun h => by rcases two_or h with h | h; have := h1 b h.2; omega; have := h2 b h.2; omega) h4, h5⟩
theorem appF_stS {c1 c2 base e size n hs t : Nat} {M1 M2 : Nat → Prop} {xs : List Value} {old : Value} {ws : List Nat} (h : ∀ k, (old.ownBlock = some k ∨ hs ≤ k) → ¬ M2 k) : StabX (two c1 c2 M1 M2) c1 ws (fun s v w => appF base e size n (xs ++ [s t]) old hs v w ∧ ∀ b, (s t).ownBlock = some b → v.ownBlock ≠ some b) := by
  rintro p hp _ σ v w w' x ⟨⟨h1, h2, h3⟩, h6⟩
  rcases two_ext x with h4 | h4 | h4
  · exact absurd h4.1 hp
  · exact ⟨⟨h1, own_chg h2 h4.2 (fun k hk => h k (h3 k hk)), h3⟩, h6⟩
  · exact ⟨⟨h1, own_ext h2 h4, h3⟩, h6⟩
theorem appF_stL {c1 c2 base e size n hs : Nat} {M1 M2 : Nat → Prop} {xs : List Value} {old : Value} {ws : List Nat} (hw : ws.contains c1 = true) : StabX (two c1 c2 M1 M2) c2 ws (fun _ => appF base e size n xs old hs) := by
  rintro p hp hpw σ v w w' x ⟨h1, h2, h3⟩
  rcases two_ext x with h5 | h5 | h5
  · rw [h5.1, hw] at hpw; cases hpw
  · exact absurd h5.1 hp
  · exact ⟨h1, own_ext h2 h5, h3⟩
theorem LSt.intss {w : World} {base : Nat} {N : Value} {vs : List Value} {rows : List (List Int)} (h : LSt TDIs TDI 1 w base N vs (rows.map iRow)) : IntssAt w N rows := by
  have hl : vs.length = rows.length := by simpa using h.len
  refine ⟨vs, ?_, hl, fun i u l hu hl => ?_⟩
  · have ho := h.o
    rw [show vs = (vs.map fun x => [x]).flatten by simp [List.flatten_eq_flatMap, List.flatMap_map]] at ho
    exact own_slat ho (by intro r hr; simp only [List.mem_map] at hr; obtain ⟨x, _, rfl⟩ := hr; rfl) (by simp [hl]) (by decide)
  · exact own_intsD (h.inn i u (iRow l) hu (by rw [List.getElem?_map, hl]; rfl)) rfl
/-- The last row, made in the region. -/
theorem OutSt.last {w w' : World} {base n4 : Nat} {E N N' u : Value} {vs : List Value} {acc row : List Int} {rows : List (List Int)} (h : OutSt w base E N vs acc rows) (h4 : n4 = w.heap.size) (hb : base ≤ n4) (C : Chg (fun b => N.ownBlock = some b ∨ E.ownBlock = some b) w w')
    (ON : w'.ownsRow base TDIs 1 N' (rows.length + 1) (vs ++ [u])) (hu : w'.ownsRow n4 TDI 1 u row.length (row.map (Value.int .i64))) (WN : ∀ k, N'.ownBlock = some k → N.ownBlock = some k ∨ n4 ≤ k) (ap : ∀ b, u.ownBlock = some b → N'.ownBlock ≠ some b) :
    LSt TDIs TDI 1 w' base N' (vs ++ [u]) ((rows ++ [row]).map iRow) := by
  have hl : vs.length = rows.length := by simpa using h.n.len
  have hold : ∀ (i : Nat) v, (vs ++ [u])[i]? = some v → vs[i]? = some v ∨ (i = vs.length ∧ v = u) := fun i v hv => by
    rcases Nat.lt_or_ge i vs.length with h1 | h1
    · left; rwa [List.getElem?_append_left h1] at hv
    · right
      rw [List.getElem?_append_right h1] at hv
      have h2 := lt_of_get hv
      simp at h2
      rw [show i - vs.length = 0 by omega] at hv
      simp at hv
      exact ⟨by omega, hv.symm⟩
  refine ⟨by simpa using ON, by simp [hl], fun i v p hv hp => ?_, fun i v b hv hb' e => ?_⟩
  · rw [List.map_append] at hp
    rcases hold i v hv with h1 | ⟨h1, rfl⟩
    · rw [List.getElem?_append_left (by have := lt_of_get h1; simp; omega)] at hp
      exact own_chg (h.n.inn i v p h1 hp) C fun b hb' hC => hC.elim (fun h4 => h.n.apo i v b h1 hb' h4) (fun h4 => h.ei i v b h1 hb' h4)
    · rw [h1, hl, List.getElem?_append_right (by simp), List.length_map, Nat.sub_self] at hp
      simp [iRow] at hp
      subst hp
      exact own_low hu hb
  · rcases hold i v hv with h1 | ⟨_, rfl⟩
    · rcases WN b e with h2 | h2
      · exact h.n.apo i v b h1 hb' h2
      · have := (h.lt (.inr (.inr ⟨i, v, h1, hb'⟩))).2; omega
    · exact ap b hb' e
theorem dfa_of_own {w : World} {base : Nat} {d : Dfa} {E N : Value} {vs : List Value} (hE : ∃ a c, E = .slice a d.accept.length c) (hN : ∃ a c, N = .slice a d.next.length c) (oE : w.ownsRow base TDI 1 E d.accept.length (d.accept.map (Value.int .i64))) (oN : LSt TDIs TDI 1 w base N vs (d.next.map iRow)) : DfaAt w d [.int .i64 d.start, E, N] := by
  obtain ⟨ea, ec, rfl⟩ := hE
  obtain ⟨na, nc, rfl⟩ := hN
  exact ⟨ea, ec, na, nc, rfl, own_intsD oE rfl, oN.intss⟩
/-- A canonical automaton as a result. -/
def CanR (c : Nat) (f : List Nat → Int) (n m : Nat) (r : Value) (w : World) : Prop := ∃ C ca cc ma mc, CanOf c f C ∧ C.next.length ≤ n ∧ (∀ x ∈ C.accept, x < 2147483648) ∧ r = .agg #[.int .i64 C.start, .slice ca C.accept.length cc, .slice ma C.next.length mc] ∧ DfaNew m w C [.int .i64 C.start, .slice ca C.accept.length cc, .slice ma C.next.length mc]
theorem canon_f (w0 : World) (n c : Nat) (d : Dfa) (dv : List Value) (ok : OkD n c d) (h : DfaAt w0 d dv) (hn : n ≤ 20000 ∧ 1 ≤ c ∧ c ≤ 16) (hac : ∀ x ∈ d.accept, x < 2147483648) :
    Ret Try.prog 56 #[.agg dv.toArray] w0 fun r w => CanR c (beh d d.start) n w0.heap.size r w ∧ Ext w0 w := by
  refine (canon_c w0 n c d dv ok h hn hac).mono ?_
  rintro r w ⟨⟨C, cv, hC, hl, ha, rfl, hN⟩, e⟩
  have h1 := hN.at'
  obtain ⟨ca, cc, ma, mc, rfl, _, _⟩ := h1
  exact ⟨⟨C, ca, cc, ma, mc, hC, hl, ha, rfl, hN⟩, e⟩
set_option maxHeartbeats 8000000 in
theorem dfnot_c (w0 : World) (n c : Nat) (d : Dfa) (dv : List Value) (ok : OkD n c d) (h : DfaAt w0 d dv) (hn : 1 ≤ n ∧ n ≤ 19999 ∧ 1 ≤ c ∧ c ≤ 16) :
    Ret Try.prog 63 #[.agg dv.toArray] w0 fun r w => CanR c (fun w => fl (beh d d.start w)) (n + 1) w0.heap.size r w ∧ Ext w0 w := by
  obtain ⟨aa, ac, na, nc, rfl, hacc, hnxt⟩ := h
  have hnl := ok.nl
  have hal := ok.al
  have hst := ok.st
  rw [hal, hnl]
  rw [hal] at hacc
  rw [hnl] at hnxt
  obtain ⟨nb, no, rfl, hnx⟩ := intss_cells (n := n) hnxt (by omega)
  obtain ⟨ab, ao, rfl, hax⟩ := ints_cells (n := n) hacc (by omega)
  have hrowc : ∀ (s : Nat), s < n → ∃ row ra rc, d.next[s]? = some row ∧ row.length = c ∧ w0.cell? ⟨nb, no + s, none⟩ = some (.slice ra row.length rc) ∧ IntsAt w0 (.slice ra row.length rc) row := fun s hs => by
    obtain ⟨row, hrow⟩ := get_of_lt (l := d.next) (i := s) (by omega)
    have hrl := (ok.row row (List.mem_of_getElem? hrow)).1
    obtain ⟨ra, rc, h1, h2⟩ := hnx s row hrow
    exact ⟨row, ra, rc, hrow, hrl, h1, h2⟩
  have hab : ab < w0.heap.size := by
    obtain ⟨x, hx⟩ := get_of_lt (l := d.accept) (i := 0) (by omega)
    exact World.block_lt_of_cell? w0 _ (hax 0 x hx)
  have hnb : nb < w0.heap.size := by
    obtain ⟨row, ra, rc, _, _, h1, _⟩ := hrowc 0 (by omega)
    exact World.block_lt_of_cell? w0 _ h1
  refine Ret_of Try.func63 rfl Try.ntmps63 (Nat.le_of_ble_eq_true rfl) ?_
  have E : Chg none1 w0 w0 := Chg.refl _ _
  refine Wp_seq_region ?_
  refine s_box (v := (.agg #[(.int .i64 d.start), (.slice (some ⟨ab, ao, none⟩) n ac), (.slice (some ⟨nb, no, none⟩) n nc)])) (c := #[(.int .i64 d.start), (.slice (some ⟨ab, ao, none⟩) n ac), (.slice (some ⟨nb, no, none⟩) n nc)]) (by decide) rfl rfl ?_
  intro bd wd Nd
  have Fd := Nd.ge E
  replace E := E.ext Nd.ext
  have Bd := Nd.blk
  refine s_alloc (c := #[(.int .i64 0), (.slice none 0 0), (.slice none 0 0)]) (by decide) zer25 rfl ?_
  intro bo wo No
  have Fo := No.ge E
  have Oo_bd := No.lt Bd
  replace Bd := No.keep Bd
  replace E := E.ext No.ext
  have Bo := No.blk
  refine WpL_nil ?_
  refine Wp_seq_region ?_
  refine WpL_val rfl rfl (by decide) (r_fieldAddr (b := bd) (o := 0) (o' := 2) rfl Try.underlying25 rfl siz23 rfl) ?_
  refine WpL_val rfl rfl (by decide) (r_load (v := (.slice (some ⟨nb, no, none⟩) n nc)) rfl flat23 (Bd.cell rfl)) ?_
  refine WpL_val rfl rfl (by decide) (r_lenSlice (ad := some ⟨nb, no, none⟩) (n := n) (cap := nc) Try.underlying23 rfl) ?_
  refine WpL_val rfl rfl (by decide) (r_assign (v := (.int .i64 ((n : Nat) : Int))) rfl) ?_
  refine WpL_nil ?_
  refine Wp_seq_region ?_
  refine WpL_val rfl rfl (by decide) (r_fieldAddr (b := bd) (o := 0) (o' := 0) rfl Try.underlying25 rfl siz3 rfl) ?_
  refine WpL_val rfl rfl (by decide) (r_load (v := (.int .i64 d.start)) rfl flat3 (Bd.cell rfl)) ?_
  refine WpL_val rfl rfl (by decide) (r_build (ps := [(0, (.int .i64 d.start))]) (v := (.agg #[(.int .i64 d.start), (.slice none 0 0), (.slice none 0 0)])) rfl (by kernel_rfl)) ?_
  refine s_allocStore (v := (.agg #[(.int .i64 d.start), (.slice none 0 0), (.slice none 0 0)])) (c := #[(.int .i64 d.start), (.slice none 0 0), (.slice none 0 0)]) (n := 3) (by decide) zer25 rfl siz25 rfl rfl rfl (by simp [Value.oneCell']) ?_
  intro bx wx Nx
  have Fx := Nx.ge E
  have Ox_bd := Nx.lt Bd
  have Ox_bo := Nx.lt Bo
  replace Bd := Nx.keep Bd
  replace Bo := Nx.keep Bo
  replace E := E.ext Nx.ext
  have Bx := Nx.blk
  refine WpL_nil ?_
  refine Wp_seq ?_
  refine Wp_seq_region ?_
  refine WpL_val rfl rfl (by decide) (r_fieldAddr (b := bd) (o := 0) (o' := 2) rfl Try.underlying25 rfl siz23 rfl) ?_
  refine WpL_val rfl rfl (by decide) (r_load (v := (.slice (some ⟨nb, no, none⟩) n nc)) rfl flat23 (Bd.cell rfl)) ?_
  refine WpL_val rfl rfl (by decide) (r_lenSlice (ad := some ⟨nb, no, none⟩) (n := n) (cap := nc) Try.underlying23 rfl) ?_
  refine WpL_val rfl rfl (by decide) (r_move (v := (.int .i64 0)) rfl) ?_
  refine WpL_nil ?_
  refine Wp_block ?_
  have hbdl := Bd.lt
  have hbol := Bo.lt
  obtain ⟨n1, hn1e⟩ : ∃ n1, n1 = wx.heap.size := ⟨_, rfl⟩
  have hbxn : bx < n1 := by have := Bx.lt; omega
  refine Wp_loop (fun nn_ σ W1 => ∃ (i : Nat) (rows : List (List Int)) (acc : List Int) (vs : List Value) (ea na2 : Option Addr) (ec nc2 : Nat), (∃ jj_, σ = upds jj_ [(1, (.pointer (some ⟨bd, 0, none⟩))), (2, (.pointer (some ⟨bo, 0, none⟩))), (3, (.int .i64 ((n : Nat) : Int))), (4, (.pointer (some ⟨bx, 0, none⟩))), (17, (.slice (some ⟨nb, no, none⟩) n nc)), (18, (.int .i64 ((n : Nat) : Int))), (19, (.int .i64 ((i : Nat) : Int)))]) ∧ Chg none1 w0 W1 ∧ Blk W1 bd #[(.int .i64 d.start), (.slice (some ⟨ab, ao, none⟩) n ac), (.slice (some ⟨nb, no, none⟩) n nc)] 25 ∧ Blk W1 bo #[(.int .i64 0), (.slice none 0 0), (.slice none 0 0)] 25 ∧ Blk W1 bx (#[Value.int .i64 d.start, .slice ea i ec, .slice na2 i nc2]) 25 ∧ (i ≤ n) ∧ (rows = (d.next.take i).map (fun r => r.map (nt n))) ∧ (acc = (d.accept.take i).map fl) ∧ (OutSt W1 n1 (.slice ea i ec) (.slice na2 i nc2) vs acc rows) ∧ (n1 ≤ W1.heap.size) ∧ nn_ = n - i) (n := n - 0) ?_ ?_
  · exact ⟨0, [], [], [], none, none, 0, 0, Fits.out ⟨rfl, rfl, rfl, rfl, rfl, rfl, rfl, trivial⟩, E, Bd, Bo, Bx, Nat.zero_le _, rfl, rfl, OutSt.start _ _, (by omega), rfl⟩
  · clear E Bd Bo Bx
    rintro _ _ W1 ⟨i, rows, acc, vs, ea, na2, ec, nc2, ⟨j1, rfl⟩, E, Bd, Bo, Bx, hi, hrows, hacc2, hO, hsz, rfl⟩
    refine Wp_seq_region ?_
    refine WpL_val rfl rfl (by decide) (r_lss (k := .i64) (a := ((i : Nat) : Int)) (b := ((n : Nat) : Int)) rfl rfl) ?_
    refine WpL_nil ?_
    refine Wp_seq ?_
    refine Wp_cond (b := decide ((((i : Nat) : Int) : Int) < ((n : Nat) : Int))) rfl (fun hlt => ?_) (fun hlt => ?_)
    · have khlt := hlt
      replace hlt := of_decide_eq_true hlt
      obtain ⟨row, ra, rc, hrow, hrl, hcell, hri⟩ := hrowc i (by omega)
      obtain ⟨z0, hz0⟩ : ∃ z0, z0 = (W1).heap.size := ⟨_, rfl⟩
      have hOz : ∀ b, OutB (.slice ea i ec) (.slice na2 i nc2) vs b → b < z0 := fun b hb => by have := (hO.lt hb).2; omega
      have hnz : n1 ≤ z0 := by omega
      refine Wp_skip ?_
      refine thn_normal ?_
      refine Wp_seq ?_
      refine Wp_block ?_
      refine Wp_seq_region ?_
      refine WpL_val rfl rfl (by decide) (r_move (v := (.int .i64 ((i : Nat) : Int))) rfl) ?_
      refine WpL_val rfl rfl (by decide) (r_indexSlice (b := nb) (o := no) (len := n) (cap := nc) (i := i) (o' := no + i) rfl rfl rfl Try.underlying23 siz22 (by omega) (by omega)) ?_
      refine WpL_val rfl rfl (by decide) (r_load (v := (.slice ra row.length rc)) rfl flat22 (E.cell (fun f => f) hcell)) ?_
      refine WpL_val rfl rfl (by decide) (r_assign (v := (.int .i64 ((i : Nat) : Int))) rfl) ?_
      refine WpL_val rfl rfl (by decide) (r_assign (v := (.slice ra row.length rc)) rfl) ?_
      refine WpL_nil ?_
      refine Wp_seq_region ?_
      refine WpL_val rfl rfl (by decide) (r_move (v := (.slice ra row.length rc)) rfl) ?_
      refine WpL_enter rfl rfl (by decide) (r_callF (vs := [(.slice ra row.length rc)]) Try.func74 nm74 bd74 rfl) (cloneo_c _ _ row (hri.ext E) (by omega) (by omega)) ?_
      rintro _ w9 ⟨⟨bq, rest, k9, rfl, hq, hQ, hk9, hkm⟩, X9⟩
      replace Bd := X9.keep Bd
      replace Bo := X9.keep Bo
      replace Bx := X9.keep Bx
      replace hO := hO.ext X9
      replace hsz := Nat.le_trans hsz X9.size
      replace E := E.ext X9
      have hqz : z0 ≤ bq := by omega
      rw [show row.map (Value.int .i64) = (ntR n row 0).map (Value.int .i64) by rw [ntR_zero]] at hQ
      refine WpL_val rfl rfl (by decide) (r_assign (v := (.slice (some ⟨bq, 0, none⟩) row.length k9)) rfl) ?_
      refine WpL_nil ?_
      refine Wp_seq ?_
      refine Wp_seq_region ?_
      refine WpL_val rfl rfl (by decide) (r_move (v := (.slice (some ⟨bq, 0, none⟩) row.length k9)) rfl) ?_
      refine WpL_val rfl rfl (by decide) (r_lenSlice (ad := some ⟨bq, 0, none⟩) (n := row.length) (cap := k9) Try.underlying22 rfl) ?_
      refine WpL_val rfl rfl (by decide) (r_move (v := (.int .i64 0)) rfl) ?_
      refine WpL_nil ?_
      refine Wp_block ?_
      refine Wp_loop (fun nn_ σ W3 => ∃ (x : Nat), (∃ jj_, σ = upds jj_ [(1, (.pointer (some ⟨bd, 0, none⟩))), (2, (.pointer (some ⟨bo, 0, none⟩))), (3, (.int .i64 ((n : Nat) : Int))), (4, (.pointer (some ⟨bx, 0, none⟩))), (5, (.int .i64 ((i : Nat) : Int))), (7, (.slice (some ⟨bq, 0, none⟩) row.length k9)), (17, (.slice (some ⟨nb, no, none⟩) n nc)), (18, (.int .i64 ((n : Nat) : Int))), (19, (.int .i64 ((i : Nat) : Int))), (26, (.slice (some ⟨bq, 0, none⟩) row.length k9)), (27, (.int .i64 ((row.length : Nat) : Int))), (28, (.int .i64 ((x : Nat) : Int)))]) ∧ Chg none1 w0 W3 ∧ Blk W3 bd #[(.int .i64 d.start), (.slice (some ⟨ab, ao, none⟩) n ac), (.slice (some ⟨nb, no, none⟩) n nc)] 25 ∧ Blk W3 bo #[(.int .i64 0), (.slice none 0 0), (.slice none 0 0)] 25 ∧ Blk W3 bx (#[Value.int .i64 d.start, .slice ea i ec, .slice na2 i nc2]) 25 ∧ Blk W3 bq (((ntR n row x).map (Value.int .i64) ++ rest).toArray) 3 ∧ (x ≤ c) ∧ (OutSt W3 n1 (.slice ea i ec) (.slice na2 i nc2) vs acc rows) ∧ (n1 ≤ W3.heap.size) ∧ nn_ = c - x) (n := c - 0) ?_ ?_
      · exact ⟨0, Fits.out ⟨rfl, rfl, rfl, rfl, rfl, rfl, rfl, rfl, rfl, rfl, rfl, rfl, trivial⟩, E, Bd, Bo, Bx, hQ, Nat.zero_le _, hO, hsz, rfl⟩
      · clear E Bd Bo Bx hQ
        rintro _ _ W3 ⟨x, ⟨j3, rfl⟩, E, Bd, Bo, Bx, hQ, hx, hO, hsz, rfl⟩
        refine Wp_seq_region ?_
        refine WpL_val rfl rfl (by decide) (r_lss (k := .i64) (a := ((x : Nat) : Int)) (b := ((row.length : Nat) : Int)) rfl rfl) ?_
        refine WpL_nil ?_
        refine Wp_seq ?_
        refine Wp_cond (b := decide ((((x : Nat) : Int) : Int) < ((row.length : Nat) : Int))) rfl (fun hlt2 => ?_) (fun hlt2 => ?_)
        · have khlt2 := hlt2
          replace hlt2 := of_decide_eq_true hlt2
          obtain ⟨t, ht⟩ := get_of_lt (l := row) (i := x) (by omega)
          refine Wp_skip ?_
          refine thn_normal ?_
          refine Wp_seq ?_
          refine Wp_block ?_
          refine Wp_seq_region ?_
          refine WpL_val rfl rfl (by decide) (r_move (v := (.int .i64 ((x : Nat) : Int))) rfl) ?_
          refine WpL_val rfl rfl (by decide) (r_indexSlice (b := bq) (o := 0) (len := row.length) (cap := k9) (i := x) (o' := 0 + x) rfl rfl rfl Try.underlying22 siz3 (by omega) (by omega)) ?_
          refine WpL_val rfl rfl (by decide) (r_load (v := (.int .i64 t)) rfl flat3 (by rw [Nat.zero_add]; exact ints_get hQ (ntR_get ht))) ?_
          refine WpL_val rfl rfl (by decide) (r_assign (v := (.int .i64 ((x : Nat) : Int))) rfl) ?_
          refine WpL_val rfl rfl (by decide) (r_assign (v := (.int .i64 t)) rfl) ?_
          refine WpL_nil ?_
          refine Wp_seq_region ?_
          refine WpL_val rfl rfl (by decide) (r_move (v := (.int .i64 t)) rfl) ?_
          refine WpL_val rfl rfl (by decide) (r_lss (k := .i64) (a := t) (b := 0) rfl rfl) ?_
          refine WpL_nil ?_
          refine Wp_cond (b := decide ((t : Int) < 0)) rfl (fun hneg => ?_) (fun hneg => ?_)
          · have khneg := hneg
            replace hneg := of_decide_eq_true hneg
            refine Wp_region ?_
            refine WpL_val rfl rfl (by decide) (r_move (v := (.slice (some ⟨bq, 0, none⟩) row.length k9)) rfl) ?_
            refine WpL_val rfl rfl (by decide) (r_move (v := (.int .i64 ((x : Nat) : Int))) rfl) ?_
            refine WpL_val rfl rfl (by decide) (r_move (v := (.int .i64 ((n : Nat) : Int))) rfl) ?_
            refine WpL_val rfl rfl (by decide) (r_indexSlice (b := bq) (o := 0) (len := row.length) (cap := k9) (i := x) (o' := 0 + x) rfl rfl rfl Try.underlying22 siz3 (by omega) (by omega)) ?_
            refine s_store (b := bq) (o := 0 + x) (c' := ((ntR n row (x + 1)).map (Value.int .i64) ++ rest).toArray) (v := (.int .i64 ((n : Nat) : Int))) rfl rfl rfl siz3 hQ (by simp [ntR_len]; omega) (by rw [Nat.zero_add, ints_set (by rw [ntR_len]; omega), ntR_set ht hneg]) ?_
            intro w6 S6
            replace hO := hO.chg S6.chg fun b hb h => by have := hOz b hb; have h' : b = bq := h; omega
            replace hsz := Nat.le_trans hsz S6.chg.size
            replace Bd := S6.keep (by omega) Bd
            replace Bo := S6.keep (by omega) Bo
            replace Bx := S6.keep (by omega) Bx
            replace E := S6.step E (by first | exact Or.inl (by omega) | exact Or.inr rfl | exact Or.inr (by assumption) | exact Or.inr (by simp) | exact Or.inr (by omega) | exact Or.inr (by dsimp only; omega))
            replace hQ := S6.blk
            refine WpL_nil ?_
            refine inB_normal ?_
            refine thn_normal ?_
            refine Wp_region ?_
            refine WpL_val rfl rfl (by decide) (r_add (k := .i64) (a := ((x : Nat) : Int)) (b := 1) (c := ((x : Nat) : Int) + 1) rfl rfl (wI64 (by omega))) ?_
            refine WpL_val rfl rfl (by decide) (r_move (v := (.int .i64 (((x : Nat) : Int) + 1))) rfl) ?_
            refine WpL_nil ?_
            refine thn_normal ?_
            exact ⟨c - (x + 1), by omega, x + 1, Fits.out ⟨rfl, rfl, rfl, rfl, rfl, rfl, rfl, rfl, rfl, rfl, rfl, rfl, trivial⟩, E, Bd, Bo, Bx, hQ, (by omega), hO, hsz, rfl⟩
          · have khneg := hneg
            replace hneg := of_decide_eq_false hneg
            rw [ntR_same ht hneg] at hQ
            refine Wp_skip ?_
            refine inB_normal ?_
            refine thn_normal ?_
            refine Wp_region ?_
            refine WpL_val rfl rfl (by decide) (r_add (k := .i64) (a := ((x : Nat) : Int)) (b := 1) (c := ((x : Nat) : Int) + 1) rfl rfl (wI64 (by omega))) ?_
            refine WpL_val rfl rfl (by decide) (r_move (v := (.int .i64 (((x : Nat) : Int) + 1))) rfl) ?_
            refine WpL_nil ?_
            refine thn_normal ?_
            exact ⟨c - (x + 1), by omega, x + 1, Fits.out ⟨rfl, rfl, rfl, rfl, rfl, rfl, rfl, rfl, rfl, rfl, rfl, rfl, trivial⟩, E, Bd, Bo, Bx, hQ, (by omega), hO, hsz, rfl⟩
        · have khlt2 := hlt2
          replace hlt2 := of_decide_eq_false hlt2
          have hxc : x = row.length := by omega
          rw [hxc, ntR_all] at hQ
          have hUq := own_cap (base := bq) hQ (Nat.le_refl _) (by rw [List.length_map]; exact hk9) hkm
          rw [List.length_map] at hUq
          obtain ⟨n4, hn4⟩ : ∃ n4, n4 = (W3).heap.size := ⟨_, rfl⟩
          have hir : rows.length = i := by rw [hrows, List.length_map, List.length_take]; omega
          have hale : acc.length = i := by rw [hacc2, List.length_map, List.length_take]; omega
          have hOe : (W3).ownsRow n1 TDI 1 (.slice ea i ec) i (acc.map (Value.int .i64)) := by have h9 := hO.e; rwa [hale] at h9
          have hOn : (W3).ownsRow n1 TDIs 1 (.slice na2 i nc2) i vs := hO.n.on (by rw [List.length_map]; omega)
          have hat := acc_at ok (show i < n by omega)
          obtain ⟨yv, hyv⟩ : ∃ y, y = atD d ((i : Nat) : Int) := ⟨_, rfl⟩
          rw [← hyv] at hat
          refine Wp_exit ?_
          refine thn_exit ?_
          refine thn_exit ?_
          refine inB_here ?_
          refine thn_normal ?_
          obtain ⟨Fs7, hFs7⟩ : ∃ Fs : List FctE, Fs = [(fun _ v _ => v = (.pointer (some ⟨bx, 2, none⟩))), (fun _ v _ => v = (.slice na2 i nc2)), (fun _ v _ => v = (.slice (some ⟨bq, 0, none⟩) row.length k9)), (fun _ => litF TDIs #[.slice (some ⟨bq, 0, none⟩) row.length k9] n4), (fun _ => appF n1 TDIs 1 (i + 1) (vs ++ [Value.slice (some ⟨bq, 0, none⟩) row.length k9]) (.slice na2 i nc2) n4), (fun _ v _ => v = (.pointer (some ⟨bx, 1, none⟩))), (fun _ v _ => v = (.slice ea i ec)), (fun _ v _ => v = (.pointer (some ⟨bd, 1, none⟩))), (fun _ v _ => v = (.slice (some ⟨ab, ao, none⟩) n ac)), (fun _ v _ => v = (.int .i64 ((i : Nat) : Int))), (fun _ v _ => v = (.pointer (some ⟨ab, ao + i, none⟩))), (fun _ v _ => v = (.int .i64 yv)), (fun _ v _ => v = (.bool (decide (yv < 0)))), (fun _ v _ => v = (.int .i64 (fl yv))), (fun _ => litF TDI #[.int .i64 (fl yv)] n4), (fun s v w => appF n1 TDI 1 (i + 1) (acc.map (Value.int .i64) ++ [Value.int .i64 (fl yv)]) (.slice ea i ec) n4 v w ∧ ∀ b, (s 44).ownBlock = some b → v.ownBlock ≠ some b), (fun _ v _ => v = (.pointer (some ⟨bx, 2, none⟩)))] := ⟨_, rfl⟩
          refine Wp_dagX (two 4 15 (fun b => (Value.slice na2 i nc2).ownBlock = some b) (fun b => (Value.slice ea i ec).ownBlock = some b)) 17 [40, 41, 42, 43, 44, 45, 46, 47, 48, 49, 50, 51, 52, 53, 54, 55, 56] [[], [0], [], [2], [1, 3], [], [5], [], [7], [], [8, 9], [10], [11], [4, 12], [13], [6, 13, 14], [0, 1, 2, 3, 4, 5, 6]] [[], [0], [], [2], [1, 0, 3, 2], [], [5], [], [7], [], [8, 7, 9], [10, 8, 7, 9], [11, 10, 8, 7, 9], [4, 1, 0, 3, 2, 12, 11, 10, 8, 7, 9], [13, 4, 1, 0, 3, 2, 12, 11, 10, 8, 7, 9], [6, 5, 13, 4, 1, 0, 3, 2, 12, 11, 10, 8, 7, 9, 14], [0, 1, 2, 3, 4, 5, 6]] Fs7 hFs7 (by kernel_rfl) mixed (by kernel_rfl) (by kernel_rfl) (by kernel_rfl) ?_ ?_
          · intro wd X0
            refine DagStepsX.cons (StabX.eq) (fun _ _ _ _ _ h => h) (fun s' w' X U H => ?_) ?_
            · exact DoesT_val (r_fieldAddr (b := bx) (o := 0) (o' := 2) (U 4 rfl) Try.underlying25 rfl siz23 rfl) (Chg.refl _ _) rfl
            refine DagStepsX.cons (StabX.eq) (fun _ _ _ _ _ h => h) (fun s' w' X U H => ?_) ?_
            · have e40 : s' 40 = (.pointer (some ⟨bx, 2, none⟩)) := H 0 rfl 40 ((fun _ v _ => v = (.pointer (some ⟨bx, 2, none⟩)))) rfl (by rw [hFs7]; rfl)
              exact DoesT_val (r_load (v := (.slice na2 i nc2)) e40 flat23 ((Chg.keep X (fun h => (fun h => h.elim (fun h => by have := (hOn.lt _ h).1; omega) (fun h => by have := (hOe.lt _ h).1; omega)) (Past.or h)) (X0.keep Bx)).cell rfl)) (Chg.refl _ _) rfl
            refine DagStepsX.cons (StabX.eq) (fun _ _ _ _ _ h => h) (fun s' w' X U H => ?_) ?_
            · exact DoesT_val (r_move (v := (.slice (some ⟨bq, 0, none⟩) row.length k9)) (U 7 rfl)) (Chg.refl _ _) rfl
            refine DagStepsX.cons (litF_stab (fun y h => by have := (hOn.lt y h).2; omega) (fun y h => by have := (hOe.lt y h).2; omega)) (LocX.const) (fun s' w' X U H => ?_) ?_
            · have e42 : s' 42 = (.slice (some ⟨bq, 0, none⟩) row.length k9) := H 2 rfl 42 ((fun _ v _ => v = (.slice (some ⟨bq, 0, none⟩) row.length k9))) rfl (by rw [hFs7]; rfl)
              exact DoesT_lit (hs := n4) Try.underlying23 siz22 zer22 e42 (by decide) (by decide) (by kernel_rfl) (by have := X0.size; have := X.size; omega)
            refine DagStepsX.cons (appF_st1 (fun k hk hm => hk.elim (fun h => hO.en k hm h) (fun h => by have := (hOe.lt k hm).2; omega))) (LocX.const) (fun s' w' X U H => ?_) ?_
            · have e41 : s' 41 = (.slice na2 i nc2) := H 1 rfl 41 ((fun _ v _ => v = (.slice na2 i nc2))) rfl (by rw [hFs7]; rfl)
              obtain ⟨b43, e43, B43, g43⟩ := (show ((fun _ => litF TDIs #[.slice (some ⟨bq, 0, none⟩) row.length k9] n4) : FctE) s' (s' 43) w' from H 3 rfl 43 ((fun _ => litF TDIs #[.slice (some ⟨bq, 0, none⟩) row.length k9] n4)) rfl (by rw [hFs7]; rfl))
              exact DoesT_append (hs := n4) Try.underlying23 siz22 byt22 zer22 rfl (by decide) e41 (own_ext (own_ext hOn X0) (X.mono (fun y _ h => Past.none rfl rfl h))) e43 rfl (B43.cells rfl) (by simp [Value.oneCell']) (by unfold maxLen; omega) (by omega) (by have := X0.size; have := X.size; omega) (fun y h => h) (by have := X0.size; have := X.size; omega)
            refine DagStepsX.cons (StabX.eq) (fun _ _ _ _ _ h => h) (fun s' w' X U H => ?_) ?_
            · exact DoesT_val (r_fieldAddr (b := bx) (o := 0) (o' := 1) (U 4 rfl) Try.underlying25 rfl siz22 rfl) (Chg.refl _ _) rfl
            refine DagStepsX.cons (StabX.eq) (fun _ _ _ _ _ h => h) (fun s' w' X U H => ?_) ?_
            · have e45 : s' 45 = (.pointer (some ⟨bx, 1, none⟩)) := H 5 rfl 45 ((fun _ v _ => v = (.pointer (some ⟨bx, 1, none⟩)))) rfl (by rw [hFs7]; rfl)
              exact DoesT_val (r_load (v := (.slice ea i ec)) e45 flat22 ((Chg.keep X (fun h => (fun h => h.elim (fun h => by have := (hOn.lt _ h).1; omega) (fun h => by have := (hOe.lt _ h).1; omega)) (Past.or h)) (X0.keep Bx)).cell rfl)) (Chg.refl _ _) rfl
            refine DagStepsX.cons (StabX.eq) (fun _ _ _ _ _ h => h) (fun s' w' X U H => ?_) ?_
            · exact DoesT_val (r_fieldAddr (b := bd) (o := 0) (o' := 1) (U 1 rfl) Try.underlying25 rfl siz22 rfl) (Chg.refl _ _) rfl
            refine DagStepsX.cons (StabX.eq) (fun _ _ _ _ _ h => h) (fun s' w' X U H => ?_) ?_
            · have e47 : s' 47 = (.pointer (some ⟨bd, 1, none⟩)) := H 7 rfl 47 ((fun _ v _ => v = (.pointer (some ⟨bd, 1, none⟩)))) rfl (by rw [hFs7]; rfl)
              exact DoesT_val (r_load (v := (.slice (some ⟨ab, ao, none⟩) n ac)) e47 flat22 ((Chg.keep X (fun h => (fun h => h.elim (fun h => by have := (hOn.lt _ h).1; omega) (fun h => by have := (hOe.lt _ h).1; omega)) (Past.or h)) (X0.keep Bd)).cell rfl)) (Chg.refl _ _) rfl
            refine DagStepsX.cons (StabX.eq) (fun _ _ _ _ _ h => h) (fun s' w' X U H => ?_) ?_
            · exact DoesT_val (r_move (v := (.int .i64 ((i : Nat) : Int))) (U 5 rfl)) (Chg.refl _ _) rfl
            refine DagStepsX.cons (StabX.eq) (fun _ _ _ _ _ h => h) (fun s' w' X U H => ?_) ?_
            · have e48 : s' 48 = (.slice (some ⟨ab, ao, none⟩) n ac) := H 8 rfl 48 ((fun _ v _ => v = (.slice (some ⟨ab, ao, none⟩) n ac))) rfl (by rw [hFs7]; rfl)
              have e49 : s' 49 = (.int .i64 ((i : Nat) : Int)) := H 9 rfl 49 ((fun _ v _ => v = (.int .i64 ((i : Nat) : Int)))) rfl (by rw [hFs7]; rfl)
              exact DoesT_val (r_indexSlice (b := ab) (o := ao) (len := n) (cap := ac) (i := i) (o' := ao + i) e48 e49 rfl Try.underlying22 siz3 (by omega) (by omega)) (Chg.refl _ _) rfl
            refine DagStepsX.cons (StabX.eq) (fun _ _ _ _ _ h => h) (fun s' w' X U H => ?_) ?_
            · have e50 : s' 50 = (.pointer (some ⟨ab, ao + i, none⟩)) := H 10 rfl 50 ((fun _ v _ => v = (.pointer (some ⟨ab, ao + i, none⟩)))) rfl (by rw [hFs7]; rfl)
              exact DoesT_val (r_load (v := (.int .i64 yv)) e50 flat3 (Chg.cell X (fun h => (Past.or h).elim (fun h => by have := (hOn.lt ab h).1; omega) (fun h => by have := (hOe.lt ab h).1; omega)) (X0.cell (E.cell (fun f => f) (hax i _ hat))))) (Chg.refl _ _) rfl
            refine DagStepsX.cons (StabX.eq) (fun _ _ _ _ _ h => h) (fun s' w' X U H => ?_) ?_
            · have e51 : s' 51 = (.int .i64 yv) := H 11 rfl 51 ((fun _ v _ => v = (.int .i64 yv))) rfl (by rw [hFs7]; rfl)
              exact DoesT_val (r_lss e51 rfl) (Chg.refl _ _) rfl
            refine DagStepsX.cons (StabX.eq) (fun _ _ _ _ _ h => h) (fun s' w' X U H => ?_) ?_
            · have e52 : s' 52 = (.bool (decide (yv < 0))) := H 12 rfl 52 ((fun _ v _ => v = (.bool (decide (yv < 0))))) rfl (by rw [hFs7]; rfl)
              exact DoesT_enter (r_callF (vs := [(.bool (decide (yv < 0)))]) Try.func92 nm92 bd92 (lst1 e52)) (dfflag2_c yv _)
            refine DagStepsX.cons (litF_stab (fun y h => by have := (hOn.lt y h).2; omega) (fun y h => by have := (hOe.lt y h).2; omega)) (LocX.const) (fun s' w' X U H => ?_) ?_
            · have e53 : s' 53 = (.int .i64 (fl yv)) := H 13 rfl 53 ((fun _ v _ => v = (.int .i64 (fl yv)))) rfl (by rw [hFs7]; rfl)
              exact DoesT_lit (hs := n4) Try.underlying22 siz3 zer3 e53 (by decide) (by decide) (by kernel_rfl) (by have := X0.size; have := X.size; omega)
            refine DagStepsX.cons (appF_st2 rfl) (fun s1 s2 h v w h2 => ⟨h2.1, by have := h 4 44 rfl rfl; rw [this]; exact h2.2⟩) (fun s' w' X U H => ?_) ?_
            · have e46 : s' 46 = (.slice ea i ec) := H 6 rfl 46 ((fun _ v _ => v = (.slice ea i ec))) rfl (by rw [hFs7]; rfl)
              obtain ⟨b54, e54, B54, g54⟩ := (show ((fun _ => litF TDI #[.int .i64 (fl yv)] n4) : FctE) s' (s' 54) w' from H 14 rfl 54 ((fun _ => litF TDI #[.int .i64 (fl yv)] n4)) rfl (by rw [hFs7]; rfl))
              exact app_two (H 4 rfl 44 _ rfl (by rw [hFs7]; rfl)) (DoesT_append (hs := w'.heap.size) Try.underlying22 siz3 byt3 zer3 rfl (by decide) e46 (own_chg (own_ext hOe X0) (X.mono (fun y _ h => Past.fst rfl h)) (fun k hk hm => hO.en k hk hm)) e54 rfl (B54.cells rfl) (by simp [Value.oneCell']) (by unfold maxLen; omega) (by omega) (by have := X0.size; have := X.size; omega) (fun y h => h) (Nat.le_refl _)) (by have := X0.size; have := X.size; omega) (fun k h1 h2 => h1.elim (fun h => hO.en k h2 h) (fun h => by have := (hOe.lt k h2).2; omega))
            refine DagStepsX.cons (StabX.eq) (fun _ _ _ _ _ h => h) (fun s' w' X U H => ?_) ?_
            · exact DoesT_val (r_fieldAddr (b := bx) (o := 0) (o' := 2) (U 4 rfl) Try.underlying25 rfl siz23 rfl) (Chg.refl _ _) rfl
            exact DagStepsX.nil
          · intro s' wd7 w7 X0 X7 U H
            replace X7 := X7.mono (M' := fun y => (fun b => (Value.slice na2 i nc2).ownBlock = some b) y ∨ (fun b => (Value.slice ea i ec).ownBlock = some b) y) (fun y _ h => by obtain ⟨j, h⟩ := h; rcases two_or h with h | h; exact .inl h.2; exact .inr h.2)
            obtain ⟨⟨a44, c44, e44⟩, O44, D44⟩ := (show ((fun _ => appF n1 TDIs 1 (i + 1) (vs ++ [Value.slice (some ⟨bq, 0, none⟩) row.length k9]) (.slice na2 i nc2) n4) : FctE) s' (s' 44) w7 from H 4 44 ((fun _ => appF n1 TDIs 1 (i + 1) (vs ++ [Value.slice (some ⟨bq, 0, none⟩) row.length k9]) (.slice na2 i nc2) n4)) rfl (by rw [hFs7]; rfl))
            obtain ⟨⟨⟨a55, c55, e55⟩, O55, D55⟩, A55⟩ := (show ((fun s v w => appF n1 TDI 1 (i + 1) (acc.map (Value.int .i64) ++ [Value.int .i64 (fl yv)]) (.slice ea i ec) n4 v w ∧ ∀ b, (s 44).ownBlock = some b → v.ownBlock ≠ some b) : FctE) s' (s' 55) w7 from H 15 55 ((fun s v w => appF n1 TDI 1 (i + 1) (acc.map (Value.int .i64) ++ [Value.int .i64 (fl yv)]) (.slice ea i ec) n4 v w ∧ ∀ b, (s 44).ownBlock = some b → v.ownBlock ≠ some b)) rfl (by rw [hFs7]; rfl))
            have e56 : s' 56 = (.pointer (some ⟨bx, 2, none⟩)) := H 16 56 ((fun _ v _ => v = (.pointer (some ⟨bx, 2, none⟩)))) rfl (by rw [hFs7]; rfl)
            obtain ⟨j7, rfl⟩ := Fits.out (σ := s') (l := [(1, (.pointer (some ⟨bd, 0, none⟩))), (2, (.pointer (some ⟨bo, 0, none⟩))), (3, (.int .i64 ((n : Nat) : Int))), (4, (.pointer (some ⟨bx, 0, none⟩))), (17, (.slice (some ⟨nb, no, none⟩) n nc)), (18, (.int .i64 ((n : Nat) : Int))), (19, (.int .i64 ((i : Nat) : Int))), (44, (.slice a44 (i + 1) c44)), (55, (.slice a55 (i + 1) c55)), (56, (.pointer (some ⟨bx, 2, none⟩)))]) ⟨U 1 rfl, U 2 rfl, U 3 rfl, U 4 rfl, U 17 rfl, U 18 rfl, U 19 rfl, e44, e55, e56, trivial⟩
            clear U H
            replace Bd := Chg.keep X7 (fun h => h.elim (fun h => by have := (hOn.lt _ h).1; omega) (fun h => by have := (hOe.lt _ h).1; omega)) (X0.keep Bd)
            replace Bo := Chg.keep X7 (fun h => h.elim (fun h => by have := (hOn.lt _ h).1; omega) (fun h => by have := (hOe.lt _ h).1; omega)) (X0.keep Bo)
            replace Bx := Chg.keep X7 (fun h => h.elim (fun h => by have := (hOn.lt _ h).1; omega) (fun h => by have := (hOe.lt _ h).1; omega)) (X0.keep Bx)
            replace hQ := Chg.keep X7 (fun h => h.elim (fun h => by have := hOz _ (.inr (.inl h)); omega) (fun h => by have := hOz _ (.inl h); omega)) (X0.keep hQ)
            have hXm := Chg.trans (Ext.chg X0) X7
            replace E := (E.ext X0).step X7 (fun y hy h => h.elim (fun h => by have := (hOn.lt y h).1; omega) (fun h => by have := (hOe.lt y h).1; omega))
            rw [e44] at O44 D44 A55
            rw [e55] at O55 D55 A55
            have hO2 := hO.push (y := fl yv) (row := row.map (nt n)) (N' := .slice a44 (i + 1) c44) (E' := .slice a55 (i + 1) c55) hUq (by rw [List.length_map]) (by omega) (fun b hb => by have := hOz b hb; omega) hXm (by rw [hir]; exact O44) (fun k hk => by rw [← hn4]; exact D44 k hk) (by rw [hale, List.map_append]; exact O55) (fun k hk => by rw [← hn4]; exact D55 k hk) A55
            have hsz2 := Nat.le_trans hsz hXm.size
            refine s_store (b := bx) (o := 2) (c' := #[(.int .i64 d.start), (.slice ea i ec), (.slice a44 (i + 1) c44)]) (v := (.slice a44 (i + 1) c44)) rfl rfl rfl siz23 Bx (by simp) rfl ?_
            intro w8 S8
            replace hO2 := hO2.chg S8.chg fun b hb h => by have := (hO2.lt hb).1; have h' : b = bx := h; omega
            replace hsz2 := Nat.le_trans hsz2 S8.chg.size
            replace Bd := S8.keep (by omega) Bd
            replace Bo := S8.keep (by omega) Bo
            replace hQ := S8.keep (by omega) hQ
            replace E := S8.step E (by first | exact Or.inl (by omega) | exact Or.inr rfl | exact Or.inr (by assumption) | exact Or.inr (by simp) | exact Or.inr (by omega) | exact Or.inr (by dsimp only; omega))
            replace Bx := S8.blk
            refine WpL_val rfl rfl (by decide) (r_fieldAddr (b := bx) (o := 0) (o' := 1) rfl Try.underlying25 rfl siz22 rfl) ?_
            refine s_store (b := bx) (o := 1) (c' := #[(.int .i64 d.start), (.slice a55 (i + 1) c55), (.slice a44 (i + 1) c44)]) (v := (.slice a55 (i + 1) c55)) rfl rfl rfl siz22 Bx (by simp) rfl ?_
            intro w9 S9
            replace hO2 := hO2.chg S9.chg fun b hb h => by have := (hO2.lt hb).1; have h' : b = bx := h; omega
            replace hsz2 := Nat.le_trans hsz2 S9.chg.size
            replace Bd := S9.keep (by omega) Bd
            replace Bo := S9.keep (by omega) Bo
            replace hQ := S9.keep (by omega) hQ
            replace E := S9.step E (by first | exact Or.inl (by omega) | exact Or.inr rfl | exact Or.inr (by assumption) | exact Or.inr (by simp) | exact Or.inr (by omega) | exact Or.inr (by dsimp only; omega))
            replace Bx := S9.blk
            refine WpL_nil ?_
            refine inB_normal ?_
            refine thn_normal ?_
            refine Wp_region ?_
            refine WpL_val rfl rfl (by decide) (r_add (k := .i64) (a := ((i : Nat) : Int)) (b := 1) (c := ((i : Nat) : Int) + 1) rfl rfl (wI64 (by omega))) ?_
            refine WpL_val rfl rfl (by decide) (r_move (v := (.int .i64 (((i : Nat) : Int) + 1))) rfl) ?_
            refine WpL_nil ?_
            refine thn_normal ?_
            exact ⟨n - (i + 1), by omega, i + 1, rows ++ [row.map (nt n)], acc ++ [fl yv], vs ++ [.slice (some ⟨bq, 0, none⟩) row.length k9], a55, a44, c55, c44, Fits.out ⟨rfl, rfl, rfl, rfl, rfl, rfl, rfl, trivial⟩, E, Bd, Bo, Bx, (by omega), (by rw [take_snoc' hrow, List.map_append, hrows]; rfl), (by rw [take_snoc' hat, List.map_append, hacc2]; rfl), hO2, hsz2, rfl⟩
    · have khlt := hlt
      replace hlt := of_decide_eq_false hlt
      have hin : i = n := by omega
      obtain ⟨row0, ra0, rc0, hrow0, hrl0, hcell0, hri0⟩ := hrowc 0 (by omega)
      obtain ⟨n4, hn4⟩ : ∃ n4, n4 = (W1).heap.size := ⟨_, rfl⟩
      have hir : rows.length = n := by rw [hrows, List.length_map, List.length_take]; omega
      have hale : acc.length = n := by rw [hacc2, List.length_map, List.length_take]; omega
      rw [hin] at hO Bx
      have hOe : (W1).ownsRow n1 TDI 1 (.slice ea n ec) n (acc.map (Value.int .i64)) := by have h9 := hO.e; rwa [hale] at h9
      have hOn : (W1).ownsRow n1 TDIs 1 (.slice na2 n nc2) n vs := hO.n.on (by rw [List.length_map]; omega)
      refine Wp_exit ?_
      refine thn_exit ?_
      refine thn_exit ?_
      refine inB_here ?_
      refine thn_normal ?_
      refine Wp_seq ?_
      obtain ⟨Fs10, hFs10⟩ : ∃ Fs : List FctE, Fs = [(fun _ v _ => v = (.pointer (some ⟨bx, 2, none⟩))), (fun _ v _ => v = (.slice na2 n nc2)), (fun _ v _ => v = (.int .i64 ((n : Nat) : Int))), (fun _ => litF TDI #[.int .i64 (n : Int)] n4), (fun _ v _ => v = (.pointer (some ⟨bd, 2, none⟩))), (fun _ v _ => v = (.slice (some ⟨nb, no, none⟩) n nc)), (fun _ v _ => v = (.pointer (some ⟨nb, no + 0, none⟩))), (fun _ v _ => v = (.slice ra0 row0.length rc0)), (fun _ v _ => v = (.int .i64 ((row0.length : Nat) : Int))), (fun _ => appF n4 TDI 1 row0.length ((List.replicate row0.length (n : Int)).map (Value.int .i64)) (.slice none 0 0) n4), (fun s v w => litF TDIs #[s 68] n4 v w), (fun s v w => appF n1 TDIs 1 (n + 1) (vs ++ [s 68]) (.slice na2 n nc2) n4 v w ∧ ∀ b, (s 68).ownBlock = some b → v.ownBlock ≠ some b), (fun _ v _ => v = (.pointer (some ⟨bx, 1, none⟩))), (fun _ v _ => v = (.slice ea n ec)), (fun _ => litF TDI #[.int .i64 0] n4), (fun _ => appF n1 TDI 1 (n + 1) (acc.map (Value.int .i64) ++ [Value.int .i64 0]) (.slice ea n ec) n4), (fun _ v _ => v = (.pointer (some ⟨bx, 2, none⟩)))] := ⟨_, rfl⟩
      refine Wp_dagX (two 11 15 (fun b => (Value.slice na2 n nc2).ownBlock = some b) (fun b => (Value.slice ea n ec).ownBlock = some b)) 17 [59, 60, 61, 62, 63, 64, 65, 66, 67, 68, 69, 70, 71, 72, 73, 74, 75] [[], [0], [], [2], [], [4], [5], [6], [7], [3, 8], [9], [1, 9, 10], [], [12], [], [11, 13, 14], [0, 1, 2, 3, 4, 5, 6, 7, 8, 9, 10, 11, 12, 13]] [[], [0], [], [2], [], [4], [5, 4], [6, 5, 4], [7, 6, 5, 4], [3, 2, 8, 7, 6, 5, 4], [9, 3, 2, 8, 7, 6, 5, 4], [1, 0, 9, 3, 2, 8, 7, 6, 5, 4, 10], [], [12], [], [11, 1, 0, 9, 3, 2, 8, 7, 6, 5, 4, 10, 13, 12, 14], [0, 1, 2, 3, 4, 5, 6, 7, 8, 9, 10, 11, 12, 13]] Fs10 hFs10 (by kernel_rfl) mixed (by kernel_rfl) (by kernel_rfl) (by kernel_rfl) ?_ ?_
      · intro wd X0
        refine DagStepsX.cons (StabX.eq) (fun _ _ _ _ _ h => h) (fun s' w' X U H => ?_) ?_
        · exact DoesT_val (r_fieldAddr (b := bx) (o := 0) (o' := 2) (U 4 rfl) Try.underlying25 rfl siz23 rfl) (Chg.refl _ _) rfl
        refine DagStepsX.cons (StabX.eq) (fun _ _ _ _ _ h => h) (fun s' w' X U H => ?_) ?_
        · have e59 : s' 59 = (.pointer (some ⟨bx, 2, none⟩)) := H 0 rfl 59 ((fun _ v _ => v = (.pointer (some ⟨bx, 2, none⟩)))) rfl (by rw [hFs10]; rfl)
          exact DoesT_val (r_load (v := (.slice na2 n nc2)) e59 flat23 ((Chg.keep X (fun h => (fun h => h.elim (fun h => by have := (hOn.lt _ h).1; omega) (fun h => by have := (hOe.lt _ h).1; omega)) (Past.or h)) (X0.keep Bx)).cell rfl)) (Chg.refl _ _) rfl
        refine DagStepsX.cons (StabX.eq) (fun _ _ _ _ _ h => h) (fun s' w' X U H => ?_) ?_
        · exact DoesT_val (r_move (v := (.int .i64 ((n : Nat) : Int))) (U 3 rfl)) (Chg.refl _ _) rfl
        refine DagStepsX.cons (litF_stab (fun y h => by have := (hOn.lt y h).2; omega) (fun y h => by have := (hOe.lt y h).2; omega)) (LocX.const) (fun s' w' X U H => ?_) ?_
        · have e61 : s' 61 = (.int .i64 ((n : Nat) : Int)) := H 2 rfl 61 ((fun _ v _ => v = (.int .i64 ((n : Nat) : Int)))) rfl (by rw [hFs10]; rfl)
          exact DoesT_lit (hs := n4) Try.underlying22 siz3 zer3 e61 (by decide) (by decide) (by kernel_rfl) (by have := X0.size; have := X.size; omega)
        refine DagStepsX.cons (StabX.eq) (fun _ _ _ _ _ h => h) (fun s' w' X U H => ?_) ?_
        · exact DoesT_val (r_fieldAddr (b := bd) (o := 0) (o' := 2) (U 1 rfl) Try.underlying25 rfl siz23 rfl) (Chg.refl _ _) rfl
        refine DagStepsX.cons (StabX.eq) (fun _ _ _ _ _ h => h) (fun s' w' X U H => ?_) ?_
        · have e63 : s' 63 = (.pointer (some ⟨bd, 2, none⟩)) := H 4 rfl 63 ((fun _ v _ => v = (.pointer (some ⟨bd, 2, none⟩)))) rfl (by rw [hFs10]; rfl)
          exact DoesT_val (r_load (v := (.slice (some ⟨nb, no, none⟩) n nc)) e63 flat23 ((Chg.keep X (fun h => (fun h => h.elim (fun h => by have := (hOn.lt _ h).1; omega) (fun h => by have := (hOe.lt _ h).1; omega)) (Past.or h)) (X0.keep Bd)).cell rfl)) (Chg.refl _ _) rfl
        refine DagStepsX.cons (StabX.eq) (fun _ _ _ _ _ h => h) (fun s' w' X U H => ?_) ?_
        · have e64 : s' 64 = (.slice (some ⟨nb, no, none⟩) n nc) := H 5 rfl 64 ((fun _ v _ => v = (.slice (some ⟨nb, no, none⟩) n nc))) rfl (by rw [hFs10]; rfl)
          exact DoesT_val (r_indexSlice (b := nb) (o := no) (len := n) (cap := nc) (i := 0) (o' := no + 0) e64 rfl rfl Try.underlying23 siz22 (by omega) (by omega)) (Chg.refl _ _) rfl
        refine DagStepsX.cons (StabX.eq) (fun _ _ _ _ _ h => h) (fun s' w' X U H => ?_) ?_
        · have e65 : s' 65 = (.pointer (some ⟨nb, no + 0, none⟩)) := H 6 rfl 65 ((fun _ v _ => v = (.pointer (some ⟨nb, no + 0, none⟩)))) rfl (by rw [hFs10]; rfl)
          exact DoesT_val (r_load (v := (.slice ra0 row0.length rc0)) e65 flat22 (Chg.cell X (fun h => (Past.or h).elim (fun h => by have := (hOn.lt nb h).1; omega) (fun h => by have := (hOe.lt nb h).1; omega)) (X0.cell (E.cell (fun f => f) hcell0)))) (Chg.refl _ _) rfl
        refine DagStepsX.cons (StabX.eq) (fun _ _ _ _ _ h => h) (fun s' w' X U H => ?_) ?_
        · have e66 : s' 66 = (.slice ra0 row0.length rc0) := H 7 rfl 66 ((fun _ v _ => v = (.slice ra0 row0.length rc0))) rfl (by rw [hFs10]; rfl)
          exact DoesT_val (r_lenSlice (ad := ra0) (n := row0.length) (cap := rc0) Try.underlying22 e66) (Chg.refl _ _) rfl
        refine DagStepsX.cons (appF_st0 (fun y h => by have := (hOn.lt y h).2; omega) (fun y h => by have := (hOe.lt y h).2; omega)) (LocX.const) (fun s' w' X U H => ?_) ?_
        · obtain ⟨b62, e62, B62, g62⟩ := (show ((fun _ => litF TDI #[.int .i64 (n : Int)] n4) : FctE) s' (s' 62) w' from H 3 rfl 62 ((fun _ => litF TDI #[.int .i64 (n : Int)] n4)) rfl (by rw [hFs10]; rfl))
          have e67 : s' 67 = (.int .i64 ((row0.length : Nat) : Int)) := H 8 rfl 67 ((fun _ v _ => v = (.int .i64 ((row0.length : Nat) : Int)))) rfl (by rw [hFs10]; rfl)
          exact DoesT_enter (r_callF (vs := [(.slice (some ⟨b62, 0, none⟩) 1 1), (.int .i64 ((row0.length : Nat) : Int))]) Try.func55 nm55 bd55 (lst2 e62 e67)) (repeat_h _ b62 1 row0.length n4 (n : Int) _ B62 (by omega) (by omega) (by have := X0.size; have := X.size; omega))
        refine DagStepsX.cons (litF_stS (fun y h => by have := (hOn.lt y h).2; omega) (fun y h => by have := (hOe.lt y h).2; omega)) (fun s1 s2 h v w h2 => by have := h 9 68 rfl rfl; rw [this]; exact h2) (fun s' w' X U H => ?_) ?_
        · obtain ⟨⟨a68, c68, e68⟩, O68, D68⟩ := (show ((fun _ => appF n4 TDI 1 row0.length ((List.replicate row0.length (n : Int)).map (Value.int .i64)) (.slice none 0 0) n4) : FctE) s' (s' 68) w' from H 9 rfl 68 ((fun _ => appF n4 TDI 1 row0.length ((List.replicate row0.length (n : Int)).map (Value.int .i64)) (.slice none 0 0) n4)) rfl (by rw [hFs10]; rfl))
          exact DoesT_lit (hs := n4) Try.underlying23 siz22 zer22 e68 (by decide) (by decide) (by rw [e68]; kernel_rfl) (by have := X0.size; have := X.size; omega)
        refine DagStepsX.cons (appF_stS (fun k hk hm => hk.elim (fun h => hO.en k hm h) (fun h => by have := (hOe.lt k hm).2; omega))) (fun s1 s2 h v w h2 => by have := h 9 68 rfl rfl; rw [this]; exact h2) (fun s' w' X U H => ?_) ?_
        · have e60 : s' 60 = (.slice na2 n nc2) := H 1 rfl 60 ((fun _ v _ => v = (.slice na2 n nc2))) rfl (by rw [hFs10]; rfl)
          obtain ⟨b69, e69, B69, g69⟩ := (show ((fun s v w => litF TDIs #[s 68] n4 v w) : FctE) s' (s' 69) w' from H 10 rfl 69 ((fun s v w => litF TDIs #[s 68] n4 v w)) rfl (by rw [hFs10]; rfl))
          exact app_two (H 9 rfl 68 _ rfl (by rw [hFs10]; rfl)) (DoesT_append (hs := w'.heap.size) Try.underlying23 siz22 byt22 zer22 rfl (by decide) e60 (own_ext (own_ext hOn X0) (X.mono (fun y _ h => Past.none rfl rfl h))) e69 rfl (B69.cells rfl) (by have h9 : appF n4 TDI 1 row0.length ((List.replicate row0.length (n : Int)).map (Value.int .i64)) (.slice none 0 0) n4 (s' 68) w' := H 9 rfl 68 _ rfl (by rw [hFs10]; rfl); obtain ⟨⟨_, _, e9⟩, _⟩ := h9; intro u hu; rw [List.mem_singleton] at hu; rw [hu, e9]; rfl) (by unfold maxLen; omega) (by omega) (by have := X0.size; have := X.size; omega) (fun y h => h) (Nat.le_refl _)) (by have := X0.size; have := X.size; omega) (fun k h1 h2 => h1.elim (fun h => by cases h) (fun h => by have := (hOn.lt k h2).2; omega))
        refine DagStepsX.cons (StabX.eq) (fun _ _ _ _ _ h => h) (fun s' w' X U H => ?_) ?_
        · exact DoesT_val (r_fieldAddr (b := bx) (o := 0) (o' := 1) (U 4 rfl) Try.underlying25 rfl siz22 rfl) (Chg.refl _ _) rfl
        refine DagStepsX.cons (StabX.eq) (fun _ _ _ _ _ h => h) (fun s' w' X U H => ?_) ?_
        · have e71 : s' 71 = (.pointer (some ⟨bx, 1, none⟩)) := H 12 rfl 71 ((fun _ v _ => v = (.pointer (some ⟨bx, 1, none⟩)))) rfl (by rw [hFs10]; rfl)
          exact DoesT_val (r_load (v := (.slice ea n ec)) e71 flat22 ((Chg.keep X (fun h => (fun h => h.elim (fun h => by have := (hOn.lt _ h).1; omega) (fun h => by have := (hOe.lt _ h).1; omega)) (Past.or h)) (X0.keep Bx)).cell rfl)) (Chg.refl _ _) rfl
        refine DagStepsX.cons (litF_stab (fun y h => by have := (hOn.lt y h).2; omega) (fun y h => by have := (hOe.lt y h).2; omega)) (LocX.const) (fun s' w' X U H => ?_) ?_
        · exact DoesT_lit (hs := n4) Try.underlying22 siz3 zer3 rfl (by decide) (by decide) (by kernel_rfl) (by have := X0.size; have := X.size; omega)
        refine DagStepsX.cons (appF_stL rfl) (LocX.const) (fun s' w' X U H => ?_) ?_
        · have e72 : s' 72 = (.slice ea n ec) := H 13 rfl 72 ((fun _ v _ => v = (.slice ea n ec))) rfl (by rw [hFs10]; rfl)
          obtain ⟨b73, e73, B73, g73⟩ := (show ((fun _ => litF TDI #[.int .i64 0] n4) : FctE) s' (s' 73) w' from H 14 rfl 73 ((fun _ => litF TDI #[.int .i64 0] n4)) rfl (by rw [hFs10]; rfl))
          exact DoesT_append (hs := n4) Try.underlying22 siz3 byt3 zer3 rfl (by decide) e72 (own_chg (own_ext hOe X0) (X.mono (fun y _ h => Past.fst rfl h)) (fun k hk hm => hO.en k hk hm)) e73 rfl (B73.cells rfl) (by simp [Value.oneCell']) (by unfold maxLen; omega) (by omega) (by have := X0.size; have := X.size; omega) (fun y h => h) (by have := X0.size; have := X.size; omega)
        refine DagStepsX.cons (StabX.eq) (fun _ _ _ _ _ h => h) (fun s' w' X U H => ?_) ?_
        · exact DoesT_val (r_fieldAddr (b := bx) (o := 0) (o' := 2) (U 4 rfl) Try.underlying25 rfl siz23 rfl) (Chg.refl _ _) rfl
        exact DagStepsX.nil
      · intro s' wd10 w10 X0 X10 U H
        replace X10 := X10.mono (M' := fun y => (fun b => (Value.slice na2 n nc2).ownBlock = some b) y ∨ (fun b => (Value.slice ea n ec).ownBlock = some b) y) (fun y _ h => by obtain ⟨j, h⟩ := h; rcases two_or h with h | h; exact .inl h.2; exact .inr h.2)
        obtain ⟨⟨a68, c68, e68⟩, O68, D68⟩ := (show ((fun _ => appF n4 TDI 1 row0.length ((List.replicate row0.length (n : Int)).map (Value.int .i64)) (.slice none 0 0) n4) : FctE) s' (s' 68) w10 from H 9 68 ((fun _ => appF n4 TDI 1 row0.length ((List.replicate row0.length (n : Int)).map (Value.int .i64)) (.slice none 0 0) n4)) rfl (by rw [hFs10]; rfl))
        obtain ⟨⟨⟨a70, c70, e70⟩, O70, D70⟩, A70⟩ := (show ((fun s v w => appF n1 TDIs 1 (n + 1) (vs ++ [s 68]) (.slice na2 n nc2) n4 v w ∧ ∀ b, (s 68).ownBlock = some b → v.ownBlock ≠ some b) : FctE) s' (s' 70) w10 from H 11 70 ((fun s v w => appF n1 TDIs 1 (n + 1) (vs ++ [s 68]) (.slice na2 n nc2) n4 v w ∧ ∀ b, (s 68).ownBlock = some b → v.ownBlock ≠ some b)) rfl (by rw [hFs10]; rfl))
        obtain ⟨⟨a74, c74, e74⟩, O74, D74⟩ := (show ((fun _ => appF n1 TDI 1 (n + 1) (acc.map (Value.int .i64) ++ [Value.int .i64 0]) (.slice ea n ec) n4) : FctE) s' (s' 74) w10 from H 15 74 ((fun _ => appF n1 TDI 1 (n + 1) (acc.map (Value.int .i64) ++ [Value.int .i64 0]) (.slice ea n ec) n4)) rfl (by rw [hFs10]; rfl))
        have e75 : s' 75 = (.pointer (some ⟨bx, 2, none⟩)) := H 16 75 ((fun _ v _ => v = (.pointer (some ⟨bx, 2, none⟩)))) rfl (by rw [hFs10]; rfl)
        obtain ⟨j10, rfl⟩ := Fits.out (σ := s') (l := [(2, (.pointer (some ⟨bo, 0, none⟩))), (4, (.pointer (some ⟨bx, 0, none⟩))), (70, (.slice a70 (n + 1) c70)), (74, (.slice a74 (n + 1) c74)), (75, (.pointer (some ⟨bx, 2, none⟩)))]) ⟨U 2 rfl, U 4 rfl, e70, e74, e75, trivial⟩
        clear U H
        replace Bd := Chg.keep X10 (fun h => h.elim (fun h => by have := (hOn.lt _ h).1; omega) (fun h => by have := (hOe.lt _ h).1; omega)) (X0.keep Bd)
        replace Bo := Chg.keep X10 (fun h => h.elim (fun h => by have := (hOn.lt _ h).1; omega) (fun h => by have := (hOe.lt _ h).1; omega)) (X0.keep Bo)
        replace Bx := Chg.keep X10 (fun h => h.elim (fun h => by have := (hOn.lt _ h).1; omega) (fun h => by have := (hOe.lt _ h).1; omega)) (X0.keep Bx)
        have hXm := Chg.trans (Ext.chg X0) X10
        replace E := (E.ext X0).step X10 (fun y hy h => h.elim (fun h => by have := (hOn.lt y h).1; omega) (fun h => by have := (hOe.lt y h).1; omega))
        rw [e70] at O70 D70 A70
        rw [e74] at O74 D74
        have hL := hO.last (row := List.replicate row0.length (n : Int)) hn4 (by omega) hXm (by rw [hir]; exact O70) (by rw [List.length_replicate]; exact O68) D70 A70
        have hE3 : (w10).ownsRow n1 TDI 1 (.slice a74 (n + 1) c74) (n + 1) ((acc ++ [0]).map (Value.int .i64)) := by rw [List.map_append]; exact O74
        have hND : (⟨d.start, acc ++ [0], rows ++ [List.replicate row0.length (n : Int)]⟩ : Dfa) = notD n c d := by rw [hrows, hacc2, hin, hrl0, List.take_of_length_le (by omega), List.take_of_length_le (by omega)]; rfl
        refine s_store (b := bx) (o := 2) (c' := #[(.int .i64 d.start), (.slice ea n ec), (.slice a70 (n + 1) c70)]) (v := (.slice a70 (n + 1) c70)) rfl rfl rfl siz23 Bx (by simp) rfl ?_
        intro w11 S11
        replace hL := hL.chg S11.chg fun b hb _ h => by have h' : b = bx := h; omega
        replace hE3 := own_chg hE3 S11.chg fun b hb h => by have := (hE3.lt b hb).1; have h' : b = bx := h; omega
        replace Bd := S11.keep (by omega) Bd
        replace Bo := S11.keep (by omega) Bo
        replace E := S11.step E (by first | exact Or.inl (by omega) | exact Or.inr rfl | exact Or.inr (by assumption) | exact Or.inr (by simp) | exact Or.inr (by omega) | exact Or.inr (by dsimp only; omega))
        replace Bx := S11.blk
        refine WpL_val rfl rfl (by decide) (r_fieldAddr (b := bx) (o := 0) (o' := 1) rfl Try.underlying25 rfl siz22 rfl) ?_
        refine s_store (b := bx) (o := 1) (c' := #[(.int .i64 d.start), (.slice a74 (n + 1) c74), (.slice a70 (n + 1) c70)]) (v := (.slice a74 (n + 1) c74)) rfl rfl rfl siz22 Bx (by simp) rfl ?_
        intro w12 S12
        replace hL := hL.chg S12.chg fun b hb _ h => by have h' : b = bx := h; omega
        replace hE3 := own_chg hE3 S12.chg fun b hb h => by have := (hE3.lt b hb).1; have h' : b = bx := h; omega
        replace Bd := S12.keep (by omega) Bd
        replace Bo := S12.keep (by omega) Bo
        replace E := S12.step E (by first | exact Or.inl (by omega) | exact Or.inr rfl | exact Or.inr (by assumption) | exact Or.inr (by simp) | exact Or.inr (by omega) | exact Or.inr (by dsimp only; omega))
        replace Bx := S12.blk
        refine WpL_nil ?_
        refine thn_normal ?_
        refine Wp_seq_region ?_
        refine WpL_val rfl rfl (by decide) (r_loadAgg (vs := [(.int .i64 d.start), (.slice a74 (n + 1) c74), (.slice a70 (n + 1) c70)]) rfl agg25 siz25 rfl (Bx.cells rfl)) ?_
        obtain ⟨n9, hn9⟩ : ∃ n9, n9 = (w12).heap.size := ⟨_, rfl⟩
        have hn9b : w0.heap.size ≤ n9 ∧ bo < n9 := ⟨by have := E.size; omega, by have := Bo.lt; omega⟩
        refine WpL_enter rfl rfl (by decide) (r_callF (vs := [(.agg #[(.int .i64 d.start), (.slice a74 (n + 1) c74), (.slice a70 (n + 1) c70)])]) Try.func56 nm56 bd56 rfl) (canon_f _ (n + 1) c (notD n c d) [.int .i64 d.start, .slice a74 (n + 1) c74, .slice a70 (n + 1) c70] (okNot ok) (by rw [← hND]; exact dfa_of_own ⟨a74, c74, by simp [hale]⟩ ⟨a70, c70, by simp [hir]⟩ (by simpa [hale] using hE3) hL) (by omega) notD_acc) ?_
        rintro _ w99 ⟨⟨C, ca, cc, ma, mc, hC, hCl, hCa, rfl, hCN⟩, X99⟩
        replace Bd := X99.keep Bd
        replace Bo := X99.keep Bo
        replace Bx := X99.keep Bx
        replace E := E.ext X99
        rw [← hn9] at hCN
        refine s_storeAgg (b := bo) (o := 0) (c' := #[(.int .i64 C.start), (.slice ca C.accept.length cc), (.slice ma C.next.length mc)]) rfl rfl (by simp [Value.oneCell']) siz25 rfl Bo (by simp) rfl ?_
        intro w13 S13
        replace hCN := hCN.chg S13.chg fun b h => by have h' : b = bo := h; omega
        replace Bd := S13.keep (by omega) Bd
        replace Bx := S13.keep (by omega) Bx
        replace E := S13.step E (by first | exact Or.inl (by omega) | exact Or.inr rfl | exact Or.inr (by assumption) | exact Or.inr (by simp) | exact Or.inr (by omega) | exact Or.inr (by dsimp only; omega))
        replace Bo := S13.blk
        refine WpL_nil ?_
        refine Wp_ret ?_
        refine fin_agg Try.results63 (vs := [(.int .i64 C.start), (.slice ca C.accept.length cc), (.slice ma C.next.length mc)]) (b := bo) rfl agg25 siz25 rfl (Bo.cells rfl) ?_
        exact ⟨⟨C, ca, cc, ma, mc, hC.congr (fun w hw => beh_notD ok hw), hCl, hCa, rfl, hCN.low hn9b.1⟩, E⟩
end Go.Proofs
namespace Go.Proofs
open Go Go.Eng Go.Sort
set_option maxRecDepth 100000
/-- A canonical automaton and no error as a result. -/
def CanE (c : Nat) (f : List Nat → Int) (n m : Nat) (r : Value) (w : World) : Prop := ∃ C ca cc ma mc, CanOf c f C ∧ C.next.length ≤ n ∧ (∀ x ∈ C.accept, x < 2147483648) ∧ r = .tuple #[.agg #[.int .i64 C.start, .slice ca C.accept.length cc, .slice ma C.next.length mc], .int .i64 0] ∧ DfaNew m w C [.int .i64 C.start, .slice ca C.accept.length cc, .slice ma C.next.length mc]
set_option maxHeartbeats 1000000 in
theorem dfNot_c (w0 : World) (n c : Nat) (d : Dfa) (dv : List Value) (ok : OkD n c d) (h : DfaAt w0 d dv) (hn : 1 ≤ n ∧ n ≤ 199) (hc : 1 ≤ c ∧ c ≤ 16) :
    Ret Try.prog 29 #[.agg dv.toArray] w0 fun r w => CanE c (fun w => fl (beh d d.start w)) (n + 1) w0.heap.size r w ∧ Ext w0 w := by
  have hdfa := h
  obtain ⟨aa, ac, na, nc, rfl, hacc, hnxt⟩ := h
  have hnl := ok.nl
  have hal := ok.al
  refine Ret_of Try.func29 rfl Try.ntmps29 (Nat.le_of_ble_eq_true rfl) ?_
  have E : Chg none1 w0 w0 := Chg.refl _ _
  refine Wp_seq_region ?_
  refine s_box (v := (.agg #[(.int .i64 d.start), (.slice aa d.accept.length ac), (.slice na d.next.length nc)])) (c := #[(.int .i64 d.start), (.slice aa d.accept.length ac), (.slice na d.next.length nc)]) (by decide) rfl rfl ?_
  intro bq wq Nq
  have Fq := Nq.ge E
  replace E := E.ext Nq.ext
  have Bq := Nq.blk
  refine s_alloc (c := #[(.int .i64 0), (.slice none 0 0), (.slice none 0 0)]) (by decide) zer25 rfl ?_
  intro bo wo No
  have Fo := No.ge E
  have Oo_bq := No.lt Bq
  replace Bq := No.keep Bq
  replace E := E.ext No.ext
  have Bo := No.blk
  refine WpL_val rfl rfl (by decide) (r_assign (v := (.int .i64 0)) rfl) ?_
  refine WpL_nil ?_
  refine Wp_seq ?_
  refine Wp_seq_region ?_
  refine WpL_val rfl rfl (by decide) (r_loadAgg (vs := [(.int .i64 d.start), (.slice aa d.accept.length ac), (.slice na d.next.length nc)]) rfl agg25 siz25 rfl (Bq.cells rfl)) ?_
  refine WpL_enter rfl rfl (by decide) (r_callF (vs := [(.agg #[(.int .i64 d.start), (.slice aa d.accept.length ac), (.slice na d.next.length nc)])]) Try.func50 nm50 bd50 rfl) (dcheck_c _ d _ (hdfa.ext E)) ?_
  rintro _ w9 ⟨rfl, X9⟩
  replace Bq := X9.keep Bq
  replace Bo := X9.keep Bo
  replace E := E.ext X9
  refine WpL_val rfl rfl (by decide) (r_assign (v := (.int .i64 (checkD d))) rfl) ?_
  refine WpL_nil ?_
  refine Wp_seq_region ?_
  refine WpL_val rfl rfl (by decide) (r_move (v := (.int .i64 (checkD d))) rfl) ?_
  refine WpL_val rfl rfl (by decide) (r_neq (k := .i64) (a := checkD d) (b := 0) rfl rfl) ?_
  refine WpL_nil ?_
  have hc1 : (decide ((checkD d : Int) ≠ 0)) = false := decide_eq_false (by rw [okD_check ok ⟨hn.1, by omega⟩ hc]; decide)
  refine Wp_cond_false (congrArg Value.bool hc1) ?_
  refine Wp_skip ?_
  refine thn_normal ?_
  refine Wp_seq_region ?_
  refine WpL_val rfl rfl (by decide) (r_loadAgg (vs := [(.int .i64 d.start), (.slice aa d.accept.length ac), (.slice na d.next.length nc)]) rfl agg25 siz25 rfl (Bq.cells rfl)) ?_
  obtain ⟨n9, hn9⟩ : ∃ n9, n9 = (w9).heap.size := ⟨_, rfl⟩
  have hn9b : w0.heap.size ≤ n9 ∧ bo < n9 := ⟨by have := E.size; omega, by have := Bo.lt; omega⟩
  refine WpL_enter rfl rfl (by decide) (r_callF (vs := [(.agg #[(.int .i64 d.start), (.slice aa d.accept.length ac), (.slice na d.next.length nc)])]) Try.func63 nm63 bd63 rfl) (dfnot_c _ n c d _ ok (hdfa.ext E) (by omega)) ?_
  rintro _ w99 ⟨⟨C, ca, cc, ma, mc, hC, hCl, hCa, rfl, hCN⟩, X99⟩
  replace Bq := X99.keep Bq
  replace Bo := X99.keep Bo
  replace E := E.ext X99
  rw [← hn9] at hCN
  refine s_allocStore (v := (.agg #[(.int .i64 C.start), (.slice ca C.accept.length cc), (.slice ma C.next.length mc)])) (c := #[(.int .i64 C.start), (.slice ca C.accept.length cc), (.slice ma C.next.length mc)]) (n := 3) (by decide) zer25 rfl siz25 rfl rfl rfl (by simp [Value.oneCell']) ?_
  intro bx wx Nx
  have Fx := Nx.ge E
  have Ox_bq := Nx.lt Bq
  have Ox_bo := Nx.lt Bo
  replace Bq := Nx.keep Bq
  replace Bo := Nx.keep Bo
  replace hCN := hCN.chg Nx.ext fun b f => f.elim
  replace E := E.ext Nx.ext
  have Bx := Nx.blk
  refine WpL_nil ?_
  refine Wp_seq ?_
  refine Wp_seq_region ?_
  refine WpL_val rfl rfl (by decide) (r_fieldAddr (b := bx) (o := 0) (o' := 2) rfl Try.underlying25 rfl siz23 rfl) ?_
  refine WpL_val rfl rfl (by decide) (r_load (v := (.slice ma C.next.length mc)) rfl flat23 (Bx.cell rfl)) ?_
  refine WpL_val rfl rfl (by decide) (r_lenSlice (ad := ma) (n := C.next.length) (cap := mc) Try.underlying23 rfl) ?_
  refine WpL_val rfl rfl (by decide) (r_gtr (k := .i64) (a := ((C.next.length : Nat) : Int)) (b := 200) rfl rfl) ?_
  refine WpL_nil ?_
  have hc2 : (decide ((200 : Int) < ((C.next.length : Nat) : Int))) = false := decide_eq_false (by omega)
  refine Wp_cond_false (congrArg Value.bool hc2) ?_
  refine Wp_skip ?_
  refine thn_normal ?_
  refine Wp_seq_region ?_
  refine WpL_val rfl rfl (by decide) (r_loadAgg (vs := [(.int .i64 C.start), (.slice ca C.accept.length cc), (.slice ma C.next.length mc)]) rfl agg25 siz25 rfl (Bx.cells rfl)) ?_
  refine s_storeAgg (b := bo) (o := 0) (c' := #[(.int .i64 C.start), (.slice ca C.accept.length cc), (.slice ma C.next.length mc)]) rfl rfl (by simp [Value.oneCell']) siz25 rfl Bo (by simp) rfl ?_
  intro w3 S3
  replace hCN := hCN.chg S3.chg fun b h => by have h' : b = bo := h; omega
  replace Bq := S3.keep (by omega) Bq
  replace Bx := S3.keep (by omega) Bx
  replace E := S3.step E (by first | exact Or.inl (by omega) | exact Or.inr rfl | exact Or.inr (by assumption) | exact Or.inr (by simp) | exact Or.inr (by omega) | exact Or.inr (by dsimp only; omega))
  replace Bo := S3.blk
  refine WpL_val rfl rfl (by decide) (r_assign (v := (.int .i64 0)) rfl) ?_
  refine WpL_nil ?_
  refine Wp_ret ?_
  refine fin_agg_tmp Try.results29 (vs := [(.int .i64 C.start), (.slice ca C.accept.length cc), (.slice ma C.next.length mc)]) (b := bo) (v' := (.int .i64 0)) rfl agg25 siz25 rfl (Bo.cells rfl) rfl ?_
  exact ⟨⟨C, ca, cc, ma, mc, hC, hCl, hCa, rfl, hCN.low hn9b.1⟩, E⟩
end Go.Proofs
namespace Go.Proofs
open Go Go.Eng
--BEGIN
def cntF (c : Nat) : Nat → (List Nat → Int) → Int
  | 0, f => if 0 ≤ f [] then 1 else 0
  | k + 1, f => ((List.range c).map fun x => cntF c k fun w => f (x :: w)).sum
def dotF (g : Nat → Int) : Nat → List Int → Int
  | _, [] => 0
  | i, x :: l => x * g i + dotF g (i + 1) l
theorem sum_congr {c : Nat} {g h : Nat → Int} (e : ∀ x, x < c → g x = h x) : ((List.range c).map g).sum = ((List.range c).map h).sum := by
  congr 1
  exact List.map_congr_left fun x hx => e x (List.mem_range.1 hx)
theorem cntF_neg {c : Nat} : ∀ {k : Nat} {f : List Nat → Int}, (∀ w, inW c w → f w < 0) → cntF c k f = 0
  | 0, f, h => by simp only [cntF]; rw [if_neg (by have := h [] (inW.nil c); omega)]
  | k + 1, f, h => by
    have : ((List.range c).map fun x => cntF c k fun w => f (x :: w)).sum = ((List.range c).map fun _ => (0 : Int)).sum := sum_congr fun x hx => cntF_neg fun w hw => h (x :: w) (inW.cons hx hw)
    simp only [cntF]
    rw [this]
    clear this h
    induction c with
    | zero => rfl
    | succ c ih => rw [List.range_succ, List.map_append, List.sum_append, ih]; rfl
theorem cntF_nn {c : Nat} : ∀ {k : Nat} {f : List Nat → Int}, 0 ≤ cntF c k f
  | 0, f => by simp only [cntF]; split <;> decide
  | k + 1, f => by
    simp only [cntF]
    generalize hL : List.range c = L
    clear hL
    induction L with
    | nil => simp
    | cons x L ih => simp only [List.map_cons, List.sum_cons]; have := cntF_nn (c := c) (k := k) (f := fun w => f (x :: w)); omega
theorem cntF_some {c : Nat} : ∀ {k : Nat} {f : List Nat → Int}, 0 < cntF c k f → ∃ w, w.length = k ∧ inW c w ∧ 0 ≤ f w
  | 0, f, h => by
    simp only [cntF] at h
    split at h
    · exact ⟨[], rfl, inW.nil c, by assumption⟩
    · omega
  | k + 1, f, h => by
    simp only [cntF] at h
    have key : ∀ L : List Nat, (∀ x ∈ L, x < c) → 0 < (L.map fun x => cntF c k fun w => f (x :: w)).sum → ∃ x ∈ L, 0 < cntF c k fun w => f (x :: w) := by
      intro L
      induction L with
      | nil => intro _ h; simp at h
      | cons x L ih =>
        intro hL h
        simp only [List.map_cons, List.sum_cons] at h
        by_cases h1 : 0 < cntF c k fun w => f (x :: w)
        · exact ⟨x, List.mem_cons_self, h1⟩
        · obtain ⟨y, hy, h2⟩ := ih (fun z hz => hL z (List.mem_cons_of_mem _ hz)) (by omega)
          exact ⟨y, List.mem_cons_of_mem _ hy, h2⟩
    obtain ⟨x, hx, h1⟩ := key _ (fun x hx => List.mem_range.1 hx) h
    obtain ⟨w, hw, hw2, h2⟩ := cntF_some h1
    exact ⟨x :: w, by simp [hw], inW.cons (List.mem_range.1 hx) hw2, h2⟩
theorem dotF_append (g : Nat → Int) : ∀ (l m : List Int) (i : Nat), dotF g i (l ++ m) = dotF g i l + dotF g (i + l.length) m
  | [], m, i => by simp [dotF]
  | x :: l, m, i => by
    simp only [List.cons_append, dotF]
    rw [dotF_append g l m (i + 1), List.length_cons, show i + 1 + l.length = i + (l.length + 1) by omega]
    omega
theorem dotF_take (g : Nat → Int) {l : List Int} {s : Nat} {w : Int} (h : l[s]? = some w) : dotF g 0 (l.take (s + 1)) = dotF g 0 (l.take s) + w * g s := by
  have hs := lt_of_get h
  rw [List.take_add_one, h, dotF_append]
  simp only [Option.toList_some, dotF, List.length_take]
  rw [show 0 + min s l.length = s by omega]
  omega
theorem dotF_set (g : Nat → Int) : ∀ {l : List Int} {t i : Nat} {y w : Int}, l[t]? = some y → dotF g i (l.set t (y + w)) = dotF g i l + w * g (i + t)
  | [], _, _, _, _, h => by simp at h
  | x :: l, 0, i, y, w, h => by
    simp at h
    subst h
    simp only [List.set_cons_zero, dotF, Nat.add_zero, Int.add_mul]
    omega
  | x :: l, t + 1, i, y, w, h => by
    simp only [List.set_cons_succ, dotF]
    rw [dotF_set g (by simpa using h), show i + 1 + t = i + (t + 1) by omega]
    omega
theorem dotF_zero (g : Nat → Int) : ∀ (n i : Nat), dotF g i (List.replicate n 0) = 0
  | 0, _ => rfl
  | n + 1, i => by simp only [List.replicate_succ, dotF]; rw [dotF_zero g n]; simp
theorem sum_take {l : List Int} {s : Nat} {w : Int} (h : l[s]? = some w) : (l.take (s + 1)).sum = (l.take s).sum + w := by
  rw [List.take_add_one, h, List.sum_append]; simp
theorem sum_set : ∀ {l : List Int} {t : Nat} {y w : Int}, l[t]? = some y → (l.set t (y + w)).sum = l.sum + w
  | [], _, _, _, h => by simp at h
  | x :: l, 0, y, w, h => by simp at h; subst h; simp only [List.set_cons_zero, List.sum_cons]; omega
  | x :: l, t + 1, y, w, h => by simp only [List.set_cons_succ, List.sum_cons]; rw [sum_set (by simpa using h)]; omega
theorem set_nn {l : List Int} {t : Nat} {y w : Int} (h : ∀ x ∈ l, 0 ≤ x) (hy : 0 ≤ y + w) : ∀ x ∈ l.set t (y + w), 0 ≤ x := fun x hx => by
  rcases List.mem_or_eq_of_mem_set hx with h1 | h1
  · exact h x h1
  · omega
--END
end Go.Proofs
namespace Go.Proofs
open Go Go.Eng Go.Sort
set_option maxRecDepth 100000
def wt (c : Nat) (d : Dfa) (j : Nat) (i : Nat) : Int := cntF c j (beh d ((i : Nat) : Int))
/-- A vector of ways. -/
structure Ways (n c : Nat) (d : Dfa) (k : Nat) (l : List Int) : Prop where
  len : l.length = n
  nn : ∀ x ∈ l, 0 ≤ x
  sum : l.sum ≤ ((c ^ k : Nat) : Int)
  dot : ∀ j, dotF (wt c d j) 0 l = cntF c (k + j) (beh d d.start)
theorem Ways.start {n c : Nat} {d : Dfa} (ok : OkD n c d) {s : Nat} (hs : d.start = ((s : Nat) : Int)) : Ways n c d 0 ((List.replicate n (0 : Int)).set s 1) := by
  have hst := ok.st
  have h0 : (List.replicate n (0 : Int))[s]? = some 0 := by rw [List.getElem?_replicate, if_pos (by omega)]
  have e : (List.replicate n (0 : Int)).set s 1 = (List.replicate n (0 : Int)).set s (0 + 1) := rfl
  refine ⟨by simp, ?_, ?_, fun j => ?_⟩
  · rw [e]; exact set_nn (fun x hx => by rw [List.eq_of_mem_replicate hx]; decide) (by decide)
  · rw [e, sum_set h0]
    have : (List.replicate n (0 : Int)).sum = 0 := by clear e h0 hst ok; induction n with | zero => rfl | succ n ih => rw [List.replicate_succ, List.sum_cons, ih]; rfl
    rw [this]; simp
  · rw [e, dotF_set _ h0, dotF_zero, Nat.zero_add, Nat.zero_add, wt, hs]; omega
/-- The next vector while it is made: the states below s done, of state s the symbols below x. -/
structure Nxt (n c : Nat) (d : Dfa) (ways : List Int) (s x : Nat) (l : List Int) : Prop where
  len : l.length = n
  nn : ∀ y ∈ l, 0 ≤ y
  sum : l.sum ≤ c * (ways.take s).sum + x * ways.getD s 0
  dot : ∀ j, dotF (wt c d j) 0 l = dotF (wt c d (j + 1)) 0 (ways.take s) + ways.getD s 0 * ((List.range x).map fun y => cntF c j (beh d (toD d ((s : Nat) : Int) y))).sum
theorem Nxt.start (n c : Nat) (d : Dfa) (ways : List Int) : Nxt n c d ways 0 0 (List.replicate n 0) := by
  refine ⟨by simp, fun y hy => by rw [List.eq_of_mem_replicate hy]; decide, ?_, fun j => ?_⟩
  · have : (List.replicate n (0 : Int)).sum = 0 := by induction n with | zero => rfl | succ n ih => rw [List.replicate_succ, List.sum_cons, ih]; rfl
    rw [this]; simp
  · rw [dotF_zero]; simp [dotF]
theorem Nxt.skip {n c : Nat} {d : Dfa} {ways l : List Int} {s x : Nat} (h : Nxt n c d ways s x l) (hw : 0 ≤ ways.getD s 0) (ht : toD d ((s : Nat) : Int) x < 0) : Nxt n c d ways s (x + 1) l := by
  refine ⟨h.len, h.nn, ?_, fun j => ?_⟩
  · have := h.sum
    rw [show ((x + 1 : Nat) : Int) * ways.getD s 0 = x * ways.getD s 0 + ways.getD s 0 by rw [Int.natCast_add, Int.add_mul]; simp]
    omega
  · rw [h.dot j, List.range_succ, List.map_append, List.sum_append]
    simp only [List.map_cons, List.map_nil, List.sum_cons, List.sum_nil]
    rw [cntF_neg fun w _ => by rw [beh_neg ht]; decide]
    simp
theorem Nxt.put {n c : Nat} {d : Dfa} {ways l : List Int} {s x t : Nat} {y : Int} (h : Nxt n c d ways s x l) (hw : 0 ≤ ways.getD s 0) (ht : toD d ((s : Nat) : Int) x = ((t : Nat) : Int)) (hy : l[t]? = some y) : Nxt n c d ways s (x + 1) (l.set t (y + ways.getD s 0)) := by
  have hyn := h.nn y (List.mem_of_getElem? hy)
  refine ⟨by simp [h.len], set_nn h.nn (by omega), ?_, fun j => ?_⟩
  · have := h.sum
    rw [sum_set hy, show ((x + 1 : Nat) : Int) * ways.getD s 0 = x * ways.getD s 0 + ways.getD s 0 by rw [Int.natCast_add, Int.add_mul]; simp]
    omega
  · rw [dotF_set _ hy, h.dot j, List.range_succ, List.map_append, List.sum_append, Nat.zero_add]
    simp only [List.map_cons, List.map_nil, List.sum_cons, List.sum_nil]
    rw [ht, Int.mul_add, wt, Int.add_zero]
    omega
theorem Nxt.row {n c : Nat} {d : Dfa} {ways l : List Int} {s : Nat} {w : Int} (h : Nxt n c d ways s c l) (hw : ways[s]? = some w) : Nxt n c d ways (s + 1) 0 l := by
  have hg : ways.getD s 0 = w := by rw [List.getD_eq_getElem?_getD, hw, Option.getD_some]
  refine ⟨h.len, h.nn, ?_, fun j => ?_⟩
  · have := h.sum
    rw [hg] at this
    rw [sum_take hw, Int.mul_add]
    simp only [Int.natCast_zero, Int.zero_mul]
    omega
  · rw [h.dot j, hg, dotF_take _ hw]
    simp only [List.range_zero, List.map_nil, List.sum_nil, Int.mul_zero, Int.add_zero]
    rfl
theorem Nxt.done {n c k : Nat} {d : Dfa} {ways l : List Int} {s : Nat} (h : Nxt n c d ways s 0 l) (hs : s = ways.length) (hW : Ways n c d k ways) : Ways n c d (k + 1) l := by
  subst hs
  refine ⟨h.len, h.nn, ?_, fun j => ?_⟩
  · have h1 := h.sum
    have h2 := hW.sum
    rw [List.take_length] at h1
    simp only [Int.natCast_zero, Int.zero_mul, Int.add_zero] at h1
    have h3 : (c : Int) * ways.sum ≤ c * ((c ^ k : Nat) : Int) := Int.mul_le_mul_of_nonneg_left h2 (by omega)
    rw [Nat.pow_succ, Nat.mul_comm, Int.natCast_mul]
    omega
  · rw [h.dot j, List.take_length, hW.dot (j + 1)]
    simp only [List.range_zero, List.map_nil, List.sum_nil, Int.mul_zero, Int.add_zero]
    congr 1
    omega
end Go.Proofs
namespace Go.Proofs
open Go Go.Eng Go.Sort
--BEGIN
section
variable {α : Type}
def runO (stp : α → Nat → Option α) : α → List Nat → Option α
  | a, [] => some a
  | a, x :: w => (stp a x).bind fun b => runO stp b w
theorem runO_snoc (stp : α → Nat → Option α) (x : Nat) : ∀ (w : List Nat) (a : α), runO stp a (w ++ [x]) = (runO stp a w).bind fun b => stp b x
  | [], a => by simp only [List.nil_append, runO, Option.bind_some]; cases stp a x <;> rfl
  | y :: w, a => by
    simp only [List.cons_append, runO]
    cases h : stp a y with
    | none => rfl
    | some b => simp only [Option.bind_some]; exact runO_snoc stp x w b
theorem inW.snoc {c x : Nat} {w : List Nat} (h : inW c w) (hx : x < c) : inW c (w ++ [x]) := fun y hy => by
  rcases List.mem_append.1 hy with h1 | h1
  · exact h y h1
  · rw [List.mem_singleton] at h1; rw [h1]; exact hx
theorem inW.init {c x : Nat} {w : List Nat} (h : inW c (w ++ [x])) : inW c w ∧ x < c := ⟨fun y hy => h y (List.mem_append_left _ hy), h x (List.mem_append_right _ (List.mem_singleton.2 rfl))⟩
/-- Keys as they are met: the keys below i are done, of key i the symbols below x. -/
structure BfsW (c : Nat) (stp : α → Nat → Option α) (a0 : α) (work : List α) (ws : List (List Nat)) (ps : List (Nat × Nat)) (i x : Nat) : Prop where
  len : ws.length = work.length
  plen : ps.length = work.length
  fst : work[0]? = some a0
  wf : ws[0]? = some []
  nd : work.Nodup
  run : ∀ (j : Nat) a w, work[j]? = some a → ws[j]? = some w → runO stp a0 w = some a
  inw : ∀ w ∈ ws, inW c w
  mono : ∀ (j k : Nat) w v, j ≤ k → ws[j]? = some w → ws[k]? = some v → w.length ≤ v.length
  near : ∀ (j : Nat) w v, ws[i]? = some v → ws[j]? = some w → w.length ≤ v.length + 1
  par : ∀ (k : Nat) w, 0 < k → ws[k]? = some w → ∃ j y v, j < k ∧ ps[k]? = some (j, y) ∧ ws[j]? = some v ∧ w = v ++ [y]
  done : ∀ (j : Nat) a y b v, (j < i ∨ (j = i ∧ y < x)) → y < c → work[j]? = some a → ws[j]? = some v → stp a y = some b → ∃ (k : Nat) (w : List Nat), work[k]? = some b ∧ ws[k]? = some w ∧ w.length ≤ v.length + 1
variable {c : Nat} {stp : α → Nat → Option α} {a0 : α} {work : List α} {ws : List (List Nat)} {ps : List (Nat × Nat)} {i x : Nat}
theorem one_get {β : Type} {a b : β} {j : Nat} (h : [a][j]? = some b) : j = 0 ∧ b = a := by
  have := lt_of_get h
  simp at this
  subst this
  simp at h
  exact ⟨rfl, h.symm⟩
theorem BfsW.start (c : Nat) (stp : α → Nat → Option α) (a0 : α) (p : Nat × Nat) : BfsW c stp a0 [a0] [[]] [p] 0 0 where
  len := rfl
  plen := rfl
  fst := rfl
  wf := rfl
  nd := by simp
  run := fun j a w h1 h2 => by obtain ⟨_, rfl⟩ := one_get h1; obtain ⟨_, rfl⟩ := one_get h2; rfl
  inw := fun w h => by rw [List.mem_singleton] at h; subst h; exact inW.nil c
  mono := fun j k w v _ h1 h2 => by obtain ⟨_, rfl⟩ := one_get h1; simp
  near := fun j w v _ h2 => by obtain ⟨_, rfl⟩ := one_get h2; simp
  par := fun k w hk h => by obtain ⟨rfl, _⟩ := one_get h; omega
  done := fun j a y b v h => by omega
theorem BfsW.get (h : BfsW c stp a0 work ws ps i x) {k : Nat} {a : α} (ha : work[k]? = some a) : ∃ w, ws[k]? = some w := get_of_lt (by rw [h.len]; exact lt_of_get ha)
theorem BfsW.none (h : BfsW c stp a0 work ws ps i x) {a : α} (ha : work[i]? = some a) (hn : stp a x = none) : BfsW c stp a0 work ws ps i (x + 1) := by
  refine { h with done := fun j b y b' v hj hy hb hv hs => ?_ }
  by_cases hjx : j < i ∨ (j = i ∧ y < x)
  · exact h.done j b y b' v hjx hy hb hv hs
  · have e1 : j = i := by omega
    have e2 : y = x := by omega
    subst e1; subst e2
    rw [ha] at hb; cases hb
    rw [hn] at hs; cases hs
theorem BfsW.old (h : BfsW c stp a0 work ws ps i x) {a b : α} (ha : work[i]? = some a) (hs : stp a x = some b) (hb : b ∈ work) : BfsW c stp a0 work ws ps i (x + 1) := by
  refine { h with done := fun j a' y b' v hj hy hb' hv hs' => ?_ }
  by_cases hjx : j < i ∨ (j = i ∧ y < x)
  · exact h.done j a' y b' v hjx hy hb' hv hs'
  · have e1 : j = i := by omega
    have e2 : y = x := by omega
    subst e1; subst e2
    rw [ha] at hb'; cases hb'
    rw [hs] at hs'; cases hs'
    obtain ⟨k, hk⟩ := List.getElem?_of_mem hb
    obtain ⟨w, hw⟩ := h.get hk
    exact ⟨k, w, hk, hw, h.near k w v hv hw⟩
theorem BfsW.new (h : BfsW c stp a0 work ws ps i x) {a b : α} {v : List Nat} (ha : work[i]? = some a) (hv : ws[i]? = some v) (hx : x < c) (hs : stp a x = some b) (hb : b ∉ work) : BfsW c stp a0 (work ++ [b]) (ws ++ [v ++ [x]]) (ps ++ [(i, x)]) i (x + 1) := by
  have hle : ∀ (j : Nat) w, ws[j]? = some w → w.length ≤ v.length + 1 := fun j w hw => h.near j w v hv hw
  have hil := lt_of_get ha
  refine ⟨by simp [h.len], by simp [h.plen], by rw [List.getElem?_append_left (lt_of_get h.fst)]; exact h.fst, by rw [List.getElem?_append_left (lt_of_get h.wf)]; exact h.wf, ?_, ?_, ?_, ?_, ?_, ?_, ?_⟩
  · rw [List.nodup_append]
    refine ⟨h.nd, by simp, fun p hp q hq => ?_⟩
    rw [List.mem_singleton] at hq
    subst hq
    exact fun e => hb (e ▸ hp)
  · intro j p w hp hw
    rcases snoc_get hp with h1 | ⟨h1, h2⟩
    · rcases snoc_get hw with h3 | ⟨h3, _⟩
      · exact h.run j p w h1 h3
      · have := lt_of_get h1; have := h.len; omega
    · rcases snoc_get hw with h3 | ⟨h3, h4⟩
      · have := lt_of_get h3; have := h.len; omega
      · subst h2; subst h4
        rw [runO_snoc, h.run i a v ha hv]; exact hs
  · intro w hw
    rcases List.mem_append.1 hw with h1 | h1
    · exact h.inw w h1
    · rw [List.mem_singleton] at h1; subst h1
      exact (h.inw v (List.mem_of_getElem? hv)).snoc hx
  · intro j k w u hjk hj hk
    rcases snoc_get hk with h1 | ⟨h1, h2⟩
    · rcases snoc_get hj with h3 | ⟨h3, _⟩
      · exact h.mono j k w u hjk h3 h1
      · have := lt_of_get h1; omega
    · subst h2
      rw [List.length_append]
      rcases snoc_get hj with h3 | ⟨h3, h4⟩
      · exact hle j w h3
      · subst h4; simp
  · intro j w u hu hj
    have hu2 : u = v := by
      rw [List.getElem?_append_left (lt_of_get hv), hv] at hu
      exact (Option.some.inj hu).symm
    subst hu2
    rcases snoc_get hj with h3 | ⟨h3, h4⟩
    · exact hle j w h3
    · subst h4; simp
  · intro k w hk hw
    rcases snoc_get hw with h1 | ⟨h1, h2⟩
    · obtain ⟨j, y, u, h3, h4, h5, h6⟩ := h.par k w hk h1
      exact ⟨j, y, u, h3, by rw [List.getElem?_append_left (lt_of_get h4)]; exact h4, by rw [List.getElem?_append_left (lt_of_get h5)]; exact h5, h6⟩
    · refine ⟨i, x, v, ?_, ?_, by rw [List.getElem?_append_left (lt_of_get hv)]; exact hv, h2⟩
      · have := h.len; omega
      · rw [List.getElem?_append_right (by rw [h.plen, h1, h.len]; exact Nat.le_refl _), h1, h.plen, h.len, Nat.sub_self]; rfl
  · intro j a' y b' u hj hy ha' hu hs'
    have hjl : j < work.length := by omega
    rw [List.getElem?_append_left hjl] at ha'
    rw [List.getElem?_append_left (by rw [h.len]; exact hjl)] at hu
    by_cases hjx : j < i ∨ (j = i ∧ y < x)
    · obtain ⟨k, w, h1, h2, h3⟩ := h.done j a' y b' u hjx hy ha' hu hs'
      exact ⟨k, w, by rw [List.getElem?_append_left (lt_of_get h1)]; exact h1, by rw [List.getElem?_append_left (lt_of_get h2)]; exact h2, h3⟩
    · have e1 : j = i := by omega
      have e2 : y = x := by omega
      subst e1; subst e2
      rw [ha] at ha'; cases ha'
      rw [hs] at hs'; cases hs'
      rw [hv] at hu; cases hu
      exact ⟨work.length, v ++ [y], by simp, by rw [← h.len]; simp, by simp⟩
theorem BfsW.row (h : BfsW c stp a0 work ws ps i c) : BfsW c stp a0 work ws ps (i + 1) 0 := by
  refine { h with near := fun j w v hv hw => ?_, done := fun j a y b v hj hy ha hv hs => ?_ }
  · obtain ⟨u, hu⟩ := get_of_lt (l := ws) (i := i) (by have := lt_of_get hv; omega)
    have h1 := h.near j w u hu hw
    have h2 := h.mono i (i + 1) u v (by omega) hu hv
    omega
  · refine h.done j a y b v ?_ hy ha hv hs
    rcases hj with h1 | h1
    · rcases Nat.lt_or_ge j i with h2 | h2
      · exact .inl h2
      · exact .inr ⟨by omega, hy⟩
    · omega
theorem BfsW.reach (h : BfsW c stp a0 work ws ps i 0) (u : List Nat) (hu : inW c u) : ∀ a, runO stp a0 u = some a → (∃ (j : Nat) (v : List Nat), work[j]? = some a ∧ ws[j]? = some v ∧ v.length ≤ u.length) ∨ ∃ (j : Nat) (v : List Nat), i ≤ j ∧ ws[j]? = some v ∧ v.length ≤ u.length := by
  obtain ⟨n, hn⟩ : ∃ n, n = u.length := ⟨_, rfl⟩
  induction n generalizing u with
  | zero =>
    intro a ha
    have : u = [] := List.eq_nil_of_length_eq_zero hn.symm
    subst this
    simp only [runO, Option.some.injEq] at ha
    subst ha
    exact .inl ⟨0, [], h.fst, h.wf, Nat.le_refl _⟩
  | succ n ih =>
    intro a ha
    rcases List.eq_nil_or_concat u with rfl | ⟨u', y, rfl⟩
    · simp at hn
    rw [List.concat_eq_append] at hu hn ha ⊢
    rw [runO_snoc] at ha
    have hn' : n = u'.length := by simpa using hn
    cases hr : runO stp a0 u' with
    | none => rw [hr] at ha; cases ha
    | some b =>
      rw [hr] at ha
      simp only [Option.bind_some] at ha
      rcases ih u' hu.init.1 hn' b hr with ⟨j, v, h1, h2, h3⟩ | ⟨j, v, h1, h2, h3⟩
      · rcases Nat.lt_or_ge j i with h4 | h4
        · obtain ⟨k, w, h5, h6, h7⟩ := h.done j b y a v (.inl h4) hu.init.2 h1 h2 ha
          exact .inl ⟨k, w, h5, h6, by simp; omega⟩
        · exact .inr ⟨j, v, h4, h2, by simp; omega⟩
      · exact .inr ⟨j, v, h1, h2, by simp; omega⟩
/-- What is reached by a shorter word has been looked at before. -/
theorem BfsW.before (h : BfsW c stp a0 work ws ps i 0) {v : List Nat} (hv : ws[i]? = some v) {u : List Nat} (hu : inW c u) (hl : u.length < v.length) {a : α} (ha : runO stp a0 u = some a) : ∃ j : Nat, j < i ∧ work[j]? = some a := by
  rcases h.reach u hu a ha with ⟨j, w, h1, h2, h3⟩ | ⟨j, w, h1, h2, h3⟩
  · refine ⟨j, ?_, h1⟩
    apply Classical.byContradiction
    intro hj
    have := h.mono i j v w (by omega) hv h2
    omega
  · have := h.mono i j v w h1 hv h2
    omega
theorem BfsW.all (h : BfsW c stp a0 work ws ps i 0) (hi : i = work.length) {u : List Nat} (hu : inW c u) {a : α} (ha : runO stp a0 u = some a) : ∃ j : Nat, j < i ∧ work[j]? = some a := by
  rcases h.reach u hu a ha with ⟨j, w, h1, h2, h3⟩ | ⟨j, w, h1, h2, h3⟩
  · exact ⟨j, by have := lt_of_get h1; omega, h1⟩
  · have := lt_of_get h2; have := h.len; omega
end
def stpD (d : Dfa) (s : Int) (x : Nat) : Option Int := if 0 ≤ toD d s x then some (toD d s x) else none
/-- The least accepted word. -/
structure LeastOf (c : Nat) (f : List Nat → Int) (w : List Nat) : Prop where
  inw : inW c w
  acc : 0 ≤ f w
  min : ∀ u, inW c u → u.length < w.length → f u < 0
structure ByOf (work : List Int) (ps : List (Nat × Nat)) (es : List (Int × (Int × Int))) : Prop where
  keys : es.map (·.1) = work
  first : ∃ t, es[0]? = some (t, (-1, -1))
  link : ∀ (k j y : Nat) s, 0 < k → j < k → ps[k]? = some (j, y) → work[j]? = some s → ∃ t, es[k]? = some (t, (s, ((y : Nat) : Int)))
theorem ByOf.len {work : List Int} {ps : List (Nat × Nat)} {es : List (Int × (Int × Int))} (h : ByOf work ps es) : es.length = work.length := by rw [← h.keys, List.length_map]
theorem ByOf.start (s : Int) (p : Nat × Nat) : ByOf [s] [p] [(s, (-1, -1))] where
  keys := rfl
  first := ⟨s, rfl⟩
  link := fun k j y t hk _ h => by obtain ⟨rfl, _⟩ := one_get h; omega
theorem ByOf.put {work : List Int} {ps : List (Nat × Nat)} {es : List (Int × (Int × Int))} (h : ByOf work ps es) (hpl : ps.length = work.length) {i x : Nat} {s t : Int} (hs : work[i]? = some s) (ht : t ∉ work) : putM es t (s, ((x : Nat) : Int)) = es ++ [(t, (s, ((x : Nat) : Int)))] ∧ ByOf (work ++ [t]) (ps ++ [(i, x)]) (es ++ [(t, (s, ((x : Nat) : Int)))]) := by
  have hg : getM es t = none := by
    cases hg : getM es t with
    | none => rfl
    | some v => exact absurd (by have := getM_isSome.1 (show (getM es t).isSome = true by rw [hg]; rfl); rwa [h.keys] at this) ht
  refine ⟨putM_none _ hg, ⟨by rw [List.map_append, h.keys]; rfl, ?_, fun k j y s' hk hjk hp hs' => ?_⟩⟩
  · obtain ⟨t0, h0⟩ := h.first
    exact ⟨t0, by rw [List.getElem?_append_left (lt_of_get h0)]; exact h0⟩
  · rcases snoc_get hp with h1 | ⟨h1, h2⟩
    · rw [List.getElem?_append_left (by have := lt_of_get h1; omega)] at hs'
      obtain ⟨t1, h3⟩ := h.link k j y s' hk hjk h1 hs'
      exact ⟨t1, by rw [List.getElem?_append_left (lt_of_get h3)]; exact h3⟩
    · simp only [Prod.mk.injEq] at h2
      obtain ⟨rfl, rfl⟩ := h2
      rw [List.getElem?_append_left (lt_of_get hs), hs] at hs'
      cases hs'
      exact ⟨t, by rw [h1, hpl, ← h.len]; simp⟩
theorem ByOf.get {work : List Int} {ps : List (Nat × Nat)} {es : List (Int × (Int × Int))} (h : ByOf work ps es) (nd : work.Nodup) {k : Nat} {t : Int} {q : Int × Int} {t' : Int} (ht : work[k]? = some t) (he : es[k]? = some (t', q)) : getM es t = some q := by
  have e1 : work[k]? = some t' := by rw [← h.keys, List.getElem?_map, he]; rfl
  rw [ht] at e1
  cases e1
  have h1 : (getM es t).isSome = true := getM_isSome.2 (by rw [h.keys]; exact List.mem_of_getElem? ht)
  obtain ⟨v, hv⟩ := Option.isSome_iff_exists.1 h1
  obtain ⟨j, _, h2, _⟩ := findM_some (eV := fun _ => undef) (i := 0) hv
  have e2 : work[j]? = some t := by rw [← h.keys, List.getElem?_map, h2]; rfl
  have hjk : j = k := by
    have h3 := List.getElem?_eq_some_iff.1 e2
    have h4 := List.getElem?_eq_some_iff.1 ht
    obtain ⟨p1, p2⟩ := h3
    obtain ⟨q1, q2⟩ := h4
    exact (List.getElem_inj nd).1 (p2.trans q2.symm)
  rw [hjk, he] at h2
  cases h2
  exact hv
--END
end Go.Proofs
namespace Go.Eng
open Go
end Go.Eng
namespace Go.Proofs
open Go Go.Eng Go.Sort
set_option maxRecDepth 100000
def toI (w : List Nat) : List Int := w.map fun x => ((x : Nat) : Int)
theorem toI_nat (w : List Nat) : (toI w).map Int.toNat = w := by induction w with | nil => rfl | cons x w ih => simp only [toI, List.map_cons, Int.toNat_natCast] at ih ⊢; rw [ih]
theorem ByOf.cases {c n i x : Nat} {d : Dfa} {work : List Int} {wd : List (List Nat)} {ps : List (Nat × Nat)} {es : List (Int × (Int × Int))} (h : ByOf work ps es) (hB : BfsW c (stpD d) d.start work wd ps i x) (hsl : ∀ t ∈ work, 0 ≤ t ∧ t < n) {j : Nat} {s : Int} {v : List Nat} (hj : work[j]? = some s) (hv : wd[j]? = some v) :
    (((getM es s).getD (0, 0)).1 < 0 ∧ v = []) ∨ (0 ≤ ((getM es s).getD (0, 0)).1 ∧ ∃ (j2 y : Nat) (v2 : List Nat) (s2 : Int), j2 < j ∧ work[j2]? = some s2 ∧ wd[j2]? = some v2 ∧ v = v2 ++ [y] ∧ getM es s = some (s2, ((y : Nat) : Int))) := by
  rcases Nat.eq_zero_or_pos j with h0 | h0
  · subst h0
    obtain ⟨t0, ht0⟩ := h.first
    rw [h.get hB.nd hj ht0]
    refine .inl ⟨by decide, ?_⟩
    rw [hB.wf] at hv
    exact (Option.some.inj hv).symm
  · obtain ⟨j2, y, v2, hj2, hps, hv2, rfl⟩ := hB.par j v h0 hv
    obtain ⟨s2, hs2⟩ := get_of_lt (l := work) (i := j2) (by rw [← hB.len]; exact lt_of_get hv2)
    obtain ⟨t0, ht0⟩ := h.link j j2 y s2 h0 hj2 hps hs2
    have hg := h.get hB.nd hj ht0
    refine .inr ⟨?_, j2, y, v2, s2, hj2, hs2, hv2, rfl, hg⟩
    rw [hg]
    exact (hsl s2 (List.mem_of_getElem? hs2)).1
end Go.Proofs
namespace Go.Proofs
open Go Go.Eng
set_option maxRecDepth 100000
theorem below_tmod (x n : Int) (hn : 0 < n) : (if x.tmod n < 0 then x.tmod n + n else x.tmod n) = x % n := by
  have h := Int.tmod_eq_emod (a := x) (b := n)
  have h1 := Int.emod_nonneg x (Int.ne_of_gt hn)
  have h2 := Int.emod_lt_of_pos x hn
  have h3 : n.natAbs = n := by omega
  split at h <;> split <;> omega
theorem below_c (x n : Int) (hn : 0 < n) (hm : n ≤ 2000) (w0 : World) :
    Ret Try.prog 69 #[.int .i64 x, .int .i64 n] w0 fun v w => v = .int .i64 (x % n) ∧ w = w0 := by
  have hb := below_tmod x n hn
  have h1 := Int.emod_nonneg x (Int.ne_of_gt hn)
  have h2 := Int.emod_lt_of_pos x hn
  refine Ret_of Try.func69 rfl Try.ntmps69 (Nat.le_of_ble_eq_true rfl) ?_
  have E : Chg none1 w0 w0 := Chg.refl _ _
  refine Wp_seq_region ?_
  refine WpL_val rfl rfl (by decide) (r_assign (v := (.int .i64 0)) rfl) ?_
  refine WpL_nil ?_
  refine Wp_seq_region ?_
  refine WpL_val rfl rfl (by decide) (r_move (v := (.int .i64 x)) rfl) ?_
  refine WpL_val rfl rfl (by decide) (r_move (v := (.int .i64 n)) rfl) ?_
  refine WpL_val rfl rfl (by decide) (r_rem (k := .i64) (a := x) (b := n) (c := x.tmod n) rfl rfl (by omega) rfl) ?_
  refine WpL_val rfl rfl (by decide) (r_assign (v := (.int .i64 (x.tmod n))) rfl) ?_
  refine WpL_nil ?_
  refine Wp_seq ?_
  refine Wp_seq_region ?_
  refine WpL_val rfl rfl (by decide) (r_move (v := (.int .i64 (x.tmod n))) rfl) ?_
  refine WpL_val rfl rfl (by decide) (r_lss (k := .i64) (a := x.tmod n) (b := 0) rfl rfl) ?_
  refine WpL_nil ?_
  refine Wp_cond (b := decide ((x.tmod n : Int) < 0)) rfl (fun h => ?_) (fun h => ?_)
  · have kh := h
    replace h := of_decide_eq_true h
    rw [if_pos h] at hb
    refine Wp_region ?_
    refine WpL_val rfl rfl (by decide) (r_move (v := (.int .i64 (x.tmod n))) rfl) ?_
    refine WpL_val rfl rfl (by decide) (r_move (v := (.int .i64 n)) rfl) ?_
    refine WpL_val rfl rfl (by decide) (r_add (k := .i64) (a := x.tmod n) (b := n) (c := (x.tmod n) + n) rfl rfl (wI64 (by omega))) ?_
    refine WpL_val rfl rfl (by decide) (r_assign (v := (.int .i64 ((x.tmod n) + n))) rfl) ?_
    refine WpL_nil ?_
    refine thn_normal ?_
    refine Wp_seq_region ?_
    refine WpL_val rfl rfl (by decide) (r_move (v := (.int .i64 ((x.tmod n) + n))) rfl) ?_
    refine WpL_val rfl rfl (by decide) (r_assign (v := (.int .i64 ((x.tmod n) + n))) rfl) ?_
    refine WpL_nil ?_
    refine Wp_ret ?_
    refine fin_tmp Try.results69 (v := (.int .i64 ((x.tmod n) + n))) rfl ?_
    exact ⟨by rw [hb], rfl⟩
  · have kh := h
    replace h := of_decide_eq_false h
    rw [if_neg h] at hb
    refine Wp_skip ?_
    refine thn_normal ?_
    refine Wp_seq_region ?_
    refine WpL_val rfl rfl (by decide) (r_move (v := (.int .i64 (x.tmod n))) rfl) ?_
    refine WpL_val rfl rfl (by decide) (r_assign (v := (.int .i64 (x.tmod n))) rfl) ?_
    refine WpL_nil ?_
    refine Wp_ret ?_
    refine fin_tmp Try.results69 (v := (.int .i64 (x.tmod n))) rfl ?_
    exact ⟨by rw [hb], rfl⟩
end Go.Proofs
namespace Go.Proofs
open Go Go.Eng
set_option maxRecDepth 100000
abbrev TS : Nat := 99
def StrAt (wb w : World) (bs : Nat) (l : List Int) : Prop := ∃ a c, Blk w bs #[.slice a l.length c] TS ∧ IntsAt wb (.slice a l.length c) l
theorem StrAt.ext {wb w w' : World} {bs : Nat} {l : List Int} (h : StrAt wb w bs l) (e : Ext w w') : StrAt wb w' bs l := let ⟨a, c, h1, h2⟩ := h; ⟨a, c, e.keep h1, h2⟩
theorem StrAt.lt {wb w : World} {bs : Nat} {l : List Int} (h : StrAt wb w bs l) : bs < w.heap.size := let ⟨_, _, h1, _⟩ := h; h1.lt
theorem next_c (wb w0 : World) (bs : Nat) (l : List Int) (n : Int) (hn : 0 < n) (hm : n ≤ 2000) (hE : Ext wb w0) (hb : wb.heap.size ≤ bs) (hS : StrAt wb w0 bs l) :
    Ret Try.prog 70 #[.pointer (some ⟨bs, 0, none⟩), .int .i64 n] w0 fun v w => ∃ x l', v = .int .i64 x ∧ 0 ≤ x ∧ x < n ∧ StrAt wb w bs l' ∧ Chg (fun x => x = bs) w0 w := by
  obtain ⟨a, c, hB, hl⟩ := hS
  have hcap := SlAt.cap hl
  have hlen : l.length ≤ 9223372036854775807 := by simpa using SlAt.le hl
  refine Ret_of Try.func70 rfl Try.ntmps70 (Nat.le_of_ble_eq_true rfl) ?_
  have E : Chg (fun x => x = bs) w0 w0 := Chg.refl _ _
  refine Wp_seq_region ?_
  refine WpL_val rfl rfl (by decide) (r_assign (v := (.int .i64 0)) rfl) ?_
  refine WpL_nil ?_
  refine Wp_seq ?_
  refine Wp_seq_region ?_
  refine WpL_val rfl rfl (by decide) (r_move (v := (.pointer (some ⟨bs, 0, none⟩))) rfl) ?_
  refine WpL_val rfl rfl (by decide) (r_nilCheck (a := ⟨bs, 0, none⟩) rfl) ?_
  refine WpL_val rfl rfl (by decide) (r_fieldAddr (b := bs) (o := 0) (o' := 0) rfl Try.underlying99 rfl siz22 rfl) ?_
  refine WpL_val rfl rfl (by decide) (r_load (v := (.slice a l.length c)) rfl flat22 (hB.cell rfl)) ?_
  refine WpL_val rfl rfl (by decide) (r_lenSlice (ad := a) (n := l.length) (cap := c) Try.underlying22 rfl) ?_
  refine WpL_val rfl rfl (by decide) (r_eql (k := .i64) (a := ((l.length : Nat) : Int)) (b := 0) rfl rfl) ?_
  refine WpL_nil ?_
  refine Wp_cond (b := decide ((((l.length : Nat) : Int) : Int) = 0)) rfl (fun h0 => ?_) (fun h0 => ?_)
  · have kh0 := h0
    replace h0 := of_decide_eq_true h0
    refine Wp_seq_region ?_
    refine WpL_val rfl rfl (by decide) (r_assign (v := (.int .i64 0)) rfl) ?_
    refine WpL_nil ?_
    refine Wp_ret ?_
    refine thn_ret ?_
    refine fin_tmp Try.results70 (v := (.int .i64 0)) rfl ?_
    exact ⟨0, l, rfl, Int.le_refl _, hn, ⟨a, c, hB, hl⟩, E⟩
  · have kh0 := h0
    replace h0 := of_decide_eq_false h0
    obtain ⟨x, hx⟩ := get_of_lt (l := l) (i := 0) (by omega)
    obtain ⟨b, o, rfl, hcl⟩ := ints_cells hl (by omega)
    refine Wp_skip ?_
    refine thn_normal ?_
    refine Wp_seq_region ?_
    refine WpL_val rfl rfl (by decide) (r_move (v := (.pointer (some ⟨bs, 0, none⟩))) rfl) ?_
    refine WpL_val rfl rfl (by decide) (r_nilCheck (a := ⟨bs, 0, none⟩) rfl) ?_
    refine WpL_val rfl rfl (by decide) (r_fieldAddr (b := bs) (o := 0) (o' := 0) rfl Try.underlying99 rfl siz22 rfl) ?_
    refine WpL_val rfl rfl (by decide) (r_load (v := (.slice (some ⟨b, o, none⟩) l.length c)) rfl flat22 (hB.cell rfl)) ?_
    refine WpL_val rfl rfl (by decide) (r_indexSlice (b := b) (o := o) (len := l.length) (cap := c) (i := 0) (o' := o + 0) rfl rfl rfl Try.underlying22 siz3 (by omega) (by omega)) ?_
    refine WpL_val rfl rfl (by decide) (r_load (v := (.int .i64 x)) rfl flat3 ((hE.cell (hcl 0 x hx)))) ?_
    refine WpL_val rfl rfl (by decide) (r_assign (v := (.int .i64 x)) rfl) ?_
    refine WpL_nil ?_
    refine Wp_seq_region ?_
    refine WpL_val rfl rfl (by decide) (r_move (v := (.pointer (some ⟨bs, 0, none⟩))) rfl) ?_
    refine WpL_val rfl rfl (by decide) (r_move (v := (.pointer (some ⟨bs, 0, none⟩))) rfl) ?_
    refine WpL_val rfl rfl (by decide) (r_nilCheck (a := ⟨bs, 0, none⟩) rfl) ?_
    refine WpL_val rfl rfl (by decide) (r_fieldAddr (b := bs) (o := 0) (o' := 0) rfl Try.underlying99 rfl siz22 rfl) ?_
    refine WpL_val rfl rfl (by decide) (r_load (v := (.slice (some ⟨b, o, none⟩) l.length c)) rfl flat22 (hB.cell rfl)) ?_
    obtain ⟨sl, hsl⟩ : ∃ a' : Option Addr, (if c = 1 then (some ⟨b, o, none⟩) else Option.map (fun q : Addr => q.add (1 * 1)) (some ⟨b, o, none⟩)) = a' := ⟨_, rfl⟩
    refine WpL_val rfl rfl (by decide) (r_sliceLo (a := (some ⟨b, o, none⟩)) (len := l.length) (cap := c) (lo := 1) (l := 1) (n' := (l.length - 1)) (c' := (c - 1)) Try.underlying22 siz3 rfl rfl (by omega) (by omega) hsl (by omega) (by omega)) ?_
    refine WpL_val rfl rfl (by decide) (r_nilCheck (a := ⟨bs, 0, none⟩) rfl) ?_
    refine WpL_val rfl rfl (by decide) (r_fieldAddr (b := bs) (o := 0) (o' := 0) rfl Try.underlying99 rfl siz22 rfl) ?_
    refine s_store (b := bs) (o := 0) (c' := #[(.slice sl (l.length - 1) (c - 1))]) (v := (.slice sl (l.length - 1) (c - 1))) rfl rfl rfl siz22 hB (by simp) rfl ?_
    intro w2 S2
    replace E := S2.step E (by first | exact Or.inl (by omega) | exact Or.inr rfl | exact Or.inr (by assumption) | exact Or.inr (by simp) | exact Or.inr (by omega) | exact Or.inr (by dsimp only; omega))
    replace hB := S2.blk
    refine WpL_nil ?_
    refine Wp_seq_region ?_
    refine WpL_val rfl rfl (by decide) (r_move (v := (.int .i64 x)) rfl) ?_
    refine WpL_val rfl rfl (by decide) (r_move (v := (.int .i64 n)) rfl) ?_
    refine WpL_enter rfl rfl (by decide) (r_callF (vs := [(.int .i64 x), (.int .i64 n)]) Try.func69 nm69 bd69 rfl) (below_c x n hn hm _) ?_
    rintro _ _ ⟨rfl, rfl⟩
    have hcut := SlAt.cut (lo := 1) (hi := l.length) hl (by omega) (Nat.le_refl _) hsl rfl rfl
    have hdl : ((l.map intV).drop 1).take (l.length - 1) = (l.drop 1).map intV := by rw [List.take_of_length_le (by simp), List.map_drop]
    rw [hdl] at hcut
    have hll : (l.drop 1).length = l.length - 1 := by simp
    refine WpL_val rfl rfl (by decide) (r_assign (v := (.int .i64 (x % n))) rfl) ?_
    refine WpL_nil ?_
    refine Wp_ret ?_
    refine fin_tmp Try.results70 (v := (.int .i64 (x % n))) rfl ?_
    exact ⟨x % n, l.drop 1, rfl, Int.emod_nonneg x (by omega), Int.emod_lt_of_pos x hn, ⟨sl, c - 1, by rw [hll]; exact hB, by rw [hll]; exact hcut⟩, E⟩
end Go.Proofs
namespace Go.Eng
open Go
def SlIn (S : Nat → Prop) (w : World) (k : Nat) (v : Value) (rows : List (List Value)) : Prop :=
  ∃ a cap, v = .slice a rows.length cap ∧ rows.length ≤ 9223372036854775807 ∧ rows.length ≤ cap ∧ (rows = [] ∨ ∃ b o, S b ∧ a = some ⟨b, o, none⟩ ∧ ∀ i r, rows[i]? = some r → CellsAt w b (o + i * k) r)
theorem SlIn.at {S : Nat → Prop} {w : World} {k : Nat} {v : Value} {rows : List (List Value)} (h : SlIn S w k v rows) : SlAt w k v rows := by
  obtain ⟨a, cap, h1, h2, h3, h4⟩ := h
  refine ⟨a, cap, h1, h2, h3, ?_⟩
  rcases h4 with h | ⟨b, o, _, h5, h6⟩
  · exact .inl h
  · exact .inr ⟨b, o, h5, h6⟩
theorem SlIn.of {w : World} {k : Nat} {v : Value} {rows : List (List Value)} (h : SlAt w k v rows) : SlIn (fun _ => True) w k v rows := by
  obtain ⟨a, cap, h1, h2, h3, h4⟩ := h
  refine ⟨a, cap, h1, h2, h3, ?_⟩
  rcases h4 with h | ⟨b, o, h5, h6⟩
  · exact .inl h
  · exact .inr ⟨b, o, trivial, h5, h6⟩
theorem SlIn.chg {S M : Nat → Prop} {w w' : World} {k : Nat} {v : Value} {rows : List (List Value)} (h : SlIn S w k v rows) (c : Chg M w w') (hm : ∀ b, S b → ¬ M b) : SlIn S w' k v rows := by
  obtain ⟨a, cap, h1, h2, h3, h4⟩ := h
  refine ⟨a, cap, h1, h2, h3, ?_⟩
  rcases h4 with h | ⟨b, o, hb, h5, h6⟩
  · exact .inl h
  · exact .inr ⟨b, o, hb, h5, fun i r hr => (h6 i r hr).chg c (hm b hb)⟩
theorem SlIn.mono {S S' : Nat → Prop} {w : World} {k : Nat} {v : Value} {rows : List (List Value)} (h : SlIn S w k v rows) (hs : ∀ b, S b → S' b) : SlIn S' w k v rows := by
  obtain ⟨a, cap, h1, h2, h3, h4⟩ := h
  refine ⟨a, cap, h1, h2, h3, ?_⟩
  rcases h4 with h | ⟨b, o, hb, h5⟩
  · exact .inl h
  · exact .inr ⟨b, o, hs b hb, h5⟩
theorem SlIn.nil (S : Nat → Prop) (w : World) (k : Nat) (a : Option Addr) (cap : Nat) : SlIn S w k (.slice a 0 cap) [] := ⟨a, cap, rfl, by simp, by simp, .inl rfl⟩
theorem SlIn.mk {S : Nat → Prop} {w : World} {k : Nat} {b o n c : Nat} {rows : List (List Value)} (h : SlAt w k (.slice (some ⟨b, o, none⟩) n c) rows) (hs : S b) : SlIn S w k (.slice (some ⟨b, o, none⟩) n c) rows := by
  obtain ⟨a, cap, h1, h2, h3, h4⟩ := h
  refine ⟨a, cap, h1, h2, h3, ?_⟩
  rcases h4 with h | ⟨b', o', h5, h6⟩
  · exact .inl h
  · simp only [Value.slice.injEq] at h1
    have : b' = b := by rw [← h1.1] at h5; simp at h5; exact h5.1.symm
    exact .inr ⟨b', o', this ▸ hs, h5, h6⟩
mutual
def ReIn (S : Nat → Prop) (w : World) : Re → List Value → Prop
  | .mk k set args mn mx ng, vs => ∃ sa sc aa ac, vs = [.int .i64 k, .slice sa set.length sc, .slice aa args.length ac, .int .i64 mn, .int .i64 mx, .bool ng] ∧ SlIn S w 2 (.slice sa set.length sc) (set.map spanV) ∧ (args.length ≤ ac ∧ ac ≤ 9223372036854775807) ∧
      (args = [] ∨ ∃ b o, S b ∧ aa = some ⟨b, o, none⟩ ∧ ResIn S w b o args)
def ResIn (S : Nat → Prop) (w : World) (b : Nat) : Nat → List Re → Prop
  | _, [] => True
  | o, t :: ts => (∃ vs, CellsAt w b o vs ∧ ReIn S w t vs) ∧ ResIn S w b (o + 6) ts
end
mutual
theorem ReIn.at {S : Nat → Prop} {w : World} : ∀ (t : Re) {vs : List Value}, ReIn S w t vs → ReAt w t vs
  | .mk k set args mn mx ng, vs, h => by
    simp only [ReIn] at h
    simp only [ReAt]
    obtain ⟨sa, sc, aa, ac, hv, hs, hl, ha⟩ := h
    refine ⟨sa, sc, aa, ac, hv, hs.at, hl, ?_⟩
    rcases ha with h | ⟨b, o, _, h1, h2⟩
    · exact .inl h
    · exact .inr ⟨b, o, h1, ResIn.at args h2⟩
theorem ResIn.at {S : Nat → Prop} {w : World} {b : Nat} : ∀ (ts : List Re) {o : Nat}, ResIn S w b o ts → ResAt w b o ts
  | [], _, _ => by simp only [ResAt]
  | t :: ts, o, h => by
    simp only [ResIn] at h
    simp only [ResAt]
    obtain ⟨⟨vs, h1, h2⟩, h3⟩ := h
    exact ⟨⟨vs, h1, ReIn.at t h2⟩, ResIn.at ts h3⟩
end
mutual
theorem ReIn.chg {S M : Nat → Prop} {w w' : World} (c : Chg M w w') (hm : ∀ b, S b → ¬ M b) : ∀ (t : Re) {vs : List Value}, ReIn S w t vs → ReIn S w' t vs
  | .mk k set args mn mx ng, vs, h => by
    simp only [ReIn] at h ⊢
    obtain ⟨sa, sc, aa, ac, hv, hs, hl, ha⟩ := h
    refine ⟨sa, sc, aa, ac, hv, hs.chg c hm, hl, ?_⟩
    rcases ha with h | ⟨b, o, hb, h1, h2⟩
    · exact .inl h
    · exact .inr ⟨b, o, hb, h1, ResIn.chg c hm args hb h2⟩
theorem ResIn.chg {S M : Nat → Prop} {w w' : World} (c : Chg M w w') (hm : ∀ b, S b → ¬ M b) {b : Nat} : ∀ (ts : List Re) {o : Nat}, S b → ResIn S w b o ts → ResIn S w' b o ts
  | [], _, _, _ => by simp only [ResIn]
  | t :: ts, o, hb, h => by
    simp only [ResIn] at h ⊢
    obtain ⟨⟨vs, h1, h2⟩, h3⟩ := h
    exact ⟨⟨vs, h1.chg c (hm b hb), ReIn.chg c hm t h2⟩, ResIn.chg c hm ts hb h3⟩
end
mutual
theorem ReIn.mono {S S' : Nat → Prop} {w : World} (hs : ∀ b, S b → S' b) : ∀ (t : Re) {vs : List Value}, ReIn S w t vs → ReIn S' w t vs
  | .mk k set args mn mx ng, vs, h => by
    simp only [ReIn] at h ⊢
    obtain ⟨sa, sc, aa, ac, hv, h0, hl, ha⟩ := h
    refine ⟨sa, sc, aa, ac, hv, h0.mono hs, hl, ?_⟩
    rcases ha with h | ⟨b, o, hb, h1, h2⟩
    · exact .inl h
    · exact .inr ⟨b, o, hs b hb, h1, ResIn.mono hs args h2⟩
theorem ResIn.mono {S S' : Nat → Prop} {w : World} (hs : ∀ b, S b → S' b) {b : Nat} : ∀ (ts : List Re) {o : Nat}, ResIn S w b o ts → ResIn S' w b o ts
  | [], _, _ => by simp only [ResIn]
  | t :: ts, o, h => by
    simp only [ResIn] at h ⊢
    obtain ⟨⟨vs, h1, h2⟩, h3⟩ := h
    exact ⟨⟨vs, h1, ReIn.mono hs t h2⟩, ResIn.mono hs ts h3⟩
end
theorem ReIn.ext {S : Nat → Prop} {w w' : World} (e : Ext w w') (t : Re) {vs : List Value} (h : ReIn S w t vs) : ReIn S w' t vs := ReIn.chg e (fun _ _ f => f) t h
theorem ReIn.form {S : Nat → Prop} {w : World} {t : Re} {vs : List Value} (h : ReIn S w t vs) : ∃ sa sc aa ac, vs = [.int .i64 t.kind, .slice sa t.set.length sc, .slice aa t.args.length ac, .int .i64 t.mn, .int .i64 t.mx, .bool t.neg] ∧ SlIn S w 2 (.slice sa t.set.length sc) (t.set.map spanV) ∧ (t.args.length ≤ ac ∧ ac ≤ 9223372036854775807) ∧
    (t.args = [] ∨ ∃ b o, S b ∧ aa = some ⟨b, o, none⟩ ∧ ResIn S w b o t.args) := by
  cases t; simp only [ReIn] at h; exact h
theorem ReIn.of {S : Nat → Prop} {w : World} {k : Int} {set : List (Int × Int)} {args : List Re} {mn mx : Int} {ng : Bool} {sa aa : Option Addr} {sc ac : Nat} (hs : SlIn S w 2 (.slice sa set.length sc) (set.map spanV)) (hl : (args.length ≤ ac ∧ ac ≤ 9223372036854775807)) (ha : args = [] ∨ ∃ b o, S b ∧ aa = some ⟨b, o, none⟩ ∧ ResIn S w b o args) :
    ReIn S w (.mk k set args mn mx ng) [.int .i64 k, .slice sa set.length sc, .slice aa args.length ac, .int .i64 mn, .int .i64 mx, .bool ng] := by
  simp only [ReIn]; exact ⟨sa, sc, aa, ac, rfl, hs, hl, ha⟩
theorem ResIn.one {S : Nat → Prop} {w : World} {b o : Nat} {t : Re} {vs : List Value} (hc : CellsAt w b o vs) (h : ReIn S w t vs) : ResIn S w b o [t] := by
  simp only [ResIn]; exact ⟨⟨vs, hc, h⟩, trivial⟩
theorem ResIn.two {S : Nat → Prop} {w : World} {b o : Nat} {t u : Re} {vs us : List Value} (hc : CellsAt w b o vs) (h : ReIn S w t vs) (hc' : CellsAt w b (o + 6) us) (h' : ReIn S w u us) : ResIn S w b o [t, u] := by
  simp only [ResIn]; exact ⟨⟨vs, hc, h⟩, ⟨us, hc', h'⟩, trivial⟩
theorem ResIn.get {S : Nat → Prop} {w : World} {b : Nat} : ∀ {ts : List Re} {o i : Nat} {t : Re}, ResIn S w b o ts → ts[i]? = some t → ∃ vs, CellsAt w b (o + i * 6) vs ∧ ReIn S w t vs
  | [], _, _, _, _, h => by simp at h
  | x :: ts, o, 0, t, h, hi => by
    simp only [ResIn] at h
    simp at hi
    subst hi
    simpa using h.1
  | x :: ts, o, i + 1, t, h, hi => by
    simp only [ResIn] at h
    have := ResIn.get h.2 (i := i) (by simpa using hi)
    rwa [show o + (i + 1) * 6 = o + 6 + i * 6 from by omega]
theorem ReIn.len {S : Nat → Prop} {w : World} {t : Re} {vs : List Value} (h : ReIn S w t vs) : vs.length = 6 := (ReIn.at t h).len
end Go.Eng
namespace Go.Proofs
open Go Go.Eng
set_option maxRecDepth 100000
abbrev TI : Nat := 3
abbrev TL : Nat := 22
/-- The lists of an automaton while it is made: each is in blocks of its own, below a bound. -/
def MStP (base top : Nat) (vals : List Value) (D : Nat → Prop) (w : World) (va vn : Value) (ka kn : Nat) (acc : List Int) (rows : List (List Int)) : Prop :=
  w.ownsRow base TI 1 va ka (acc.map (Value.int .i64)) ∧ w.ownsRow base TL 1 vn kn vals ∧ vals.length = rows.length ∧ (∀ (i : Nat) (u : Value) (l : List Int), vals[i]? = some u → rows[i]? = some l → SlIn D w 1 u (l.map intV)) ∧
    (∀ y, va.ownBlock = some y → vn.ownBlock ≠ some y) ∧ (∀ y, D y → (base ≤ y ∧ y < top) ∧ va.ownBlock ≠ some y ∧ vn.ownBlock ≠ some y) ∧ (∀ y, va.ownBlock = some y ∨ vn.ownBlock = some y → y < top) ∧ top ≤ w.heap.size
def MSt (base top : Nat) (w : World) (va vn : Value) (ka kn : Nat) (acc : List Int) (rows : List (List Int)) : Prop :=
  ∃ (vals : List Value) (D : Nat → Prop), MStP base top vals D w va vn ka kn acc rows
theorem MSt.chg {base top : Nat} {w w' : World} {va vn : Value} {ka kn : Nat} {acc : List Int} {rows : List (List Int)} {M : Nat → Prop} (h : MSt base top w va vn ka kn acc rows) (c : Chg M w w') (hM : ∀ y, M y → y < base ∨ top ≤ y) : MSt base top w' va vn ka kn acc rows := by
  obtain ⟨vals, D, h1, h2, h3, h4, h5, h6, h7, h8⟩ := h
  have hb : ∀ y, base ≤ y → y < top → ¬ M y := fun y h hlt hm => by have := hM y hm; omega
  exact ⟨vals, D, own_chg h1 c (fun q hq => hb q (h1.lt q hq).1 (h7 q (.inl hq))), own_chg h2 c (fun q hq => hb q (h2.lt q hq).1 (h7 q (.inr hq))), h3, fun i u l hu hl => (h4 i u l hu hl).chg c (fun y hy => hb y (h6 y hy).1.1 (h6 y hy).1.2), h5, h6, h7, Nat.le_trans h8 c.size⟩
theorem MSt.ext {base top : Nat} {w w' : World} {va vn : Value} {ka kn : Nat} {acc : List Int} {rows : List (List Int)} (h : MSt base top w va vn ka kn acc rows) (c : Ext w w') : MSt base top w' va vn ka kn acc rows := h.chg c fun y f => f.elim
theorem MSt.acc {base top : Nat} {w w' : World} {va va' vn : Value} {ka kn ka' : Nat} {acc acc' : List Int} {rows : List (List Int)} (h : MSt base top w va vn ka kn acc rows) (O : w'.ownsRow base TI 1 va' ka' (acc'.map (Value.int .i64))) (C : Chg (fun y => va.ownBlock = some y) w w') (hD : ∀ k, va'.ownBlock = some k → va.ownBlock = some k ∨ w.heap.size ≤ k) : MSt base w'.heap.size w' va' vn ka' kn acc' rows := by
  obtain ⟨vals, D, h1, h2, h3, h4, h5, h6, h7, h8⟩ := h
  have hs := C.size
  refine ⟨vals, D, O, own_chg h2 C (fun q hq hm => h5 q hm hq), h3, fun i u l hu hl => (h4 i u l hu hl).chg C (fun y hy hm => (h6 y hy).2.1 hm), fun y hy hn => ?_, fun y hy => ⟨⟨(h6 y hy).1.1, by have := (h6 y hy).1.2; omega⟩, fun hv => ?_, (h6 y hy).2.2⟩, fun y hy => ?_, Nat.le_refl _⟩
  · rcases hD y hy with h | h
    · exact h5 y h hn
    · have := (h2.lt y hn).2; omega
  · rcases hD y hv with h | h
    · exact (h6 y hy).2.1 h
    · have := (h6 y hy).1.2; omega
  · rcases hy with hy | hy
    · exact (O.lt y hy).2
    · have := h7 y (.inr hy); omega
theorem MSt.nxt {base top : Nat} {w w' : World} {va vn vn' u : Value} {ka kn kn' b : Nat} {acc : List Int} {rows : List (List Int)} {row : List Int} {vals : List Value} {D : Nat → Prop} (h : MStP base top vals D w va vn ka kn acc rows) (O : w'.ownsRow base TL 1 vn' kn' (vals ++ [u])) (C : Chg (fun y => vn.ownBlock = some y) w w') (hD : ∀ k, vn'.ownBlock = some k → vn.ownBlock = some k ∨ w.heap.size ≤ k)
    (hu : SlIn (fun y => y = b) w 1 u (row.map intV)) (hb : base ≤ b ∧ b < w.heap.size) (hb1 : top ≤ b) : MSt base w'.heap.size w' va vn' ka kn' acc (rows ++ [row]) := by
  obtain ⟨h1, h2, h3, h4, h5, h6, h7, h8⟩ := h
  have hs := C.size
  have hO := O
  have hb2 : vn.ownBlock ≠ some b := fun h => by have := h7 b (.inr h); omega
  have hb3 : va.ownBlock ≠ some b := fun h => by have := h7 b (.inl h); omega
  refine ⟨vals ++ [u], fun y => D y ∨ y = b, own_chg h1 C (fun q hq hm => h5 q hq hm), hO, by simp [h3], fun i v l hv hl => ?_, fun y hy hn => ?_, fun y hy => ?_, fun y hy => ?_, Nat.le_refl _⟩
  · rcases Nat.lt_or_ge i vals.length with hi | hi
    · rw [List.getElem?_append_left hi] at hv
      rw [List.getElem?_append_left (by omega)] at hl
      exact ((h4 i v l hv hl).chg C (fun y hy hm => (h6 y hy).2.2 hm)).mono (fun y hy => .inl hy)
    · rw [List.getElem?_append_right hi] at hv
      rw [List.getElem?_append_right (by omega), ← h3] at hl
      have hi0 : i - vals.length = 0 := by
        rcases Nat.eq_zero_or_pos (i - vals.length) with h | h
        · exact h
        · rw [List.getElem?_eq_none (by simp; omega)] at hv; cases hv
      rw [hi0] at hv hl
      simp at hv hl
      subst hv; subst hl
      exact (hu.chg C (fun y hy hm => by have hy' : y = b := hy; subst hy'; exact hb2 hm)).mono (fun y hy => .inr hy)
  · rcases hD y hn with h | h
    · exact h5 y hy h
    · have := (h1.lt y hy).2; omega
  · rcases hy with hy | hy
    · refine ⟨⟨(h6 y hy).1.1, by have := (h6 y hy).1.2; omega⟩, (h6 y hy).2.1, fun hn => ?_⟩
      rcases hD y hn with h | h
      · exact (h6 y hy).2.2 h
      · have := (h6 y hy).1.2; omega
    · subst hy
      refine ⟨⟨hb.1, by omega⟩, hb3, fun hn => ?_⟩
      rcases hD y hn with h | h
      · exact hb2 h
      · omega
  · rcases hy with hy | hy
    · have := h7 y (.inl hy); omega
    · exact (hO.lt y hy).2
theorem MSt.nil (base : Nat) (w : World) : MSt base 0 w (.slice none 0 0) (.slice none 0 0) 0 0 [] [] :=
  ⟨[], fun _ => False, World.ownsRow_nil _ _ _ _, World.ownsRow_nil _ _ _ _, rfl, fun i u l h => by simp at h, (fun y h => by simp [Value.ownBlock] at h), (fun y f => False.elim f), (fun y h => by simp [Value.ownBlock] at h), Nat.zero_le _⟩
theorem MSt.done {base top : Nat} {w : World} {aa na : Option Addr} {ac nc n : Nat} {start : Int} {acc : List Int} {rows : List (List Int)} (h : MSt base top w (.slice aa n ac) (.slice na n nc) n n acc rows) (hacc : acc.length = n) (hrows : rows.length = n) : DfaAt w ⟨start, acc, rows⟩ [.int .i64 start, .slice aa n ac, .slice na n nc] := by
  obtain ⟨vals, D, h1, h2, h3, h4, _, _⟩ := h
  refine ⟨aa, ac, na, nc, by rw [hacc, hrows], ?_, vals, ?_, h3, fun i u l hu hl => (h4 i u l hu hl).at⟩
  · have h5 : w.ownsRow base TI 1 (.slice aa n ac) n (acc.map intV).flatten := by rw [flat_intV]; exact h1
    have := own_slat h5 (by intro r hr; simp only [List.mem_map] at hr; obtain ⟨p, _, rfl⟩ := hr; rfl) (by simpa using hacc) (by decide)
    simp only [hacc]; exact this
  · have h5 : w.ownsRow base TL 1 (.slice na n nc) n (vals.map fun x => [x]).flatten := by
      have e : (vals.map fun x => [x]).flatten = vals := by
        clear h2 h3 h4
        induction vals with
        | nil => rfl
        | cons v vs ih => rw [List.map_cons, List.flatten_cons, ih]; rfl
      rw [e]; exact h2
    have := own_slat h5 (by intro r hr; simp only [List.mem_map] at hr; obtain ⟨p, _, rfl⟩ := hr; rfl) (by simp; omega) (by decide)
    simp only [hrows]; exact this
theorem StrAt.chg {wb w w' : World} {bs : Nat} {l : List Int} {M : Nat → Prop} (h : StrAt wb w bs l) (c : Chg M w w') (hm : ¬ M bs) : StrAt wb w' bs l := let ⟨a, cc, h1, h2⟩ := h; ⟨a, cc, c.keep hm h1, h2⟩
/-- A slice of one's own, with its block. -/
theorem own_slin {w : World} {base n : Nat} {a : Option Addr} {c : Nat} {l : List Int} (h : w.ownsRow base TI 1 (.slice a n c) n (l.map (Value.int .i64))) (hn : l.length = n) (h0 : 0 < n) : ∃ b, (base ≤ b ∧ b < w.heap.size) ∧ SlIn (fun y => y = b) w 1 (.slice a n c) (l.map intV) := by
  have h5 : w.ownsRow base TI 1 (.slice a n c) n (l.map intV).flatten := by rw [flat_intV]; exact h
  have h6 := own_slat h5 (by intro r hr; simp only [List.mem_map] at hr; obtain ⟨p, _, rfl⟩ := hr; rfl) (by simpa using hn) (by decide)
  obtain ⟨g, rfl, h7, _⟩ := own_cells h5 h0
  exact ⟨g, h5.lt g rfl, SlIn.mk h6 rfl⟩
def rndF (wb : World) (bs : Nat) (n : Int) : Fct := fun v w => ∃ x l', v = .int .i64 x ∧ 0 ≤ x ∧ x < n ∧ StrAt wb w bs l'
theorem rndF_ext (wb : World) (bs : Nat) (n : Int) : ∀ v w w', Ext w w' → rndF wb bs n v w → rndF wb bs n v w' := by
  rintro v w w' e ⟨x, l', h1, h2, h3, h4⟩
  exact ⟨x, l', h1, h2, h3, h4.ext e⟩
def numF (lo hi : Int) : Fct := fun v _ => ∃ x, v = .int .i64 x ∧ lo ≤ x ∧ x < hi
def cellF (n0 : Nat) (lo hi : Int) : Fct := fun v w => ∃ b x, v = .slice (some ⟨b, 0, none⟩) 1 1 ∧ Blk w b #[.int .i64 x] TI ∧ n0 ≤ b ∧ lo ≤ x ∧ x < hi
theorem cellF_chg {n0 bs : Nat} (h0 : bs < n0) (lo hi : Int) : ∀ v w w', Chg (fun y => y = bs) w w' → cellF n0 lo hi v w → cellF n0 lo hi v w' := by
  rintro v w w' e ⟨b, x, h1, h2, h3, h4⟩
  exact ⟨b, x, h1, Chg.keep e (fun h => by have h' : b = bs := h; omega) h2, h3, h4⟩
theorem DoesT_cell {M : Nat → Prop} {N : Nat} {σ : Env} {w : World} {dst : Option Tmp} {ty : TypeId} {pos : String} {af : Array Edge} {g : Option (Nat × Bool)} {x : Operand} {n lo hi : Int} (hx : ev σ x = .int .i64 n) (h1 : lo ≤ n) (h2 : n < hi) {n0 : Nat} (h0 : n0 ≤ w.heap.size) :
    DoesT M Try.prog N ⟨dst, .buildSlice 22 1 #[(0, x)], ty, pos, af, g⟩ (cellF n0 lo hi) σ w := by
  have hn := New.mk' w #[.int .i64 n] TI
  exact DoesT_val (run_buildSlice (parts := [(0, x)]) (ps := [(0, .int .i64 n)]) (by simp only [List.map, hx]) Try.underlying22 siz3 zer3 (by decide) (by decide) (by kernel_rfl)) (Ext.chg hn.ext) ⟨_, _, rfl, hn.blk, h0, h1, h2⟩
def okDfa (n c : Nat) (d : Dfa) : Prop := d.next.length = n ∧ d.accept.length = n ∧ (0 ≤ d.start ∧ d.start < n) ∧ (∀ x ∈ d.accept, -1 ≤ x ∧ x < 2) ∧ (∀ row ∈ d.next, row.length = c ∧ ∀ x ∈ row, -1 ≤ x ∧ x < n)
set_option maxHeartbeats 4000000 in
theorem mkDfa_m (w0 : World) (v : Value) (l : List Int) (hl : IntsAt w0 v l) : Ret Try.prog 36 #[v] w0 fun r w => ∃ n c d aa ac na nc base top, (1 ≤ n ∧ n ≤ 6) ∧ (1 ≤ c ∧ c ≤ 3) ∧ okDfa n c d ∧ r = .agg #[.int .i64 d.start, .slice aa n ac, .slice na n nc] ∧ w0.heap.size ≤ base ∧ MSt base top w (.slice aa n ac) (.slice na n nc) n n d.accept d.next ∧ Ext w0 w := by
  obtain ⟨a, c, rfl⟩ := SlAt.form hl
  simp only [List.length_map] at hl ⊢
  refine Ret_of Try.func36 rfl Try.ntmps36 (Nat.le_of_ble_eq_true rfl) ?_
  have E : Chg none1 w0 w0 := Chg.refl _ _
  refine Wp_seq_region ?_
  refine s_alloc (c := #[(.int .i64 0), (.slice none 0 0), (.slice none 0 0)]) (by decide) zer25 rfl ?_
  intro br wr Nr
  have Fr := Nr.ge E
  replace E := E.ext Nr.ext
  have Br := Nr.blk
  refine WpL_nil ?_
  refine Wp_seq_region ?_
  refine WpL_val rfl rfl (by decide) (r_move (v := (.slice a l.length c)) rfl) ?_
  refine WpL_val rfl rfl (by decide) (r_build (ps := [(0, (.slice a l.length c))]) (v := (.agg #[(.slice a l.length c)])) rfl (by kernel_rfl)) ?_
  refine s_box (v := (.agg #[(.slice a l.length c)])) (c := #[(.slice a l.length c)]) (by decide) rfl rfl ?_
  intro bs ws Ns
  have Fs := Ns.ge E
  have Os_br := Ns.lt Br
  replace Br := Ns.keep Br
  replace E := E.ext Ns.ext
  have Bs := Ns.blk
  refine WpL_val rfl rfl (by decide) (r_assign (v := (.pointer (some ⟨bs, 0, none⟩))) rfl) ?_
  refine WpL_nil ?_
  refine Wp_seq_region ?_
  refine WpL_val rfl rfl (by decide) (r_move (v := (.pointer (some ⟨bs, 0, none⟩))) rfl) ?_
  have hrs : br < bs := by omega
  have hS0 : StrAt wr ws bs l := ⟨a, c, Bs, hl.ext Nr.ext⟩
  have hwr : wr.heap.size ≤ bs := by have := Ns.eq; omega
  have hbrr : br < wr.heap.size := by have := Nr.blk.lt; omega
  have E2 : Chg none1 wr ws := Ns.ext
  refine WpL_enter rfl rfl (by decide) (r_callF (vs := [(.pointer (some ⟨bs, 0, none⟩)), (.int .i64 6)]) Try.func70 nm70 bd70 rfl) (next_c wr _ bs l 6 (by decide) (by decide) E2 hwr hS0) ?_
  rintro _ w9 ⟨x1, l1, rfl, hx1a, hx1b, hS1, C1⟩
  replace Br := C1.keep (by omega) Br
  replace E := E.step C1 (by intro x hx hm; omega)
  replace E2 := E2.step C1 (by intro x hx hm; omega)
  refine WpL_val rfl rfl (by decide) (r_add (k := .i64) (a := 1) (b := x1) (c := 1 + x1) rfl rfl (wI64 (by omega))) ?_
  refine WpL_val rfl rfl (by decide) (r_move (v := (.pointer (some ⟨bs, 0, none⟩))) rfl) ?_
  refine WpL_enter rfl rfl (by decide) (r_callF (vs := [(.pointer (some ⟨bs, 0, none⟩)), (.int .i64 3)]) Try.func70 nm70 bd70 rfl) (next_c wr _ bs l1 3 (by decide) (by decide) E2 hwr hS1) ?_
  rintro _ w19 ⟨x2, l2, rfl, hx2a, hx2b, hS2, C2⟩
  replace Br := C2.keep (by omega) Br
  replace E := E.step C2 (by intro x hx hm; omega)
  replace E2 := E2.step C2 (by intro x hx hm; omega)
  refine WpL_val rfl rfl (by decide) (r_add (k := .i64) (a := 1) (b := x2) (c := 1 + x2) rfl rfl (wI64 (by omega))) ?_
  refine WpL_val rfl rfl (by decide) (r_assign (v := (.int .i64 (1 + x1))) rfl) ?_
  refine WpL_val rfl rfl (by decide) (r_assign (v := (.int .i64 (1 + x2))) rfl) ?_
  refine WpL_nil ?_
  refine Wp_seq_region ?_
  refine WpL_val rfl rfl (by decide) (r_move (v := (.pointer (some ⟨bs, 0, none⟩))) rfl) ?_
  refine WpL_val rfl rfl (by decide) (r_move (v := (.int .i64 (1 + x1))) rfl) ?_
  refine WpL_enter rfl rfl (by decide) (r_callF (vs := [(.pointer (some ⟨bs, 0, none⟩)), (.int .i64 (1 + x1))]) Try.func70 nm70 bd70 rfl) (next_c wr _ bs l2 (1 + x1) (by omega) (by omega) E2 hwr hS2) ?_
  rintro _ w29 ⟨x3, l3, rfl, hx3a, hx3b, hS3, C3⟩
  replace Br := C3.keep (by omega) Br
  replace E := E.step C3 (by intro x hx hm; omega)
  replace E2 := E2.step C3 (by intro x hx hm; omega)
  obtain ⟨n, hn⟩ : ∃ n : Nat, (n : Int) = 1 + x1 := ⟨(1 + x1).toNat, by omega⟩
  obtain ⟨cc, hcc⟩ : ∃ cc : Nat, (cc : Int) = 1 + x2 := ⟨(1 + x2).toNat, by omega⟩
  refine WpL_val rfl rfl (by decide) (r_build (ps := [(0, (.int .i64 x3))]) (v := (.agg #[(.int .i64 x3), (.slice none 0 0), (.slice none 0 0)])) rfl (by kernel_rfl)) ?_
  refine s_allocStore (v := (.agg #[(.int .i64 x3), (.slice none 0 0), (.slice none 0 0)])) (c := #[(.int .i64 x3), (.slice none 0 0), (.slice none 0 0)]) (n := 3) (by decide) zer25 rfl siz25 rfl rfl rfl (by simp [Value.oneCell']) ?_
  intro bd wd Nd
  have Fd := Nd.ge E
  have Fd_E2 := Nd.ge E2
  have Od_br := Nd.lt Br
  replace Br := Nd.keep Br
  replace E := E.ext Nd.ext
  have Bd := Nd.blk
  replace E2 := E2.ext Nd.ext
  refine WpL_nil ?_
  refine Wp_seq ?_
  refine Wp_seq_region ?_
  refine WpL_val rfl rfl (by decide) (r_move (v := (.int .i64 (1 + x1))) rfl) ?_
  refine WpL_val rfl rfl (by decide) (r_move (v := (.int .i64 0)) rfl) ?_
  refine WpL_nil ?_
  refine Wp_block ?_
  obtain ⟨base, hbase⟩ : ∃ base, base = wd.heap.size := ⟨_, rfl⟩
  have hbd : bd < base := by rw [hbase]; exact Bd.lt
  have hwb : w0.heap.size ≤ base := by rw [hbase]; exact E.size
  have hbs1 : bs < bd := by have := Nd.eq; have := hS3.lt; omega
  have hS4 := hS3.ext Nd.ext
  refine Wp_loop (fun nn_ σ W1 => ∃ (k : Nat) (va : Option Addr) (vc : Nat) (na : Option Addr) (nc : Nat) (acc : List Int) (rows : List (List Int)) (ls : List Int) (top : Nat), (∃ jj_, σ = upds jj_ [(2, (.pointer (some ⟨br, 0, none⟩))), (3, (.pointer (some ⟨bs, 0, none⟩))), (4, (.int .i64 (1 + x1))), (5, (.int .i64 (1 + x2))), (6, (.pointer (some ⟨bd, 0, none⟩))), (21, (.int .i64 (1 + x1))), (22, (.int .i64 ((k : Nat) : Int)))]) ∧ Chg none1 w0 W1 ∧ Chg none1 wr W1 ∧ Blk W1 br #[(.int .i64 0), (.slice none 0 0), (.slice none 0 0)] 25 ∧ Blk W1 bd (#[(.int .i64 x3), (.slice va k vc), (.slice na k nc)]) 25 ∧ (k ≤ n) ∧ (MSt base top W1 (.slice va k vc) (.slice na k nc) k k acc rows) ∧ (acc.length = k ∧ ∀ x ∈ acc, -1 ≤ x ∧ x < 2) ∧ (rows.length = k ∧ ∀ row ∈ rows, row.length = cc ∧ ∀ x ∈ row, -1 ≤ x ∧ x < (n : Int)) ∧ (StrAt wr W1 bs ls) ∧ (base ≤ W1.heap.size) ∧ nn_ = n - k) (n := n - 0) ?_ ?_
  · exact ⟨0, none, 0, none, 0, [], [], l3, 0, Fits.out ⟨rfl, rfl, rfl, rfl, rfl, rfl, rfl, trivial⟩, E, E2, Br, Bd, Nat.zero_le _, MSt.nil _ _, ⟨rfl, by simp⟩, ⟨rfl, by simp⟩, hS4, (by omega), rfl⟩
  · clear E E2 Br Bd
    rintro _ _ W1 ⟨k, va, vc, na, nc, acc, rows, ls, top, ⟨j1, rfl⟩, E, E2, Br, Bd, hk, hM, hacc, hrows, hS, hbsz, rfl⟩
    refine Wp_seq_region ?_
    refine WpL_val rfl rfl (by decide) (r_lss (k := .i64) (a := ((k : Nat) : Int)) (b := 1 + x1) rfl rfl) ?_
    refine WpL_nil ?_
    refine Wp_seq ?_
    refine Wp_cond (b := decide ((((k : Nat) : Int) : Int) < 1 + x1)) rfl (fun hlt => ?_) (fun hlt => ?_)
    · have khlt := hlt
      replace hlt := of_decide_eq_true hlt
      refine Wp_skip ?_
      refine thn_normal ?_
      refine Wp_seq ?_
      refine Wp_block ?_
      refine Wp_seq ?_
      obtain ⟨Fs3, hFs3⟩ : ∃ Fs : List (FactT ((fun y => y = bs))), Fs = [.eq (.pointer (some ⟨bd, 1, none⟩)), .eq (.slice va k vc), .eq (.pointer (some ⟨bs, 0, none⟩)), .own (rndF wr bs 3) (rndF_ext _ _ _), .gen (numF (-1) 2) (fun _ _ _ _ h => h), .gen (cellF base (-1) 2) (cellF_chg (by omega) _ _)] := ⟨_, rfl⟩
      refine Wp_dagT ((fun y => y = bs)) 6 3 [24, 25, 26, 27, 28, 29] [[], [0], [], [2], [3], [4]] Fs3 hFs3 rfl mixed (by kernel_rfl) (by kernel_rfl) (by kernel_rfl) ?_ ?_
      · intro wd X0
        refine DagStepsT.cons (fun s' w' X U H => ?_) ?_
        · exact DoesT_val (r_fieldAddr (b := bd) (o := 0) (o' := 1) (U 6 rfl) Try.underlying25 rfl siz22 rfl) (Chg.refl _ _) rfl
        refine DagStepsT.cons (fun s' w' X U H => ?_) ?_
        · have e24 : s' 24 = (.pointer (some ⟨bd, 1, none⟩)) := H 0 rfl 24 (.eq (.pointer (some ⟨bd, 1, none⟩))) rfl (by rw [hFs3]; rfl)
          exact DoesT_val (r_load (v := (.slice va k vc)) e24 flat22 ((Chg.keep X (fun h => by have h' : bd = bs := h; omega) (X0.keep Bd)).cell rfl)) (Chg.refl _ _) rfl
        refine DagStepsT.cons (fun s' w' X U H => ?_) ?_
        · exact DoesT_val (r_move (v := (.pointer (some ⟨bs, 0, none⟩))) (U 3 rfl)) (Chg.refl _ _) rfl
        refine DagStepsT.cons (fun s' w' X U H => ?_) ?_
        · have e26 : s' 26 = (.pointer (some ⟨bs, 0, none⟩)) := H 2 rfl 26 (.eq (.pointer (some ⟨bs, 0, none⟩))) rfl (by rw [hFs3]; rfl)
          exact DoesT_enter (r_callF (vs := [(.pointer (some ⟨bs, 0, none⟩)), (.int .i64 3)]) Try.func70 nm70 bd70 (lst2 e26 rfl)) ((next_c wr _ bs ls 3 (by decide) (by decide) ((Ext.trans E2 X0).trans X) hwr ((hS.ext X0).ext X)).mono (fun v w h => by obtain ⟨x, l', h1, h2, h3, h4, h5⟩ := h; exact ⟨⟨x, l', h1, h2, h3, h4⟩, h5⟩))
        refine DagStepsT.cons (fun s' w' X U H => ?_) ?_
        · obtain ⟨x27, m27, e27, p27, q27, s27⟩ := (show (.own (rndF wr bs 3) (rndF_ext _ _ _) : FactT ((fun y => y = bs))).In (s' 27) w' from H 3 rfl 27 (.own (rndF wr bs 3) (rndF_ext _ _ _)) rfl (by rw [hFs3]; rfl))
          exact DoesT_val (r_sub (k := .i64) (a := x27) (b := 1) (c := x27 - 1) e27 rfl (wI64 (by omega))) (Chg.refl _ _) ⟨_, rfl, by omega, by omega⟩
        refine DagStepsT.cons (fun s' w' X U H => ?_) ?_
        · obtain ⟨x28, e28, p28, q28⟩ := (show (.gen (numF (-1) 2) (fun _ _ _ _ h => h) : FactT ((fun y => y = bs))).In (s' 28) w' from H 4 rfl 28 (.gen (numF (-1) 2) (fun _ _ _ _ h => h)) rfl (by rw [hFs3]; rfl))
          exact DoesT_cell (n0 := base) (lo := -1) (hi := 2) (x := .tmp 28) e28 p28 q28 (by have := X0.size; have := X.size; omega)
        exact DagStepsT.nil
      · intro s' wd3 w3 X0 X3 U H
        have e25 : s' 25 = (.slice va k vc) := H 1 25 (.eq (.slice va k vc)) rfl (by rw [hFs3]; rfl)
        obtain ⟨x27, m27, e27, p27, q27, s27⟩ := (show (.own (rndF wr bs 3) (rndF_ext _ _ _) : FactT ((fun y => y = bs))).In (s' 27) w3 from H 3 27 (.own (rndF wr bs 3) (rndF_ext _ _ _)) rfl (by rw [hFs3]; rfl))
        obtain ⟨b29, y29, e29, B29, g29, p29, q29⟩ := (show (.gen (cellF base (-1) 2) (cellF_chg (by omega) _ _) : FactT ((fun y => y = bs))).In (s' 29) w3 from H 5 29 (.gen (cellF base (-1) 2) (cellF_chg (by omega) _ _)) rfl (by rw [hFs3]; rfl))
        obtain ⟨j3, rfl⟩ := Fits.out (σ := s') (l := [(2, (.pointer (some ⟨br, 0, none⟩))), (3, (.pointer (some ⟨bs, 0, none⟩))), (4, (.int .i64 (1 + x1))), (5, (.int .i64 (1 + x2))), (6, (.pointer (some ⟨bd, 0, none⟩))), (21, (.int .i64 (1 + x1))), (22, (.int .i64 ((k : Nat) : Int))), (25, (.slice va k vc)), (29, (.slice (some ⟨b29, 0, none⟩) 1 1))]) ⟨U 2 rfl, U 3 rfl, U 4 rfl, U 5 rfl, U 6 rfl, U 21 rfl, U 22 rfl, e25, e29, trivial⟩
        clear U H
        replace Br := Chg.keep X3 (fun h => by have h' : br = bs := h; omega) (X0.keep Br)
        replace Bd := Chg.keep X3 (fun h => by have h' : bd = bs := h; omega) (X0.keep Bd)
        have hM1 := (hM.ext X0).chg X3 (fun y h => .inl (by have h' : y = bs := h; omega))
        have hbsz1 : base ≤ (w3).heap.size := by have := X0.size; have := X3.size; omega
        replace E := (E.ext X0).step X3 (fun y hy h => by have h' : y = bs := h; omega)
        replace E2 := (E2.ext X0).step X3 (fun y hy h => by have h' : y = bs := h; omega)
        obtain ⟨vals1, D1, hA1, hMr⟩ := hM1
        have hM1 : MSt base top (w3) (.slice va k vc) (.slice na k nc) k k acc rows := ⟨vals1, D1, hA1, hMr⟩
        refine s_append (base := base) (n := k) (m := 1) (xs := acc.map (Value.int .i64)) (news := [.int .i64 y29]) (size := 1) (bytes := 8) (v := (.slice va k vc)) (by decide) Try.underlying22 siz3 byt3 zer3 rfl (by decide) rfl hA1 rfl (rfl) (B29.cells rfl) (by simp [Value.oneCell']) (by unfold maxLen; omega) (by omega) (hbsz1) ?_
        intro v9 w39 Ov9 Cv9 Dv9
        replace Br := Cv9.keep (fun h => by have := (hA1.lt _ h).1; omega) Br
        replace Bd := Cv9.keep (fun h => by have := (hA1.lt _ h).1; omega) Bd
        replace E := E.step Cv9 (fun x hx h => absurd (hA1.lt x h).1 (by omega))
        replace E2 := E2.step Cv9 (fun x hx h => absurd (hA1.lt x h).1 (by omega))
        obtain ⟨va2, vc2, rfl⟩ := own_form Ov9
        have hM2 := MSt.acc (acc' := acc ++ [y29]) hM1 (by simpa using Ov9) Cv9 Dv9
        obtain ⟨top2, htop2⟩ : ∃ top2, top2 = w39.heap.size := ⟨_, rfl⟩
        rw [← htop2] at hM2
        have hbsz2 := Nat.le_trans hbsz1 Cv9.size
        have hS2' : StrAt wr w39 bs m27 := by obtain ⟨sa, sc, h1, h2⟩ := s27; exact ⟨sa, sc, Chg.keep Cv9 (fun h => by have := (hA1.lt _ h).1; omega) h1, h2⟩
        have htop3 : top2 ≤ (w39).heap.size := by omega
        refine WpL_val rfl rfl (by decide) (r_fieldAddr (b := bd) (o := 0) (o' := 1) rfl Try.underlying25 rfl siz22 rfl) ?_
        refine s_store (b := bd) (o := 1) (c' := #[(.int .i64 x3), (.slice va2 (k + 1) vc2), (.slice na k nc)]) (v := (.slice va2 (k + 1) vc2)) rfl rfl rfl siz22 Bd (by simp) rfl ?_
        intro w4 S4
        replace hM2 := hM2.chg S4.chg (fun y h => .inl (by have h' : y = bd := h; omega))
        replace hS2' := hS2'.chg S4.chg (fun h => by have h' : bs = bd := h; omega)
        replace hbsz2 := Nat.le_trans hbsz2 S4.chg.size
        replace htop3 := Nat.le_trans htop3 S4.chg.size
        replace Br := S4.keep (by omega) Br
        replace E := S4.step E (by first | exact Or.inl (by omega) | exact Or.inr rfl | exact Or.inr (by assumption) | exact Or.inr (by simp) | exact Or.inr (by omega) | exact Or.inr (by dsimp only; omega))
        replace E2 := S4.step E2 (Or.inl (by omega))
        replace Bd := S4.blk
        refine WpL_nil ?_
        refine thn_normal ?_
        refine Wp_seq_region ?_
        refine WpL_val rfl rfl (by decide) (r_assign (v := (.slice none 0 0)) rfl) ?_
        refine WpL_nil ?_
        refine Wp_seq ?_
        refine Wp_seq_region ?_
        refine WpL_val rfl rfl (by decide) (r_move (v := (.int .i64 (1 + x2))) rfl) ?_
        refine WpL_val rfl rfl (by decide) (r_move (v := (.int .i64 0)) rfl) ?_
        refine WpL_nil ?_
        refine Wp_block ?_
        obtain ⟨base2, hbase2⟩ : ∃ base2, base2 = (w4).heap.size := ⟨_, rfl⟩
        refine Wp_loop (fun nn_ σ W5 => ∃ (j : Nat) (ra : Option Addr) (rc : Nat) (row : List Int) (lt : List Int), (∃ jj_, σ = upds jj_ [(2, (.pointer (some ⟨br, 0, none⟩))), (3, (.pointer (some ⟨bs, 0, none⟩))), (4, (.int .i64 (1 + x1))), (5, (.int .i64 (1 + x2))), (6, (.pointer (some ⟨bd, 0, none⟩))), (21, (.int .i64 (1 + x1))), (22, (.int .i64 ((k : Nat) : Int))), (32, (.int .i64 (1 + x2))), (33, (.int .i64 ((j : Nat) : Int))), (7, (.slice ra j rc))]) ∧ Chg none1 w0 W5 ∧ Chg none1 wr W5 ∧ Blk W5 br #[(.int .i64 0), (.slice none 0 0), (.slice none 0 0)] 25 ∧ Blk W5 bd #[(.int .i64 x3), (.slice va2 (k + 1) vc2), (.slice na k nc)] 25 ∧ (j ≤ cc) ∧ (MSt base top2 W5 (.slice va2 (k + 1) vc2) (.slice na k nc) (k + 1) k (acc ++ [y29]) rows) ∧ (W5.ownsRow base2 TI 1 (.slice ra j rc) j (row.map (Value.int .i64))) ∧ (row.length = j ∧ ∀ x ∈ row, -1 ≤ x ∧ x < (n : Int)) ∧ (StrAt wr W5 bs lt) ∧ (base2 ≤ W5.heap.size) ∧ nn_ = cc - j) (n := cc - 0) ?_ ?_
        · exact ⟨0, none, 0, [], m27, Fits.out ⟨rfl, rfl, rfl, rfl, rfl, rfl, rfl, rfl, rfl, rfl, trivial⟩, E, E2, Br, Bd, Nat.zero_le _, hM2, World.ownsRow_nil _ _ _ _, ⟨rfl, by simp⟩, hS2', (by omega), rfl⟩
        · clear E E2 Br Bd
          rintro _ _ W5 ⟨j, ra, rc, row, lt, ⟨j5, rfl⟩, E, E2, Br, Bd, hj, hMj, hR, hrow, hSj, hsz2, rfl⟩
          refine Wp_seq_region ?_
          refine WpL_val rfl rfl (by decide) (r_lss (k := .i64) (a := ((j : Nat) : Int)) (b := 1 + x2) rfl rfl) ?_
          refine WpL_nil ?_
          refine Wp_seq ?_
          refine Wp_cond (b := decide ((((j : Nat) : Int) : Int) < 1 + x2)) rfl (fun hltj => ?_) (fun hltj => ?_)
          · have khltj := hltj
            replace hltj := of_decide_eq_true hltj
            refine Wp_skip ?_
            refine thn_normal ?_
            refine Wp_seq ?_
            refine Wp_block ?_
            refine Wp_region ?_
            refine WpL_val rfl rfl (by decide) (r_move (v := (.slice ra j rc)) rfl) ?_
            refine WpL_val rfl rfl (by decide) (r_move (v := (.pointer (some ⟨bs, 0, none⟩))) rfl) ?_
            refine WpL_val rfl rfl (by decide) (r_move (v := (.int .i64 (1 + x1))) rfl) ?_
            refine WpL_val rfl rfl (by decide) (r_add (k := .i64) (a := 1 + x1) (b := 1) (c := (1 + x1) + 1) rfl rfl (wI64 (by omega))) ?_
            refine WpL_enter rfl rfl (by decide) (r_callF (vs := [(.pointer (some ⟨bs, 0, none⟩)), (.int .i64 ((1 + x1) + 1))]) Try.func70 nm70 bd70 rfl) (next_c wr _ bs lt (1 + x1 + 1) (by omega) (by omega) E2 hwr hSj) ?_
            rintro _ w49 ⟨x4, l4, rfl, hx4a, hx4b, hS5, C5⟩
            replace Br := C5.keep (by omega) Br
            replace Bd := C5.keep (by omega) Bd
            replace E := E.step C5 (by intro x hx hm; omega)
            replace E2 := E2.step C5 (by intro x hx hm; omega)
            have hR1 := own_chg hR C5 (fun q hq h => by have h' : q = bs := h; have := (hR.lt q hq).1; omega)
            have hMj1 := hMj.chg C5 (fun y h => .inl (by have h' : y = bs := h; omega))
            have hsz3 := Nat.le_trans hsz2 C5.size
            refine WpL_val rfl rfl (by decide) (r_sub (k := .i64) (a := x4) (b := 1) (c := x4 - 1) rfl rfl (wI64 (by omega))) ?_
            refine s_buildSlice (ps := [(0, (.int .i64 (x4 - 1)))]) (c := #[(.int .i64 (x4 - 1))]) (by decide) rfl Try.underlying22 siz3 zer3 (by decide) (by decide) (by kernel_rfl) ?_
            intro bq wq Nq
            have Fq := Nq.ge E
            have Fq_E2 := Nq.ge E2
            have Oq_br := Nq.lt Br
            have Oq_bd := Nq.lt Bd
            replace Br := Nq.keep Br
            replace Bd := Nq.keep Bd
            replace hR1 := own_ext hR1 Nq.ext
            replace hMj1 := hMj1.ext Nq.ext
            replace hsz3 := Nat.le_trans hsz3 Nq.ext.size
            replace hS5 := hS5.ext Nq.ext
            replace E := E.ext Nq.ext
            have Bq := Nq.blk
            replace E2 := E2.ext Nq.ext
            refine s_append (base := base2) (n := j) (m := 1) (xs := row.map (Value.int .i64)) (news := [(.int .i64 (x4 - 1))]) (size := 1) (bytes := 8) (v := (.slice ra j rc)) (by decide) Try.underlying22 siz3 byt3 zer3 rfl (by decide) rfl hR1 rfl (rfl) (Bq.cells rfl) (by simp [Value.oneCell']) (by unfold maxLen; omega) (by omega) (hsz3) ?_
            intro v8 w59 Ov8 Cv8 Dv8
            replace Br := Cv8.keep (fun h => by have := (hR1.lt _ h).1; omega) Br
            replace Bd := Cv8.keep (fun h => by have := (hR1.lt _ h).1; omega) Bd
            replace E := E.step Cv8 (fun x hx h => absurd (hR1.lt x h).1 (by omega))
            replace E2 := E2.step Cv8 (fun x hx h => absurd (hR1.lt x h).1 (by omega))
            obtain ⟨ra2, rc2, rfl⟩ := own_form Ov8
            refine WpL_val rfl rfl (by decide) (r_assign (v := (.slice ra2 (j + 1) rc2)) rfl) ?_
            refine WpL_nil ?_
            refine inB_normal ?_
            refine thn_normal ?_
            refine Wp_region ?_
            refine WpL_val rfl rfl (by decide) (r_add (k := .i64) (a := ((j : Nat) : Int)) (b := 1) (c := ((j : Nat) : Int) + 1) rfl rfl (wI64 (by omega))) ?_
            refine WpL_val rfl rfl (by decide) (r_move (v := (.int .i64 (((j : Nat) : Int) + 1))) rfl) ?_
            refine WpL_nil ?_
            refine thn_normal ?_
            exact ⟨cc - (j + 1), by omega, j + 1, ra2, rc2, row ++ [x4 - 1], l4, Fits.out ⟨rfl, rfl, rfl, rfl, rfl, rfl, rfl, rfl, rfl, rfl, trivial⟩, E, E2, Br, Bd, (by omega), hMj1.chg Cv8 (fun y h => .inr (by have := (hR1.lt y h).1; omega)), (by simpa using Ov8), ⟨by simp [hrow.1], by intro x hx; simp at hx; rcases hx with h | h; exact hrow.2 x h; omega⟩, (by obtain ⟨sa, sc, h1, h2⟩ := hS5; exact ⟨sa, sc, Chg.keep Cv8 (fun h => by have := (hR1.lt _ h).1; omega) h1, h2⟩), Nat.le_trans hsz3 Cv8.size, rfl⟩
          · have khltj := hltj
            replace hltj := of_decide_eq_false hltj
            have hjc : j = cc := by omega
            obtain ⟨hrl, hrr⟩ := hrow
            obtain ⟨rb, hrb, hsl⟩ := own_slin hR hrl (by omega)
            have hsz4 : rb < (W5).heap.size ∧ base ≤ (W5).heap.size := ⟨hrb.2, by omega⟩
            refine Wp_exit ?_
            refine thn_exit ?_
            refine thn_exit ?_
            refine inB_here ?_
            refine thn_normal ?_
            refine Wp_region ?_
            refine WpL_val rfl rfl (by decide) (r_fieldAddr (b := bd) (o := 0) (o' := 2) rfl Try.underlying25 rfl siz23 rfl) ?_
            refine WpL_val rfl rfl (by decide) (r_load (v := (.slice na k nc)) rfl flat23 (Bd.cell rfl)) ?_
            refine WpL_val rfl rfl (by decide) (r_move (v := (.slice ra j rc)) rfl) ?_
            refine s_buildSlice (ps := [(0, (.slice ra j rc))]) (c := #[(.slice ra j rc)]) (by decide) rfl Try.underlying23 siz22 zer22 (by decide) (by decide) (by kernel_rfl) ?_
            intro bq wq Nq
            have Fq := Nq.ge E
            have Fq_E2 := Nq.ge E2
            have Oq_br := Nq.lt Br
            have Oq_bd := Nq.lt Bd
            replace Br := Nq.keep Br
            replace Bd := Nq.keep Bd
            replace hMj := hMj.ext Nq.ext
            replace hsl := SlIn.chg hsl Nq.ext (fun _ _ f => f)
            replace hSj := hSj.ext Nq.ext
            replace hsz4 := And.intro (Nat.lt_of_lt_of_le hsz4.1 Nq.ext.size) (Nat.le_trans hsz4.2 Nq.ext.size)
            replace E := E.ext Nq.ext
            have Bq := Nq.blk
            replace E2 := E2.ext Nq.ext
            obtain ⟨vals, D, hMP⟩ := hMj
            have hN := hMP.2.1
            refine s_append (base := base) (n := k) (m := 1) (xs := vals) (news := [(.slice ra j rc)]) (size := 1) (bytes := 24) (v := (.slice na k nc)) (by decide) Try.underlying23 siz22 byt22 zer22 rfl (by decide) rfl hN rfl (rfl) (Bq.cells rfl) (by simp [Value.oneCell']) (by unfold maxLen; omega) (by omega) (hsz4.2) ?_
            intro v7 w69 Ov7 Cv7 Dv7
            replace Br := Cv7.keep (fun h => by have := (hN.lt _ h).1; omega) Br
            replace Bd := Cv7.keep (fun h => by have := (hN.lt _ h).1; omega) Bd
            replace E := E.step Cv7 (fun x hx h => absurd (hN.lt x h).1 (by omega))
            replace E2 := E2.step Cv7 (fun x hx h => absurd (hN.lt x h).1 (by omega))
            obtain ⟨na2, nc2, rfl⟩ := own_form Ov7
            have hM9 := MSt.nxt hMP Ov7 Cv7 Dv7 hsl ⟨by omega, hsz4.1⟩ (by omega)
            obtain ⟨top4, htop4⟩ : ∃ top4, top4 = w69.heap.size := ⟨_, rfl⟩
            rw [← htop4] at hM9
            have hS9 := hSj.chg Cv7 (fun h => by have := (hN.lt _ h).1; omega)
            have hsz9 : base ≤ w69.heap.size := Nat.le_trans hsz4.2 Cv7.size
            refine WpL_val rfl rfl (by decide) (r_fieldAddr (b := bd) (o := 0) (o' := 2) rfl Try.underlying25 rfl siz23 rfl) ?_
            refine s_store (b := bd) (o := 2) (c' := #[(.int .i64 x3), (.slice va2 (k + 1) vc2), (.slice na2 (k + 1) nc2)]) (v := (.slice na2 (k + 1) nc2)) rfl rfl rfl siz23 Bd (by simp) rfl ?_
            intro w7 S7
            replace hM9 := hM9.chg S7.chg (fun y h => .inl (by have h' : y = bd := h; omega))
            replace hS9 := hS9.chg S7.chg (fun h => by have h' : bs = bd := h; omega)
            replace hsz9 := Nat.le_trans hsz9 S7.chg.size
            replace Br := S7.keep (by omega) Br
            replace E := S7.step E (by first | exact Or.inl (by omega) | exact Or.inr rfl | exact Or.inr (by assumption) | exact Or.inr (by simp) | exact Or.inr (by omega) | exact Or.inr (by dsimp only; omega))
            replace E2 := S7.step E2 (Or.inl (by omega))
            replace Bd := S7.blk
            refine WpL_nil ?_
            refine inB_normal ?_
            refine thn_normal ?_
            refine Wp_region ?_
            refine WpL_val rfl rfl (by decide) (r_add (k := .i64) (a := ((k : Nat) : Int)) (b := 1) (c := ((k : Nat) : Int) + 1) rfl rfl (wI64 (by omega))) ?_
            refine WpL_val rfl rfl (by decide) (r_move (v := (.int .i64 (((k : Nat) : Int) + 1))) rfl) ?_
            refine WpL_nil ?_
            refine thn_normal ?_
            exact ⟨n - (k + 1), by omega, k + 1, va2, vc2, na2, nc2, acc ++ [y29], rows ++ [row], lt, top4, Fits.out ⟨rfl, rfl, rfl, rfl, rfl, rfl, rfl, trivial⟩, E, E2, Br, Bd, (by omega), hM9, ⟨by simp [hacc.1], by intro x hx; simp at hx; rcases hx with h | h; exact hacc.2 x h; omega⟩, ⟨by simp [hrows.1], by intro r hr; simp at hr; rcases hr with h | h; exact hrows.2 r h; subst h; exact ⟨by omega, hrr⟩⟩, hS9, hsz9, rfl⟩
    · have khlt := hlt
      replace hlt := of_decide_eq_false hlt
      have hkn : k = n := by omega
      have hDone := MSt.done (start := x3) hM hacc.1 hrows.1
      refine Wp_exit ?_
      refine thn_exit ?_
      refine thn_exit ?_
      refine inB_here ?_
      refine thn_normal ?_
      refine Wp_seq_region ?_
      refine WpL_val rfl rfl (by decide) (r_loadAgg (vs := [(.int .i64 x3), (.slice va k vc), (.slice na k nc)]) rfl agg25 siz25 rfl (Bd.cells rfl)) ?_
      refine s_storeAgg (b := br) (o := 0) (c' := #[(.int .i64 x3), (.slice va k vc), (.slice na k nc)]) rfl rfl (by simp [Value.oneCell']) siz25 rfl Br (by simp) rfl ?_
      intro w8 S8
      replace hM := hM.chg S8.chg (fun y h => .inl (by have h' : y = br := h; omega))
      replace Bd := S8.keep (by omega) Bd
      replace E := S8.step E (by first | exact Or.inl (by omega) | exact Or.inr rfl | exact Or.inr (by assumption) | exact Or.inr (by simp) | exact Or.inr (by omega) | exact Or.inr (by dsimp only; omega))
      replace Br := S8.blk
      refine WpL_nil ?_
      refine Wp_ret ?_
      refine fin_agg Try.results36 (vs := [(.int .i64 x3), (.slice va k vc), (.slice na k nc)]) (b := br) rfl agg25 siz25 rfl (Br.cells rfl) ?_
      rw [hkn] at hM
      exact ⟨n, cc, ⟨x3, acc, rows⟩, va, vc, na, nc, base, top, ⟨by omega, by omega⟩, ⟨by omega, by omega⟩, ⟨by rw [← hkn]; exact hrows.1, by rw [← hkn]; exact hacc.1, ⟨hx3a, by show x3 < (n : Int); omega⟩, hacc.2, hrows.2⟩, by rw [hkn], hwb, hM, E⟩
end Go.Proofs
namespace Go.Proofs
open Go Go.Eng Go.Sort
set_option maxRecDepth 100000
theorem MStP.chg {base top ka kn : Nat} {vals : List Value} {D M : Nat → Prop} {w w' : World} {va vn : Value} {acc : List Int} {rows : List (List Int)} (c : Chg M w w') (hM : ∀ y, M y → y < base ∨ top ≤ y) (h : MStP base top vals D w va vn ka kn acc rows) : MStP base top vals D w' va vn ka kn acc rows := by
  obtain ⟨h1, h2, h3, h4, h5, h6, h7, h8⟩ := h
  have hb : ∀ y, base ≤ y → y < top → ¬ M y := fun y h hlt hm => by have := hM y hm; omega
  exact ⟨own_chg h1 c (fun q hq => hb q (h1.lt q hq).1 (h7 q (.inl hq))), own_chg h2 c (fun q hq => hb q (h2.lt q hq).1 (h7 q (.inr hq))), h3, fun i u l hu hl => (h4 i u l hu hl).chg c (fun y hy => hb y (h6 y hy).1.1 (h6 y hy).1.2), h5, h6, h7, Nat.le_trans h8 c.size⟩
theorem MStP.ext {base top ka kn : Nat} {vals : List Value} {D : Nat → Prop} {w w' : World} {va vn : Value} {acc : List Int} {rows : List (List Int)} (c : Ext w w') (h : MStP base top vals D w va vn ka kn acc rows) : MStP base top vals D w' va vn ka kn acc rows := MStP.chg c (fun _ f => f.elim) h
theorem MStP.row {base top n nc c ka : Nat} {vals : List Value} {D : Nat → Prop} {w : World} {va : Value} {acc row : List Int} {rows : List (List Int)} {gn s : Nat} (h : MStP base top vals D w va (.slice (some ⟨gn, 0, none⟩) n nc) ka n acc rows) (hr : rows[s]? = some row) (hn : rows.length = n) (hl : row.length = c) (hc : 0 < c) :
    ∃ rb ro rc, vals[s]? = some (.slice (some ⟨rb, ro, none⟩) c rc) ∧ w.cell? ⟨gn, 0 + s, none⟩ = some (.slice (some ⟨rb, ro, none⟩) c rc) ∧ CellsAt w rb ro (row.map (Value.int .i64)) := by
  obtain ⟨h1, h2, h3, h4, h5, h6, h7, h8⟩ := h
  have hsl := lt_of_get hr
  obtain ⟨u, hu⟩ := get_of_lt (l := vals) (i := s) (by omega)
  have hs := (h4 s u row hu hr).at
  obtain ⟨ra, rc, rfl⟩ := SlAt.form hs
  simp only [List.length_map] at hs hu
  rw [hl] at hs hu
  obtain ⟨rb, ro, rfl, hx⟩ := ints_cells hs hc
  obtain ⟨g9, hg9, _, hca⟩ := own_cells h2 (by omega)
  simp only [Option.some.injEq, Addr.mk.injEq, and_true] at hg9
  subst hg9
  refine ⟨rb, ro, rc, hu, hca s _ hu, fun j v hv => ?_⟩
  rw [List.getElem?_map] at hv
  cases hj : row[j]? with
  | none => rw [hj] at hv; cases hv
  | some y => rw [hj] at hv; simp only [Option.map_some, Option.some.injEq] at hv; subst hv; exact hx j y hj
theorem MSt.own {base top n : Nat} {w : World} {va vn : Value} {acc : List Int} {rows : List (List Int)} {aa na : Option Addr} {ac nc : Nat} (h : MSt base top w (.slice aa n ac) (.slice na n nc) n n acc rows) (hn : 0 < n) : ∃ ga gn, aa = some ⟨ga, 0, none⟩ ∧ na = some ⟨gn, 0, none⟩ ∧ base ≤ ga ∧ base ≤ gn ∧ ga < top ∧ gn < top ∧ ga ≠ gn := by
  obtain ⟨vals, D, h1, h2, h3, h4, h5, h6, h7, h8⟩ := h
  obtain ⟨ga, rfl, hg1, _⟩ := own_cells h1 hn
  obtain ⟨gn, rfl, hg2, _⟩ := own_cells h2 hn
  exact ⟨ga, gn, rfl, rfl, hg1, hg2, h7 ga (.inl rfl), h7 gn (.inr rfl), fun e => h5 ga rfl (by rw [e]; rfl)⟩
theorem mkDfa_o (w0 : World) (v : Value) (l : List Int) (hl : IntsAt w0 v l) : Ret Try.prog 36 #[v] w0 fun r w => ∃ n c d ga ac gn nc base top, (1 ≤ n ∧ n ≤ 6) ∧ (1 ≤ c ∧ c ≤ 3) ∧ okDfa n c d ∧ r = .agg #[.int .i64 d.start, .slice (some ⟨ga, 0, none⟩) n ac, .slice (some ⟨gn, 0, none⟩) n nc] ∧ (w0.heap.size ≤ base ∧ base ≤ ga ∧ base ≤ gn ∧ ga < top ∧ gn < top ∧ ga ≠ gn ∧ top ≤ w.heap.size) ∧ MSt base top w (.slice (some ⟨ga, 0, none⟩) n ac) (.slice (some ⟨gn, 0, none⟩) n nc) n n d.accept d.next ∧ Ext w0 w :=
  (mkDfa_m w0 v l hl).mono fun r w h => by
    obtain ⟨n, c, d, aa, ac, na, nc, base, top, h1, h2, h3, h4, h5, h6, h7⟩ := h
    obtain ⟨ga, gn, rfl, rfl, g1, g2, g3, g4, g5⟩ := MSt.own (va := undef) (vn := undef) h6 (by omega)
    exact ⟨n, c, d, ga, ac, gn, nc, base, top, h1, h2, h3, h4, ⟨h5, g1, g2, g3, g4, g5, h6.choose_spec.choose_spec.2.2.2.2.2.2.2⟩, h6, h7⟩
end Go.Proofs
namespace Go.Proofs
open Go Go.Eng Go.Sort
set_option maxRecDepth 100000
set_option maxHeartbeats 400000 in
theorem eql2_c (w0 : World) (v1 v2 : Value) (l1 l2 : List Int) (h1 : IntsAt w0 v1 l1) (h2 : IntsAt w0 v2 l2) :
    Ret Try.prog 28 #[v1, v2] w0 fun v w => v = .bool (decide (l1 = l2)) ∧ Ext w0 w := by
  obtain ⟨a1, c1, rfl⟩ := SlAt.form h1
  obtain ⟨a2, c2, rfl⟩ := SlAt.form h2
  have hb1 : l1.length ≤ 9223372036854775807 := by simpa using SlAt.le h1
  simp only [List.length_map] at h1 h2 ⊢
  refine Ret_of Try.func28 rfl Try.ntmps28 (Nat.le_of_ble_eq_true rfl) ?_
  have E : Chg none1 w0 w0 := Chg.refl _ _
  refine Wp_seq_region ?_
  refine WpL_val rfl rfl (by decide) (r_assign (v := (.bool false)) rfl) ?_
  refine WpL_nil ?_
  refine Wp_seq ?_
  refine Wp_seq_region ?_
  refine WpL_val rfl rfl (by decide) (r_move (v := (.slice a1 l1.length c1)) rfl) ?_
  refine WpL_val rfl rfl (by decide) (r_lenSlice (ad := a1) (n := l1.length) (cap := c1) Try.underlying22 rfl) ?_
  refine WpL_val rfl rfl (by decide) (r_move (v := (.slice a2 l2.length c2)) rfl) ?_
  refine WpL_val rfl rfl (by decide) (r_lenSlice (ad := a2) (n := l2.length) (cap := c2) Try.underlying22 rfl) ?_
  refine WpL_val rfl rfl (by decide) (r_neq (k := .i64) (a := ((l1.length : Nat) : Int)) (b := ((l2.length : Nat) : Int)) rfl rfl) ?_
  refine WpL_nil ?_
  refine Wp_cond (b := decide ((((l1.length : Nat) : Int) : Int) ≠ ((l2.length : Nat) : Int))) rfl (fun hl => ?_) (fun hl => ?_)
  · have khl := hl
    replace hl := of_decide_eq_true hl
    refine Wp_seq_region ?_
    refine WpL_val rfl rfl (by decide) (r_assign (v := (.bool false)) rfl) ?_
    refine WpL_nil ?_
    refine Wp_ret ?_
    refine thn_ret ?_
    refine fin_tmp Try.results28 (v := (.bool false)) rfl ?_
    exact ⟨bool_eq (by symm; rw [decide_eq_false_iff_not]; intro h; rw [h] at hl; exact hl rfl), E⟩
  · have khl := hl
    replace hl := of_decide_eq_false hl
    refine Wp_skip ?_
    refine thn_normal ?_
    refine Wp_seq ?_
    refine Wp_seq_region ?_
    refine WpL_val rfl rfl (by decide) (r_move (v := (.slice a1 l1.length c1)) rfl) ?_
    refine WpL_val rfl rfl (by decide) (r_lenSlice (ad := a1) (n := l1.length) (cap := c1) Try.underlying22 rfl) ?_
    refine WpL_val rfl rfl (by decide) (r_move (v := (.int .i64 0)) rfl) ?_
    refine WpL_nil ?_
    refine Wp_block ?_
    refine Wp_loop (fun nn_ σ W2 => ∃ (k : Nat), (∃ jj_, σ = upds jj_ [(0, (.slice a1 l1.length c1)), (1, (.slice a2 l2.length c2)), (12, (.int .i64 ((l1.length : Nat) : Int))), (13, (.int .i64 ((k : Nat) : Int)))]) ∧ Chg none1 w0 W2 ∧ (k ≤ l1.length) ∧ (∀ (i : Nat), i < k → l1[i]? = l2[i]?) ∧ nn_ = l1.length - k) (n := l1.length - 0) ?_ ?_
    · exact ⟨0, Fits.out ⟨rfl, rfl, rfl, rfl, trivial⟩, E, Nat.zero_le _, (fun i h => absurd h (Nat.not_lt_zero _)), rfl⟩
    · clear E
      rintro _ _ W2 ⟨k, ⟨j2, rfl⟩, E, hk, heq, rfl⟩
      refine Wp_seq_region ?_
      refine WpL_val rfl rfl (by decide) (r_lss (k := .i64) (a := ((k : Nat) : Int)) (b := ((l1.length : Nat) : Int)) rfl rfl) ?_
      refine WpL_nil ?_
      refine Wp_seq ?_
      refine Wp_cond (b := decide ((((k : Nat) : Int) : Int) < ((l1.length : Nat) : Int))) rfl (fun hlt => ?_) (fun hlt => ?_)
      · have khlt := hlt
        replace hlt := of_decide_eq_true hlt
        obtain ⟨p, hp⟩ := get_of_lt (l := l1) (i := k) (by omega)
        obtain ⟨q, hq⟩ := get_of_lt (l := l2) (i := k) (by omega)
        obtain ⟨b1, o1, rfl, hc1⟩ := ints_cells h1 (by omega)
        obtain ⟨b2, o2, rfl, hc2⟩ := ints_cells h2 (by omega)
        refine Wp_skip ?_
        refine thn_normal ?_
        refine Wp_seq ?_
        refine Wp_block ?_
        refine Wp_seq_region ?_
        refine WpL_val rfl rfl (by decide) (r_move (v := (.int .i64 ((k : Nat) : Int))) rfl) ?_
        refine WpL_val rfl rfl (by decide) (r_assign (v := (.int .i64 ((k : Nat) : Int))) rfl) ?_
        refine WpL_nil ?_
        refine Wp_seq_draw 8 mixed (by kernel_rfl) ?_
        intro w4 X4 _
        replace E := E.ext X4
        refine WpT_val rfl rfl (by decide) (r_move (v := (.slice (some ⟨b1, o1, none⟩) l1.length c1)) rfl) ?_
        refine WpT_val rfl rfl (by decide) (r_move (v := (.int .i64 ((k : Nat) : Int))) rfl) ?_
        refine WpT_val rfl rfl (by decide) (r_indexSlice (b := b1) (o := o1) (len := l1.length) (cap := c1) (i := k) (o' := o1 + k) rfl rfl rfl Try.underlying22 siz3 (by omega) (by omega)) ?_
        refine WpT_val rfl rfl (by decide) (r_load (v := (.int .i64 p)) rfl flat3 (E.cell (fun f => f) (hc1 k p hp))) ?_
        refine WpT_val rfl rfl (by decide) (r_move (v := (.slice (some ⟨b2, o2, none⟩) l2.length c2)) rfl) ?_
        refine WpT_val rfl rfl (by decide) (r_move (v := (.int .i64 ((k : Nat) : Int))) rfl) ?_
        refine WpT_val rfl rfl (by decide) (r_indexSlice (b := b2) (o := o2) (len := l2.length) (cap := c2) (i := k) (o' := o2 + k) rfl rfl rfl Try.underlying22 siz3 (by omega) (by omega)) ?_
        refine WpT_val rfl rfl (by decide) (r_load (v := (.int .i64 q)) rfl flat3 (E.cell (fun f => f) (hc2 k q hq))) ?_
        refine WpT_zero ?_
        refine WpL_val rfl rfl (by decide) (r_neq (k := .i64) (a := p) (b := q) rfl rfl) ?_
        refine WpL_nil ?_
        refine Wp_cond (b := decide ((p : Int) ≠ q)) rfl (fun hpq => ?_) (fun hpq => ?_)
        · have khpq := hpq
          replace hpq := of_decide_eq_true hpq
          refine Wp_seq_region ?_
          refine WpL_val rfl rfl (by decide) (r_assign (v := (.bool false)) rfl) ?_
          refine WpL_nil ?_
          refine Wp_ret ?_
          refine inB_ret ?_
          refine thn_ret ?_
          refine thn_ret ?_
          refine inB_ret ?_
          refine thn_ret ?_
          refine fin_tmp Try.results28 (v := (.bool false)) rfl ?_
          exact ⟨bool_eq (by symm; rw [decide_eq_false_iff_not]; intro h; subst h; rw [hp] at hq; cases hq; exact hpq rfl), E⟩
        · have khpq := hpq
          replace hpq := of_decide_eq_false hpq
          have hpq2 : p = q := by omega
          refine Wp_skip ?_
          refine inB_normal ?_
          refine thn_normal ?_
          refine Wp_region ?_
          refine WpL_val rfl rfl (by decide) (r_add (k := .i64) (a := ((k : Nat) : Int)) (b := 1) (c := ((k : Nat) : Int) + 1) rfl rfl (wI64 (by omega))) ?_
          refine WpL_val rfl rfl (by decide) (r_move (v := (.int .i64 (((k : Nat) : Int) + 1))) rfl) ?_
          refine WpL_nil ?_
          refine thn_normal ?_
          exact ⟨l1.length - (k + 1), by omega, k + 1, Fits.out ⟨rfl, rfl, rfl, rfl, trivial⟩, E, (by omega), (fun i hi => by rcases Nat.lt_or_ge i k with h | h; exact heq i h; obtain rfl : i = k := (by omega); rw [hp, hq, hpq2]), rfl⟩
      · have khlt := hlt
        replace hlt := of_decide_eq_false hlt
        have hkk : k = l1.length := by omega
        refine Wp_exit ?_
        refine thn_exit ?_
        refine thn_exit ?_
        refine inB_here ?_
        refine thn_normal ?_
        refine Wp_seq_region ?_
        refine WpL_val rfl rfl (by decide) (r_assign (v := (.bool true)) rfl) ?_
        refine WpL_nil ?_
        refine Wp_ret ?_
        refine fin_tmp Try.results28 (v := (.bool true)) rfl ?_
        exact ⟨bool_eq (by symm; rw [decide_eq_true_eq]; exact get_ext (by omega) (fun i hi => heq i (by omega))), E⟩
def evnD : Dfa := ⟨0, [0, -1], [[1], [0]]⟩
theorem evn_c (w0 : World) : Ret Try.prog 27 #[] w0 fun r w => (∃ vs, r = .agg vs.toArray ∧ DfaAt w evnD vs) ∧ Ext w0 w := by
  refine Ret_of Try.func27 rfl Try.ntmps27 (Nat.le_of_ble_eq_true rfl) ?_
  have E : Chg none1 w0 w0 := Chg.refl _ _
  refine Wp_seq_region ?_
  refine s_alloc (c := #[(.int .i64 0), (.slice none 0 0), (.slice none 0 0)]) (by decide) zer25 rfl ?_
  intro bt wt Nt
  have Ft := Nt.ge E
  replace E := E.ext Nt.ext
  have Bt := Nt.blk
  refine WpL_nil ?_
  refine Wp_seq_region ?_
  refine s_buildSlice (ps := [(0, (.int .i64 0)), (1, (.int .i64 (-1)))]) (c := #[(.int .i64 0), (.int .i64 (-1))]) (by decide) rfl Try.underlying22 siz3 zer3 (by decide) (by decide) (by kernel_rfl) ?_
  intro ba wa Na
  have Fa := Na.ge E
  have Oa_bt := Na.lt Bt
  replace Bt := Na.keep Bt
  replace E := E.ext Na.ext
  have Ba := Na.blk
  refine s_buildSlice (ps := [(0, (.int .i64 1))]) (c := #[(.int .i64 1)]) (by decide) rfl Try.underlying22 siz3 zer3 (by decide) (by decide) (by kernel_rfl) ?_
  intro bp wp Np
  have Fp := Np.ge E
  have Op_bt := Np.lt Bt
  have Op_ba := Np.lt Ba
  replace Bt := Np.keep Bt
  replace Ba := Np.keep Ba
  replace E := E.ext Np.ext
  have Bp := Np.blk
  refine s_buildSlice (ps := [(0, (.int .i64 0))]) (c := #[(.int .i64 0)]) (by decide) rfl Try.underlying22 siz3 zer3 (by decide) (by decide) (by kernel_rfl) ?_
  intro bq wq Nq
  have Fq := Nq.ge E
  have Oq_bt := Nq.lt Bt
  have Oq_ba := Nq.lt Ba
  have Oq_bp := Nq.lt Bp
  replace Bt := Nq.keep Bt
  replace Ba := Nq.keep Ba
  replace Bp := Nq.keep Bp
  replace E := E.ext Nq.ext
  have Bq := Nq.blk
  refine s_buildSlice (ps := [(0, (.slice (some ⟨bp, 0, none⟩) 1 1)), (1, (.slice (some ⟨bq, 0, none⟩) 1 1))]) (c := #[(.slice (some ⟨bp, 0, none⟩) 1 1), (.slice (some ⟨bq, 0, none⟩) 1 1)]) (by decide) rfl Try.underlying23 siz22 zer22 (by decide) (by decide) (by kernel_rfl) ?_
  intro bn wn Nn
  have Fn := Nn.ge E
  have On_bt := Nn.lt Bt
  have On_ba := Nn.lt Ba
  have On_bp := Nn.lt Bp
  have On_bq := Nn.lt Bq
  replace Bt := Nn.keep Bt
  replace Ba := Nn.keep Ba
  replace Bp := Nn.keep Bp
  replace Bq := Nn.keep Bq
  replace E := E.ext Nn.ext
  have Bn := Nn.blk
  refine WpL_val rfl rfl (by decide) (r_build (ps := [(1, (.slice (some ⟨ba, 0, none⟩) 2 2)), (2, (.slice (some ⟨bn, 0, none⟩) 2 2))]) (v := (.agg #[(.int .i64 0), (.slice (some ⟨ba, 0, none⟩) 2 2), (.slice (some ⟨bn, 0, none⟩) 2 2)])) rfl (by kernel_rfl)) ?_
  refine s_storeAgg (b := bt) (o := 0) (c' := #[(.int .i64 0), (.slice (some ⟨ba, 0, none⟩) 2 2), (.slice (some ⟨bn, 0, none⟩) 2 2)]) rfl rfl (by simp [Value.oneCell']) siz25 rfl Bt (by simp) rfl ?_
  intro w1 S1
  replace Ba := S1.keep (by omega) Ba
  replace Bp := S1.keep (by omega) Bp
  replace Bq := S1.keep (by omega) Bq
  replace Bn := S1.keep (by omega) Bn
  replace E := S1.step E (by first | exact Or.inl (by omega) | exact Or.inr rfl | exact Or.inr (by assumption) | exact Or.inr (by simp) | exact Or.inr (by omega) | exact Or.inr (by dsimp only; omega))
  replace Bt := S1.blk
  refine WpL_nil ?_
  refine Wp_ret ?_
  refine fin_agg Try.results27 (vs := [(.int .i64 0), (.slice (some ⟨ba, 0, none⟩) 2 2), (.slice (some ⟨bn, 0, none⟩) 2 2)]) (b := bt) rfl agg25 siz25 rfl (Bt.cells rfl) ?_
  refine ⟨⟨_, rfl, ?_⟩, E⟩
  refine ⟨_, _, _, _, rfl, ints_own (l := [0, -1]) (rest := []) Ba (by decide) (by decide), [.slice (some ⟨bp, 0, none⟩) 1 1, .slice (some ⟨bq, 0, none⟩) 1 1], ⟨_, _, rfl, by simp, by simp, .inr ⟨bn, 0, rfl, ?_⟩⟩, rfl, ?_⟩
  · intro i r hr
    rcases i with _ | _ | i
    · simp at hr; subst hr
      intro j u hu
      cases j with
      | zero => simp at hu; subst hu; exact Bn.cell rfl
      | succ j => simp at hu
    · simp at hr; subst hr
      intro j u hu
      cases j with
      | zero => simp at hu; subst hu; exact Bn.cell rfl
      | succ j => simp at hu
    · simp at hr
  · intro i u l hu hl
    rcases i with _ | _ | i
    · simp [evnD] at hu hl; subst hu; subst hl; exact ints_own (l := [1]) (rest := []) Bp (by decide) (by decide)
    · simp [evnD] at hu hl; subst hu; subst hl; exact ints_own (l := [0]) (rest := []) Bq (by decide) (by decide)
    · simp at hu
theorem evn_ok : OkD 2 1 evnD := ⟨rfl, rfl, by decide, by decide, by decide⟩
/-- What Least gives, in one form. -/
def LstW (n c : Nat) (f : List Nat → Int) (l : List Nat) (s : Bool) : Prop := (s = true → LeastOf c f l ∧ l.length < n) ∧ (s = false → l = [] ∧ ∀ u, inW c u → f u < 0)
theorem LstW.inw {n c : Nat} {f : List Nat → Int} {l : List Nat} {s : Bool} (h : LstW n c f l s) (hn : 1 ≤ n) : inW c l ∧ l.length < n := by
  cases s with
  | true => exact ⟨(h.1 rfl).1.inw, (h.1 rfl).2⟩
  | false => rw [(h.2 rfl).1]; exact ⟨inW.nil c, hn⟩
theorem LstW.cnt {n c : Nat} {f : List Nat → Int} {l : List Nat} {s : Bool} (h : LstW n c f l s) {k : Nat} (hk : k < l.length) : cntF c k f = 0 := by
  have hm : ∀ u, inW c u → u.length = k → f u < 0 := fun u hu hl => by
    cases s with
    | true => exact (h.1 rfl).1.min u hu (by omega)
    | false => exact (h.2 rfl).2 u hu
  rcases Int.lt_or_le 0 (cntF c k f) with h1 | h1
  · obtain ⟨u, h2, h3, h4⟩ := cntF_some h1
    have := hm u h3 h2
    omega
  · have := cntF_nn (c := c) (k := k) (f := f); omega
theorem toI_rng {c : Nat} {l : List Nat} (h : inW c l) : ∀ x ∈ toI l, 0 ≤ x ∧ x < c := fun x hx => by
  obtain ⟨y, hy, rfl⟩ := List.mem_map.1 hx
  have := h y hy
  omega
end Go.Proofs
namespace Go.Eng
open Go
theorem DoesT_callV {M : Nat → Prop} {P : Program} {N : Nat} {σ : Env} {w : World} {dst : Option Tmp} {z : Operand} {args : List Operand} {tys : Array TypeId} {ty : TypeId} {pos : String} {af : Array Edge} {g : Option (Nat × Bool)} {fv : Value} {vs : List Value} {R : Fct}
    (hz : ev σ z = fv) (ha : args.map (ev σ) = vs) (hc : CallV P fv vs.toArray w fun v w' => R v w' ∧ Chg M w w') : DoesT M P N ⟨dst, .call ⟨.value z, args.toArray, tys⟩, ty, pos, af, g⟩ R σ w := by
  obtain ⟨f, fn, first, cap, rfl, hf, hn, hb, hr⟩ := hc
  exact DoesT_enter (r_callV hz hf hn hb ha rfl) hr
end Go.Eng
namespace Go.Proofs
open Go Go.Eng Go.Sort
set_option maxRecDepth 100000
--BEGIN
section
variable {α : Type}
def keysG : List α → Nat → List (α × Int)
  | [], _ => []
  | m :: ks, n => (m, ((n : Nat) : Int)) :: keysG ks (n + 1)
theorem keysG_snoc : ∀ (ks : List α) (m : α) (n : Nat), keysG (ks ++ [m]) n = keysG ks n ++ [(m, (((n + ks.length : Nat) : Nat) : Int))]
  | [], m, n => rfl
  | x :: ks, m, n => by
    show (x, _) :: keysG (ks ++ [m]) (n + 1) = (x, _) :: (keysG ks (n + 1) ++ _)
    rw [keysG_snoc ks m (n + 1), List.length_cons, show n + 1 + ks.length = n + (ks.length + 1) by omega]
theorem keysG_mem : ∀ {ks : List α} {n : Nat} {q : α × Int}, q ∈ keysG ks n → ∃ (j : Nat) (m : α), ks[j]? = some m ∧ q = (m, (((n + j : Nat) : Nat) : Int))
  | [], _, _, h => by cases h
  | x :: ks, n, q, h => by
    rcases List.mem_cons.1 h with h | h
    · exact ⟨0, x, rfl, h⟩
    · obtain ⟨j, m, h1, h2⟩ := keysG_mem h
      exact ⟨j + 1, m, h1, by rw [h2]; congr 2; omega⟩
theorem keysG_key : ∀ {ks : List α} {n : Nat} {m : α}, m ∈ ks → m ∈ (keysG ks n).map (·.1)
  | x :: ks, n, m, h => by
    rcases List.mem_cons.1 h with rfl | h
    · exact List.mem_cons_self
    · exact List.mem_cons_of_mem _ (keysG_key (n := n + 1) h)
variable [DecidableEq α]
theorem keysG_get {ks : List α} {m : α} {v : Int} (h : getM (keysG ks 0) m = some v) : ∃ j : Nat, v = ((j : Nat) : Int) ∧ ks[j]? = some m := by
  obtain ⟨j, m', h1, h2⟩ := keysG_mem (getM_some_mem h)
  simp only [Prod.mk.injEq, Nat.zero_add] at h2
  exact ⟨j, h2.2, by rw [h1, h2.1]⟩
theorem keysG_none {ks : List α} {m : α} (h : getM (keysG ks 0) m = none) : m ∉ ks ∧ putM (keysG ks 0) m ((ks.length : Nat) : Int) = keysG (ks ++ [m]) 0 := by
  refine ⟨fun hm => ?_, ?_⟩
  · have := getM_isSome.2 (keysG_key (n := 0) hm)
    rw [h] at this; cases this
  · rw [putM_none _ h, keysG_snoc, Nat.zero_add]
end
section
variable {α : Type}
/-- An entry of a row: the number of the key that follows, or -1. -/
def EntX (stp : α → Nat → Option α) (keys : List α) (k : α) (x : Nat) (y : Int) : Prop := match stp k x with | none => y = -1 | some b => ∃ j : Nat, y = ((j : Nat) : Int) ∧ keys[j]? = some b
theorem EntX.mono {stp : α → Nat → Option α} {keys : List α} {k : α} {x : Nat} {y : Int} (h : EntX stp keys k x y) (u : List α) : EntX stp (keys ++ u) k x y := by
  unfold EntX at h ⊢
  cases hs : stp k x with
  | none => rw [hs] at h; exact h
  | some b => rw [hs] at h; obtain ⟨j, h1, h2⟩ := h; exact ⟨j, h1, by rw [List.getElem?_append_left (lt_of_get h2)]; exact h2⟩
structure ExpP (c : Nat) (stp : α → Nat → Option α) (a0 : α) (keys : List α) (rows : List (List Int)) (row : List Int) : Prop where
  k0 : keys[0]? = some a0
  nd : keys.Nodup
  rch : ∀ k ∈ keys, ∃ w, inW c w ∧ runO stp a0 w = some k
  len : ∀ r ∈ rows, r.length = c
  ent : ∀ (i x : Nat) r y k, rows[i]? = some r → r[x]? = some y → keys[i]? = some k → EntX stp keys k x y
  cur : ∀ (x : Nat) y k, row[x]? = some y → keys[rows.length]? = some k → EntX stp keys k x y
variable {c : Nat} {stp : α → Nat → Option α} {a0 : α} {keys : List α} {rows : List (List Int)} {row : List Int}
theorem ExpP.start (c : Nat) (stp : α → Nat → Option α) (a0 : α) : ExpP c stp a0 [a0] [] [] := by
  refine ⟨rfl, by simp, fun k hk => ?_, fun r h => (by cases h), fun i x r y k h => by simp at h, fun x y k h => by simp at h⟩
  rw [List.mem_singleton] at hk
  subst hk
  exact ⟨[], inW.nil c, rfl⟩
theorem ExpP.add {k : α} {y : Int} (h : ExpP c stp a0 keys rows row) (hk : keys[rows.length]? = some k) (hE : EntX stp keys k row.length y) : ExpP c stp a0 keys rows (row ++ [y]) := by
  refine { h with cur := fun x z q hx hq => ?_ }
  rcases snoc_get hx with h1 | ⟨h1, h2⟩
  · exact h.cur x z q h1 hq
  · rw [hk] at hq; cases hq
    rw [h1, h2]; exact hE
theorem ExpP.new {k b : α} (h : ExpP c stp a0 keys rows row) (hk : keys[rows.length]? = some k) (hx : row.length < c) (hs : stp k row.length = some b) (hb : b ∉ keys) : ExpP c stp a0 (keys ++ [b]) rows (row ++ [((keys.length : Nat) : Int)]) := by
  have hkl := lt_of_get hk
  have hE : EntX stp (keys ++ [b]) k row.length ((keys.length : Nat) : Int) := by
    unfold EntX; rw [hs]; exact ⟨keys.length, rfl, by simp⟩
  refine ⟨by rw [List.getElem?_append_left (lt_of_get h.k0)]; exact h.k0, ?_, fun q hq => ?_, h.len, fun i x r y q hr hy hq => ?_, fun x z q hz hq => ?_⟩
  · rw [List.nodup_append]
    refine ⟨h.nd, by simp, fun p hp q hq => ?_⟩
    rw [List.mem_singleton] at hq
    subst hq
    exact fun e => hb (e ▸ hp)
  · rcases List.mem_append.1 hq with h1 | h1
    · exact h.rch q h1
    · rw [List.mem_singleton] at h1
      subst h1
      obtain ⟨w, h2, h3⟩ := h.rch k (List.mem_of_getElem? hk)
      exact ⟨w ++ [row.length], h2.snoc hx, by rw [runO_snoc, h3]; exact hs⟩
  · rcases snoc_get hq with h1 | ⟨h1, _⟩
    · exact (h.ent i x r y q hr hy h1).mono _
    · have := lt_of_get hr; omega
  · have hq2 : q = k := by
      rw [List.getElem?_append_left hkl, hk] at hq
      exact (Option.some.inj hq).symm
    subst hq2
    rcases snoc_get hz with h1 | ⟨h1, h2⟩
    · exact (h.cur x z q h1 hk).mono _
    · rw [h1, h2]; exact hE
theorem ExpP.rowed (h : ExpP c stp a0 keys rows row) (hl : row.length = c) : ExpP c stp a0 keys (rows ++ [row]) [] := by
  refine ⟨h.k0, h.nd, h.rch, fun r hm => ?_, fun i x r y s h1 h2 h3 => ?_, fun x y s h1 => by simp at h1⟩
  · rcases List.mem_append.1 hm with h1 | h1
    · exact h.len r h1
    · rw [List.mem_singleton] at h1; rw [h1]; exact hl
  · rcases snoc_get h1 with h4 | ⟨h4, h5⟩
    · exact h.ent i x r y s h4 h2 h3
    · subst h5; rw [h4] at h3; exact h.cur x y s h2 h3
/-- Few keys can be reached. -/
def FewK (c : Nat) (stp : α → Nat → Option α) (a0 : α) (m : Nat) : Prop := ∀ l : List α, l.Nodup → (∀ k ∈ l, ∃ w, inW c w ∧ runO stp a0 w = some k) → l.length ≤ m
theorem ExpP.few {m : Nat} {k b : α} (h : ExpP c stp a0 keys rows row) (hf : FewK c stp a0 m) (hk : keys[rows.length]? = some k) (hx : row.length < c) (hs : stp k row.length = some b) (hb : b ∉ keys) : keys.length < m := by
  have h1 := h.new hk hx hs hb
  have := hf _ h1.nd h1.rch
  simp at this
  omega
/-- What an explored automaton tells. -/
def behX (stp : α → Nat → Option α) (acc : α → Int) (k : α) (w : List Nat) : Int := match runO stp k w with | some b => acc b | none => -1
theorem ExpP.done {acc : α → Int} (h : ExpP c stp a0 keys rows []) (hl : rows.length = keys.length) (ha : ∀ k ∈ keys, -1 ≤ acc k) : OkD keys.length c ⟨0, keys.map acc, rows⟩ ∧ ∀ w, inW c w → beh ⟨0, keys.map acc, rows⟩ 0 w = behX stp acc a0 w := by
  have hk0 := lt_of_get h.k0
  have ok : OkD keys.length c ⟨0, keys.map acc, rows⟩ := ⟨hl, by simp, ⟨Int.le_refl _, by show (0 : Int) < _; omega⟩, fun x hx => by
    obtain ⟨k, hk, rfl⟩ := List.mem_map.1 hx
    exact ha k hk, fun r hr => by
    have hr : r ∈ rows := hr
    refine ⟨h.len r hr, fun y hy => ?_⟩
    obtain ⟨i, hi⟩ := List.getElem?_of_mem hr
    obtain ⟨x, hx⟩ := List.getElem?_of_mem hy
    obtain ⟨k, hk⟩ := get_of_lt (l := keys) (i := i) (by have := lt_of_get hi; omega)
    have hE := h.ent i x r y k hi hx hk
    unfold EntX at hE
    cases hs : stp k x with
    | none => rw [hs] at hE; simp only at hE; omega
    | some b => rw [hs] at hE; obtain ⟨j, h1, h2⟩ := hE; have := lt_of_get h2; omega⟩
  refine ⟨ok, ?_⟩
  have key : ∀ (w : List Nat) (i : Nat) (k : α), inW c w → keys[i]? = some k → beh ⟨0, keys.map acc, rows⟩ ((i : Nat) : Int) w = behX stp acc k w := by
    intro w
    induction w with
    | nil =>
      intro i k _ hk
      simp only [beh, behX, runO]
      exact atD_get (by simp [hk])
    | cons x w ih =>
      intro i k hw hk
      obtain ⟨r, hr⟩ := get_of_lt (l := rows) (i := i) (by have := lt_of_get hk; omega)
      obtain ⟨y, hy⟩ := get_of_lt (l := r) (i := x) (by have := h.len r (List.mem_of_getElem? hr); have := hw.head; omega)
      have hE := h.ent i x r y k hr hy hk
      simp only [beh, behX, runO]
      rw [toD_get (d := ⟨0, keys.map acc, rows⟩) hr hy]
      unfold EntX at hE
      cases hs : stp k x with
      | none => rw [hs] at hE; simp only at hE; simp only [Option.bind_none]; exact beh_neg (by omega)
      | some b =>
        rw [hs] at hE
        obtain ⟨j, rfl, h2⟩ := hE
        simp only [Option.bind_some]
        exact ih j b hw.tail h2
  intro w hw
  exact key w 0 a0 hw h.k0
end
--END
end Go.Proofs
namespace Go.Proofs
open Go Go.Eng Go.Sort
set_option maxRecDepth 100000
def kcS (k : ByteArray) : List Value := [.string k]
theorem flat_cells {α : Type} {kc : α → List Value} {sz : Nat} (hk : ∀ k, (kc k).length = sz) {w : World} {b : Nat} : ∀ {l : List α} {o i : Nat} {k : α}, CellsAt w b o (l.map kc).flatten → l[i]? = some k → CellsAt w b (o + i * sz) (kc k)
  | [], _, _, _, _, h => by simp at h
  | q :: l, o, 0, k, h, hi => by
    simp at hi
    subst hi
    intro j v hv
    rw [Nat.zero_mul, Nat.add_zero]
    exact h j v (by rw [List.map_cons, List.flatten_cons, List.getElem?_append_left (lt_of_get hv)]; exact hv)
  | q :: l, o, i + 1, k, h, hi => by
    have h2 : CellsAt w b (o + sz) (l.map kc).flatten := fun j v hv => by
      have := h (sz + j) v (by rw [List.map_cons, List.flatten_cons, List.getElem?_append_right (by rw [hk]; omega), hk, show sz + j - sz = j by omega]; exact hv)
      rwa [← Nat.add_assoc] at this
    have := flat_cells hk h2 (i := i) (k := k) (by simpa using hi)
    rwa [show o + (i + 1) * sz = o + sz + i * sz by rw [Nat.add_mul]; omega]
def Rch {α : Type} (c : Nat) (stp : α → Nat → Option α) (a0 k : α) : Prop := ∃ w, inW c w ∧ runO stp a0 w = some k
/-- An automaton in memory of its own, above a bound. -/
def DfaOwn (base : Nat) (D : Dfa) (r : Value) (w : World) : Prop := ∃ ea ec na nc vs, r = .agg #[.int .i64 D.start, .slice ea D.accept.length ec, .slice na D.next.length nc] ∧ OutSt w base (.slice ea D.accept.length ec) (.slice na D.next.length nc) vs D.accept D.next
structure ExpOf {α : Type} (c most : Nat) (stp : α → Nat → Option α) (acc : α → Int) (a0 : α) (D : Dfa) : Prop where
  ok : OkD D.next.length c D
  most : D.next.length ≤ most
  start : D.start = 0
  beh : ∀ w, inW c w → beh D 0 w = behX stp acc a0 w
  acc : ∀ x ∈ D.accept, x < 2147483648
theorem OutSt.low {w : World} {base b0 : Nat} {E N : Value} {vs : List Value} {acc : List Int} {rows : List (List Int)} (h : OutSt w base E N vs acc rows) (hb : b0 ≤ base) : OutSt w b0 E N vs acc rows :=
  ⟨own_low h.e hb, ⟨own_low h.n.o hb, h.n.len, fun i v p hv hp => own_low (h.n.inn i v p hv hp) hb, h.n.apo⟩, h.en, h.ei⟩
set_option maxHeartbeats 8000000 in
theorem explS_c (w0 : World) (first : ByteArray) (c most mx : Nat) (sv av : Value) (stp : ByteArray → Nat → Option ByteArray) (acc : ByteArray → Int) (hc : 1 ≤ c ∧ c ≤ 16) (hm : most ≤ 20000) (hmx : mx ≤ most) (hfew1 : FewK c stp first mx) (hac : ∀ k, Rch c stp first k → -1 ≤ acc k ∧ acc k < 2147483648)
    (hs : ∀ w k x, Ext w0 w → Rch c stp first k → x < c → CallV Try.prog sv #[.string k, .int .i64 ((x : Nat) : Int)] w fun r w' => (∃ q, r = .tuple #[.string q, .bool (stp k x).isSome] ∧ ∀ b, stp k x = some b → q = b) ∧ Ext w w')
    (ha : ∀ w k, Ext w0 w → Rch c stp first k → CallV Try.prog av #[.string k] w fun r w' => r = .int .i64 (acc k) ∧ Ext w w') :
    Ret Try.prog 57 #[.string first, .int .i64 ((c : Nat) : Int), sv, av, .int .i64 ((most : Nat) : Int)] w0 fun r w => (∃ D v, ExpOf c mx stp acc first D ∧ r = .tuple #[v, .bool true] ∧ DfaOwn w0.heap.size D v w) ∧ Ext w0 w := by
  have hfew : FewK c stp first most := fun l hd hr => Nat.le_trans (hfew1 l hd hr) hmx
  have hkl : ∀ k, (kcS k).length = 1 := fun _ => rfl
  refine Ret_of Try.func57 rfl Try.ntmps57 (Nat.le_of_ble_eq_true rfl) ?_
  have E : Chg none1 w0 w0 := Chg.refl _ _
  refine Wp_seq_region ?_
  refine s_alloc (c := #[(.int .i64 0), (.slice none 0 0), (.slice none 0 0)]) (by decide) zer25 rfl ?_
  intro br wr Nr
  have Fr := Nr.ge E
  replace E := E.ext Nr.ext
  have Br := Nr.blk
  refine WpL_val rfl rfl (by decide) (r_assign (v := (.bool false)) rfl) ?_
  refine WpL_nil ?_
  refine Wp_seq_region ?_
  refine WpL_val rfl rfl (by decide) (r_move (v := (.string first)) rfl) ?_
  refine s_buildSlice (ps := [(0, (.string first))]) (c := #[(.string first)]) (by decide) rfl Try.underlying123 siz9 zer9 (by decide) (by decide) (by kernel_rfl) ?_
  intro bs ws Ns
  have Fs := Ns.ge E
  have Os_br := Ns.lt Br
  replace Br := Ns.keep Br
  replace E := E.ext Ns.ext
  have Bs := Ns.blk
  refine WpL_val rfl rfl (by decide) (r_assign (v := (.slice (some ⟨bs, 0, none⟩) 1 1)) rfl) ?_
  refine WpL_nil ?_
  refine Wp_seq_region ?_
  refine s_makeMap kStr kInt (by decide) ?_
  intro bm wm Nm
  have Fm := Nm.ge E
  have Om_br := Nm.lt Br
  have Om_bs := Nm.lt Bs
  replace Br := Nm.keep Br
  replace Bs := Nm.keep Bs
  replace E := E.ext Nm.ext
  intro Mm
  refine WpL_val rfl rfl (by decide) (r_move (v := (.string first)) rfl) ?_
  refine s_insert (k := first) (v := 0) Try.underlying124 (keyStr Try.underlying9) Mm rfl rfl rfl ?_
  intro w1 S1 H1
  replace Br := S1.keep (by omega) Br
  replace Bs := S1.keep (by omega) Bs
  replace E := S1.step E (by first | exact Or.inl (by omega) | exact Or.inr rfl | exact Or.inr (by assumption) | exact Or.inr (by simp) | exact Or.inr (by omega) | exact Or.inr (by dsimp only; omega))
  replace Mm := H1
  refine WpL_val rfl rfl (by decide) (r_move (v := (.map (some bm))) rfl) ?_
  refine WpL_val rfl rfl (by decide) (r_assign (v := (.map (some bm))) rfl) ?_
  refine WpL_nil ?_
  refine Wp_seq_region ?_
  refine s_alloc (c := #[(.int .i64 0), (.slice none 0 0), (.slice none 0 0)]) (by decide) zer25 rfl ?_
  intro bd wd Nd
  have Fd := Nd.ge E
  have Od_br := Nd.lt Br
  have Od_bs := Nd.lt Bs
  have Od_bm := Nd.ltM Mm
  replace Br := Nd.keep Br
  replace Bs := Nd.keep Bs
  replace Mm := Nd.keepM Mm
  replace E := E.ext Nd.ext
  have Bd := Nd.blk
  refine WpL_nil ?_
  refine Wp_seq ?_
  refine Wp_seq_region ?_
  refine WpL_val rfl rfl (by decide) (r_assign (v := (.int .i64 0)) rfl) ?_
  refine WpL_nil ?_
  refine Wp_block ?_
  obtain ⟨n1, hn1e⟩ : ∃ n1, n1 = bs := ⟨_, rfl⟩
  obtain ⟨n2, hn2e⟩ : ∃ n2, n2 = (wd).heap.size := ⟨_, rfl⟩
  have hn2b : br < n2 ∧ bs < n2 ∧ bm < n2 ∧ bd < n2 := ⟨by rw [hn2e]; exact Br.lt, by rw [hn2e]; exact Bs.lt, by rw [hn2e]; exact Mm.lt, by rw [hn2e]; exact Bd.lt⟩
  have hbs0 : w0.heap.size ≤ n1 ∧ w0.heap.size ≤ n2 := by omega
  have hS0 : (wd).ownsRow n1 9 1 (.slice (some ⟨bs, 0, none⟩) 1 1) 1 ([first].map kcS).flatten := own_lit1 (base := n1) Bs (by omega)
  refine Wp_loop (fun nn_ σ W2 => ∃ (i : Nat) (rows : List (List Int)) (ks : List ByteArray) (ac : List Int) (vs : List Value) (sa ea na2 : Option Addr) (sc2 sn ec nc2 : Nat), (∃ jj_, σ = upds jj_ [(1, (.int .i64 ((c : Nat) : Int))), (2, sv), (3, av), (4, (.int .i64 ((most : Nat) : Int))), (10, (.pointer (some ⟨br, 0, none⟩))), (13, (.map (some bm))), (14, (.pointer (some ⟨bd, 0, none⟩))), (15, (.int .i64 ((i : Nat) : Int))), (12, (.slice sa sn sc2))]) ∧ Chg none1 w0 W2 ∧ Blk W2 br #[(.int .i64 0), (.slice none 0 0), (.slice none 0 0)] 25 ∧ MapAt W2 bm kStr kInt (keysG ks 0) ∧ Blk W2 bd (#[Value.int .i64 0, .slice ea i ec, .slice na2 i nc2]) 25 ∧ (ExpP c stp first ks rows []) ∧ (rows.length = i) ∧ (sn = ks.length) ∧ (i ≤ sn) ∧ (ac = (ks.take i).map acc) ∧ (W2.ownsRow n1 9 1 (.slice sa sn sc2) sn (ks.map kcS).flatten) ∧ (OutSt W2 n2 (.slice ea i ec) (.slice na2 i nc2) vs ac rows) ∧ (∀ b, (Value.slice sa sn sc2).ownBlock = some b → ¬ OutB (.slice ea i ec) (.slice na2 i nc2) vs b ∧ b ≠ bm ∧ b ≠ bd) ∧ (n2 ≤ W2.heap.size) ∧ nn_ = most - i) (n := most - 0) ?_ ?_
  · exact ⟨0, [], [first], [], [], some ⟨bs, 0, none⟩, none, none, 1, 1, 0, 0, Fits.out ⟨rfl, rfl, rfl, rfl, rfl, rfl, rfl, rfl, rfl, trivial⟩, E, Br, Mm, Bd, ExpP.start _ _ _, rfl, rfl, (by omega), rfl, hS0, OutSt.start _ _, (fun b hb => ⟨(fun h => by rcases h with h | h | ⟨i, v, h, _⟩; cases h; cases h; simp at h), (by have hb' : bs = b := Option.some.inj hb; omega), (by have hb' : bs = b := Option.some.inj hb; omega)⟩), (by omega), rfl⟩
  · clear E Br Mm Bd
    rintro _ _ W2 ⟨i, rows, ks, ac, vs, sa, ea, na2, sc2, sn, ec, nc2, ⟨j2, rfl⟩, E, Br, Mm, Bd, hC, hir, hsn, hisn, hacc2, hS, hO, hap, hsz, rfl⟩
    refine Wp_seq ?_
    refine Wp_seq_region ?_
    refine WpL_val rfl rfl (by decide) (r_move (v := (.int .i64 ((i : Nat) : Int))) rfl) ?_
    refine WpL_val rfl rfl (by decide) (r_move (v := (.slice sa sn sc2)) rfl) ?_
    refine WpL_val rfl rfl (by decide) (r_lenSlice (ad := sa) (n := sn) (cap := sc2) Try.underlying123 rfl) ?_
    refine WpL_val rfl rfl (by decide) (r_lss (k := .i64) (a := ((i : Nat) : Int)) (b := ((sn : Nat) : Int)) rfl rfl) ?_
    refine WpL_nil ?_
    refine Wp_cond (b := decide ((((i : Nat) : Int) : Int) < ((sn : Nat) : Int))) rfl (fun hlt => ?_) (fun hlt => ?_)
    · have khlt := hlt
      replace hlt := of_decide_eq_true hlt
      obtain ⟨k, hki⟩ := get_of_lt (l := ks) (i := i) (by omega)
      have hkr := hC.rch k (List.mem_of_getElem? hki)
      have hkm : ks.length ≤ most := hfew ks hC.nd hC.rch
      obtain ⟨sb, rfl, hsb1, hsc⟩ := own_cells hS (by omega)
      obtain ⟨z0, hz0⟩ : ∃ z0, z0 = (W2).heap.size := ⟨_, rfl⟩
      have hn2z : n2 ≤ z0 := by omega
      have hOz : ∀ b, OutB (.slice ea i ec) (.slice na2 i nc2) vs b → b < z0 := fun b hb => by have := (hO.lt hb).2; omega
      have hSz : ∀ b, (Value.slice (some ⟨sb, 0, none⟩) sn sc2).ownBlock = some b → b < z0 := fun b hb => by have := (hS.lt b hb).2; omega
      refine Wp_skip ?_
      refine thn_normal ?_
      refine Wp_seq ?_
      refine Wp_block ?_
      refine Wp_seq_region ?_
      refine WpL_val rfl rfl (by decide) (r_move (v := (.int .i64 ((c : Nat) : Int))) rfl) ?_
      refine s_make (n := c) (z := (.int .i64 0)) (bytes := 8) (by decide) Try.underlying22 siz3 byt3 zer3 rfl rfl rfl (by omega) (by omega) ?_
      intro bq wq Nq
      have Fq := Nq.ge E
      have Oq_br := Nq.lt Br
      have Oq_bm := Nq.ltM Mm
      have Oq_bd := Nq.lt Bd
      replace Br := Nq.keep Br
      replace Mm := Nq.keepM Mm
      replace Bd := Nq.keep Bd
      replace hS := own_ext hS Nq.ext
      replace hO := hO.ext Nq.ext
      replace hsz := Nat.le_trans hsz Nq.ext.size
      replace E := E.ext Nq.ext
      have Bq := Nq.blk
      refine WpL_val rfl rfl (by decide) (r_assign (v := (.slice (some ⟨bq, 0, none⟩) c c)) rfl) ?_
      refine WpL_nil ?_
      refine Wp_seq ?_
      refine Wp_seq_region ?_
      refine WpL_val rfl rfl (by decide) (r_move (v := (.int .i64 ((c : Nat) : Int))) rfl) ?_
      refine WpL_val rfl rfl (by decide) (r_move (v := (.int .i64 0)) rfl) ?_
      refine WpL_nil ?_
      refine Wp_block ?_
      have hqz : z0 ≤ bq := by have := Nq.eq; omega
      rw [show List.replicate c (Value.int .i64 0) = (List.replicate c (0 : Int)).map (Value.int .i64) by simp] at Bq
      refine Wp_loop (fun nn_ σ W4 => ∃ (x : Nat) (R : List Int) (ks : List ByteArray) (sa : Option Addr) (sc2 sn : Nat), (∃ jj_, σ = upds jj_ [(1, (.int .i64 ((c : Nat) : Int))), (2, sv), (3, av), (4, (.int .i64 ((most : Nat) : Int))), (10, (.pointer (some ⟨br, 0, none⟩))), (13, (.map (some bm))), (14, (.pointer (some ⟨bd, 0, none⟩))), (15, (.int .i64 ((i : Nat) : Int))), (16, (.slice (some ⟨bq, 0, none⟩) c c)), (35, (.int .i64 ((c : Nat) : Int))), (36, (.int .i64 ((x : Nat) : Int))), (12, (.slice sa sn sc2))]) ∧ Chg none1 w0 W4 ∧ Blk W4 br #[(.int .i64 0), (.slice none 0 0), (.slice none 0 0)] 25 ∧ MapAt W4 bm kStr kInt (keysG ks 0) ∧ Blk W4 bd (#[Value.int .i64 0, .slice ea i ec, .slice na2 i nc2]) 25 ∧ Blk W4 bq ((R.map (Value.int .i64)).toArray) 3 ∧ (x ≤ c) ∧ (R.length = c) ∧ (ExpP c stp first ks rows (R.take x)) ∧ (ks[i]? = some k) ∧ (sn = ks.length) ∧ ((ks.take i).map acc = ac) ∧ (W4.ownsRow n1 9 1 (.slice sa sn sc2) sn (ks.map kcS).flatten) ∧ (OutSt W4 n2 (.slice ea i ec) (.slice na2 i nc2) vs ac rows) ∧ (∀ b, (Value.slice sa sn sc2).ownBlock = some b → ¬ OutB (.slice ea i ec) (.slice na2 i nc2) vs b ∧ b ≠ bm ∧ b ≠ bd ∧ b ≠ bq) ∧ (n2 ≤ W4.heap.size) ∧ nn_ = c - x) (n := c - 0) ?_ ?_
      · exact ⟨0, List.replicate c 0, ks, some ⟨sb, 0, none⟩, sc2, sn, Fits.out ⟨rfl, rfl, rfl, rfl, rfl, rfl, rfl, rfl, rfl, rfl, rfl, rfl, trivial⟩, E, Br, Mm, Bd, Bq, Nat.zero_le _, (by simp), (by simpa using hC), hki, hsn, hacc2.symm, hS, hO, (fun b hb => ⟨(hap b hb).1, (hap b hb).2.1, (hap b hb).2.2, fun e => by have := hSz b hb; omega⟩), hsz, rfl⟩
      · clear E Br Mm Bd Bq
        rintro _ _ W4 ⟨x, R, ks, sa, sc2, sn, ⟨j4, rfl⟩, E, Br, Mm, Bd, Bq, hx, hRl, hC, hki, hsn, hta, hS, hO, hap, hsz, rfl⟩
        refine Wp_seq_region ?_
        refine WpL_val rfl rfl (by decide) (r_lss (k := .i64) (a := ((x : Nat) : Int)) (b := ((c : Nat) : Int)) rfl rfl) ?_
        refine WpL_nil ?_
        refine Wp_seq ?_
        refine Wp_cond (b := decide ((((x : Nat) : Int) : Int) < ((c : Nat) : Int))) rfl (fun hlt2 => ?_) (fun hlt2 => ?_)
        · have khlt2 := hlt2
          replace hlt2 := of_decide_eq_true hlt2
          obtain ⟨sb2, rfl, _, hsc2⟩ := own_cells hS (by have := lt_of_get hki; omega)
          have hil : i < sn := by have := lt_of_get hki; omega
          have hkc : (W4).cell? ⟨sb2, 0 + i, none⟩ = some (.string k) := by have h9 := flat_cells hkl hsc2 hki 0 _ rfl; rwa [Nat.mul_one, Nat.add_zero] at h9
          refine Wp_skip ?_
          refine thn_normal ?_
          refine Wp_seq ?_
          refine Wp_block ?_
          refine Wp_seq_region ?_
          refine WpL_val rfl rfl (by decide) (r_move (v := (.int .i64 ((x : Nat) : Int))) rfl) ?_
          refine WpL_val rfl rfl (by decide) (r_assign (v := (.int .i64 ((x : Nat) : Int))) rfl) ?_
          refine WpL_nil ?_
          refine Wp_seq_region ?_
          refine WpL_val rfl rfl (by decide) (r_move (v := sv) rfl) ?_
          refine WpL_val rfl rfl (by decide) (r_move (v := (.slice (some ⟨sb2, 0, none⟩) sn sc2)) rfl) ?_
          refine WpL_val rfl rfl (by decide) (r_move (v := (.int .i64 ((i : Nat) : Int))) rfl) ?_
          refine WpL_val rfl rfl (by decide) (r_indexSlice (b := sb2) (o := 0) (len := sn) (cap := sc2) (i := i) (o' := 0 + i) rfl rfl rfl Try.underlying123 siz9 (by omega) (by omega)) ?_
          refine WpL_val rfl rfl (by decide) (r_load (v := (.string k)) rfl flat9 (hkc)) ?_
          refine WpL_val rfl rfl (by decide) (r_move (v := (.int .i64 ((x : Nat) : Int))) rfl) ?_
          refine WpL_callV (fv := sv) (vs := [(.string k), (.int .i64 ((x : Nat) : Int))]) (by decide) rfl rfl (hs _ k x E hkr (by omega)) ?_
          rintro _ w9 ⟨⟨q, rfl, hq⟩, X9⟩
          replace Br := X9.keep Br
          replace Mm := X9.keepM Mm
          replace Bd := X9.keep Bd
          replace Bq := X9.keep Bq
          replace E := E.ext X9
          have hS := own_ext hS X9
          have hO := hO.ext X9
          have hsz := Nat.le_trans hsz X9.size
          have hxl2 : (R.take x).length = x := by simp; omega
          have hkr2 : ks[rows.length]? = some k := by rw [hir]; exact hki
          have hts := take_set_succ (L := R) (s := x) (x := -1) (by omega)
          refine WpL_val rfl rfl (by decide) (r_move (v := (.tuple #[(.string q), (.bool ((stp k x).isSome))])) rfl) ?_
          refine WpL_val rfl rfl (by decide) (r_extract (vs := #[(.string q), (.bool ((stp k x).isSome))]) (v := (.string q)) rfl rfl) ?_
          refine WpL_val rfl rfl (by decide) (r_extract (vs := #[(.string q), (.bool ((stp k x).isSome))]) (v := (.bool ((stp k x).isSome))) rfl rfl) ?_
          refine WpL_val rfl rfl (by decide) (r_assign (v := (.string q)) rfl) ?_
          refine WpL_val rfl rfl (by decide) (r_assign (v := (.bool ((stp k x).isSome))) rfl) ?_
          refine WpL_nil ?_
          refine Wp_seq ?_
          refine Wp_seq_region ?_
          refine WpL_val rfl rfl (by decide) (r_move (v := (.slice (some ⟨bq, 0, none⟩) c c)) rfl) ?_
          refine WpL_val rfl rfl (by decide) (r_move (v := (.int .i64 ((x : Nat) : Int))) rfl) ?_
          refine WpL_val rfl rfl (by decide) (r_indexSlice (b := bq) (o := 0) (len := c) (cap := c) (i := x) (o' := 0 + x) rfl rfl rfl Try.underlying22 siz3 (by omega) (by omega)) ?_
          refine s_store (b := bq) (o := 0 + x) (c' := ((R.set x (-1)).map (Value.int .i64)).toArray) (v := (.int .i64 (-1))) rfl rfl rfl siz3 Bq (by simp; omega) (ints_setD _) ?_
          intro w6 S6
          replace hS := own_chg hS S6.chg fun b hb h => (hap b hb).2.2.2 h
          replace hO := hO.chg S6.chg fun b hb h => by have := hOz b hb; have h' : b = bq := h; omega
          replace hsz := Nat.le_trans hsz S6.chg.size
          replace Br := S6.keep (by omega) Br
          replace Mm := S6.keepM (by omega) Mm
          replace Bd := S6.keep (by omega) Bd
          replace E := S6.step E (by first | exact Or.inl (by omega) | exact Or.inr rfl | exact Or.inr (by assumption) | exact Or.inr (by simp) | exact Or.inr (by omega) | exact Or.inr (by dsimp only; omega))
          replace Bq := S6.blk
          refine WpL_nil ?_
          refine Wp_seq_region ?_
          refine WpL_val rfl rfl (by decide) (r_move (v := (.bool ((stp k x).isSome))) rfl) ?_
          refine WpL_val rfl rfl (by decide) (r_not (b := (stp k x).isSome) rfl) ?_
          refine WpL_nil ?_
          refine Wp_cond (b := !((stp k x).isSome)) rfl (fun hno => ?_) (fun hno => ?_)
          · have khno := hno
            replace hno := by simpa using hno
            have hsn2 : stp k x = none := by simpa using hno
            have hEd : EntX stp ks k (R.take x).length (-1) := by unfold EntX; rw [hxl2, hsn2]
            refine Wp_exit ?_
            refine thn_exit ?_
            refine inB_here ?_
            refine thn_normal ?_
            refine Wp_region ?_
            refine WpL_val rfl rfl (by decide) (r_add (k := .i64) (a := ((x : Nat) : Int)) (b := 1) (c := ((x : Nat) : Int) + 1) rfl rfl (wI64 (by omega))) ?_
            refine WpL_val rfl rfl (by decide) (r_move (v := (.int .i64 (((x : Nat) : Int) + 1))) rfl) ?_
            refine WpL_nil ?_
            refine thn_normal ?_
            exact ⟨c - (x + 1), by omega, x + 1, R.set x (-1), ks, some ⟨sb2, 0, none⟩, sc2, sn, Fits.out ⟨rfl, rfl, rfl, rfl, rfl, rfl, rfl, rfl, rfl, rfl, rfl, rfl, trivial⟩, E, Br, Mm, Bd, Bq, (by omega), (by simp [hRl]), (by rw [hts]; exact hC.add hkr2 hEd), hki, hsn, hta, hS, hO, hap, hsz, rfl⟩
          · have khno := hno
            replace hno := by simpa using hno
            obtain ⟨q', hqs⟩ := Option.isSome_iff_exists.1 (show (stp k x).isSome = true by simpa using hno)
            have hqq := hq q' hqs
            subst hqq
            refine Wp_skip ?_
            refine thn_normal ?_
            refine Wp_seq_region ?_
            refine WpL_val rfl rfl (by decide) (r_move (v := (.map (some bm))) rfl) ?_
            refine WpL_val rfl rfl (by decide) (r_move (v := (.string q)) rfl) ?_
            refine WpL_val (v := (.tuple #[(.int .i64 ((getM (keysG ks 0) q).getD 0)), (.bool ((getM (keysG ks 0) q).isSome))])) rfl rfl (by decide) (r_lookup2 (k := q) (z := 0) Try.underlying124 (keyStr Try.underlying9) zer3 Mm rfl rfl) ?_
            refine WpL_val rfl rfl (by decide) (r_move (v := (.tuple #[(.int .i64 ((getM (keysG ks 0) q).getD 0)), (.bool ((getM (keysG ks 0) q).isSome))])) rfl) ?_
            refine WpL_val rfl rfl (by decide) (r_extract (vs := #[(.int .i64 ((getM (keysG ks 0) q).getD 0)), (.bool ((getM (keysG ks 0) q).isSome))]) (v := (.int .i64 ((getM (keysG ks 0) q).getD 0))) rfl rfl) ?_
            refine WpL_val rfl rfl (by decide) (r_extract (vs := #[(.int .i64 ((getM (keysG ks 0) q).getD 0)), (.bool ((getM (keysG ks 0) q).isSome))]) (v := (.bool ((getM (keysG ks 0) q).isSome))) rfl rfl) ?_
            refine WpL_val rfl rfl (by decide) (r_assign (v := (.int .i64 ((getM (keysG ks 0) q).getD 0))) rfl) ?_
            refine WpL_val rfl rfl (by decide) (r_assign (v := (.bool ((getM (keysG ks 0) q).isSome))) rfl) ?_
            refine WpL_nil ?_
            refine Wp_cut (fun σ W8 => ∃ (ks1 : List ByteArray) (j : Nat) (sa1 : Option Addr) (sc1 sn1 : Nat), (∃ jj_, σ = upds jj_ [(1, (.int .i64 ((c : Nat) : Int))), (2, sv), (3, av), (4, (.int .i64 ((most : Nat) : Int))), (10, (.pointer (some ⟨br, 0, none⟩))), (13, (.map (some bm))), (14, (.pointer (some ⟨bd, 0, none⟩))), (15, (.int .i64 ((i : Nat) : Int))), (16, (.slice (some ⟨bq, 0, none⟩) c c)), (17, (.int .i64 ((x : Nat) : Int))), (35, (.int .i64 ((c : Nat) : Int))), (36, (.int .i64 ((x : Nat) : Int))), (12, (.slice sa1 sn1 sc1)), (20, (.int .i64 ((j : Nat) : Int)))]) ∧ Chg none1 w0 W8 ∧ Blk W8 br #[(.int .i64 0), (.slice none 0 0), (.slice none 0 0)] 25 ∧ MapAt W8 bm kStr kInt (keysG ks1 0) ∧ Blk W8 bd (#[Value.int .i64 0, .slice ea i ec, .slice na2 i nc2]) 25 ∧ Blk W8 bq (((R.set x (-1)).map (Value.int .i64)).toArray) 3 ∧ (ExpP c stp first ks1 rows (R.take x ++ [((j : Nat) : Int)])) ∧ (ks1[i]? = some k) ∧ (sn1 = ks1.length) ∧ ((ks1.take i).map acc = ac) ∧ (W8.ownsRow n1 9 1 (.slice sa1 sn1 sc1) sn1 (ks1.map kcS).flatten) ∧ (OutSt W8 n2 (.slice ea i ec) (.slice na2 i nc2) vs ac rows) ∧ (∀ b, (Value.slice sa1 sn1 sc1).ownBlock = some b → ¬ OutB (.slice ea i ec) (.slice na2 i nc2) vs b ∧ b ≠ bm ∧ b ≠ bd ∧ b ≠ bq) ∧ (n2 ≤ W8.heap.size)) ?_ ?_
            · skip
              refine Wp_seq_region ?_
              refine WpL_val rfl rfl (by decide) (r_move (v := (.bool ((getM (keysG ks 0) q).isSome))) rfl) ?_
              refine WpL_val rfl rfl (by decide) (r_not (b := (getM (keysG ks 0) q).isSome) rfl) ?_
              refine WpL_nil ?_
              refine Wp_cond (b := !((getM (keysG ks 0) q).isSome)) rfl (fun hnew => ?_) (fun hnew => ?_)
              · have khnew := hnew
                replace hnew := by simpa using hnew
                have hgm : getM (keysG ks 0) q = none := by simpa using hnew
                obtain ⟨hnin, hput⟩ := keysG_none hgm
                have hfk := hC.few hfew hkr2 (by omega) (by rw [hxl2]; exact hqs) hnin
                have hCn := hC.new hkr2 (by omega) (by rw [hxl2]; exact hqs) hnin
                refine Wp_seq_region ?_
                refine WpL_val rfl rfl (by decide) (r_move (v := (.slice (some ⟨sb2, 0, none⟩) sn sc2)) rfl) ?_
                refine WpL_val rfl rfl (by decide) (r_lenSlice (ad := some ⟨sb2, 0, none⟩) (n := sn) (cap := sc2) Try.underlying123 rfl) ?_
                refine WpL_val rfl rfl (by decide) (r_assign (v := (.int .i64 ((sn : Nat) : Int))) rfl) ?_
                refine WpL_nil ?_
                refine Wp_seq ?_
                refine Wp_seq_region ?_
                refine WpL_val rfl rfl (by decide) (r_move (v := (.int .i64 ((sn : Nat) : Int))) rfl) ?_
                refine WpL_val rfl rfl (by decide) (r_move (v := (.int .i64 ((most : Nat) : Int))) rfl) ?_
                refine WpL_val rfl rfl (by decide) (r_eql (k := .i64) (a := ((sn : Nat) : Int)) (b := ((most : Nat) : Int)) rfl rfl) ?_
                refine WpL_nil ?_
                have hc10 : (decide ((((sn : Nat) : Int) : Int) = ((most : Nat) : Int))) = false := decide_eq_false (by omega)
                refine Wp_cond_false (congrArg Value.bool hc10) ?_
                refine Wp_skip ?_
                refine thn_normal ?_
                refine Wp_seq_region ?_
                refine WpL_val rfl rfl (by decide) (r_move (v := (.map (some bm))) rfl) ?_
                refine WpL_val rfl rfl (by decide) (r_move (v := (.string q)) rfl) ?_
                refine WpL_val rfl rfl (by decide) (r_move (v := (.int .i64 ((sn : Nat) : Int))) rfl) ?_
                refine s_mapUpdate (k := q) (v := ((sn : Nat) : Int)) Try.underlying124 (keyStr Try.underlying9) Mm rfl rfl rfl ?_
                intro w11 S11 H11
                replace hS := own_chg hS S11.chg fun b hb h => (hap b hb).2.1 h
                replace hO := hO.chg S11.chg fun b hb h => by have := (hO.lt hb).1; have h' : b = bm := h; omega
                replace hsz := Nat.le_trans hsz S11.chg.size
                replace Br := S11.keep (by omega) Br
                replace Bd := S11.keep (by omega) Bd
                replace Bq := S11.keep (by omega) Bq
                replace E := S11.step E (by first | exact Or.inl (by omega) | exact Or.inr rfl | exact Or.inr (by assumption) | exact Or.inr (by simp) | exact Or.inr (by omega) | exact Or.inr (by dsimp only; omega))
                replace Mm := H11
                refine WpL_nil ?_
                refine Wp_region ?_
                refine WpL_val rfl rfl (by decide) (r_move (v := (.slice (some ⟨sb2, 0, none⟩) sn sc2)) rfl) ?_
                refine WpL_val rfl rfl (by decide) (r_move (v := (.string q)) rfl) ?_
                refine s_buildSlice (ps := [(0, (.string q))]) (c := #[(.string q)]) (by decide) rfl Try.underlying123 siz9 zer9 (by decide) (by decide) (by kernel_rfl) ?_
                intro b12 w12 N12
                have F12 := N12.ge E
                have O12_br := N12.lt Br
                have O12_bm := N12.ltM Mm
                have O12_bd := N12.lt Bd
                have O12_bq := N12.lt Bq
                replace Br := N12.keep Br
                replace Mm := N12.keepM Mm
                replace Bd := N12.keep Bd
                replace Bq := N12.keep Bq
                replace hS := own_ext hS N12.ext
                replace hO := hO.ext N12.ext
                replace hsz := Nat.le_trans hsz N12.ext.size
                replace E := E.ext N12.ext
                have B12 := N12.blk
                have hbq9 : bq < (w12).heap.size := Bq.lt
                refine s_append (base := n1) (n := sn) (m := 1) (xs := (ks.map kcS).flatten) (news := [(.string q)]) (size := 1) (bytes := 16) (v := (.slice (some ⟨sb2, 0, none⟩) sn sc2)) (by decide) Try.underlying123 siz9 byt9 zer9 rfl (by decide) rfl hS rfl (rfl) (B12.cells rfl) (by simp [Value.oneCell']) (by unfold maxLen; omega) (by omega) ((by omega)) ?_
                intro v7 w59 Ov7 Cv7 Dv7
                replace Br := Cv7.keep (fun h => by have := (hS.lt _ h).1; omega) Br
                replace Mm := Cv7.keepM (fun h => (hap _ h).2.1 rfl) Mm
                replace Bd := Cv7.keep (fun h => (hap _ h).2.2.1 rfl) Bd
                replace Bq := Cv7.keep (fun h => (hap _ h).2.2.2 rfl) Bq
                replace E := E.step Cv7 (fun x hx h => absurd (hS.lt x h).1 (by omega))
                obtain ⟨sa3, sc3, rfl⟩ := own_form Ov7
                rw [hsn, hput] at Mm
                refine WpL_val rfl rfl (by decide) (r_assign (v := (.slice sa3 (sn + 1) sc3)) rfl) ?_
                refine WpL_nil ?_
                refine thn_normal ?_
                exact ⟨ks ++ [q], sn, sa3, sc3, sn + 1, Fits.out ⟨rfl, rfl, rfl, rfl, rfl, rfl, rfl, rfl, rfl, rfl, rfl, rfl, rfl, rfl, trivial⟩, E, Br, Mm, Bd, Bq, (by rw [hsn]; exact hCn), (by rw [List.getElem?_append_left (lt_of_get hki)]; exact hki), (by simp; omega), (by rw [List.take_append_of_le_length (by have := lt_of_get hki; omega)]; exact hta), (by rw [List.map_append, List.flatten_append]; exact Ov7), hO.chg Cv7 (fun b hb h => (hap b h).1 hb), (fun b hb => by rcases Dv7 b hb with h9 | h9; exact hap b h9; exact ⟨fun ho => by have := (hO.lt ho).2; omega, by omega, by omega, by omega⟩), Nat.le_trans hsz Cv7.size⟩
              · have khnew := hnew
                replace hnew := by simpa using hnew
                have hgs : (getM (keysG ks 0) q).isSome = true := by simpa using hnew
                obtain ⟨v9, hv9⟩ := Option.isSome_iff_exists.1 hgs
                obtain ⟨j9, rfl, hj9⟩ := keysG_get hv9
                rw [show (getM (keysG ks 0) q).getD 0 = ((j9 : Nat) : Int) from by rw [hv9]; rfl]
                refine Wp_skip ?_
                refine thn_normal ?_
                exact ⟨ks, j9, some ⟨sb2, 0, none⟩, sc2, sn, Fits.out ⟨rfl, rfl, rfl, rfl, rfl, rfl, rfl, rfl, rfl, rfl, rfl, rfl, rfl, rfl, trivial⟩, E, Br, Mm, Bd, Bq, hC.add hkr2 (by unfold EntX; rw [hxl2, hqs]; exact ⟨j9, rfl, hj9⟩), hki, hsn, hta, hS, hO, hap, hsz⟩
            · clear E Br Mm Bd Bq
              rintro _ W8 ⟨ks1, j, sa1, sc1, sn1, ⟨j8, rfl⟩, E, Br, Mm, Bd, Bq, hC1, hki1, hsn1, hta1, hS1, hO1, hap1, hsz1⟩
              have hts2 := take_set_succ (L := R.set x (-1)) (s := x) (x := ((j : Nat) : Int)) (by simp; omega)
              refine Wp_region ?_
              refine WpL_val rfl rfl (by decide) (r_move (v := (.slice (some ⟨bq, 0, none⟩) c c)) rfl) ?_
              refine WpL_val rfl rfl (by decide) (r_move (v := (.int .i64 ((x : Nat) : Int))) rfl) ?_
              refine WpL_val rfl rfl (by decide) (r_move (v := (.int .i64 ((j : Nat) : Int))) rfl) ?_
              refine WpL_val rfl rfl (by decide) (r_indexSlice (b := bq) (o := 0) (len := c) (cap := c) (i := x) (o' := 0 + x) rfl rfl rfl Try.underlying22 siz3 (by omega) (by omega)) ?_
              refine s_store (b := bq) (o := 0 + x) (c' := (((R.set x (-1)).set x ((j : Nat) : Int)).map (Value.int .i64)).toArray) (v := (.int .i64 ((j : Nat) : Int))) rfl rfl rfl siz3 Bq (by simp; omega) (ints_setD _) ?_
              intro w13 S13
              replace hS1 := own_chg hS1 S13.chg fun b hb h => (hap1 b hb).2.2.2 h
              replace hO1 := hO1.chg S13.chg fun b hb h => by have := hOz b hb; have h' : b = bq := h; omega
              replace hsz1 := Nat.le_trans hsz1 S13.chg.size
              replace Br := S13.keep (by omega) Br
              replace Mm := S13.keepM (by omega) Mm
              replace Bd := S13.keep (by omega) Bd
              replace E := S13.step E (by first | exact Or.inl (by omega) | exact Or.inr rfl | exact Or.inr (by assumption) | exact Or.inr (by simp) | exact Or.inr (by omega) | exact Or.inr (by dsimp only; omega))
              replace Bq := S13.blk
              refine WpL_nil ?_
              refine inB_normal ?_
              refine thn_normal ?_
              refine Wp_region ?_
              refine WpL_val rfl rfl (by decide) (r_add (k := .i64) (a := ((x : Nat) : Int)) (b := 1) (c := ((x : Nat) : Int) + 1) rfl rfl (wI64 (by omega))) ?_
              refine WpL_val rfl rfl (by decide) (r_move (v := (.int .i64 (((x : Nat) : Int) + 1))) rfl) ?_
              refine WpL_nil ?_
              refine thn_normal ?_
              exact ⟨c - (x + 1), by omega, x + 1, (R.set x (-1)).set x ((j : Nat) : Int), ks1, sa1, sc1, sn1, Fits.out ⟨rfl, rfl, rfl, rfl, rfl, rfl, rfl, rfl, rfl, rfl, rfl, rfl, trivial⟩, E, Br, Mm, Bd, Bq, (by omega), (by simp [hRl]), (by rw [hts2, List.take_set_of_le (Nat.le_refl x)]; exact hC1), hki1, hsn1, hta1, hS1, hO1, hap1, hsz1, rfl⟩
        · have khlt2 := hlt2
          replace hlt2 := of_decide_eq_false hlt2
          have hxc : x = c := by omega
          rw [hxc, show R.take c = R by rw [← hRl, List.take_length]] at hC
          obtain ⟨n4, hn4⟩ : ∃ n4, n4 = (W4).heap.size := ⟨_, rfl⟩
          have hil := lt_of_get hki
          obtain ⟨sb2, rfl, _, hsc2⟩ := own_cells hS (by omega)
          have hkc : (W4).cell? ⟨sb2, 0 + i, none⟩ = some (.string k) := by have h9 := flat_cells hkl hsc2 hki 0 _ rfl; rwa [Nat.mul_one, Nat.add_zero] at h9
          have hale : ac.length = i := by rw [← hta, List.length_map, List.length_take]; omega
          have hOe : (W4).ownsRow n2 TDI 1 (.slice ea i ec) i (ac.map (Value.int .i64)) := by have h9 := hO.e; rwa [hale] at h9
          have hOn : (W4).ownsRow n2 TDIs 1 (.slice na2 i nc2) i vs := hO.n.on (by rw [List.length_map]; omega)
          have hkm2 : ks.length ≤ most := hfew ks hC.nd hC.rch
          have hbql := Bq.lt
          have hUq := own_exact (base := bq) Bq (Nat.le_refl _) hRl
          refine Wp_exit ?_
          refine thn_exit ?_
          refine thn_exit ?_
          refine inB_here ?_
          refine thn_normal ?_
          obtain ⟨Fs14, hFs14⟩ : ∃ Fs : List FctE, Fs = [(fun _ v _ => v = (.pointer (some ⟨bd, 2, none⟩))), (fun _ v _ => v = (.slice na2 i nc2)), (fun _ v _ => v = (.slice (some ⟨bq, 0, none⟩) c c)), (fun _ => litF TDIs #[.slice (some ⟨bq, 0, none⟩) c c] n4), (fun _ => appF n2 TDIs 1 (i + 1) (vs ++ [Value.slice (some ⟨bq, 0, none⟩) c c]) (.slice na2 i nc2) n4), (fun _ v _ => v = (.pointer (some ⟨bd, 1, none⟩))), (fun _ v _ => v = (.slice ea i ec)), (fun _ v _ => v = av), (fun _ v _ => v = (.slice (some ⟨sb2, 0, none⟩) sn sc2)), (fun _ v _ => v = (.int .i64 ((i : Nat) : Int))), (fun _ v _ => v = (.pointer (some ⟨sb2, 0 + i, none⟩))), (fun _ v _ => v = (.string k)), (fun _ v _ => v = (.int .i64 (acc k))), (fun _ => litF TDI #[.int .i64 (acc k)] n4), (fun s v w => appF n2 TDI 1 (i + 1) (ac.map (Value.int .i64) ++ [Value.int .i64 (acc k)]) (.slice ea i ec) n4 v w ∧ ∀ b, (s 84).ownBlock = some b → v.ownBlock ≠ some b), (fun _ v _ => v = (.pointer (some ⟨bd, 2, none⟩)))] := ⟨_, rfl⟩
          refine Wp_dagX (two 4 14 (fun b => (Value.slice na2 i nc2).ownBlock = some b) (fun b => (Value.slice ea i ec).ownBlock = some b)) 16 [80, 81, 82, 83, 84, 85, 86, 87, 88, 89, 90, 91, 92, 93, 94, 95] [[], [0], [], [2], [1, 3], [], [5], [], [], [], [8, 9], [10], [4, 7, 11], [12], [6, 12, 13], [0, 1, 2, 3, 4, 5, 6]] [[], [0], [], [2], [1, 0, 3, 2], [], [5], [], [], [], [8, 9], [10, 8, 9], [4, 1, 0, 3, 2, 7, 11, 10, 8, 9], [12, 4, 1, 0, 3, 2, 7, 11, 10, 8, 9], [6, 5, 12, 4, 1, 0, 3, 2, 7, 11, 10, 8, 9, 13], [0, 1, 2, 3, 4, 5, 6]] Fs14 hFs14 (by kernel_rfl) mixed (by kernel_rfl) (by kernel_rfl) (by kernel_rfl) ?_ ?_
          · intro wd X0
            refine DagStepsX.cons (StabX.eq) (fun _ _ _ _ _ h => h) (fun s' w' X U H => ?_) ?_
            · exact DoesT_val (r_fieldAddr (b := bd) (o := 0) (o' := 2) (U 14 rfl) Try.underlying25 rfl siz23 rfl) (Chg.refl _ _) rfl
            refine DagStepsX.cons (StabX.eq) (fun _ _ _ _ _ h => h) (fun s' w' X U H => ?_) ?_
            · have e80 : s' 80 = (.pointer (some ⟨bd, 2, none⟩)) := H 0 rfl 80 ((fun _ v _ => v = (.pointer (some ⟨bd, 2, none⟩)))) rfl (by rw [hFs14]; rfl)
              exact DoesT_val (r_load (v := (.slice na2 i nc2)) e80 flat23 ((Chg.keep X (fun h => (fun h => h.elim (fun h => by have := (hOn.lt _ h).1; omega) (fun h => by have := (hOe.lt _ h).1; omega)) (Past.or h)) (X0.keep Bd)).cell rfl)) (Chg.refl _ _) rfl
            refine DagStepsX.cons (StabX.eq) (fun _ _ _ _ _ h => h) (fun s' w' X U H => ?_) ?_
            · exact DoesT_val (r_move (v := (.slice (some ⟨bq, 0, none⟩) c c)) (U 16 rfl)) (Chg.refl _ _) rfl
            refine DagStepsX.cons (litF_stab (fun y h => by have := (hOn.lt y h).2; omega) (fun y h => by have := (hOe.lt y h).2; omega)) (LocX.const) (fun s' w' X U H => ?_) ?_
            · have e82 : s' 82 = (.slice (some ⟨bq, 0, none⟩) c c) := H 2 rfl 82 ((fun _ v _ => v = (.slice (some ⟨bq, 0, none⟩) c c))) rfl (by rw [hFs14]; rfl)
              exact DoesT_lit (hs := n4) Try.underlying23 siz22 zer22 e82 (by decide) (by decide) (by kernel_rfl) (by have := X0.size; have := X.size; omega)
            refine DagStepsX.cons (appF_st1 (fun k hk hm => hk.elim (fun h => hO.en k hm h) (fun h => by have := (hOe.lt k hm).2; omega))) (LocX.const) (fun s' w' X U H => ?_) ?_
            · have e81 : s' 81 = (.slice na2 i nc2) := H 1 rfl 81 ((fun _ v _ => v = (.slice na2 i nc2))) rfl (by rw [hFs14]; rfl)
              obtain ⟨b83, e83, B83, g83⟩ := (show ((fun _ => litF TDIs #[.slice (some ⟨bq, 0, none⟩) c c] n4) : FctE) s' (s' 83) w' from H 3 rfl 83 ((fun _ => litF TDIs #[.slice (some ⟨bq, 0, none⟩) c c] n4)) rfl (by rw [hFs14]; rfl))
              exact DoesT_append (hs := n4) Try.underlying23 siz22 byt22 zer22 rfl (by decide) e81 (own_ext (own_ext hOn X0) (X.mono (fun y _ h => Past.none rfl rfl h))) e83 rfl (B83.cells rfl) (by simp [Value.oneCell']) (by unfold maxLen; omega) (by omega) (by have := X0.size; have := X.size; omega) (fun y h => h) (by have := X0.size; have := X.size; omega)
            refine DagStepsX.cons (StabX.eq) (fun _ _ _ _ _ h => h) (fun s' w' X U H => ?_) ?_
            · exact DoesT_val (r_fieldAddr (b := bd) (o := 0) (o' := 1) (U 14 rfl) Try.underlying25 rfl siz22 rfl) (Chg.refl _ _) rfl
            refine DagStepsX.cons (StabX.eq) (fun _ _ _ _ _ h => h) (fun s' w' X U H => ?_) ?_
            · have e85 : s' 85 = (.pointer (some ⟨bd, 1, none⟩)) := H 5 rfl 85 ((fun _ v _ => v = (.pointer (some ⟨bd, 1, none⟩)))) rfl (by rw [hFs14]; rfl)
              exact DoesT_val (r_load (v := (.slice ea i ec)) e85 flat22 ((Chg.keep X (fun h => (fun h => h.elim (fun h => by have := (hOn.lt _ h).1; omega) (fun h => by have := (hOe.lt _ h).1; omega)) (Past.or h)) (X0.keep Bd)).cell rfl)) (Chg.refl _ _) rfl
            refine DagStepsX.cons (StabX.eq) (fun _ _ _ _ _ h => h) (fun s' w' X U H => ?_) ?_
            · exact DoesT_val (r_move (v := av) (U 3 rfl)) (Chg.refl _ _) rfl
            refine DagStepsX.cons (StabX.eq) (fun _ _ _ _ _ h => h) (fun s' w' X U H => ?_) ?_
            · exact DoesT_val (r_move (v := (.slice (some ⟨sb2, 0, none⟩) sn sc2)) (U 12 rfl)) (Chg.refl _ _) rfl
            refine DagStepsX.cons (StabX.eq) (fun _ _ _ _ _ h => h) (fun s' w' X U H => ?_) ?_
            · exact DoesT_val (r_move (v := (.int .i64 ((i : Nat) : Int))) (U 15 rfl)) (Chg.refl _ _) rfl
            refine DagStepsX.cons (StabX.eq) (fun _ _ _ _ _ h => h) (fun s' w' X U H => ?_) ?_
            · have e88 : s' 88 = (.slice (some ⟨sb2, 0, none⟩) sn sc2) := H 8 rfl 88 ((fun _ v _ => v = (.slice (some ⟨sb2, 0, none⟩) sn sc2))) rfl (by rw [hFs14]; rfl)
              have e89 : s' 89 = (.int .i64 ((i : Nat) : Int)) := H 9 rfl 89 ((fun _ v _ => v = (.int .i64 ((i : Nat) : Int)))) rfl (by rw [hFs14]; rfl)
              exact DoesT_val (r_indexSlice (b := sb2) (o := 0) (len := sn) (cap := sc2) (i := i) (o' := 0 + i) e88 e89 rfl Try.underlying123 siz9 (by omega) (by omega)) (Chg.refl _ _) rfl
            refine DagStepsX.cons (StabX.eq) (fun _ _ _ _ _ h => h) (fun s' w' X U H => ?_) ?_
            · have e90 : s' 90 = (.pointer (some ⟨sb2, 0 + i, none⟩)) := H 10 rfl 90 ((fun _ v _ => v = (.pointer (some ⟨sb2, 0 + i, none⟩)))) rfl (by rw [hFs14]; rfl)
              exact DoesT_val (r_load (v := (.string k)) e90 flat9 (Chg.cell X (fun h => (Past.or h).elim (fun h => (hap _ rfl).1 (.inr (.inl h))) (fun h => (hap _ rfl).1 (.inl h))) (X0.cell hkc))) (Chg.refl _ _) rfl
            refine DagStepsX.cons (StabX.eq) (fun _ _ _ _ _ h => h) (fun s' w' X U H => ?_) ?_
            · have e87 : s' 87 = av := H 7 rfl 87 ((fun _ v _ => v = av)) rfl (by rw [hFs14]; rfl)
              have e91 : s' 91 = (.string k) := H 11 rfl 91 ((fun _ v _ => v = (.string k))) rfl (by rw [hFs14]; rfl)
              exact DoesT_callV (fv := av) (vs := [.string k]) e87 (lst1 e91) ((ha w' k ((E.ext X0).step X (fun y hy h => (Past.or h).elim (fun h => by have := (hOn.lt y h).1; omega) (fun h => by have := (hOe.lt y h).1; omega))) hkr).mono (fun v w h => ⟨h.1, Ext.chg h.2⟩))
            refine DagStepsX.cons (litF_stab (fun y h => by have := (hOn.lt y h).2; omega) (fun y h => by have := (hOe.lt y h).2; omega)) (LocX.const) (fun s' w' X U H => ?_) ?_
            · have e92 : s' 92 = (.int .i64 (acc k)) := H 12 rfl 92 ((fun _ v _ => v = (.int .i64 (acc k)))) rfl (by rw [hFs14]; rfl)
              exact DoesT_lit (hs := n4) Try.underlying22 siz3 zer3 e92 (by decide) (by decide) (by kernel_rfl) (by have := X0.size; have := X.size; omega)
            refine DagStepsX.cons (appF_st2 rfl) (fun s1 s2 h v w h2 => ⟨h2.1, by have := h 4 84 rfl rfl; rw [this]; exact h2.2⟩) (fun s' w' X U H => ?_) ?_
            · have e86 : s' 86 = (.slice ea i ec) := H 6 rfl 86 ((fun _ v _ => v = (.slice ea i ec))) rfl (by rw [hFs14]; rfl)
              obtain ⟨b93, e93, B93, g93⟩ := (show ((fun _ => litF TDI #[.int .i64 (acc k)] n4) : FctE) s' (s' 93) w' from H 13 rfl 93 ((fun _ => litF TDI #[.int .i64 (acc k)] n4)) rfl (by rw [hFs14]; rfl))
              exact app_two (H 4 rfl 84 _ rfl (by rw [hFs14]; rfl)) (DoesT_append (hs := w'.heap.size) Try.underlying22 siz3 byt3 zer3 rfl (by decide) e86 (own_chg (own_ext hOe X0) (X.mono (fun y _ h => Past.fst rfl h)) (fun k hk hm => hO.en k hk hm)) e93 rfl (B93.cells rfl) (by simp [Value.oneCell']) (by unfold maxLen; omega) (by omega) (by have := X0.size; have := X.size; omega) (fun y h => h) (Nat.le_refl _)) (by have := X0.size; have := X.size; omega) (fun k h1 h2 => h1.elim (fun h => hO.en k h2 h) (fun h => by have := (hOe.lt k h2).2; omega))
            refine DagStepsX.cons (StabX.eq) (fun _ _ _ _ _ h => h) (fun s' w' X U H => ?_) ?_
            · exact DoesT_val (r_fieldAddr (b := bd) (o := 0) (o' := 2) (U 14 rfl) Try.underlying25 rfl siz23 rfl) (Chg.refl _ _) rfl
            exact DagStepsX.nil
          · intro s' wd14 w14 X0 X14 U H
            replace X14 := X14.mono (M' := fun y => (fun b => (Value.slice na2 i nc2).ownBlock = some b) y ∨ (fun b => (Value.slice ea i ec).ownBlock = some b) y) (fun y _ h => by obtain ⟨j, h⟩ := h; rcases two_or h with h | h; exact .inl h.2; exact .inr h.2)
            obtain ⟨⟨a84, c84, e84⟩, O84, D84⟩ := (show ((fun _ => appF n2 TDIs 1 (i + 1) (vs ++ [Value.slice (some ⟨bq, 0, none⟩) c c]) (.slice na2 i nc2) n4) : FctE) s' (s' 84) w14 from H 4 84 ((fun _ => appF n2 TDIs 1 (i + 1) (vs ++ [Value.slice (some ⟨bq, 0, none⟩) c c]) (.slice na2 i nc2) n4)) rfl (by rw [hFs14]; rfl))
            obtain ⟨⟨⟨a94, c94, e94⟩, O94, D94⟩, A94⟩ := (show ((fun s v w => appF n2 TDI 1 (i + 1) (ac.map (Value.int .i64) ++ [Value.int .i64 (acc k)]) (.slice ea i ec) n4 v w ∧ ∀ b, (s 84).ownBlock = some b → v.ownBlock ≠ some b) : FctE) s' (s' 94) w14 from H 14 94 ((fun s v w => appF n2 TDI 1 (i + 1) (ac.map (Value.int .i64) ++ [Value.int .i64 (acc k)]) (.slice ea i ec) n4 v w ∧ ∀ b, (s 84).ownBlock = some b → v.ownBlock ≠ some b)) rfl (by rw [hFs14]; rfl))
            have e95 : s' 95 = (.pointer (some ⟨bd, 2, none⟩)) := H 15 95 ((fun _ v _ => v = (.pointer (some ⟨bd, 2, none⟩)))) rfl (by rw [hFs14]; rfl)
            obtain ⟨j14, rfl⟩ := Fits.out (σ := s') (l := [(1, (.int .i64 ((c : Nat) : Int))), (2, sv), (3, av), (4, (.int .i64 ((most : Nat) : Int))), (10, (.pointer (some ⟨br, 0, none⟩))), (12, (.slice (some ⟨sb2, 0, none⟩) sn sc2)), (13, (.map (some bm))), (14, (.pointer (some ⟨bd, 0, none⟩))), (15, (.int .i64 ((i : Nat) : Int))), (84, (.slice a84 (i + 1) c84)), (94, (.slice a94 (i + 1) c94)), (95, (.pointer (some ⟨bd, 2, none⟩)))]) ⟨U 1 rfl, U 2 rfl, U 3 rfl, U 4 rfl, U 10 rfl, U 12 rfl, U 13 rfl, U 14 rfl, U 15 rfl, e84, e94, e95, trivial⟩
            clear U H
            replace Br := Chg.keep X14 (fun h => h.elim (fun h => by have := (hOn.lt _ h).1; omega) (fun h => by have := (hOe.lt _ h).1; omega)) (X0.keep Br)
            replace Mm := Chg.keepM X14 (fun h => h.elim (fun h => by have := (hOn.lt _ h).1; omega) (fun h => by have := (hOe.lt _ h).1; omega)) (X0.keepM Mm)
            replace Bd := Chg.keep X14 (fun h => h.elim (fun h => by have := (hOn.lt _ h).1; omega) (fun h => by have := (hOe.lt _ h).1; omega)) (X0.keep Bd)
            replace Bq := Chg.keep X14 (fun h => h.elim (fun h => by have := hOz _ (.inr (.inl h)); omega) (fun h => by have := hOz _ (.inl h); omega)) (X0.keep Bq)
            have hXm := Chg.trans (Ext.chg X0) X14
            replace E := (E.ext X0).step X14 (fun y hy h => h.elim (fun h => by have := (hOn.lt y h).1; omega) (fun h => by have := (hOe.lt y h).1; omega))
            rw [e84] at O84 D84 A94
            rw [e94] at O94 D94 A94
            have hO2 := hO.push (y := acc k) (N' := .slice a84 (i + 1) c84) (E' := .slice a94 (i + 1) c94) hUq hRl.symm (by omega) (fun b hb => by have := hOz b hb; omega) hXm (by rw [hir]; exact O84) (fun k hk => by rw [← hn4]; exact D84 k hk) (by rw [hale, List.map_append]; exact O94) (fun k hk => by rw [← hn4]; exact D94 k hk) A94
            have hS2 := own_chg hS hXm (fun b hb h => h.elim (fun h => (hap b hb).1 (.inr (.inl h))) (fun h => (hap b hb).1 (.inl h)))
            have hsz2 := Nat.le_trans hsz hXm.size
            have hap2 : ∀ b, (Value.slice (some ⟨sb2, 0, none⟩) sn sc2).ownBlock = some b → ¬ OutB (.slice a94 (i + 1) c94) (.slice a84 (i + 1) c84) (vs ++ [.slice (some ⟨bq, 0, none⟩) c c]) b ∧ b ≠ bm ∧ b ≠ bd := fun b hb => ⟨fun ho => out_push ⟨(hap b hb).1, (hap b hb).2.2.2⟩ (by have := (hS.lt b hb).2; omega) D84 D94 ho, (hap b hb).2.1, (hap b hb).2.2.1⟩
            refine s_store (b := bd) (o := 2) (c' := #[(.int .i64 0), (.slice ea i ec), (.slice a84 (i + 1) c84)]) (v := (.slice a84 (i + 1) c84)) rfl rfl rfl siz23 Bd (by simp) rfl ?_
            intro w15 S15
            replace hO2 := hO2.chg S15.chg fun b hb h => by have := (hO2.lt hb).1; have h' : b = bd := h; omega
            replace hS2 := own_chg hS2 S15.chg fun b hb h => (hap b hb).2.2.1 h
            replace hsz2 := Nat.le_trans hsz2 S15.chg.size
            replace Br := S15.keep (by omega) Br
            replace Mm := S15.keepM (by omega) Mm
            replace Bq := S15.keep (by omega) Bq
            replace E := S15.step E (by first | exact Or.inl (by omega) | exact Or.inr rfl | exact Or.inr (by assumption) | exact Or.inr (by simp) | exact Or.inr (by omega) | exact Or.inr (by dsimp only; omega))
            replace Bd := S15.blk
            refine WpL_val rfl rfl (by decide) (r_fieldAddr (b := bd) (o := 0) (o' := 1) rfl Try.underlying25 rfl siz22 rfl) ?_
            refine s_store (b := bd) (o := 1) (c' := #[(.int .i64 0), (.slice a94 (i + 1) c94), (.slice a84 (i + 1) c84)]) (v := (.slice a94 (i + 1) c94)) rfl rfl rfl siz22 Bd (by simp) rfl ?_
            intro w16 S16
            replace hO2 := hO2.chg S16.chg fun b hb h => by have := (hO2.lt hb).1; have h' : b = bd := h; omega
            replace hS2 := own_chg hS2 S16.chg fun b hb h => (hap b hb).2.2.1 h
            replace hsz2 := Nat.le_trans hsz2 S16.chg.size
            replace Br := S16.keep (by omega) Br
            replace Mm := S16.keepM (by omega) Mm
            replace Bq := S16.keep (by omega) Bq
            replace E := S16.step E (by first | exact Or.inl (by omega) | exact Or.inr rfl | exact Or.inr (by assumption) | exact Or.inr (by simp) | exact Or.inr (by omega) | exact Or.inr (by dsimp only; omega))
            replace Bd := S16.blk
            refine WpL_nil ?_
            refine inB_normal ?_
            refine thn_normal ?_
            refine Wp_region ?_
            refine WpL_val rfl rfl (by decide) (r_move (v := (.int .i64 ((i : Nat) : Int))) rfl) ?_
            refine WpL_val rfl rfl (by decide) (r_add (k := .i64) (a := ((i : Nat) : Int)) (b := 1) (c := ((i : Nat) : Int) + 1) rfl rfl (wI64 (by omega))) ?_
            refine WpL_val rfl rfl (by decide) (r_assign (v := (.int .i64 (((i : Nat) : Int) + 1))) rfl) ?_
            refine WpL_nil ?_
            refine thn_normal ?_
            exact ⟨most - (i + 1), by omega, i + 1, rows ++ [R], ks, ac ++ [acc k], vs ++ [.slice (some ⟨bq, 0, none⟩) c c], some ⟨sb2, 0, none⟩, a94, a84, sc2, sn, c94, c84, Fits.out ⟨rfl, rfl, rfl, rfl, rfl, rfl, rfl, rfl, rfl, trivial⟩, E, Br, Mm, Bd, hC.rowed hRl, (by simp [hir]), hsn, (by omega), (by rw [take_snoc' hki, List.map_append, hta]; rfl), hS2, hO2, hap2, hsz2, rfl⟩
    · have khlt := hlt
      replace hlt := of_decide_eq_false hlt
      have hii : i = ks.length := by omega
      have hrk : rows.length = ks.length := by omega
      obtain ⟨hDok, hDb⟩ := hC.done (acc := acc) hrk (fun k hk => (hac k (hC.rch k hk)).1)
      have hkm3 := hfew1 ks hC.nd hC.rch
      have hac3 : ac = ks.map acc := by rw [hacc2, hii, List.take_length]
      refine Wp_exit ?_
      refine thn_exit ?_
      refine thn_exit ?_
      refine inB_here ?_
      refine thn_normal ?_
      refine Wp_seq_region ?_
      refine WpL_val rfl rfl (by decide) (r_loadAgg (vs := [(.int .i64 0), (.slice ea i ec), (.slice na2 i nc2)]) rfl agg25 siz25 rfl (Bd.cells rfl)) ?_
      refine s_storeAgg (b := br) (o := 0) (c' := #[(.int .i64 0), (.slice ea i ec), (.slice na2 i nc2)]) rfl rfl (by simp [Value.oneCell']) siz25 rfl Br (by simp) rfl ?_
      intro w17 S17
      replace hO := hO.chg S17.chg fun b hb h => by have := (hO.lt hb).1; have h' : b = br := h; omega
      replace Mm := S17.keepM (by omega) Mm
      replace Bd := S17.keep (by omega) Bd
      replace E := S17.step E (by first | exact Or.inl (by omega) | exact Or.inr rfl | exact Or.inr (by assumption) | exact Or.inr (by simp) | exact Or.inr (by omega) | exact Or.inr (by dsimp only; omega))
      replace Br := S17.blk
      refine WpL_val rfl rfl (by decide) (r_assign (v := (.bool true)) rfl) ?_
      refine WpL_nil ?_
      refine Wp_ret ?_
      refine fin_agg_tmp Try.results57 (vs := [(.int .i64 0), (.slice ea i ec), (.slice na2 i nc2)]) (b := br) (v' := (.bool true)) rfl agg25 siz25 rfl (Br.cells rfl) rfl ?_
      refine ⟨⟨⟨0, ac, rows⟩, _, ⟨?_, ?_, rfl, ?_, ?_⟩, rfl, ?_⟩, E⟩
      · rw [hac3]; show OkD rows.length c _; rw [hrk]; exact hDok
      · show rows.length ≤ mx; omega
      · rw [hac3]; exact hDb
      · intro x hx
        have hx : x ∈ ac := hx
        rw [hac3] at hx
        obtain ⟨u, hu, rfl⟩ := List.mem_map.1 hx
        exact (hac u (hC.rch u hu)).2
      · have hal3 : ac.length = i := by rw [hac3, List.length_map]; omega
        exact ⟨ea, ec, na2, nc2, vs, by show Value.agg #[_, _, _] = .agg #[_, .slice ea ac.length ec, .slice na2 rows.length nc2]; rw [hal3, hir], by show OutSt _ _ (.slice ea ac.length ec) (.slice na2 rows.length nc2) vs ac rows; rw [hal3, hir]; exact hO.low hbs0.2⟩
end Go.Proofs
namespace Go.Eng
open Go
def edgeB (l : List Oper) (t u : Nat) : Bool := match l[t]? with
  | some o => o.after.any fun e => Region.binds .any e && Nat.beq e.on u
  | none => false
def guardB (hd : List Bool) (o : Oper) : Bool := match o.guard with | some p => hd.getD p.1 false | none => true
/-- Each operation is of the head or of the tail, and one of the tail waits for the whole head or for another of the tail. -/
def tailPB (l : List Oper) (hd : List Bool) (ts : List Nat) : Bool :=
  (List.range l.length).all fun i => hd.getD i false || (ts.contains i && ((List.range l.length).all (fun u => !hd.getD u false || edgeB l i u) || ts.any fun p => !hd.getD p true && edgeB l i p))
def permB (ops : Array Oper) : List Nat → Array Bool → Bool
  | [], listed => (Region.ready .any ops listed).isEmpty
  | k :: ks, listed => decide (Region.ready .any ops listed = [k]) && permB ops ks (listed.setIfInBounds k true)
theorem wpAny_of_perm {P : Program} {ops : Array Oper} {Q' : Exit → Act → World → Prop} : ∀ (ks : List Nat) (listed : Array Bool) (a : Act) (w : World), permB ops ks listed = true → wpList P ops Q' (ks.filterMap fun k => ops[k]?) a w → wpAny P .any ops Q' ks.length listed a w
  | [], _, _, _, hB, h => ⟨by simpa [permB] using hB, h⟩
  | k :: ks, listed, a, w, hB, h => by
    simp only [permB, Bool.and_eq_true, decide_eq_true_eq] at hB
    refine ⟨fun h1 => (by rw [hB.1] at h1; cases h1), fun i hi => ?_⟩
    have hi0 := hi
    rw [hB.1] at hi
    have hik : i = k := by simpa using hi
    subst hik
    obtain ⟨_, o, h0, _⟩ := mem_ready.1 hi0
    have hw : wpOp P ops Q' i (wpList P ops Q' (ks.filterMap fun k => ops[k]?)) a w := by
      rw [List.filterMap_cons, h0] at h
      unfold wpOp; simp only [h0]; exact h
    exact wpOp_mono (fun a' w' h' => wpAny_of_perm ks _ a' w' hB.2 h') hw
inductive DagStepsP (P : Program) (N : Nat) (ds : List Nat) (Fs : List Fact) (σ : Env) (w : World) : List Oper → List (List Nat) → List Bool → List Fact → Prop where
  | nil : DagStepsP P N ds Fs σ w [] [] [] []
  | cons {o : Oper} {ws : List Nat} {F : Fact} {l : List Oper} {wss : List (List Nat)} {hs : List Bool} {Gs : List Fact} : DagStep P N ds Fs σ w o ws F → DagStepsP P N ds Fs σ w l wss hs Gs → DagStepsP P N ds Fs σ w (o :: l) (ws :: wss) (true :: hs) (F :: Gs)
  | tail {o : Oper} {ws : List Nat} {F : Fact} {l : List Oper} {wss : List (List Nat)} {hs : List Bool} {Gs : List Fact} : DagStepsP P N ds Fs σ w l wss hs Gs → DagStepsP P N ds Fs σ w (o :: l) (ws :: wss) (false :: hs) (F :: Gs)
theorem DagStepsP.get {P : Program} {N : Nat} {ds : List Nat} {Fs : List Fact} {σ : Env} {w : World} : ∀ {l : List Oper} {wss : List (List Nat)} {hs : List Bool} {Gs : List Fact}, DagStepsP P N ds Fs σ w l wss hs Gs → ∀ {j : Nat} {o : Oper}, l[j]? = some o → hs[j]? = some true → ∃ ws F, wss[j]? = some ws ∧ Gs[j]? = some F ∧ DagStep P N ds Fs σ w o ws F
  | _, _, _, _, .nil, j, o, h, _ => by simp at h
  | _, _, _, _, .cons h1 h2, 0, o, h, _ => by simp at h; subst h; exact ⟨_, _, rfl, rfl, h1⟩
  | _, _, _, _, .tail h2, 0, o, h, ht => by simp at ht
  | _, _, _, _, .cons h1 h2, j + 1, o, h, ht => by
    obtain ⟨ws, F, a, b, c⟩ := h2.get (j := j) (by simpa using h) (by simpa using ht)
    exact ⟨ws, F, by simpa using a, by simpa using b, c⟩
  | _, _, _, _, .tail h2, j + 1, o, h, ht => by
    obtain ⟨ws, F, a, b, c⟩ := h2.get (j := j) (by simpa using h) (by simpa using ht)
    exact ⟨ws, F, by simpa using a, by simpa using b, c⟩
/-- How many of the head are yet to come. -/
def leftH (hd : List Bool) (listed : List Bool) : Nat := ((hd.zip listed).filter fun p => p.1 && !p.2).length
theorem leftH_set : ∀ {hd listed : List Bool} {i : Nat}, hd[i]? = some true → listed[i]? = some false → leftH hd (listed.set i true) + 1 = leftH hd listed
  | [], _, _, h, _ => by simp at h
  | _ :: _, [], _, _, h => by simp at h
  | h :: hd, x :: listed, 0, h1, h2 => by
    simp at h1 h2
    subst h1; subst h2
    simp [leftH]
  | h :: hd, x :: listed, i + 1, h1, h2 => by
    have := leftH_set (hd := hd) (listed := listed) (i := i) (by simpa using h1) (by simpa using h2)
    simp only [leftH, List.set_cons_succ, List.zip_cons_cons, List.filter_cons] at this ⊢
    split
    · simp only [List.length_cons]; omega
    · exact this
theorem leftH_zero : ∀ {hd listed : List Bool}, hd.length = listed.length → leftH hd listed = 0 → (∀ (i : Nat), hd[i]? = some false → listed[i]? = some false) → listed = hd
  | [], [], _, _, _ => rfl
  | [], _ :: _, h, _, _ => by simp at h
  | _ :: _, [], h, _, _ => by simp at h
  | h :: hd, x :: listed, hl, h0, ht => by
    have e1 : leftH hd listed = 0 := by
      simp only [leftH, List.zip_cons_cons, List.filter_cons] at h0 ⊢
      split at h0
      · simp at h0
      · exact h0
    have e2 := leftH_zero (by simpa using hl) e1 fun i hi => by have := ht (i + 1) (by simpa using hi); simpa using this
    have e3 : x = h := by
      cases h with
      | false => have := ht 0 rfl; simpa using this
      | true =>
        cases x with
        | true => rfl
        | false => simp [leftH] at h0
    rw [e2, e3]
theorem leftH_pos : ∀ {hd listed : List Bool}, 0 < leftH hd listed → ∃ i : Nat, hd[i]? = some true ∧ listed[i]? = some false
  | [], _, h => by simp [leftH] at h
  | _ :: _, [], h => by simp [leftH] at h
  | h :: hd, x :: listed, hp => by
    simp only [leftH, List.zip_cons_cons, List.filter_cons] at hp
    split at hp
    · rename_i hc
      simp at hc
      exact ⟨0, by simp [hc.1], by simp [hc.2]⟩
    · obtain ⟨i, h1, h2⟩ := leftH_pos (hd := hd) (listed := listed) hp
      exact ⟨i + 1, by simpa using h1, by simpa using h2⟩
theorem getD_arr {listed : Array Bool} {i : Nat} {b d : Bool} (h : listed.toList[i]? = some b) : listed.getD i d = b := by
  have : listed[i]? = some b := by simpa using h
  simp [Array.getD_eq_getD_getElem?, this]
theorem lst5 {x y z u p a b c d e : Value} (h : x = a) (h' : y = b) (h'' : z = c) (h3 : u = d) (h4 : p = e) : [x, y, z, u, p] = [a, b, c, d, e] := by rw [h, h', h'', h3, h4]
section
variable {P : Program} {N : Nat} {σ : Env} {w : World} {dst : Option Tmp} {ty : TypeId} {pos : String} {af : Array Edge} {g : Option (Nat × Bool)} {t : TypeId} {x y z u : Operand} {a b c d : Value} {i j k m : Nat}
/-- A new variable, with its cells. -/
def alF (e : Nat) (c : Array Value) (hs : Nat) : Fct := fun v w => ∃ b, v = .pointer (some ⟨b, 0, none⟩) ∧ Blk w b c e ∧ hs ≤ b
theorem alF_ext (e : Nat) (c : Array Value) (hs : Nat) : Stable (alF e c hs) := by
  rintro v w w' x ⟨b, h1, h2, h3⟩
  exact ⟨b, h1, Ext.keep x h2, h3⟩
end
end Go.Eng
