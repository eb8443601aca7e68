/- The keys of states, walked. -/
import Derived.Test.YtncmfkibflogkaaAe
namespace Go.Proofs
open Go Go.Eng Go.Sort
set_option maxRecDepth 100000

def bytF (base n : Nat) (xs : List Int) : Fct := fun v w => ∃ a c, v = .slice a n c ∧ w.ownsRow base TU8 1 (.slice a n c) n (xs.map (Value.int .u8))
theorem bytF_ext (base n : Nat) (xs : List Int) : ∀ v w w', Ext w w' → bytF base n xs v w → bytF base n xs v w' := by
  rintro v w w' e ⟨a, c, h1, h2⟩
  exact ⟨a, c, h1, own_ext h2 e⟩
theorem word4_nil (w0 : World) (base : Nat) (x : Int) (hb : base ≤ w0.heap.size) (hx : -1 ≤ x ∧ x < 2147483648) :
    Ret Try.prog 97 #[.slice none 0 0, .int .i64 x] w0 fun r w => bytF base 4 (bytes4 x) r w ∧ Ext w0 w :=
  (word4_c w0 base 0 (.slice none 0 0) [] x (World.ownsRow_nil _ _ _ _) hb (by decide) rfl hx).mono fun r w ⟨⟨a, c, h1⟩, h2, h3⟩ => by
    subst h1
    exact ⟨⟨a, c, rfl, by simpa using h2⟩, h3.mono fun y _ h => by cases h⟩
theorem r_bytesOwn {P : Program} {σ : Env} {w : World} {ty t : TypeId} {pos : String} {af : Array Edge} {x : Operand} {dst : Option Tmp} {g : Option (Nat × Bool)} {s e base n c : Nat} {a : Option Addr} {l : List Int} (hs : P.underlying s = some (.slice e)) (he : P.underlying e = some (.int .u8)) (ht : P.underlying t = some .string) (hx : ev σ x = .slice a n c)
    (ho : w.ownsRow base TU8 1 (.slice a n c) n (l.map (Value.int .u8))) (hl : l.length = n) (hn : 0 < n) : (execOp (ev σ) ⟨dst, .convert s t x, ty, pos, af, g⟩).run P w = .ok (.value (.string (strOfNums l))) w := by
  obtain ⟨b, rfl, _, hc⟩ := own_cells ho hn
  have h := run_convert_bytes_arg (P := P) w s e hs he b 0 n c l hl (fun i hi => by
    have h1 : l[i]? = some l[i] := List.getElem?_eq_getElem (by omega)
    have h2 := hc i (.int .u8 (l.getD i 0)) (by simp [List.getD, h1])
    exact h2) t ht
  simp only [execOp, hx, Sem.run_bind, h, Result.andThen_ok]
  rfl
theorem key1_c (w0 : World) (bw bd n : Nat) (d : Dfa) (dv : List Value) (s : Nat) (x : Int) (hW : Blk w0 bw #[.func (.func 97) #[] #[]] 134) (hD : Blk w0 bd dv.toArray 25) (h : DfaAt w0 d dv) (hal : d.accept.length = n) (hs : d.accept[s]? = some x) (hx : -1 ≤ x ∧ x < 2147483648) :
    Ret Try.prog 98 #[.int .i64 ((s : Nat) : Int), .pointer (some ⟨bw, 0, none⟩), .pointer (some ⟨bd, 0, none⟩)] w0 fun r w => r = .string (encI [x]) ∧ Ext w0 w := by
  obtain ⟨aa, ac, na, nc, rfl, hacc, hnxt⟩ := h
  have hsl := lt_of_get hs
  rw [hal] at hacc hsl
  obtain ⟨ab, ao, rfl, hac⟩ := ints_cells (n := n) hacc (by omega)
  rw [hal] at hD
  obtain ⟨base, hbase⟩ : ∃ base, base = w0.heap.size := ⟨_, rfl⟩
  refine Ret_of Try.func98 rfl Try.ntmps98 (Nat.le_of_ble_eq_true rfl) ?_
  have E : Chg none1 w0 w0 := Chg.refl _ _
  refine Wp_seq_region ?_
  refine WpL_val rfl rfl (by decide) (r_assign (v := (.string (ByteArray.mk #[]))) rfl) ?_
  refine WpL_nil ?_
  refine Wp_seq ?_
  obtain ⟨Fs1, hFs1⟩ : ∃ Fs : List Fact, Fs = [.eq (.func (.func 97) #[] #[]), .eq (.pointer (some ⟨bd, 1, none⟩)), .eq (.slice (some ⟨ab, ao, none⟩) n ac), .eq (.int .i64 ((s : Nat) : Int)), .eq (.pointer (some ⟨ab, ao + s, none⟩)), .eq (.int .i64 x), .gen (bytF base 4 (bytes4 x)) (bytF_ext _ _ _), .eq (.string (strOfNums (bytes4 x))), .eq (.string (strOfNums (bytes4 x)))] := ⟨_, rfl⟩
  refine Wp_dag [5, 6, 7, 8, 9, 10, 11, 12, 4] [[], [], [1], [], [2, 3], [4], [0, 5], [6], [0, 1, 2, 3, 4, 5, 6, 7]] Fs1 hFs1 mixed (by kernel_rfl) (by kernel_rfl) ?_ ?_
  · intro wd X0
    refine DagSteps.cons (fun s' w' X U H => Or.inl ⟨?_, ?_⟩) ?_
    · exact Guarded_none rfl
    · exact Does_val (r_load (v := (.func (.func 97) #[] #[])) (U 1 rfl) flat134 (((X0.trans X).keep hW).cell rfl)) (Ext.refl _) rfl
    refine DagSteps.cons (fun s' w' X U H => Or.inl ⟨?_, ?_⟩) ?_
    · exact Guarded_none rfl
    · exact Does_val (r_fieldAddr (b := bd) (o := 0) (o' := 1) (U 2 rfl) Try.underlying25 rfl siz22 rfl) (Ext.refl _) rfl
    refine DagSteps.cons (fun s' w' X U H => Or.inl ⟨?_, ?_⟩) ?_
    · exact Guarded_none rfl
    · have e6 : s' 6 = (.pointer (some ⟨bd, 1, none⟩)) := H 1 rfl 6 (.eq (.pointer (some ⟨bd, 1, none⟩))) rfl (by rw [hFs1]; rfl)
      exact Does_val (r_load (v := (.slice (some ⟨ab, ao, none⟩) n ac)) e6 flat22 (((X0.trans X).keep hD).cell rfl)) (Ext.refl _) rfl
    refine DagSteps.cons (fun s' w' X U H => Or.inl ⟨?_, ?_⟩) ?_
    · exact Guarded_none rfl
    · exact Does_val (r_move (v := (.int .i64 ((s : Nat) : Int))) (U 0 rfl)) (Ext.refl _) rfl
    refine DagSteps.cons (fun s' w' X U H => Or.inl ⟨?_, ?_⟩) ?_
    · exact Guarded_none rfl
    · have e7 : s' 7 = (.slice (some ⟨ab, ao, none⟩) n ac) := H 2 rfl 7 (.eq (.slice (some ⟨ab, ao, none⟩) n ac)) rfl (by rw [hFs1]; rfl)
      have e8 : s' 8 = (.int .i64 ((s : Nat) : Int)) := H 3 rfl 8 (.eq (.int .i64 ((s : Nat) : Int))) rfl (by rw [hFs1]; rfl)
      exact Does_val (r_indexSlice (b := ab) (o := ao) (len := n) (cap := ac) (i := s) (o' := ao + s) e7 e8 rfl Try.underlying22 siz3 (by omega) (by omega)) (Ext.refl _) rfl
    refine DagSteps.cons (fun s' w' X U H => Or.inl ⟨?_, ?_⟩) ?_
    · exact Guarded_none rfl
    · have e9 : s' 9 = (.pointer (some ⟨ab, ao + s, none⟩)) := H 4 rfl 9 (.eq (.pointer (some ⟨ab, ao + s, none⟩))) rfl (by rw [hFs1]; rfl)
      exact Does_val (r_load (v := (.int .i64 x)) e9 flat3 ((Chg.ext E (X0.trans X)).cell (fun f => f) (hac s x hs))) (Ext.refl _) rfl
    refine DagSteps.cons (fun s' w' X U H => Or.inl ⟨?_, ?_⟩) ?_
    · exact Guarded_none rfl
    · have e10 : s' 10 = (.int .i64 x) := H 5 rfl 10 (.eq (.int .i64 x)) rfl (by rw [hFs1]; rfl)
      have e5 : s' 5 = (.func (.func 97) #[] #[]) := H 0 rfl 5 (.eq (.func (.func 97) #[] #[])) rfl (by rw [hFs1]; rfl)
      exact Does_enter (r_callV (first := #[]) (cap := #[]) (vs := [(.slice none 0 0), (.int .i64 x)]) (ws := #[(.slice none 0 0), (.int .i64 x)]) e5 Try.func97 nm97 bd97 (lst2 rfl e10) rfl) (word4_nil _ base x (by have := X0.size; have := X.size; omega) hx)
    refine DagSteps.cons (fun s' w' X U H => Or.inl ⟨?_, ?_⟩) ?_
    · exact Guarded_none rfl
    · obtain ⟨a11, c11, e11, O11⟩ := H 6 rfl 11 (.gen (bytF base 4 (bytes4 x)) (bytF_ext _ _ _)) rfl (by rw [hFs1]; rfl)
      exact Does_val (r_bytesOwn (l := bytes4 x) Try.underlying62 Try.underlying5 Try.underlying9 e11 O11 rfl (by decide)) (Ext.refl _) rfl
    refine DagSteps.cons (fun s' w' X U H => Or.inl ⟨?_, ?_⟩) ?_
    · exact Guarded_none rfl
    · have e12 : s' 12 = (.string (strOfNums (bytes4 x))) := H 7 rfl 12 (.eq (.string (strOfNums (bytes4 x)))) rfl (by rw [hFs1]; rfl)
      exact Does_val (r_assign (v := (.string (strOfNums (bytes4 x)))) e12) (Ext.refl _) rfl
    exact DagSteps.nil
  · intro s' w1 X1 U H
    obtain ⟨j1, rfl⟩ := Fits.out (σ := s') (l := [(4, (.string (strOfNums (bytes4 x))))]) ⟨(show s' 4 = (.string (strOfNums (bytes4 x))) from H 8 4 (.eq (.string (strOfNums (bytes4 x)))) rfl (by rw [hFs1]; rfl)), trivial⟩
    clear U H
    replace hW := X1.keep hW
    replace hD := X1.keep hD
    replace E := E.ext X1
    refine thn_normal ?_
    refine Wp_ret ?_
    refine fin_tmp Try.results98 (v := (.string (strOfNums (bytes4 x)))) rfl ?_
    exact ⟨by unfold encI; simp, E⟩
theorem word4_own (w0 : World) (base n : Nat) (a : Option Addr) (c : Nat) (xs : List Int) (x : Int) (hv : w0.ownsRow base TU8 1 (.slice a n c) n (xs.map (Value.int .u8))) (hb : base ≤ w0.heap.size) (hn : n ≤ 1000000) (hxn : n = xs.length) (hx : -1 ≤ x ∧ x < 2147483648) :
    Ret Try.prog 97 #[.slice a n c, .int .i64 x] w0 fun r w => bytF base (n + 4) (xs ++ bytes4 x) r w ∧ Chg (fun y => (Value.slice a n c).ownBlock = some y) w0 w :=
  (word4_c w0 base n (.slice a n c) xs x hv hb hn hxn hx).mono fun r w ⟨⟨a, c, h1⟩, h2, h3⟩ => by
    subst h1
    exact ⟨⟨a, c, rfl, h2⟩, h3⟩
theorem nextKey_bytes (c : Nat) (d : Dfa) (p : List Int) (s : Nat) : encI (nextKey c d p s) = strOfNums (bytes4 (ptD p s) ++ ((List.range c).map fun x => ptD p (toD d s x)).flatMap bytes4) := by
  unfold encI nextKey
  rw [List.flatMap_cons]
theorem ptD_rng {n : Nat} {p : List Int} (hp : ∀ x ∈ p, -1 ≤ x ∧ x < (n : Int)) (hn : n ≤ 20000) (s : Int) : -1 ≤ ptD p s ∧ ptD p s < 2147483648 := by
  unfold ptD
  split
  · omega
  · rw [List.getD_eq_getElem?_getD]
    cases h : p[s.toNat]? with
    | none => simp
    | some x => have := hp x (List.mem_of_getElem? h); simp; omega
set_option maxHeartbeats 1000000 in
theorem key2_c (w0 : World) (bw bo bd n c pb pc : Nat) (d : Dfa) (dv : List Value) (p : List Int) (s : Nat) (ok : OkD n c d) (hW : Blk w0 bw #[.func (.func 97) #[] #[]] 134) (hO : Blk w0 bo #[.slice (some ⟨pb, 0, none⟩) n pc] 22) (hD : Blk w0 bd dv.toArray 25) (h : DfaAt w0 d dv)
    (hP : IntsAt w0 (.slice (some ⟨pb, 0, none⟩) n pc) p) (hpl : p.length = n) (hpr : ∀ x ∈ p, -1 ≤ x ∧ x < (n : Int)) (hs : s < n) (hn : n ≤ 20000 ∧ c ≤ 16) :
    Ret Try.prog 99 #[.int .i64 ((s : Nat) : Int), .pointer (some ⟨bw, 0, none⟩), .pointer (some ⟨bo, 0, none⟩), .pointer (some ⟨bd, 0, none⟩)] w0 fun r w => r = .string (encI (nextKey c d p s)) ∧ Ext w0 w := by
  obtain ⟨aa, ac, na, nc, rfl, hacc, hnxt⟩ := h
  have hnl := ok.nl
  rw [hnl] at hnxt hD
  obtain ⟨nb, no, rfl, hnx⟩ := intss_cells (n := n) hnxt (by omega)
  obtain ⟨row, hrow⟩ := get_of_lt (l := d.next) (i := s) (by omega)
  have hrl := (ok.row row (List.mem_of_getElem? hrow)).1
  obtain ⟨ra, rc, hcell, hri⟩ := hnx s row hrow
  obtain ⟨xs0, hxs0⟩ := get_of_lt (l := p) (i := s) (by omega)
  have hps := ptD_get hxs0
  obtain ⟨pb', po', hpa, hpc⟩ := ints_cells (n := n) hP (by omega)
  simp only [Option.some.injEq, Addr.mk.injEq, and_true] at hpa
  obtain ⟨rfl, rfl⟩ := hpa
  obtain ⟨base, hbase⟩ : ∃ base, base = w0.heap.size := ⟨_, rfl⟩
  have hpb : pb < w0.heap.size := World.block_lt_of_cell? w0 _ (hpc s xs0 hxs0)
  have hbw := hW.lt
  have hbo := hO.lt
  have hbd := hD.lt
  refine Ret_of Try.func99 rfl Try.ntmps99 (Nat.le_of_ble_eq_true rfl) ?_
  have E : Chg none1 w0 w0 := Chg.refl _ _
  refine Wp_seq_region ?_
  refine WpL_val rfl rfl (by decide) (r_assign (v := (.string (ByteArray.mk #[]))) rfl) ?_
  refine WpL_nil ?_
  refine Wp_seq ?_
  obtain ⟨Fs1, hFs1⟩ : ∃ Fs : List Fact, Fs = [.eq (.func (.func 97) #[] #[]), .eq (.slice (some ⟨pb, 0, none⟩) n pc), .eq (.int .i64 ((s : Nat) : Int)), .eq (.pointer (some ⟨pb, 0 + s, none⟩)), .eq (.int .i64 xs0), .gen (bytF base 4 (bytes4 xs0)) (bytF_ext _ _ _), .gen (bytF base 4 (bytes4 xs0)) (bytF_ext _ _ _)] := ⟨_, rfl⟩
  refine Wp_dag [9, 10, 11, 12, 13, 14, 6] [[], [], [], [1, 2], [3], [0, 4], [0, 1, 2, 3, 4, 5]] Fs1 hFs1 mixed (by kernel_rfl) (by kernel_rfl) ?_ ?_
  · intro wd X0
    refine DagSteps.cons (fun s' w' X U H => Or.inl ⟨?_, ?_⟩) ?_
    · exact Guarded_none rfl
    · exact Does_val (r_load (v := (.func (.func 97) #[] #[])) (U 1 rfl) flat134 (((X0.trans X).keep hW).cell rfl)) (Ext.refl _) rfl
    refine DagSteps.cons (fun s' w' X U H => Or.inl ⟨?_, ?_⟩) ?_
    · exact Guarded_none rfl
    · exact Does_val (r_load (v := (.slice (some ⟨pb, 0, none⟩) n pc)) (U 2 rfl) flat22 (((X0.trans X).keep hO).cell rfl)) (Ext.refl _) rfl
    refine DagSteps.cons (fun s' w' X U H => Or.inl ⟨?_, ?_⟩) ?_
    · exact Guarded_none rfl
    · exact Does_val (r_move (v := (.int .i64 ((s : Nat) : Int))) (U 0 rfl)) (Ext.refl _) rfl
    refine DagSteps.cons (fun s' w' X U H => Or.inl ⟨?_, ?_⟩) ?_
    · exact Guarded_none rfl
    · have e10 : s' 10 = (.slice (some ⟨pb, 0, none⟩) n pc) := H 1 rfl 10 (.eq (.slice (some ⟨pb, 0, none⟩) n pc)) rfl (by rw [hFs1]; rfl)
      have e11 : s' 11 = (.int .i64 ((s : Nat) : Int)) := H 2 rfl 11 (.eq (.int .i64 ((s : Nat) : Int))) rfl (by rw [hFs1]; rfl)
      exact Does_val (r_indexSlice (b := pb) (o := 0) (len := n) (cap := pc) (i := s) (o' := 0 + s) e10 e11 rfl Try.underlying22 siz3 (by omega) (by omega)) (Ext.refl _) rfl
    refine DagSteps.cons (fun s' w' X U H => Or.inl ⟨?_, ?_⟩) ?_
    · exact Guarded_none rfl
    · have e12 : s' 12 = (.pointer (some ⟨pb, 0 + s, none⟩)) := H 3 rfl 12 (.eq (.pointer (some ⟨pb, 0 + s, none⟩))) rfl (by rw [hFs1]; rfl)
      exact Does_val (r_load (v := (.int .i64 xs0)) e12 flat3 ((Chg.ext E (X0.trans X)).cell (fun f => f) (hpc s xs0 hxs0))) (Ext.refl _) rfl
    refine DagSteps.cons (fun s' w' X U H => Or.inl ⟨?_, ?_⟩) ?_
    · exact Guarded_none rfl
    · have e13 : s' 13 = (.int .i64 xs0) := H 4 rfl 13 (.eq (.int .i64 xs0)) rfl (by rw [hFs1]; rfl)
      have e9 : s' 9 = (.func (.func 97) #[] #[]) := H 0 rfl 9 (.eq (.func (.func 97) #[] #[])) rfl (by rw [hFs1]; rfl)
      exact Does_enter (r_callV (first := #[]) (cap := #[]) (vs := [(.slice none 0 0), (.int .i64 xs0)]) (ws := #[(.slice none 0 0), (.int .i64 xs0)]) e9 Try.func97 nm97 bd97 (lst2 rfl e13) rfl) (word4_nil _ base xs0 (by have := X0.size; have := X.size; omega) (by rw [← hps]; exact ptD_rng hpr hn.1 _))
    refine DagSteps.cons (fun s' w' X U H => Or.inl ⟨?_, ?_⟩) ?_
    · exact Guarded_none rfl
    · obtain ⟨a14, c14, e14, O14⟩ := H 5 rfl 14 (.gen (bytF base 4 (bytes4 xs0)) (bytF_ext _ _ _)) rfl (by rw [hFs1]; rfl)
      exact Does_val (r_assign e14) (Ext.refl _) ⟨a14, c14, rfl, O14⟩
    exact DagSteps.nil
  · intro s' w1 X1 U H
    obtain ⟨a6, c6, e6, O6⟩ := H 6 6 (.gen (bytF base 4 (bytes4 xs0)) (bytF_ext _ _ _)) rfl (by rw [hFs1]; rfl)
    obtain ⟨j1, rfl⟩ := Fits.out (σ := s') (l := [(0, (.int .i64 ((s : Nat) : Int))), (1, (.pointer (some ⟨bw, 0, none⟩))), (2, (.pointer (some ⟨bo, 0, none⟩))), (3, (.pointer (some ⟨bd, 0, none⟩))), (6, (.slice a6 4 c6))]) ⟨U 0 rfl, U 1 rfl, U 2 rfl, U 3 rfl, e6, trivial⟩
    clear U H
    replace hW := X1.keep hW
    replace hO := X1.keep hO
    replace hD := X1.keep hD
    replace E := E.ext X1
    refine thn_normal ?_
    refine Wp_seq ?_
    refine Wp_seq_region ?_
    refine WpL_val rfl rfl (by decide) (r_fieldAddr (b := bd) (o := 0) (o' := 2) rfl Try.underlying25 rfl siz23 rfl) ?_
    refine WpL_val rfl rfl (by decide) (r_load (v := (.slice (some ⟨nb, no, none⟩) n nc)) rfl flat23 (hD.cell rfl)) ?_
    refine WpL_val rfl rfl (by decide) (r_move (v := (.int .i64 ((s : Nat) : Int))) rfl) ?_
    refine WpL_val rfl rfl (by decide) (r_indexSlice (b := nb) (o := no) (len := n) (cap := nc) (i := s) (o' := no + s) rfl rfl rfl Try.underlying23 siz22 (by omega) (by omega)) ?_
    refine WpL_val rfl rfl (by decide) (r_load (v := (.slice ra row.length rc)) rfl flat22 (E.cell (fun f => f) hcell)) ?_
    have hs6 : base ≤ (w1).heap.size := by have := E.size; omega
    refine WpL_val rfl rfl (by decide) (r_lenSlice (ad := ra) (n := row.length) (cap := rc) Try.underlying22 rfl) ?_
    refine WpL_val rfl rfl (by decide) (r_move (v := (.int .i64 0)) rfl) ?_
    refine WpL_nil ?_
    refine Wp_block ?_
    refine Wp_loop (fun nn_ σ W2 => ∃ (k : Nat) (xs : List Int) (ba : Option Addr) (bc bn : Nat), (∃ jj_, σ = upds jj_ [(1, (.pointer (some ⟨bw, 0, none⟩))), (2, (.pointer (some ⟨bo, 0, none⟩))), (19, (.slice ra row.length rc)), (20, (.int .i64 ((row.length : Nat) : Int))), (21, (.int .i64 ((k : Nat) : Int))), (6, (.slice ba bn bc))]) ∧ Chg none1 w0 W2 ∧ Blk W2 bw #[(.func (.func 97) #[] #[])] 134 ∧ Blk W2 bo #[(.slice (some ⟨pb, 0, none⟩) n pc)] 22 ∧ Blk W2 bd #[(.int .i64 d.start), (.slice aa d.accept.length ac), (.slice (some ⟨nb, no, none⟩) n nc)] 25 ∧ (k ≤ c) ∧ (xs = bytes4 (ptD p s) ++ ((List.range k).map fun x => ptD p (toD d s x)).flatMap bytes4) ∧ (xs.length = 4 * (k + 1)) ∧ (bn = xs.length) ∧ (W2.ownsRow base TU8 1 (.slice ba bn bc) bn (xs.map (Value.int .u8))) ∧ (base ≤ W2.heap.size) ∧ nn_ = c - k) (n := c - 0) ?_ ?_
    · exact ⟨0, bytes4 xs0, a6, c6, 4, Fits.out ⟨rfl, rfl, rfl, rfl, rfl, rfl, trivial⟩, E, hW, hO, hD, Nat.zero_le _, (by rw [hps]; simp), rfl, rfl, O6, hs6, rfl⟩
    · clear E hW hO hD
      rintro _ _ W2 ⟨k, xs, ba, bc, bn, ⟨j2, rfl⟩, E, hW, hO, hD, hk, hxs, hbl, hbn, hw, hbs, rfl⟩
      refine Wp_seq_region ?_
      refine WpL_val rfl rfl (by decide) (r_lss (k := .i64) (a := ((k : Nat) : Int)) (b := ((row.length : Nat) : Int)) rfl rfl) ?_
      refine WpL_nil ?_
      refine Wp_seq ?_
      refine Wp_cond (b := decide ((((k : Nat) : Int) : Int) < ((row.length : Nat) : Int))) rfl (fun hlt => ?_) (fun hlt => ?_)
      · have khlt := hlt
        replace hlt := of_decide_eq_true hlt
        obtain ⟨x, hx⟩ := get_of_lt (l := row) (i := k) (by omega)
        obtain ⟨rb, ro, rfl, hrc⟩ := ints_cells hri (by omega)
        obtain ⟨htk, hkc, _, hxl, hxh⟩ := toD_row ok hrow hx
        have hxs2 : ∀ y, y = ptD p x → xs ++ bytes4 y = bytes4 (ptD p s) ++ ((List.range (k + 1)).map fun x => ptD p (toD d s x)).flatMap bytes4 := fun y hy => by rw [List.range_succ, List.map_append, List.flatMap_append, hxs, List.append_assoc, hy, ← htk]; simp
        refine Wp_skip ?_
        refine thn_normal ?_
        refine Wp_seq ?_
        refine Wp_block ?_
        refine Wp_seq_region ?_
        refine WpL_val rfl rfl (by decide) (r_indexSlice (b := rb) (o := ro) (len := row.length) (cap := rc) (i := k) (o' := ro + k) rfl rfl rfl Try.underlying22 siz3 (by omega) (by omega)) ?_
        refine WpL_val rfl rfl (by decide) (r_load (v := (.int .i64 x)) rfl flat3 (E.cell (fun f => f) (hrc k x hx))) ?_
        refine WpL_val rfl rfl (by decide) (r_assign (v := (.int .i64 x)) rfl) ?_
        refine WpL_nil ?_
        refine Wp_seq_region ?_
        refine WpL_val rfl rfl (by decide) (r_move (v := (.int .i64 x)) rfl) ?_
        refine WpL_val rfl rfl (by decide) (r_lss (k := .i64) (a := x) (b := 0) rfl rfl) ?_
        refine WpL_nil ?_
        refine Wp_cond (b := decide ((x : Int) < 0)) rfl (fun hneg => ?_) (fun hneg => ?_)
        · have khneg := hneg
          replace hneg := of_decide_eq_true hneg
          refine Wp_region ?_
          refine WpL_val rfl rfl (by decide) (r_load (v := (.func (.func 97) #[] #[])) rfl flat134 (hW.cell rfl)) ?_
          refine WpL_val rfl rfl (by decide) (r_move (v := (.slice ba bn bc)) rfl) ?_
          refine WpL_enter rfl rfl (by decide) (r_callV (first := #[]) (cap := #[]) (vs := [(.slice ba bn bc), (.int .i64 (-1))]) (ws := #[(.slice ba bn bc), (.int .i64 (-1))]) rfl Try.func97 nm97 bd97 rfl rfl) (word4_own _ base bn ba bc xs (-1) hw hbs (by omega) hbn (by omega)) ?_
          rintro _ w9 ⟨⟨a2, c2, rfl, O9⟩, C9⟩
          replace hW := C9.keep (fun h => by have := (hw.lt _ h).1; omega) hW
          replace hO := C9.keep (fun h => by have := (hw.lt _ h).1; omega) hO
          replace hD := C9.keep (fun h => by have := (hw.lt _ h).1; omega) hD
          replace E := E.step C9 (fun x hx h => absurd (hw.lt x h).1 (by omega))
          refine WpL_val rfl rfl (by decide) (r_assign (v := (.slice a2 (bn + 4) c2)) rfl) ?_
          refine WpL_nil ?_
          refine inB_normal ?_
          refine thn_normal ?_
          refine Wp_region ?_
          refine WpL_val rfl rfl (by decide) (r_add (k := .i64) (a := ((k : Nat) : Int)) (b := 1) (c := ((k : Nat) : Int) + 1) rfl rfl (wI64 (by omega))) ?_
          refine WpL_val rfl rfl (by decide) (r_move (v := (.int .i64 (((k : Nat) : Int) + 1))) rfl) ?_
          refine WpL_nil ?_
          refine thn_normal ?_
          exact ⟨c - (k + 1), by omega, k + 1, xs ++ bytes4 (-1), a2, c2, bn + 4, Fits.out ⟨rfl, rfl, rfl, rfl, rfl, rfl, trivial⟩, E, hW, hO, hD, (by omega), hxs2 _ (ptD_neg hneg).symm, (by simp [bytes4]; omega), (by simp [bytes4]; omega), O9, Nat.le_trans hbs C9.size, rfl⟩
        · have khneg := hneg
          replace hneg := of_decide_eq_false hneg
          obtain ⟨t, ht⟩ := Int.eq_ofNat_of_zero_le (show 0 ≤ x by omega)
          obtain ⟨pt, hpt⟩ := get_of_lt (l := p) (i := t) (by omega)
          have hptx : pt = ptD p x := by rw [ht]; exact (ptD_get hpt).symm
          obtain ⟨Fs5, hFs5⟩ : ∃ Fs : List (FactT ((fun y => (Value.slice ba bn bc).ownBlock = some y))), Fs = [.eq (.func (.func 97) #[] #[]), .eq (.slice ba bn bc), .eq (.slice (some ⟨pb, 0, none⟩) n pc), .eq (.int .i64 x), .eq (.pointer (some ⟨pb, 0 + t, none⟩)), .eq (.int .i64 pt), .own (bytF base (bn + 4) (xs ++ bytes4 pt)) (bytF_ext _ _ _)] := ⟨_, rfl⟩
          refine Wp_dagT ((fun y => (Value.slice ba bn bc).ownBlock = some y)) 7 6 [30, 31, 32, 33, 34, 35, 36] [[], [], [], [], [2, 3], [4], [0, 1, 5]] Fs5 hFs5 rfl mixed (by kernel_rfl) (by kernel_rfl) (by kernel_rfl) ?_ ?_
          · intro wd X0
            refine DagStepsT.cons (fun s' w' X U H => ?_) ?_
            · exact DoesT_val (r_load (v := (.func (.func 97) #[] #[])) (U 1 rfl) flat134 ((Chg.keep X (fun f => f) (X0.keep hW)).cell rfl)) (Chg.refl _ _) rfl
            refine DagStepsT.cons (fun s' w' X U H => ?_) ?_
            · exact DoesT_val (r_move (v := (.slice ba bn bc)) (U 6 rfl)) (Chg.refl _ _) rfl
            refine DagStepsT.cons (fun s' w' X U H => ?_) ?_
            · exact DoesT_val (r_load (v := (.slice (some ⟨pb, 0, none⟩) n pc)) (U 2 rfl) flat22 ((Chg.keep X (fun h => by have := (hw.lt _ h).1; omega) (X0.keep hO)).cell rfl)) (Chg.refl _ _) rfl
            refine DagStepsT.cons (fun s' w' X U H => ?_) ?_
            · exact DoesT_val (r_move (v := (.int .i64 x)) (U 8 rfl)) (Chg.refl _ _) rfl
            refine DagStepsT.cons (fun s' w' X U H => ?_) ?_
            · have e32 : s' 32 = (.slice (some ⟨pb, 0, none⟩) n pc) := H 2 rfl 32 (.eq (.slice (some ⟨pb, 0, none⟩) n pc)) rfl (by rw [hFs5]; rfl)
              have e33 : s' 33 = (.int .i64 x) := H 3 rfl 33 (.eq (.int .i64 x)) rfl (by rw [hFs5]; rfl)
              exact DoesT_val (r_indexSlice (b := pb) (o := 0) (len := n) (cap := pc) (i := t) (o' := 0 + t) e32 e33 (by omega) Try.underlying22 siz3 (by omega) (by omega)) (Chg.refl _ _) rfl
            refine DagStepsT.cons (fun s' w' X U H => ?_) ?_
            · have e34 : s' 34 = (.pointer (some ⟨pb, 0 + t, none⟩)) := H 4 rfl 34 (.eq (.pointer (some ⟨pb, 0 + t, none⟩))) rfl (by rw [hFs5]; rfl)
              exact DoesT_val (r_load (v := (.int .i64 pt)) e34 flat3 (Ext.cell X (Ext.cell X0 (E.cell (fun f => f) (hpc t pt hpt))))) (Chg.refl _ _) rfl
            refine DagStepsT.cons (fun s' w' X U H => ?_) ?_
            · have e31 : s' 31 = (.slice ba bn bc) := H 1 rfl 31 (.eq (.slice ba bn bc)) rfl (by rw [hFs5]; rfl)
              have e35 : s' 35 = (.int .i64 pt) := H 5 rfl 35 (.eq (.int .i64 pt)) rfl (by rw [hFs5]; rfl)
              have e30 : s' 30 = (.func (.func 97) #[] #[]) := H 0 rfl 30 (.eq (.func (.func 97) #[] #[])) rfl (by rw [hFs5]; rfl)
              exact DoesT_enter (r_callV (first := #[]) (cap := #[]) (vs := [(.slice ba bn bc), (.int .i64 pt)]) (ws := #[(.slice ba bn bc), (.int .i64 pt)]) e30 Try.func97 nm97 bd97 (lst2 e31 e35) rfl) (word4_own _ base bn ba bc xs pt (own_ext (own_ext hw X0) X) (by have := X0.size; have := X.size; omega) (by omega) hbn (by rw [hptx]; exact ptD_rng hpr hn.1 _))
            exact DagStepsT.nil
          · intro s' wd5 w5 X0 X5 U H
            obtain ⟨a36, c36, e36, O36⟩ := (show (.own (bytF base (bn + 4) (xs ++ bytes4 pt)) (bytF_ext _ _ _) : FactT ((fun y => (Value.slice ba bn bc).ownBlock = some y))).In (s' 36) w5 from H 6 36 (.own (bytF base (bn + 4) (xs ++ bytes4 pt)) (bytF_ext _ _ _)) rfl (by rw [hFs5]; rfl))
            obtain ⟨j5, rfl⟩ := Fits.out (σ := s') (l := [(1, (.pointer (some ⟨bw, 0, none⟩))), (2, (.pointer (some ⟨bo, 0, none⟩))), (19, (.slice (some ⟨rb, ro, none⟩) row.length rc)), (20, (.int .i64 ((row.length : Nat) : Int))), (21, (.int .i64 ((k : Nat) : Int))), (36, (.slice a36 (bn + 4) c36))]) ⟨U 1 rfl, U 2 rfl, U 19 rfl, U 20 rfl, U 21 rfl, e36, trivial⟩
            clear U H
            replace hW := Chg.keep X5 (fun h => by have := (hw.lt _ h).1; omega) (X0.keep hW)
            replace hO := Chg.keep X5 (fun h => by have := (hw.lt _ h).1; omega) (X0.keep hO)
            replace hD := Chg.keep X5 (fun h => by have := (hw.lt _ h).1; omega) (X0.keep hD)
            have hXm := Chg.trans (Ext.chg X0) X5
            replace E := (E.ext X0).step X5 (fun y hy h => by have := (hw.lt _ h).1; omega)
            refine WpL_val rfl rfl (by decide) (r_assign (v := (.slice a36 (bn + 4) c36)) rfl) ?_
            refine WpL_nil ?_
            refine inB_normal ?_
            refine thn_normal ?_
            refine Wp_region ?_
            refine WpL_val rfl rfl (by decide) (r_add (k := .i64) (a := ((k : Nat) : Int)) (b := 1) (c := ((k : Nat) : Int) + 1) rfl rfl (wI64 (by omega))) ?_
            refine WpL_val rfl rfl (by decide) (r_move (v := (.int .i64 (((k : Nat) : Int) + 1))) rfl) ?_
            refine WpL_nil ?_
            refine thn_normal ?_
            exact ⟨c - (k + 1), by omega, k + 1, xs ++ bytes4 pt, a36, c36, bn + 4, Fits.out ⟨rfl, rfl, rfl, rfl, rfl, rfl, trivial⟩, E, hW, hO, hD, (by omega), hxs2 _ hptx, (by simp [bytes4]; omega), (by simp [bytes4]; omega), O36, Nat.le_trans hbs hXm.size, rfl⟩
      · have khlt := hlt
        replace hlt := of_decide_eq_false hlt
        have hkk : k = c := by omega
        refine Wp_exit ?_
        refine thn_exit ?_
        refine thn_exit ?_
        refine inB_here ?_
        refine thn_normal ?_
        refine Wp_seq_region ?_
        refine WpL_val rfl rfl (by decide) (r_move (v := (.slice ba bn bc)) rfl) ?_
        refine WpL_val rfl rfl (by decide) (r_bytesOwn (l := xs) Try.underlying62 Try.underlying5 Try.underlying9 rfl hw hbn.symm (by omega)) ?_
        refine WpL_val rfl rfl (by decide) (r_assign (v := (.string (strOfNums xs))) rfl) ?_
        refine WpL_nil ?_
        refine Wp_ret ?_
        refine fin_tmp Try.results99 (v := (.string (strOfNums xs))) rfl ?_
        exact ⟨by rw [nextKey_bytes, ← hkk, ← hxs], E⟩
end Go.Proofs
