/- Contracts and plain lemmas, part 4. -/
import Derived.Tactics
import Derived.Deep.Quiet
import Derived.Laws.AppendOwn
import Derived.KernelRfl
import Derived.Laws.Entries
import Derived.Laws.Build
import Derived.Below
import Derived.RowKit3
import Derived.StillTail
import Derived.Sort.Grow
import Derived.Deep.Draws
import Derived.Test.YtgifkdbbgffemaaChecked
import Derived.Laws.StructEq
import Derived.MapKept
import Derived.Laws.BytesArg
import Derived.DeepKeys3
import Derived.OpenShut
import Derived.ChangeSlices
import Derived.Test.YtgifkdbbgffemaaRows
import Derived.Test.YtgifkdbbgffemaaCl3
namespace Go.Proofs
open Go Go.Eng Go.Sort
set_option maxRecDepth 100000
theorem ProgAt.row {F : Nat → Prop} {w : World} {pb a : Nat} {r : Re} {ins : Ins} (h : ProgAt F w pb r) (ha : (progOf r)[a]? = some ins) : ∃ (cb cc qb n : Nat) (row : List Value), Blk w pb #[.slice (some ⟨cb, 0, none⟩) n cc, iV (tempsOf r), iV 0] TPg ∧ CellsAt w cb (0 + a * 8) row ∧ RowF F w qb ins row ∧ (∀ r' ng, ins = .look r' ng → ProgAt F w qb r') ∧ a < n ∧ n ≤ 1000 ∧ F pb := by
  cases h with
  | @mk _ cb n cc _ rows pbs hB hF hF2 hb htm hn hl hc hr hs =>
    obtain ⟨row, hrow⟩ := get_of_lt (l := rows) (i := a) (by have := lt_of_get ha; omega)
    have h8 : ∀ q ∈ rows, q.length = 8 := fun q hq => by
      obtain ⟨i, hi⟩ := List.getElem?_of_mem hq
      obtain ⟨x, hx⟩ := get_of_lt (l := progOf r) (i := i) (by have := lt_of_get hi; omega)
      exact (hr i x q hx hi).len
    have hf := hr a ins row ha hrow
    refine ⟨cb, cc, pbs a, n, row, hB, fun i u hu => ?_, hf, fun r' ng e => hs a r' ng (e ▸ ha), by have := lt_of_get ha; omega, hb, hF⟩
    have h9 := flat8_get h8 hrow (f := i) (by have := lt_of_get hu; rw [hf.len] at this; exact this)
    rw [Nat.zero_add]
    have h10 := hc (a * 8 + i) u (h9.trans hu)
    rwa [Nat.zero_add] at h10
set_option maxHeartbeats 1000000 in
theorem try_jump {text : List Int} {code : List Ins} {a p d x : Nat} {B : List Int} {G : Grp} {o : Option (Grp × Nat)} (hc : code[a]? = some (.jump x)) (ih : RunC fRun text code x p d B G o) : RunC fTry text code a p d B G o := by
 intro r hcode F w0 rb pb mb bb ta tn tc es gf gt hC hA hFl hp
 subst hcode
 have hblk := hA.blk
 have hmap := hA.map
 have hbeg := hA.beg
 have hrl := hblk.lt
 have hml := hmap.lt
 have hbl := hbeg.lt
 have hd1 := hC.d1
 have hd2 := hC.d2
 have hd3 := hC.d3
 have hgl := hA.gl
 have htl := hC.tl
 obtain ⟨cb, cc, qb, n, row, hPb, hcl, hrow, hsub, han, hn1, hFpb⟩ := hC.prog.row hc
 have hpn := (hC.fl pb hFpb).2
 simp only [RowF] at hrow
 subst hrow
 refine Ret_of Try.func60 rfl Try.ntmps60 (Nat.le_of_ble_eq_true rfl) ?_
 have E : Chg (RMod rb mb bb) w0 w0 := Chg.refl _ _
 have E1 : Chg none1 w0 w0 := Chg.refl _ _
 refine Wp_seq_region ?_
 refine s_box (v := (.agg #[(I6 (a : Int)), (I6 (p : Int)), (I6 (d : Int))])) (c := #[(I6 (a : Int)), (I6 (p : Int)), (I6 (d : Int))]) (by decide) rfl rfl ?_
 intro bs ws Ns
 have Fs := Ns.ge E
 have Fs_E1 := Ns.ge E1
 have Os_rb := Ns.lt hblk
 have Os_bb := Ns.lt hbeg
 have Os_mb := Ns.ltM hmap
 have Os_pb := Ns.lt hPb
 replace hblk := Ns.keep hblk
 replace hbeg := Ns.keep hbeg
 replace hmap := Ns.keepM hmap
 replace hPb := Ns.keep hPb
 replace E := E.ext Ns.ext
 have Bs := Ns.blk
 replace E1 := E1.ext Ns.ext
 refine qA (.bool false) rfl ?_
 refine WpL_nil ?_
 obtain ⟨z0, hz0⟩ : ∃ z0, z0 = (ws).heap.size := ⟨_, rfl⟩
 have hz1 : w0.heap.size ≤ z0 := by rw [hz0]; exact E.size
 have hz2 : bs < z0 := by rw [hz0]; exact Bs.lt
 have hz_1 : w0.heap.size ≤ ws.heap.size := E.size
 have lz_1_rb : rb < ws.heap.size := hblk.lt
 have lz_1_bb : bb < ws.heap.size := hbeg.lt
 have lz_1_mb : mb < ws.heap.size := hmap.lt
 have lz_1_pb : pb < ws.heap.size := hPb.lt
 have lz_1_bs : bs < ws.heap.size := Bs.lt
 refine Wp_seq ?_
 obtain ⟨Fs1, hFs1⟩ : ∃ Fs : List FctS, Fs = [(fun _ _ v _ => v = (P6 rb 0)), (fun _ _ v _ => v = (P6 rb 0)), (fun _ _ v _ => v = (P6 rb 0)), (fun _ _ v _ => v = (P6 pb 0)), (fun _ _ v _ => v = (P6 pb 0)), (fun _ _ v _ => v = (P6 pb 0)), (fun _ _ v _ => v = (.slice (some ⟨cb, 0, none⟩) n cc)), (fun _ _ v _ => v = (P6 bs 0)), (fun _ _ v _ => v = (I6 (a : Int))), (fun _ _ v _ => v = (.pointer (some ⟨cb, 0 + a * 8, none⟩))), (fun _ _ v _ => v = (.agg #[(I6 2), (I6 (x : Int)), (I6 0), (I6 0), (I6 0), (.slice none 0 0), (.pointer none), (.bool false)])), (fun _ _ => alF 87 #[(I6 0), (I6 0), (I6 0), (I6 0), (I6 0), (.slice none 0 0), (.pointer none), (.bool false)] ws.heap.size), (fun _ _ v _ => v = undef)] := ⟨_, rfl⟩
 refine Wp_dagS (MsL []) [true, true, true, true, true, true, true, true, true, true, true, true, false] [12] [9, 10, 11, 12, 13, 14, 15, 16, 17, 18, 19, 5, 196] [[], [0], [1], [2], [3], [4], [5], [], [7], [6, 8], [9], [], []] [[], [0], [1, 0], [2, 1, 0], [3, 2, 1, 0], [4, 3, 2, 1, 0], [5, 4, 3, 2, 1, 0], [], [7], [6, 5, 4, 3, 2, 1, 0, 8, 7], [9, 6, 5, 4, 3, 2, 1, 0, 8, 7], [], []] Fs1 hFs1 (by kernel_rfl) mixed (by kernel_rfl) (by kernel_rfl) (by kernel_rfl) (by kernel_rfl) ?_ ?_
 ·intro wd X0
  refine qD (fun S s' w' hi hN X U V H => ?_) ?_
  ·replace X := X.mono (M' := none1) (fun y _ h => by
     obtain ⟨j, hj, h⟩ := h
     exact h.elim)
   exact DoesT_pure (r_move (v := (P6 rb 0)) (U 0 rfl)) rfl
  refine qD (fun S s' w' hi hN X U V H => ?_) ?_
  ·replace X := X.mono (M' := none1) (fun y _ h => by
     obtain ⟨j, hj, h⟩ := h
     exact h.elim)
   have e9 : s' 9 = (.pointer (some ⟨rb, 0, none⟩)) := (H 0 rfl).2 9 (fun _ _ v _ => v = (.pointer (some ⟨rb, 0, none⟩))) rfl (by rw [hFs1]; rfl)
   exact DoesT_pure (r_nilCheck (a := ⟨rb, 0, none⟩) e9) rfl
  refine qD (fun S s' w' hi hN X U V H => ?_) ?_
  ·replace X := X.mono (M' := none1) (fun y _ h => by
     obtain ⟨j, hj, h⟩ := h
     exact h.elim)
   have e10 : s' 10 = (.pointer (some ⟨rb, 0, none⟩)) := (H 1 rfl).2 10 (fun _ _ v _ => v = (.pointer (some ⟨rb, 0, none⟩))) rfl (by rw [hFs1]; rfl)
   exact DoesT_pure (r_fieldAddr (b := rb) (o := 0) (o' := 0) e10 Try.underlying80 rfl siz56 rfl) rfl
  refine qD (fun S s' w' hi hN X U V H => ?_) ?_
  ·replace X := X.mono (M' := none1) (fun y _ h => by
     obtain ⟨j, hj, h⟩ := h
     exact h.elim)
   have e11 : s' 11 = (.pointer (some ⟨rb, 0, none⟩)) := (H 2 rfl).2 11 (fun _ _ v _ => v = (.pointer (some ⟨rb, 0, none⟩))) rfl (by rw [hFs1]; rfl)
   exact DoesT_pure (r_load (v := (P6 pb 0)) e11 flat56 (((Ext.trans X0 X).keep hblk).cell rfl)) rfl
  refine qD (fun S s' w' hi hN X U V H => ?_) ?_
  ·replace X := X.mono (M' := none1) (fun y _ h => by
     obtain ⟨j, hj, h⟩ := h
     exact h.elim)
   have e12 : s' 12 = (.pointer (some ⟨pb, 0, none⟩)) := (H 3 rfl).2 12 (fun _ _ v _ => v = (.pointer (some ⟨pb, 0, none⟩))) rfl (by rw [hFs1]; rfl)
   exact DoesT_pure (r_nilCheck (a := ⟨pb, 0, none⟩) e12) rfl
  refine qD (fun S s' w' hi hN X U V H => ?_) ?_
  ·replace X := X.mono (M' := none1) (fun y _ h => by
     obtain ⟨j, hj, h⟩ := h
     exact h.elim)
   have e13 : s' 13 = (.pointer (some ⟨pb, 0, none⟩)) := (H 4 rfl).2 13 (fun _ _ v _ => v = (.pointer (some ⟨pb, 0, none⟩))) rfl (by rw [hFs1]; rfl)
   exact DoesT_pure (r_fieldAddr (b := pb) (o := 0) (o' := 0) e13 Try.underlying83 rfl siz81 rfl) rfl
  refine qD (fun S s' w' hi hN X U V H => ?_) ?_
  ·replace X := X.mono (M' := none1) (fun y _ h => by
     obtain ⟨j, hj, h⟩ := h
     exact h.elim)
   have e14 : s' 14 = (.pointer (some ⟨pb, 0, none⟩)) := (H 5 rfl).2 14 (fun _ _ v _ => v = (.pointer (some ⟨pb, 0, none⟩))) rfl (by rw [hFs1]; rfl)
   exact DoesT_pure (r_load (v := (.slice (some ⟨cb, 0, none⟩) n cc)) e14 flat81 (((X0.trans X).keep hPb).cell rfl)) rfl
  refine qD (fun S s' w' hi hN X U V H => ?_) ?_
  ·replace X := X.mono (M' := none1) (fun y _ h => by
     obtain ⟨j, hj, h⟩ := h
     exact h.elim)
   exact DoesT_pure (r_fieldAddr (b := bs) (o := 0) (o' := 0) (U 3 rfl) Try.underlying77 rfl siz3 rfl) rfl
  refine qD (fun S s' w' hi hN X U V H => ?_) ?_
  ·replace X := X.mono (M' := none1) (fun y _ h => by
     obtain ⟨j, hj, h⟩ := h
     exact h.elim)
   have e16 : s' 16 = (.pointer (some ⟨bs, 0, none⟩)) := (H 7 rfl).2 16 (fun _ _ v _ => v = (.pointer (some ⟨bs, 0, none⟩))) rfl (by rw [hFs1]; rfl)
   exact DoesT_pure (r_load (v := (I6 (a : Int))) e16 flat3 (((X0.trans X).keep Bs).cell rfl)) rfl
  refine qD (fun S s' w' hi hN X U V H => ?_) ?_
  ·replace X := X.mono (M' := none1) (fun y _ h => by
     obtain ⟨j, hj, h⟩ := h
     exact h.elim)
   have e15 : s' 15 = (.slice (some ⟨cb, 0, none⟩) n cc) := (H 6 rfl).2 15 (fun _ _ v _ => v = (.slice (some ⟨cb, 0, none⟩) n cc)) rfl (by rw [hFs1]; rfl)
   have e17 : s' 17 = (.int .i64 ((a : Nat) : Int)) := (H 8 rfl).2 17 (fun _ _ v _ => v = (.int .i64 ((a : Nat) : Int))) rfl (by rw [hFs1]; rfl)
   exact DoesT_pure (r_indexSlice (b := cb) (o := 0) (len := n) (cap := cc) (i := a) (o' := 0 + a * 8) e15 e17 rfl Try.underlying81 siz87 (by omega) (by omega)) rfl
  refine qD (fun S s' w' hi hN X U V H => ?_) ?_
  ·replace X := X.mono (M' := none1) (fun y _ h => by
     obtain ⟨j, hj, h⟩ := h
     exact h.elim)
   have e18 : s' 18 = (.pointer (some ⟨cb, 0 + a * 8, none⟩)) := (H 9 rfl).2 18 (fun _ _ v _ => v = (.pointer (some ⟨cb, 0 + a * 8, none⟩))) rfl (by rw [hFs1]; rfl)
   exact DoesT_pure (r_loadAgg (vs := [(I6 2), (I6 (x : Int)), (I6 0), (I6 0), (I6 0), (.slice none 0 0), (.pointer none), (.bool false)]) e18 agg87 siz87 rfl (hcl.ext (Ext.trans (Ns.ext) (Ext.trans X0 X)))) rfl
  refine DagStepsS.cons (StabS.chg (U := none1) (fun v w w' x h => alF_ext _ _ _ v w w' x h) (fun p y hp hw h => by
     exact h.elim)) (LocS.const) (fun S s' w' hi hN X U V H => Or.inl ⟨Guarded_none rfl, ?_⟩) ?_
  ·replace X := X.mono (M' := none1) (fun y _ h => by
     obtain ⟨j, hj, h⟩ := h
     exact h.elim)
   exact DoesT_alloc (c := #[(I6 0), (I6 0), (I6 0), (I6 0), (I6 0), (.slice none 0 0), (.pointer none), (.bool false)]) zer87 rfl (by have := X0.size; have := X.size; omega)
  refine DagStepsS.tail ?_
  exact DagStepsS.nil
 ·intro s' wd1 w1 X0 X1 U H
  replace X1 := X1.mono (M' := none1) (fun y _ h => by
    obtain ⟨j, hj, h⟩ := h
    exact h.elim)
  have e19 : s' 19 = (.agg #[(.int .i64 2), (.int .i64 ((x : Nat) : Int)), (.int .i64 0), (.int .i64 0), (.int .i64 0), (.slice none 0 0), (.pointer none), (.bool false)]) := H 10 rfl 19 (fun _ _ v _ => v = (.agg #[(.int .i64 2), (.int .i64 ((x : Nat) : Int)), (.int .i64 0), (.int .i64 0), (.int .i64 0), (.slice none 0 0), (.pointer none), (.bool false)])) rfl (by rw [hFs1]; rfl)
  obtain ⟨b5, e5, B5, g5⟩ := (show ((fun _ _ => alF 87 #[(.int .i64 0), (.int .i64 0), (.int .i64 0), (.int .i64 0), (.int .i64 0), (.slice none 0 0), (.pointer none), (.bool false)] ws.heap.size) : FctS) (allS [true, true, true, true, true, true, true, true, true, true, true, true, false]) s' (s' 5) w1 from H 11 rfl 5 (fun _ _ => alF 87 #[(.int .i64 0), (.int .i64 0), (.int .i64 0), (.int .i64 0), (.int .i64 0), (.slice none 0 0), (.pointer none), (.bool false)] ws.heap.size) rfl (by rw [hFs1]; rfl))
  obtain ⟨j1, rfl⟩ := Fits.out (σ := s') (l := [(0, (.pointer (some ⟨rb, 0, none⟩))), (3, (.pointer (some ⟨bs, 0, none⟩))), (19, (.agg #[(.int .i64 2), (.int .i64 ((x : Nat) : Int)), (.int .i64 0), (.int .i64 0), (.int .i64 0), (.slice none 0 0), (.pointer none), (.bool false)])), (5, (.pointer (some ⟨b5, 0, none⟩)))]) ⟨U 0 rfl, U 3 rfl, e19, e5, trivial⟩
  clear U H
  replace hblk := (X0.trans X1).keep hblk
  replace hbeg := (X0.trans X1).keep hbeg
  replace hmap := (X0.trans X1).keepM hmap
  replace hPb := (X0.trans X1).keep hPb
  replace Bs := (X0.trans X1).keep Bs
  replace X1 := X0.trans X1
  replace E := E.ext X1
  replace E1 := E1.ext X1
  refine s_storeAgg (b := b5) (o := 0) (c' := #[(I6 2), (I6 (x : Int)), (I6 0), (I6 0), (I6 0), (.slice none 0 0), (.pointer none), (.bool false)]) rfl rfl (by simp [Value.oneCell']) siz87 rfl B5 (by first | (simp; done) | exact Nat.le_of_ble_eq_true rfl) rfl ?_
  intro w2 S2
  replace hblk := S2.keep (by omega) hblk
  replace hbeg := S2.keep (by omega) hbeg
  replace hmap := S2.keepM (by omega) hmap
  replace hPb := S2.keep (by omega) hPb
  replace Bs := S2.keep (by omega) Bs
  replace E := S2.step E (by first | exact Or.inl (by omega) | exact Or.inr rfl | exact Or.inr (by assumption) | exact Or.inr (by simp) | exact Or.inr (by omega) | exact Or.inr (by dsimp only; omega))
  replace E1 := S2.step E1 (Or.inl (by omega))
  replace B5 := S2.blk
  refine WpL_nil (thn_normal (Wp_seq_region ?_))
  refine qV (r_loadAgg (vs := [(I6 (a : Int)), (I6 (p : Int)), (I6 (d : Int))]) rfl agg77 siz77 rfl (Bs.cells rfl)) ?_
  refine s_allocStore (v := (.agg #[(I6 (a : Int)), (I6 (p : Int)), (I6 (d : Int))])) (c := #[(I6 (a : Int)), (I6 (p : Int)), (I6 (d : Int))]) (n := 3) (by decide) zer77 rfl siz77 rfl rfl rfl (by simp [Value.oneCell']) ?_
  intro bn wn Nn
  have Fn := Nn.ge E
  have Fn_E1 := Nn.ge E1
  have On_rb := Nn.lt hblk
  have On_bb := Nn.lt hbeg
  have On_mb := Nn.ltM hmap
  have On_pb := Nn.lt hPb
  have On_bs := Nn.lt Bs
  have On_b5 := Nn.lt B5
  replace hblk := Nn.keep hblk
  replace hbeg := Nn.keep hbeg
  replace hmap := Nn.keepM hmap
  replace hPb := Nn.keep hPb
  replace Bs := Nn.keep Bs
  replace B5 := Nn.keep B5
  replace E := E.ext Nn.ext
  have Bn := Nn.blk
  replace E1 := E1.ext Nn.ext
  refine WpL_nil (Wp_seq_region ?_)
  refine qF bn 0 0 rfl Try.underlying77 rfl siz3 rfl ?_
  refine qV (r_load (v := (I6 (a : Int))) rfl flat3 (Bn.cell rfl)) ?_
  refine qV (r_add (k := .i64) (a := (a : Int)) (b := 1) (c := ((a + 1 : Nat) : Int)) rfl rfl ((wI64 (by omega)).trans (by omega))) ?_
  refine qF bn 0 0 rfl Try.underlying77 rfl siz3 rfl ?_
  refine s_store (b := bn) (o := 0) (c' := #[(I6 ((a + 1 : Nat) : Int)), (I6 (p : Int)), (I6 (d : Int))]) (v := (I6 ((a + 1 : Nat) : Int))) rfl rfl rfl siz3 Bn (by simp) rfl ?_
  intro w3 S3
  replace hblk := S3.keep (by omega) hblk
  replace hbeg := S3.keep (by omega) hbeg
  replace hmap := S3.keepM (by omega) hmap
  replace hPb := S3.keep (by omega) hPb
  replace Bs := S3.keep (by omega) Bs
  replace B5 := S3.keep (by omega) B5
  replace E := S3.step E (by first | exact Or.inl (by omega) | exact Or.inr rfl | exact Or.inr (by assumption) | exact Or.inr (by simp) | exact Or.inr (by omega) | exact Or.inr (by dsimp only; omega))
  replace E1 := S3.step E1 (Or.inl (by omega))
  replace Bn := S3.blk
  refine WpL_nil (Wp_seq (Wp_seq_region ?_))
  refine qF b5 0 0 rfl Try.underlying87 rfl siz3 rfl ?_
  refine qV (r_load (v := (I6 2)) rfl flat3 (B5.cell rfl)) ?_
  refine WpL_nil (Wp_block (Wp_seq_region ?_))
  refine qV (r_eql (k := .i64) (a := 2) (b := 0) rfl rfl) ?_
  refine qA (.bool false) rfl ?_
  refine WpL_nil ?_
  refine Wp_cond_false rfl ?_
  refine Wp_seq_region ?_
  refine qV (r_eql (k := .i64) (a := 2) (b := 1) rfl rfl) ?_
  refine qA (.bool false) rfl ?_
  refine WpL_nil ?_
  refine Wp_cond_false rfl ?_
  refine Wp_seq_region ?_
  refine qV (r_eql (k := .i64) (a := 2) (b := 2) rfl rfl) ?_
  refine qA (.bool true) rfl ?_
  refine WpL_nil ?_
  refine Wp_cond_true rfl ?_
  refine Wp_region ?_
  refine qF b5 0 1 rfl Try.underlying87 rfl siz3 rfl ?_
  refine qV (r_load (v := (I6 (x : Int))) rfl flat3 (B5.cell rfl)) ?_
  refine qF bn 0 0 rfl Try.underlying77 rfl siz3 rfl ?_
  refine s_store (b := bn) (o := 0) (c' := #[(I6 (x : Int)), (I6 (p : Int)), (I6 (d : Int))]) (v := (I6 (x : Int))) rfl rfl rfl siz3 Bn (by simp) rfl ?_
  intro w4 S4
  replace hblk := S4.keep (by omega) hblk
  replace hbeg := S4.keep (by omega) hbeg
  replace hmap := S4.keepM (by omega) hmap
  replace hPb := S4.keep (by omega) hPb
  replace Bs := S4.keep (by omega) Bs
  replace B5 := S4.keep (by omega) B5
  replace E := S4.step E (by first | exact Or.inl (by omega) | exact Or.inr rfl | exact Or.inr (by assumption) | exact Or.inr (by simp) | exact Or.inr (by omega) | exact Or.inr (by dsimp only; omega))
  replace E1 := S4.step E1 (Or.inl (by omega))
  replace Bn := S4.blk
  refine WpL_nil (inB_normal (thn_normal (Wp_seq_region ?_)))
  refine qM (P6 rb 0) rfl ?_
  refine qV (r_loadAgg (vs := [(I6 (x : Int)), (I6 (p : Int)), (I6 (d : Int))]) rfl agg77 siz77 rfl (Bn.cells rfl)) ?_
  refine WpL_enter rfl rfl (by decide) (r_callF (vs := [(P6 rb 0), (.agg #[(I6 (x : Int)), (I6 (p : Int)), (I6 (d : Int))])]) Try.func40 nm40 bd40 rfl) (ih r rfl F _ rb pb mb bb _ _ _ es gf gt (hC.mod E) ⟨hblk, hmap, hbeg, hgl⟩ hFl hp) ?_
  rintro _ w19 ⟨⟨rfl, hO⟩, C19⟩
  replace hPb := C19.keep (fun h => by rcases h with h | h | h <;> omega) hPb
  replace Bs := C19.keep (fun h => by rcases h with h | h | h <;> omega) Bs
  replace B5 := C19.keep (fun h => by rcases h with h | h | h <;> omega) B5
  replace Bn := C19.keep (fun h => by rcases h with h | h | h <;> omega) Bn
  replace E := E.step C19 (fun _ _ h => h)
  refine qA (.bool o.isSome) rfl ?_
  refine WpL_nil (Wp_ret ?_)
  refine fin_tmp Try.results60 (v := (.bool o.isSome)) rfl ?_
  exact ⟨⟨rfl, hO⟩, E⟩
set_option maxHeartbeats 2000000 in
theorem try_setN1 {text : List Int} {code : List Ins} {a p d : Nat} {l : List (Int × Int)} {B : List Int} {G : Grp} (hc : code[a]? = some (.set l)) {x : Int} (hx : text[p]? = some x) (hin : inS l x = false) : RunC fTry text code a p d B G none := by
 intro r hcode F w0 rb pb mb bb ta tn tc es gf gt hC hA hFl hp
 subst hcode
 have hblk := hA.blk
 have hmap := hA.map
 have hbeg := hA.beg
 have hrl := hblk.lt
 have hml := hmap.lt
 have hbl := hbeg.lt
 have hd1 := hC.d1
 have hd2 := hC.d2
 have hd3 := hC.d3
 have hgl := hA.gl
 have htl := hC.tl
 obtain ⟨cb, cc, qb, n, row, hPb, hcl, hrow, hsub, han, hn1, hFpb⟩ := hC.prog.row hc
 have hpn := (hC.fl pb hFpb).2
 simp only [RowF] at hrow
 obtain ⟨sv, rfl, hsv, hsf⟩ := hrow
 obtain ⟨sa, sc, rfl⟩ := SlAt.form hsv
 have hTn : tn = text.length := by have h9 := (SlAt.cap hC.txt).2; rw [List.length_map] at h9; exact h9.symm
 simp only [List.length_map] at hsv hcl
 have hpt := lt_of_get hx
 obtain ⟨tb, to, rfl, htx⟩ := ints_cells (n := tn) hC.txt (by omega)
 have hneq : decide ((((p : Nat) : Int) : Int) = ((tn : Nat) : Int)) = false := decide_eq_false (by omega)
 refine Ret_of Try.func60 rfl Try.ntmps60 (Nat.le_of_ble_eq_true rfl) ?_
 have E : Chg (RMod rb mb bb) w0 w0 := Chg.refl _ _
 have E1 : Chg none1 w0 w0 := Chg.refl _ _
 refine Wp_seq_region ?_
 refine s_box (v := (.agg #[(I6 (a : Int)), (I6 (p : Int)), (I6 (d : Int))])) (c := #[(I6 (a : Int)), (I6 (p : Int)), (I6 (d : Int))]) (by decide) rfl rfl ?_
 intro bs ws Ns
 have Fs := Ns.ge E
 have Fs_E1 := Ns.ge E1
 have Os_rb := Ns.lt hblk
 have Os_bb := Ns.lt hbeg
 have Os_mb := Ns.ltM hmap
 have Os_pb := Ns.lt hPb
 replace hblk := Ns.keep hblk
 replace hbeg := Ns.keep hbeg
 replace hmap := Ns.keepM hmap
 replace hPb := Ns.keep hPb
 replace E := E.ext Ns.ext
 have Bs := Ns.blk
 replace E1 := E1.ext Ns.ext
 refine qA (.bool false) rfl ?_
 refine WpL_nil ?_
 obtain ⟨z0, hz0⟩ : ∃ z0, z0 = (ws).heap.size := ⟨_, rfl⟩
 have hz1 : w0.heap.size ≤ z0 := by rw [hz0]; exact E.size
 have hz2 : bs < z0 := by rw [hz0]; exact Bs.lt
 have hz_1 : w0.heap.size ≤ ws.heap.size := E.size
 have lz_1_rb : rb < ws.heap.size := hblk.lt
 have lz_1_bb : bb < ws.heap.size := hbeg.lt
 have lz_1_mb : mb < ws.heap.size := hmap.lt
 have lz_1_pb : pb < ws.heap.size := hPb.lt
 have lz_1_bs : bs < ws.heap.size := Bs.lt
 refine Wp_seq ?_
 obtain ⟨Fs1, hFs1⟩ : ∃ Fs : List FctS, Fs = [(fun _ _ v _ => v = (P6 rb 0)), (fun _ _ v _ => v = (P6 rb 0)), (fun _ _ v _ => v = (P6 rb 0)), (fun _ _ v _ => v = (P6 pb 0)), (fun _ _ v _ => v = (P6 pb 0)), (fun _ _ v _ => v = (P6 pb 0)), (fun _ _ v _ => v = (.slice (some ⟨cb, 0, none⟩) n cc)), (fun _ _ v _ => v = (P6 bs 0)), (fun _ _ v _ => v = (I6 (a : Int))), (fun _ _ v _ => v = (.pointer (some ⟨cb, 0 + a * 8, none⟩))), (fun _ _ v _ => v = (.agg #[(I6 0), (I6 0), (I6 0), (I6 0), (I6 0), (.slice sa l.length sc), (.pointer none), (.bool false)])), (fun _ _ => alF 87 #[(I6 0), (I6 0), (I6 0), (I6 0), (I6 0), (.slice none 0 0), (.pointer none), (.bool false)] ws.heap.size), (fun _ _ v _ => v = undef)] := ⟨_, rfl⟩
 refine Wp_dagS (MsL []) [true, true, true, true, true, true, true, true, true, true, true, true, false] [12] [9, 10, 11, 12, 13, 14, 15, 16, 17, 18, 19, 5, 196] [[], [0], [1], [2], [3], [4], [5], [], [7], [6, 8], [9], [], []] [[], [0], [1, 0], [2, 1, 0], [3, 2, 1, 0], [4, 3, 2, 1, 0], [5, 4, 3, 2, 1, 0], [], [7], [6, 5, 4, 3, 2, 1, 0, 8, 7], [9, 6, 5, 4, 3, 2, 1, 0, 8, 7], [], []] Fs1 hFs1 (by kernel_rfl) mixed (by kernel_rfl) (by kernel_rfl) (by kernel_rfl) (by kernel_rfl) ?_ ?_
 ·intro wd X0
  refine qD (fun S s' w' hi hN X U V H => ?_) ?_
  ·replace X := X.mono (M' := none1) (fun y _ h => by
     obtain ⟨j, hj, h⟩ := h
     exact h.elim)
   exact DoesT_pure (r_move (v := (P6 rb 0)) (U 0 rfl)) rfl
  refine qD (fun S s' w' hi hN X U V H => ?_) ?_
  ·replace X := X.mono (M' := none1) (fun y _ h => by
     obtain ⟨j, hj, h⟩ := h
     exact h.elim)
   have e9 : s' 9 = (.pointer (some ⟨rb, 0, none⟩)) := (H 0 rfl).2 9 (fun _ _ v _ => v = (.pointer (some ⟨rb, 0, none⟩))) rfl (by rw [hFs1]; rfl)
   exact DoesT_pure (r_nilCheck (a := ⟨rb, 0, none⟩) e9) rfl
  refine qD (fun S s' w' hi hN X U V H => ?_) ?_
  ·replace X := X.mono (M' := none1) (fun y _ h => by
     obtain ⟨j, hj, h⟩ := h
     exact h.elim)
   have e10 : s' 10 = (.pointer (some ⟨rb, 0, none⟩)) := (H 1 rfl).2 10 (fun _ _ v _ => v = (.pointer (some ⟨rb, 0, none⟩))) rfl (by rw [hFs1]; rfl)
   exact DoesT_pure (r_fieldAddr (b := rb) (o := 0) (o' := 0) e10 Try.underlying80 rfl siz56 rfl) rfl
  refine qD (fun S s' w' hi hN X U V H => ?_) ?_
  ·replace X := X.mono (M' := none1) (fun y _ h => by
     obtain ⟨j, hj, h⟩ := h
     exact h.elim)
   have e11 : s' 11 = (.pointer (some ⟨rb, 0, none⟩)) := (H 2 rfl).2 11 (fun _ _ v _ => v = (.pointer (some ⟨rb, 0, none⟩))) rfl (by rw [hFs1]; rfl)
   exact DoesT_pure (r_load (v := (P6 pb 0)) e11 flat56 (((Ext.trans X0 X).keep hblk).cell rfl)) rfl
  refine qD (fun S s' w' hi hN X U V H => ?_) ?_
  ·replace X := X.mono (M' := none1) (fun y _ h => by
     obtain ⟨j, hj, h⟩ := h
     exact h.elim)
   have e12 : s' 12 = (.pointer (some ⟨pb, 0, none⟩)) := (H 3 rfl).2 12 (fun _ _ v _ => v = (.pointer (some ⟨pb, 0, none⟩))) rfl (by rw [hFs1]; rfl)
   exact DoesT_pure (r_nilCheck (a := ⟨pb, 0, none⟩) e12) rfl
  refine qD (fun S s' w' hi hN X U V H => ?_) ?_
  ·replace X := X.mono (M' := none1) (fun y _ h => by
     obtain ⟨j, hj, h⟩ := h
     exact h.elim)
   have e13 : s' 13 = (.pointer (some ⟨pb, 0, none⟩)) := (H 4 rfl).2 13 (fun _ _ v _ => v = (.pointer (some ⟨pb, 0, none⟩))) rfl (by rw [hFs1]; rfl)
   exact DoesT_pure (r_fieldAddr (b := pb) (o := 0) (o' := 0) e13 Try.underlying83 rfl siz81 rfl) rfl
  refine qD (fun S s' w' hi hN X U V H => ?_) ?_
  ·replace X := X.mono (M' := none1) (fun y _ h => by
     obtain ⟨j, hj, h⟩ := h
     exact h.elim)
   have e14 : s' 14 = (.pointer (some ⟨pb, 0, none⟩)) := (H 5 rfl).2 14 (fun _ _ v _ => v = (.pointer (some ⟨pb, 0, none⟩))) rfl (by rw [hFs1]; rfl)
   exact DoesT_pure (r_load (v := (.slice (some ⟨cb, 0, none⟩) n cc)) e14 flat81 (((X0.trans X).keep hPb).cell rfl)) rfl
  refine qD (fun S s' w' hi hN X U V H => ?_) ?_
  ·replace X := X.mono (M' := none1) (fun y _ h => by
     obtain ⟨j, hj, h⟩ := h
     exact h.elim)
   exact DoesT_pure (r_fieldAddr (b := bs) (o := 0) (o' := 0) (U 3 rfl) Try.underlying77 rfl siz3 rfl) rfl
  refine qD (fun S s' w' hi hN X U V H => ?_) ?_
  ·replace X := X.mono (M' := none1) (fun y _ h => by
     obtain ⟨j, hj, h⟩ := h
     exact h.elim)
   have e16 : s' 16 = (.pointer (some ⟨bs, 0, none⟩)) := (H 7 rfl).2 16 (fun _ _ v _ => v = (.pointer (some ⟨bs, 0, none⟩))) rfl (by rw [hFs1]; rfl)
   exact DoesT_pure (r_load (v := (I6 (a : Int))) e16 flat3 (((X0.trans X).keep Bs).cell rfl)) rfl
  refine qD (fun S s' w' hi hN X U V H => ?_) ?_
  ·replace X := X.mono (M' := none1) (fun y _ h => by
     obtain ⟨j, hj, h⟩ := h
     exact h.elim)
   have e15 : s' 15 = (.slice (some ⟨cb, 0, none⟩) n cc) := (H 6 rfl).2 15 (fun _ _ v _ => v = (.slice (some ⟨cb, 0, none⟩) n cc)) rfl (by rw [hFs1]; rfl)
   have e17 : s' 17 = (.int .i64 ((a : Nat) : Int)) := (H 8 rfl).2 17 (fun _ _ v _ => v = (.int .i64 ((a : Nat) : Int))) rfl (by rw [hFs1]; rfl)
   exact DoesT_pure (r_indexSlice (b := cb) (o := 0) (len := n) (cap := cc) (i := a) (o' := 0 + a * 8) e15 e17 rfl Try.underlying81 siz87 (by omega) (by omega)) rfl
  refine qD (fun S s' w' hi hN X U V H => ?_) ?_
  ·replace X := X.mono (M' := none1) (fun y _ h => by
     obtain ⟨j, hj, h⟩ := h
     exact h.elim)
   have e18 : s' 18 = (.pointer (some ⟨cb, 0 + a * 8, none⟩)) := (H 9 rfl).2 18 (fun _ _ v _ => v = (.pointer (some ⟨cb, 0 + a * 8, none⟩))) rfl (by rw [hFs1]; rfl)
   exact DoesT_pure (r_loadAgg (vs := [(I6 0), (I6 0), (I6 0), (I6 0), (I6 0), (.slice sa l.length sc), (.pointer none), (.bool false)]) e18 agg87 siz87 rfl (hcl.ext (Ext.trans (Ns.ext) (Ext.trans X0 X)))) rfl
  refine DagStepsS.cons (StabS.chg (U := none1) (fun v w w' x h => alF_ext _ _ _ v w w' x h) (fun p y hp hw h => by
     exact h.elim)) (LocS.const) (fun S s' w' hi hN X U V H => Or.inl ⟨Guarded_none rfl, ?_⟩) ?_
  ·replace X := X.mono (M' := none1) (fun y _ h => by
     obtain ⟨j, hj, h⟩ := h
     exact h.elim)
   exact DoesT_alloc (c := #[(I6 0), (I6 0), (I6 0), (I6 0), (I6 0), (.slice none 0 0), (.pointer none), (.bool false)]) zer87 rfl (by have := X0.size; have := X.size; omega)
  refine DagStepsS.tail ?_
  exact DagStepsS.nil
 ·intro s' wd1 w1 X0 X1 U H
  replace X1 := X1.mono (M' := none1) (fun y _ h => by
    obtain ⟨j, hj, h⟩ := h
    exact h.elim)
  have e19 : s' 19 = (.agg #[(.int .i64 0), (.int .i64 0), (.int .i64 0), (.int .i64 0), (.int .i64 0), (.slice sa l.length sc), (.pointer none), (.bool false)]) := H 10 rfl 19 (fun _ _ v _ => v = (.agg #[(.int .i64 0), (.int .i64 0), (.int .i64 0), (.int .i64 0), (.int .i64 0), (.slice sa l.length sc), (.pointer none), (.bool false)])) rfl (by rw [hFs1]; rfl)
  obtain ⟨b5, e5, B5, g5⟩ := (show ((fun _ _ => alF 87 #[(.int .i64 0), (.int .i64 0), (.int .i64 0), (.int .i64 0), (.int .i64 0), (.slice none 0 0), (.pointer none), (.bool false)] ws.heap.size) : FctS) (allS [true, true, true, true, true, true, true, true, true, true, true, true, false]) s' (s' 5) w1 from H 11 rfl 5 (fun _ _ => alF 87 #[(.int .i64 0), (.int .i64 0), (.int .i64 0), (.int .i64 0), (.int .i64 0), (.slice none 0 0), (.pointer none), (.bool false)] ws.heap.size) rfl (by rw [hFs1]; rfl))
  obtain ⟨j1, rfl⟩ := Fits.out (σ := s') (l := [(0, (.pointer (some ⟨rb, 0, none⟩))), (3, (.pointer (some ⟨bs, 0, none⟩))), (19, (.agg #[(.int .i64 0), (.int .i64 0), (.int .i64 0), (.int .i64 0), (.int .i64 0), (.slice sa l.length sc), (.pointer none), (.bool false)])), (5, (.pointer (some ⟨b5, 0, none⟩)))]) ⟨U 0 rfl, U 3 rfl, e19, e5, trivial⟩
  clear U H
  replace hblk := (X0.trans X1).keep hblk
  replace hbeg := (X0.trans X1).keep hbeg
  replace hmap := (X0.trans X1).keepM hmap
  replace hPb := (X0.trans X1).keep hPb
  replace Bs := (X0.trans X1).keep Bs
  replace X1 := X0.trans X1
  replace E := E.ext X1
  replace E1 := E1.ext X1
  refine s_storeAgg (b := b5) (o := 0) (c' := #[(I6 0), (I6 0), (I6 0), (I6 0), (I6 0), (.slice sa l.length sc), (.pointer none), (.bool false)]) rfl rfl (by simp [Value.oneCell']) siz87 rfl B5 (by first | (simp; done) | exact Nat.le_of_ble_eq_true rfl) rfl ?_
  intro w2 S2
  replace hblk := S2.keep (by omega) hblk
  replace hbeg := S2.keep (by omega) hbeg
  replace hmap := S2.keepM (by omega) hmap
  replace hPb := S2.keep (by omega) hPb
  replace Bs := S2.keep (by omega) Bs
  replace E := S2.step E (by first | exact Or.inl (by omega) | exact Or.inr rfl | exact Or.inr (by assumption) | exact Or.inr (by simp) | exact Or.inr (by omega) | exact Or.inr (by dsimp only; omega))
  replace E1 := S2.step E1 (Or.inl (by omega))
  replace B5 := S2.blk
  refine WpL_nil (thn_normal (Wp_seq_region ?_))
  refine qV (r_loadAgg (vs := [(I6 (a : Int)), (I6 (p : Int)), (I6 (d : Int))]) rfl agg77 siz77 rfl (Bs.cells rfl)) ?_
  refine s_allocStore (v := (.agg #[(I6 (a : Int)), (I6 (p : Int)), (I6 (d : Int))])) (c := #[(I6 (a : Int)), (I6 (p : Int)), (I6 (d : Int))]) (n := 3) (by decide) zer77 rfl siz77 rfl rfl rfl (by simp [Value.oneCell']) ?_
  intro bn wn Nn
  have Fn := Nn.ge E
  have Fn_E1 := Nn.ge E1
  have On_rb := Nn.lt hblk
  have On_bb := Nn.lt hbeg
  have On_mb := Nn.ltM hmap
  have On_pb := Nn.lt hPb
  have On_bs := Nn.lt Bs
  have On_b5 := Nn.lt B5
  replace hblk := Nn.keep hblk
  replace hbeg := Nn.keep hbeg
  replace hmap := Nn.keepM hmap
  replace hPb := Nn.keep hPb
  replace Bs := Nn.keep Bs
  replace B5 := Nn.keep B5
  replace E := E.ext Nn.ext
  have Bn := Nn.blk
  replace E1 := E1.ext Nn.ext
  refine WpL_nil (Wp_seq_region ?_)
  refine qF bn 0 0 rfl Try.underlying77 rfl siz3 rfl ?_
  refine qV (r_load (v := (I6 (a : Int))) rfl flat3 (Bn.cell rfl)) ?_
  refine qV (r_add (k := .i64) (a := (a : Int)) (b := 1) (c := ((a + 1 : Nat) : Int)) rfl rfl ((wI64 (by omega)).trans (by omega))) ?_
  refine qF bn 0 0 rfl Try.underlying77 rfl siz3 rfl ?_
  refine s_store (b := bn) (o := 0) (c' := #[(I6 ((a + 1 : Nat) : Int)), (I6 (p : Int)), (I6 (d : Int))]) (v := (I6 ((a + 1 : Nat) : Int))) rfl rfl rfl siz3 Bn (by simp) rfl ?_
  intro w3 S3
  replace hblk := S3.keep (by omega) hblk
  replace hbeg := S3.keep (by omega) hbeg
  replace hmap := S3.keepM (by omega) hmap
  replace hPb := S3.keep (by omega) hPb
  replace Bs := S3.keep (by omega) Bs
  replace B5 := S3.keep (by omega) B5
  replace E := S3.step E (by first | exact Or.inl (by omega) | exact Or.inr rfl | exact Or.inr (by assumption) | exact Or.inr (by simp) | exact Or.inr (by omega) | exact Or.inr (by dsimp only; omega))
  replace E1 := S3.step E1 (Or.inl (by omega))
  replace Bn := S3.blk
  refine WpL_nil (Wp_seq (Wp_seq_region ?_))
  refine qF b5 0 0 rfl Try.underlying87 rfl siz3 rfl ?_
  refine qV (r_load (v := (I6 0)) rfl flat3 (B5.cell rfl)) ?_
  refine WpL_nil (Wp_block (Wp_seq_region ?_))
  refine qV (r_eql (k := .i64) (a := 0) (b := 0) rfl rfl) ?_
  refine qA (.bool true) rfl ?_
  refine WpL_nil ?_
  refine Wp_cond_true rfl ?_
  refine Wp_seq ?_
  have hz_4 : w0.heap.size ≤ w3.heap.size := E.size
  have lz_4_rb : rb < w3.heap.size := hblk.lt
  have lz_4_bb : bb < w3.heap.size := hbeg.lt
  have lz_4_mb : mb < w3.heap.size := hmap.lt
  have lz_4_pb : pb < w3.heap.size := hPb.lt
  have lz_4_bs : bs < w3.heap.size := Bs.lt
  have lz_4_b5 : b5 < w3.heap.size := B5.lt
  have lz_4_bn : bn < w3.heap.size := Bn.lt
  refine Wp_seq ?_
  obtain ⟨Fs4, hFs4⟩ : ∃ Fs : List FctS, Fs = [(fun _ _ v _ => v = (P6 bs 1)), (fun _ _ v _ => v = (I6 (p : Int))), (fun _ _ v _ => v = (P6 rb 0)), (fun _ _ v _ => v = (P6 rb 0)), (fun _ _ v _ => v = (P6 rb 1)), (fun _ _ v _ => v = (.slice (some ⟨tb, to, none⟩) tn tc)), (fun _ _ v _ => v = (I6 (tn : Int))), (fun _ _ v _ => v = (.bool false)), (fun _ _ v _ => v = (.bool false)), (fun _ _ v _ => v = (P6 b5 5)), (fun _ _ v _ => v = (.slice sa l.length sc)), (fun _ _ v _ => v = (P6 rb 0)), (fun _ _ v _ => v = (P6 rb 0)), (fun _ _ v _ => v = (P6 rb 1)), (fun _ _ v _ => v = (.slice (some ⟨tb, to, none⟩) tn tc)), (fun _ _ v _ => v = (P6 bs 1)), (fun _ _ v _ => v = (I6 (p : Int))), (fun _ _ v _ => v = (.pointer (some ⟨tb, to + p, none⟩))), (fun _ _ v _ => v = (I6 x)), (fun _ _ v _ => v = (.bool (inS l x))), (fun _ _ v _ => v = (.bool (!(inS l x)))), (fun _ _ v _ => v = (.bool (!(inS l x))))] := ⟨_, rfl⟩
  refine Wp_dagS (MsL []) [true, true, true, true, true, true, true, true, true, true, true, true, true, true, true, true, true, true, true, true, true, true] [] [29, 30, 31, 32, 33, 34, 35, 36, 37, 38, 39, 40, 41, 42, 43, 44, 45, 46, 47, 48, 49, 50] [[], [0], [], [2], [3], [4], [5], [1, 6], [7], [8], [8, 9], [8], [8, 11], [8, 12], [8, 13], [8], [8, 15], [8, 14, 16], [8, 17], [8, 10, 18], [8, 19], [8, 20]] [[], [0], [], [2], [3, 2], [4, 3, 2], [5, 4, 3, 2], [1, 0, 6, 5, 4, 3, 2], [7, 1, 0, 6, 5, 4, 3, 2], [8, 7, 1, 0, 6, 5, 4, 3, 2], [8, 7, 1, 0, 6, 5, 4, 3, 2, 9], [8, 7, 1, 0, 6, 5, 4, 3, 2], [8, 7, 1, 0, 6, 5, 4, 3, 2, 11], [8, 7, 1, 0, 6, 5, 4, 3, 2, 12, 11], [8, 7, 1, 0, 6, 5, 4, 3, 2, 13, 12, 11], [8, 7, 1, 0, 6, 5, 4, 3, 2], [8, 7, 1, 0, 6, 5, 4, 3, 2, 15], [8, 7, 1, 0, 6, 5, 4, 3, 2, 14, 13, 12, 11, 16, 15], [8, 7, 1, 0, 6, 5, 4, 3, 2, 17, 14, 13, 12, 11, 16, 15], [8, 7, 1, 0, 6, 5, 4, 3, 2, 10, 9, 18, 17, 14, 13, 12, 11, 16, 15], [8, 7, 1, 0, 6, 5, 4, 3, 2, 19, 10, 9, 18, 17, 14, 13, 12, 11, 16, 15], [8, 7, 1, 0, 6, 5, 4, 3, 2, 20, 19, 10, 9, 18, 17, 14, 13, 12, 11, 16, 15]] Fs4 hFs4 (by kernel_rfl) mixed (by kernel_rfl) (by kernel_rfl) (by kernel_rfl) (by kernel_rfl) ?_ ?_
  ·intro wd X0
   refine qD (fun S s' w' hi hN X U V H => ?_) ?_
   ·replace X := X.mono (M' := none1) (fun y _ h => by
      obtain ⟨j, hj, h⟩ := h
      exact h.elim)
    exact DoesT_pure (r_fieldAddr (b := bs) (o := 0) (o' := 1) (U 3 rfl) Try.underlying77 rfl siz3 rfl) rfl
   refine qD (fun S s' w' hi hN X U V H => ?_) ?_
   ·replace X := X.mono (M' := none1) (fun y _ h => by
      obtain ⟨j, hj, h⟩ := h
      exact h.elim)
    have e29 : s' 29 = (.pointer (some ⟨bs, 1, none⟩)) := (H 0 rfl).2 29 (fun _ _ v _ => v = (.pointer (some ⟨bs, 1, none⟩))) rfl (by rw [hFs4]; rfl)
    exact DoesT_pure (r_load (v := (I6 (p : Int))) e29 flat3 (((X0.trans X).keep Bs).cell rfl)) rfl
   refine qD (fun S s' w' hi hN X U V H => ?_) ?_
   ·replace X := X.mono (M' := none1) (fun y _ h => by
      obtain ⟨j, hj, h⟩ := h
      exact h.elim)
    exact DoesT_pure (r_move (v := (P6 rb 0)) (U 0 rfl)) rfl
   refine qD (fun S s' w' hi hN X U V H => ?_) ?_
   ·replace X := X.mono (M' := none1) (fun y _ h => by
      obtain ⟨j, hj, h⟩ := h
      exact h.elim)
    have e31 : s' 31 = (.pointer (some ⟨rb, 0, none⟩)) := (H 2 rfl).2 31 (fun _ _ v _ => v = (.pointer (some ⟨rb, 0, none⟩))) rfl (by rw [hFs4]; rfl)
    exact DoesT_pure (r_nilCheck (a := ⟨rb, 0, none⟩) e31) rfl
   refine qD (fun S s' w' hi hN X U V H => ?_) ?_
   ·replace X := X.mono (M' := none1) (fun y _ h => by
      obtain ⟨j, hj, h⟩ := h
      exact h.elim)
    have e32 : s' 32 = (.pointer (some ⟨rb, 0, none⟩)) := (H 3 rfl).2 32 (fun _ _ v _ => v = (.pointer (some ⟨rb, 0, none⟩))) rfl (by rw [hFs4]; rfl)
    exact DoesT_pure (r_fieldAddr (b := rb) (o := 0) (o' := 1) e32 Try.underlying80 rfl siz22 rfl) rfl
   refine qD (fun S s' w' hi hN X U V H => ?_) ?_
   ·replace X := X.mono (M' := none1) (fun y _ h => by
      obtain ⟨j, hj, h⟩ := h
      exact h.elim)
    have e33 : s' 33 = (.pointer (some ⟨rb, 1, none⟩)) := (H 4 rfl).2 33 (fun _ _ v _ => v = (.pointer (some ⟨rb, 1, none⟩))) rfl (by rw [hFs4]; rfl)
    exact DoesT_pure (r_load (v := (.slice (some ⟨tb, to, none⟩) tn tc)) e33 flat22 (((Ext.trans X0 X).keep hblk).cell rfl)) rfl
   refine qD (fun S s' w' hi hN X U V H => ?_) ?_
   ·replace X := X.mono (M' := none1) (fun y _ h => by
      obtain ⟨j, hj, h⟩ := h
      exact h.elim)
    have e34 : s' 34 = (.slice (some ⟨tb, to, none⟩) tn tc) := (H 5 rfl).2 34 (fun _ _ v _ => v = (.slice (some ⟨tb, to, none⟩) tn tc)) rfl (by rw [hFs4]; rfl)
    exact DoesT_pure (r_lenSlice (ad := some ⟨tb, to, none⟩) (n := tn) (cap := tc) Try.underlying22 e34) rfl
   refine qD (fun S s' w' hi hN X U V H => ?_) ?_
   ·replace X := X.mono (M' := none1) (fun y _ h => by
      obtain ⟨j, hj, h⟩ := h
      exact h.elim)
    have e30 : s' 30 = (.int .i64 ((p : Nat) : Int)) := (H 1 rfl).2 30 (fun _ _ v _ => v = (.int .i64 ((p : Nat) : Int))) rfl (by rw [hFs4]; rfl)
    have e35 : s' 35 = (.int .i64 ((tn : Nat) : Int)) := (H 6 rfl).2 35 (fun _ _ v _ => v = (.int .i64 ((tn : Nat) : Int))) rfl (by rw [hFs4]; rfl)
    exact DoesT_pure (Eq.trans (r_eql (k := .i64) (a := (p : Int)) (b := (tn : Int)) e30 e35) (by rw [hneq])) rfl
   refine qD (fun S s' w' hi hN X U V H => ?_) ?_
   ·replace X := X.mono (M' := none1) (fun y _ h => by
      obtain ⟨j, hj, h⟩ := h
      exact h.elim)
    have e36 : s' 36 = (.bool false) := (H 7 rfl).2 36 (fun _ _ v _ => v = (.bool false)) rfl (by rw [hFs4]; rfl)
    exact DoesT_pure (r_move (v := (.bool false)) e36) rfl
   refine DagStepsS.cons (StabS.eq) (LocS.const) (fun S s' w' hi hN X U V H => Or.inl ⟨Guarded_some rfl rfl (d := 37) ((H 8 rfl).2 37 (fun _ _ v _ => v = (.bool false)) rfl (by rw [hFs4]; rfl)), ?_⟩) ?_
   ·replace X := X.mono (M' := none1) (fun y _ h => by
      obtain ⟨j, hj, h⟩ := h
      exact h.elim)
    exact DoesT_pure (r_fieldAddr (b := b5) (o := 0) (o' := 5) (U 5 rfl) Try.underlying87 rfl siz24 rfl) rfl
   refine DagStepsS.cons (StabS.eq) (LocS.const) (fun S s' w' hi hN X U V H => Or.inl ⟨Guarded_some rfl rfl (d := 37) ((H 8 rfl).2 37 (fun _ _ v _ => v = (.bool false)) rfl (by rw [hFs4]; rfl)), ?_⟩) ?_
   ·replace X := X.mono (M' := none1) (fun y _ h => by
      obtain ⟨j, hj, h⟩ := h
      exact h.elim)
    have e38 : s' 38 = (.pointer (some ⟨b5, 5, none⟩)) := (H 9 rfl).2 38 (fun _ _ v _ => v = (.pointer (some ⟨b5, 5, none⟩))) rfl (by rw [hFs4]; rfl)
    exact DoesT_pure (r_load (v := (.slice sa l.length sc)) e38 flat24 (((X0.trans X).keep B5).cell rfl)) rfl
   refine DagStepsS.cons (StabS.eq) (LocS.const) (fun S s' w' hi hN X U V H => Or.inl ⟨Guarded_some rfl rfl (d := 37) ((H 8 rfl).2 37 (fun _ _ v _ => v = (.bool false)) rfl (by rw [hFs4]; rfl)), ?_⟩) ?_
   ·replace X := X.mono (M' := none1) (fun y _ h => by
      obtain ⟨j, hj, h⟩ := h
      exact h.elim)
    exact DoesT_pure (r_move (v := (P6 rb 0)) (U 0 rfl)) rfl
   refine DagStepsS.cons (StabS.eq) (LocS.const) (fun S s' w' hi hN X U V H => Or.inl ⟨Guarded_some rfl rfl (d := 37) ((H 8 rfl).2 37 (fun _ _ v _ => v = (.bool false)) rfl (by rw [hFs4]; rfl)), ?_⟩) ?_
   ·replace X := X.mono (M' := none1) (fun y _ h => by
      obtain ⟨j, hj, h⟩ := h
      exact h.elim)
    have e40 : s' 40 = (.pointer (some ⟨rb, 0, none⟩)) := (H 11 rfl).2 40 (fun _ _ v _ => v = (.pointer (some ⟨rb, 0, none⟩))) rfl (by rw [hFs4]; rfl)
    exact DoesT_pure (r_nilCheck (a := ⟨rb, 0, none⟩) e40) rfl
   refine DagStepsS.cons (StabS.eq) (LocS.const) (fun S s' w' hi hN X U V H => Or.inl ⟨Guarded_some rfl rfl (d := 37) ((H 8 rfl).2 37 (fun _ _ v _ => v = (.bool false)) rfl (by rw [hFs4]; rfl)), ?_⟩) ?_
   ·replace X := X.mono (M' := none1) (fun y _ h => by
      obtain ⟨j, hj, h⟩ := h
      exact h.elim)
    have e41 : s' 41 = (.pointer (some ⟨rb, 0, none⟩)) := (H 12 rfl).2 41 (fun _ _ v _ => v = (.pointer (some ⟨rb, 0, none⟩))) rfl (by rw [hFs4]; rfl)
    exact DoesT_pure (r_fieldAddr (b := rb) (o := 0) (o' := 1) e41 Try.underlying80 rfl siz22 rfl) rfl
   refine DagStepsS.cons (StabS.eq) (LocS.const) (fun S s' w' hi hN X U V H => Or.inl ⟨Guarded_some rfl rfl (d := 37) ((H 8 rfl).2 37 (fun _ _ v _ => v = (.bool false)) rfl (by rw [hFs4]; rfl)), ?_⟩) ?_
   ·replace X := X.mono (M' := none1) (fun y _ h => by
      obtain ⟨j, hj, h⟩ := h
      exact h.elim)
    have e42 : s' 42 = (.pointer (some ⟨rb, 1, none⟩)) := (H 13 rfl).2 42 (fun _ _ v _ => v = (.pointer (some ⟨rb, 1, none⟩))) rfl (by rw [hFs4]; rfl)
    exact DoesT_pure (r_load (v := (.slice (some ⟨tb, to, none⟩) tn tc)) e42 flat22 (((Ext.trans X0 X).keep hblk).cell rfl)) rfl
   refine DagStepsS.cons (StabS.eq) (LocS.const) (fun S s' w' hi hN X U V H => Or.inl ⟨Guarded_some rfl rfl (d := 37) ((H 8 rfl).2 37 (fun _ _ v _ => v = (.bool false)) rfl (by rw [hFs4]; rfl)), ?_⟩) ?_
   ·replace X := X.mono (M' := none1) (fun y _ h => by
      obtain ⟨j, hj, h⟩ := h
      exact h.elim)
    exact DoesT_pure (r_fieldAddr (b := bs) (o := 0) (o' := 1) (U 3 rfl) Try.underlying77 rfl siz3 rfl) rfl
   refine DagStepsS.cons (StabS.eq) (LocS.const) (fun S s' w' hi hN X U V H => Or.inl ⟨Guarded_some rfl rfl (d := 37) ((H 8 rfl).2 37 (fun _ _ v _ => v = (.bool false)) rfl (by rw [hFs4]; rfl)), ?_⟩) ?_
   ·replace X := X.mono (M' := none1) (fun y _ h => by
      obtain ⟨j, hj, h⟩ := h
      exact h.elim)
    have e44 : s' 44 = (.pointer (some ⟨bs, 1, none⟩)) := (H 15 rfl).2 44 (fun _ _ v _ => v = (.pointer (some ⟨bs, 1, none⟩))) rfl (by rw [hFs4]; rfl)
    exact DoesT_pure (r_load (v := (I6 (p : Int))) e44 flat3 (((X0.trans X).keep Bs).cell rfl)) rfl
   refine DagStepsS.cons (StabS.eq) (LocS.const) (fun S s' w' hi hN X U V H => Or.inl ⟨Guarded_some rfl rfl (d := 37) ((H 8 rfl).2 37 (fun _ _ v _ => v = (.bool false)) rfl (by rw [hFs4]; rfl)), ?_⟩) ?_
   ·replace X := X.mono (M' := none1) (fun y _ h => by
      obtain ⟨j, hj, h⟩ := h
      exact h.elim)
    have e43 : s' 43 = (.slice (some ⟨tb, to, none⟩) tn tc) := (H 14 rfl).2 43 (fun _ _ v _ => v = (.slice (some ⟨tb, to, none⟩) tn tc)) rfl (by rw [hFs4]; rfl)
    have e45 : s' 45 = (.int .i64 ((p : Nat) : Int)) := (H 16 rfl).2 45 (fun _ _ v _ => v = (.int .i64 ((p : Nat) : Int))) rfl (by rw [hFs4]; rfl)
    exact DoesT_pure (r_indexSlice (b := tb) (o := to) (len := tn) (cap := tc) (i := p) (o' := to + p) e43 e45 rfl Try.underlying22 siz3 (by omega) (by omega)) rfl
   refine DagStepsS.cons (StabS.eq) (LocS.const) (fun S s' w' hi hN X U V H => Or.inl ⟨Guarded_some rfl rfl (d := 37) ((H 8 rfl).2 37 (fun _ _ v _ => v = (.bool false)) rfl (by rw [hFs4]; rfl)), ?_⟩) ?_
   ·replace X := X.mono (M' := none1) (fun y _ h => by
      obtain ⟨j, hj, h⟩ := h
      exact h.elim)
    have e46 : s' 46 = (.pointer (some ⟨tb, to + p, none⟩)) := (H 17 rfl).2 46 (fun _ _ v _ => v = (.pointer (some ⟨tb, to + p, none⟩))) rfl (by rw [hFs4]; rfl)
    exact DoesT_pure (r_load (v := (I6 x)) e46 flat3 ((Ext.trans E1 (X0.trans X)).cell (htx p x hx))) rfl
   refine DagStepsS.cons (StabS.eq) (LocS.const) (fun S s' w' hi hN X U V H => Or.inl ⟨Guarded_some rfl rfl (d := 37) ((H 8 rfl).2 37 (fun _ _ v _ => v = (.bool false)) rfl (by rw [hFs4]; rfl)), ?_⟩) ?_
   ·replace X := X.mono (M' := none1) (fun y _ h => by
      obtain ⟨j, hj, h⟩ := h
      exact h.elim)
    have e39 : s' 39 = (.slice sa l.length sc) := (H 10 rfl).2 39 (fun _ _ v _ => v = (.slice sa l.length sc)) rfl (by rw [hFs4]; rfl)
    have e47 : s' 47 = (.int .i64 x) := (H 18 rfl).2 47 (fun _ _ v _ => v = (.int .i64 x)) rfl (by rw [hFs4]; rfl)
    exact DoesT_callE (r_callF (vs := [(.slice sa l.length sc), (I6 x)]) Try.func68 nm68 bd68 (lst2 e39 e47)) (in_c _ _ l x (hsv.ext (Ext.trans E1 (X0.trans X))))
   refine DagStepsS.cons (StabS.eq) (LocS.const) (fun S s' w' hi hN X U V H => Or.inl ⟨Guarded_some rfl rfl (d := 37) ((H 8 rfl).2 37 (fun _ _ v _ => v = (.bool false)) rfl (by rw [hFs4]; rfl)), ?_⟩) ?_
   ·replace X := X.mono (M' := none1) (fun y _ h => by
      obtain ⟨j, hj, h⟩ := h
      exact h.elim)
    have e48 : s' 48 = (.bool (inS l x)) := (H 19 rfl).2 48 (fun _ _ v _ => v = (.bool (inS l x))) rfl (by rw [hFs4]; rfl)
    exact DoesT_pure (r_not (b := inS l x) e48) rfl
   refine qD (fun S s' w' hi hN X U V H => ?_) ?_
   ·replace X := X.mono (M' := none1) (fun y _ h => by
      obtain ⟨j, hj, h⟩ := h
      exact h.elim)
    have e37 : s' 37 = (.bool false) := (H 8 rfl).2 37 (fun _ _ v _ => v = (.bool false)) rfl (by rw [hFs4]; rfl)
    have e49 : s' 49 = (.bool (!(inS l x))) := (H 20 rfl).2 49 (fun _ _ v _ => v = (.bool (!(inS l x)))) rfl (by rw [hFs4]; rfl)
    exact DoesT_pure (r_pick (b := false) (v := (.bool (!(inS l x)))) e37 e49) rfl
   exact DagStepsS.nil
  ·intro s' wd4 w4 X0 X4 U H
   replace X4 := X4.mono (M' := none1) (fun y _ h => by
     obtain ⟨j, hj, h⟩ := h
     exact h.elim)
   have e50 : s' 50 = (.bool (!(inS l x))) := H 21 rfl 50 (fun _ _ v _ => v = (.bool (!(inS l x)))) rfl (by rw [hFs4]; rfl)
   obtain ⟨j4, rfl⟩ := Fits.out (σ := s') (l := [(0, (.pointer (some ⟨rb, 0, none⟩))), (6, (.pointer (some ⟨bn, 0, none⟩))), (50, (.bool (!(inS l x))))]) ⟨U 0 rfl, U 6 rfl, e50, trivial⟩
   clear U H
   replace hblk := (X0.trans X4).keep hblk
   replace hbeg := (X0.trans X4).keep hbeg
   replace hmap := (X0.trans X4).keepM hmap
   replace hPb := (X0.trans X4).keep hPb
   replace Bs := (X0.trans X4).keep Bs
   replace B5 := (X0.trans X4).keep B5
   replace Bn := (X0.trans X4).keep Bn
   replace X4 := X0.trans X4
   replace E := E.ext X4
   replace E1 := E1.ext X4
   refine WpL_nil (thn_normal ?_)
   have hc5 : (!(inS l x)) = true := by rw [hin]; rfl
   refine Wp_cond_true (congrArg Value.bool hc5) ?_
   refine Wp_seq_region ?_
   refine qA (.bool false) rfl ?_
   refine WpL_nil (Wp_ret (thn_ret (inB_ret (thn_ret ?_))))
   refine fin_tmp Try.results60 (v := (.bool false)) rfl ?_
   exact ⟨⟨rfl, es, B, gt, G, ⟨hblk, hmap, hbeg, hgl⟩, rfl, hFl, fun _ => ⟨rfl, rfl, rfl⟩, fun q hq => by cases hq⟩, E⟩
set_option maxHeartbeats 2000000 in
theorem try_setN2 {text : List Int} {code : List Ins} {a p d : Nat} {l : List (Int × Int)} {B : List Int} {G : Grp} (hc : code[a]? = some (.set l)) (hx : text[p]? = none) : RunC fTry text code a p d B G none := by
 intro r hcode F w0 rb pb mb bb ta tn tc es gf gt hC hA hFl hp
 subst hcode
 have hblk := hA.blk
 have hmap := hA.map
 have hbeg := hA.beg
 have hrl := hblk.lt
 have hml := hmap.lt
 have hbl := hbeg.lt
 have hd1 := hC.d1
 have hd2 := hC.d2
 have hd3 := hC.d3
 have hgl := hA.gl
 have htl := hC.tl
 obtain ⟨cb, cc, qb, n, row, hPb, hcl, hrow, hsub, han, hn1, hFpb⟩ := hC.prog.row hc
 have hpn := (hC.fl pb hFpb).2
 simp only [RowF] at hrow
 obtain ⟨sv, rfl, hsv, hsf⟩ := hrow
 obtain ⟨sa, sc, rfl⟩ := SlAt.form hsv
 have hTn : tn = text.length := by have h9 := (SlAt.cap hC.txt).2; rw [List.length_map] at h9; exact h9.symm
 simp only [List.length_map] at hsv hcl
 have hpt : text.length ≤ p := by rcases Nat.lt_or_ge p text.length with h | h; rw [List.getElem?_eq_getElem h] at hx; cases hx; exact h
 have hneq : decide ((((p : Nat) : Int) : Int) = ((tn : Nat) : Int)) = true := decide_eq_true (by omega)
 refine Ret_of Try.func60 rfl Try.ntmps60 (Nat.le_of_ble_eq_true rfl) ?_
 have E : Chg (RMod rb mb bb) w0 w0 := Chg.refl _ _
 have E1 : Chg none1 w0 w0 := Chg.refl _ _
 refine Wp_seq_region ?_
 refine s_box (v := (.agg #[(I6 (a : Int)), (I6 (p : Int)), (I6 (d : Int))])) (c := #[(I6 (a : Int)), (I6 (p : Int)), (I6 (d : Int))]) (by decide) rfl rfl ?_
 intro bs ws Ns
 have Fs := Ns.ge E
 have Fs_E1 := Ns.ge E1
 have Os_rb := Ns.lt hblk
 have Os_bb := Ns.lt hbeg
 have Os_mb := Ns.ltM hmap
 have Os_pb := Ns.lt hPb
 replace hblk := Ns.keep hblk
 replace hbeg := Ns.keep hbeg
 replace hmap := Ns.keepM hmap
 replace hPb := Ns.keep hPb
 replace E := E.ext Ns.ext
 have Bs := Ns.blk
 replace E1 := E1.ext Ns.ext
 refine qA (.bool false) rfl ?_
 refine WpL_nil ?_
 obtain ⟨z0, hz0⟩ : ∃ z0, z0 = (ws).heap.size := ⟨_, rfl⟩
 have hz1 : w0.heap.size ≤ z0 := by rw [hz0]; exact E.size
 have hz2 : bs < z0 := by rw [hz0]; exact Bs.lt
 have hz_1 : w0.heap.size ≤ ws.heap.size := E.size
 have lz_1_rb : rb < ws.heap.size := hblk.lt
 have lz_1_bb : bb < ws.heap.size := hbeg.lt
 have lz_1_mb : mb < ws.heap.size := hmap.lt
 have lz_1_pb : pb < ws.heap.size := hPb.lt
 have lz_1_bs : bs < ws.heap.size := Bs.lt
 refine Wp_seq ?_
 obtain ⟨Fs1, hFs1⟩ : ∃ Fs : List FctS, Fs = [(fun _ _ v _ => v = (P6 rb 0)), (fun _ _ v _ => v = (P6 rb 0)), (fun _ _ v _ => v = (P6 rb 0)), (fun _ _ v _ => v = (P6 pb 0)), (fun _ _ v _ => v = (P6 pb 0)), (fun _ _ v _ => v = (P6 pb 0)), (fun _ _ v _ => v = (.slice (some ⟨cb, 0, none⟩) n cc)), (fun _ _ v _ => v = (P6 bs 0)), (fun _ _ v _ => v = (I6 (a : Int))), (fun _ _ v _ => v = (.pointer (some ⟨cb, 0 + a * 8, none⟩))), (fun _ _ v _ => v = (.agg #[(I6 0), (I6 0), (I6 0), (I6 0), (I6 0), (.slice sa l.length sc), (.pointer none), (.bool false)])), (fun _ _ => alF 87 #[(I6 0), (I6 0), (I6 0), (I6 0), (I6 0), (.slice none 0 0), (.pointer none), (.bool false)] ws.heap.size), (fun _ _ v _ => v = undef)] := ⟨_, rfl⟩
 refine Wp_dagS (MsL []) [true, true, true, true, true, true, true, true, true, true, true, true, false] [12] [9, 10, 11, 12, 13, 14, 15, 16, 17, 18, 19, 5, 196] [[], [0], [1], [2], [3], [4], [5], [], [7], [6, 8], [9], [], []] [[], [0], [1, 0], [2, 1, 0], [3, 2, 1, 0], [4, 3, 2, 1, 0], [5, 4, 3, 2, 1, 0], [], [7], [6, 5, 4, 3, 2, 1, 0, 8, 7], [9, 6, 5, 4, 3, 2, 1, 0, 8, 7], [], []] Fs1 hFs1 (by kernel_rfl) mixed (by kernel_rfl) (by kernel_rfl) (by kernel_rfl) (by kernel_rfl) ?_ ?_
 ·intro wd X0
  refine qD (fun S s' w' hi hN X U V H => ?_) ?_
  ·replace X := X.mono (M' := none1) (fun y _ h => by
     obtain ⟨j, hj, h⟩ := h
     exact h.elim)
   exact DoesT_pure (r_move (v := (P6 rb 0)) (U 0 rfl)) rfl
  refine qD (fun S s' w' hi hN X U V H => ?_) ?_
  ·replace X := X.mono (M' := none1) (fun y _ h => by
     obtain ⟨j, hj, h⟩ := h
     exact h.elim)
   have e9 : s' 9 = (.pointer (some ⟨rb, 0, none⟩)) := (H 0 rfl).2 9 (fun _ _ v _ => v = (.pointer (some ⟨rb, 0, none⟩))) rfl (by rw [hFs1]; rfl)
   exact DoesT_pure (r_nilCheck (a := ⟨rb, 0, none⟩) e9) rfl
  refine qD (fun S s' w' hi hN X U V H => ?_) ?_
  ·replace X := X.mono (M' := none1) (fun y _ h => by
     obtain ⟨j, hj, h⟩ := h
     exact h.elim)
   have e10 : s' 10 = (.pointer (some ⟨rb, 0, none⟩)) := (H 1 rfl).2 10 (fun _ _ v _ => v = (.pointer (some ⟨rb, 0, none⟩))) rfl (by rw [hFs1]; rfl)
   exact DoesT_pure (r_fieldAddr (b := rb) (o := 0) (o' := 0) e10 Try.underlying80 rfl siz56 rfl) rfl
  refine qD (fun S s' w' hi hN X U V H => ?_) ?_
  ·replace X := X.mono (M' := none1) (fun y _ h => by
     obtain ⟨j, hj, h⟩ := h
     exact h.elim)
   have e11 : s' 11 = (.pointer (some ⟨rb, 0, none⟩)) := (H 2 rfl).2 11 (fun _ _ v _ => v = (.pointer (some ⟨rb, 0, none⟩))) rfl (by rw [hFs1]; rfl)
   exact DoesT_pure (r_load (v := (P6 pb 0)) e11 flat56 (((Ext.trans X0 X).keep hblk).cell rfl)) rfl
  refine qD (fun S s' w' hi hN X U V H => ?_) ?_
  ·replace X := X.mono (M' := none1) (fun y _ h => by
     obtain ⟨j, hj, h⟩ := h
     exact h.elim)
   have e12 : s' 12 = (.pointer (some ⟨pb, 0, none⟩)) := (H 3 rfl).2 12 (fun _ _ v _ => v = (.pointer (some ⟨pb, 0, none⟩))) rfl (by rw [hFs1]; rfl)
   exact DoesT_pure (r_nilCheck (a := ⟨pb, 0, none⟩) e12) rfl
  refine qD (fun S s' w' hi hN X U V H => ?_) ?_
  ·replace X := X.mono (M' := none1) (fun y _ h => by
     obtain ⟨j, hj, h⟩ := h
     exact h.elim)
   have e13 : s' 13 = (.pointer (some ⟨pb, 0, none⟩)) := (H 4 rfl).2 13 (fun _ _ v _ => v = (.pointer (some ⟨pb, 0, none⟩))) rfl (by rw [hFs1]; rfl)
   exact DoesT_pure (r_fieldAddr (b := pb) (o := 0) (o' := 0) e13 Try.underlying83 rfl siz81 rfl) rfl
  refine qD (fun S s' w' hi hN X U V H => ?_) ?_
  ·replace X := X.mono (M' := none1) (fun y _ h => by
     obtain ⟨j, hj, h⟩ := h
     exact h.elim)
   have e14 : s' 14 = (.pointer (some ⟨pb, 0, none⟩)) := (H 5 rfl).2 14 (fun _ _ v _ => v = (.pointer (some ⟨pb, 0, none⟩))) rfl (by rw [hFs1]; rfl)
   exact DoesT_pure (r_load (v := (.slice (some ⟨cb, 0, none⟩) n cc)) e14 flat81 (((X0.trans X).keep hPb).cell rfl)) rfl
  refine qD (fun S s' w' hi hN X U V H => ?_) ?_
  ·replace X := X.mono (M' := none1) (fun y _ h => by
     obtain ⟨j, hj, h⟩ := h
     exact h.elim)
   exact DoesT_pure (r_fieldAddr (b := bs) (o := 0) (o' := 0) (U 3 rfl) Try.underlying77 rfl siz3 rfl) rfl
  refine qD (fun S s' w' hi hN X U V H => ?_) ?_
  ·replace X := X.mono (M' := none1) (fun y _ h => by
     obtain ⟨j, hj, h⟩ := h
     exact h.elim)
   have e16 : s' 16 = (.pointer (some ⟨bs, 0, none⟩)) := (H 7 rfl).2 16 (fun _ _ v _ => v = (.pointer (some ⟨bs, 0, none⟩))) rfl (by rw [hFs1]; rfl)
   exact DoesT_pure (r_load (v := (I6 (a : Int))) e16 flat3 (((X0.trans X).keep Bs).cell rfl)) rfl
  refine qD (fun S s' w' hi hN X U V H => ?_) ?_
  ·replace X := X.mono (M' := none1) (fun y _ h => by
     obtain ⟨j, hj, h⟩ := h
     exact h.elim)
   have e15 : s' 15 = (.slice (some ⟨cb, 0, none⟩) n cc) := (H 6 rfl).2 15 (fun _ _ v _ => v = (.slice (some ⟨cb, 0, none⟩) n cc)) rfl (by rw [hFs1]; rfl)
   have e17 : s' 17 = (.int .i64 ((a : Nat) : Int)) := (H 8 rfl).2 17 (fun _ _ v _ => v = (.int .i64 ((a : Nat) : Int))) rfl (by rw [hFs1]; rfl)
   exact DoesT_pure (r_indexSlice (b := cb) (o := 0) (len := n) (cap := cc) (i := a) (o' := 0 + a * 8) e15 e17 rfl Try.underlying81 siz87 (by omega) (by omega)) rfl
  refine qD (fun S s' w' hi hN X U V H => ?_) ?_
  ·replace X := X.mono (M' := none1) (fun y _ h => by
     obtain ⟨j, hj, h⟩ := h
     exact h.elim)
   have e18 : s' 18 = (.pointer (some ⟨cb, 0 + a * 8, none⟩)) := (H 9 rfl).2 18 (fun _ _ v _ => v = (.pointer (some ⟨cb, 0 + a * 8, none⟩))) rfl (by rw [hFs1]; rfl)
   exact DoesT_pure (r_loadAgg (vs := [(I6 0), (I6 0), (I6 0), (I6 0), (I6 0), (.slice sa l.length sc), (.pointer none), (.bool false)]) e18 agg87 siz87 rfl (hcl.ext (Ext.trans (Ns.ext) (Ext.trans X0 X)))) rfl
  refine DagStepsS.cons (StabS.chg (U := none1) (fun v w w' x h => alF_ext _ _ _ v w w' x h) (fun p y hp hw h => by
     exact h.elim)) (LocS.const) (fun S s' w' hi hN X U V H => Or.inl ⟨Guarded_none rfl, ?_⟩) ?_
  ·replace X := X.mono (M' := none1) (fun y _ h => by
     obtain ⟨j, hj, h⟩ := h
     exact h.elim)
   exact DoesT_alloc (c := #[(I6 0), (I6 0), (I6 0), (I6 0), (I6 0), (.slice none 0 0), (.pointer none), (.bool false)]) zer87 rfl (by have := X0.size; have := X.size; omega)
  refine DagStepsS.tail ?_
  exact DagStepsS.nil
 ·intro s' wd1 w1 X0 X1 U H
  replace X1 := X1.mono (M' := none1) (fun y _ h => by
    obtain ⟨j, hj, h⟩ := h
    exact h.elim)
  have e19 : s' 19 = (.agg #[(.int .i64 0), (.int .i64 0), (.int .i64 0), (.int .i64 0), (.int .i64 0), (.slice sa l.length sc), (.pointer none), (.bool false)]) := H 10 rfl 19 (fun _ _ v _ => v = (.agg #[(.int .i64 0), (.int .i64 0), (.int .i64 0), (.int .i64 0), (.int .i64 0), (.slice sa l.length sc), (.pointer none), (.bool false)])) rfl (by rw [hFs1]; rfl)
  obtain ⟨b5, e5, B5, g5⟩ := (show ((fun _ _ => alF 87 #[(.int .i64 0), (.int .i64 0), (.int .i64 0), (.int .i64 0), (.int .i64 0), (.slice none 0 0), (.pointer none), (.bool false)] ws.heap.size) : FctS) (allS [true, true, true, true, true, true, true, true, true, true, true, true, false]) s' (s' 5) w1 from H 11 rfl 5 (fun _ _ => alF 87 #[(.int .i64 0), (.int .i64 0), (.int .i64 0), (.int .i64 0), (.int .i64 0), (.slice none 0 0), (.pointer none), (.bool false)] ws.heap.size) rfl (by rw [hFs1]; rfl))
  obtain ⟨j1, rfl⟩ := Fits.out (σ := s') (l := [(0, (.pointer (some ⟨rb, 0, none⟩))), (3, (.pointer (some ⟨bs, 0, none⟩))), (19, (.agg #[(.int .i64 0), (.int .i64 0), (.int .i64 0), (.int .i64 0), (.int .i64 0), (.slice sa l.length sc), (.pointer none), (.bool false)])), (5, (.pointer (some ⟨b5, 0, none⟩)))]) ⟨U 0 rfl, U 3 rfl, e19, e5, trivial⟩
  clear U H
  replace hblk := (X0.trans X1).keep hblk
  replace hbeg := (X0.trans X1).keep hbeg
  replace hmap := (X0.trans X1).keepM hmap
  replace hPb := (X0.trans X1).keep hPb
  replace Bs := (X0.trans X1).keep Bs
  replace X1 := X0.trans X1
  replace E := E.ext X1
  replace E1 := E1.ext X1
  refine s_storeAgg (b := b5) (o := 0) (c' := #[(I6 0), (I6 0), (I6 0), (I6 0), (I6 0), (.slice sa l.length sc), (.pointer none), (.bool false)]) rfl rfl (by simp [Value.oneCell']) siz87 rfl B5 (by first | (simp; done) | exact Nat.le_of_ble_eq_true rfl) rfl ?_
  intro w2 S2
  replace hblk := S2.keep (by omega) hblk
  replace hbeg := S2.keep (by omega) hbeg
  replace hmap := S2.keepM (by omega) hmap
  replace hPb := S2.keep (by omega) hPb
  replace Bs := S2.keep (by omega) Bs
  replace E := S2.step E (by first | exact Or.inl (by omega) | exact Or.inr rfl | exact Or.inr (by assumption) | exact Or.inr (by simp) | exact Or.inr (by omega) | exact Or.inr (by dsimp only; omega))
  replace E1 := S2.step E1 (Or.inl (by omega))
  replace B5 := S2.blk
  refine WpL_nil (thn_normal (Wp_seq_region ?_))
  refine qV (r_loadAgg (vs := [(I6 (a : Int)), (I6 (p : Int)), (I6 (d : Int))]) rfl agg77 siz77 rfl (Bs.cells rfl)) ?_
  refine s_allocStore (v := (.agg #[(I6 (a : Int)), (I6 (p : Int)), (I6 (d : Int))])) (c := #[(I6 (a : Int)), (I6 (p : Int)), (I6 (d : Int))]) (n := 3) (by decide) zer77 rfl siz77 rfl rfl rfl (by simp [Value.oneCell']) ?_
  intro bn wn Nn
  have Fn := Nn.ge E
  have Fn_E1 := Nn.ge E1
  have On_rb := Nn.lt hblk
  have On_bb := Nn.lt hbeg
  have On_mb := Nn.ltM hmap
  have On_pb := Nn.lt hPb
  have On_bs := Nn.lt Bs
  have On_b5 := Nn.lt B5
  replace hblk := Nn.keep hblk
  replace hbeg := Nn.keep hbeg
  replace hmap := Nn.keepM hmap
  replace hPb := Nn.keep hPb
  replace Bs := Nn.keep Bs
  replace B5 := Nn.keep B5
  replace E := E.ext Nn.ext
  have Bn := Nn.blk
  replace E1 := E1.ext Nn.ext
  refine WpL_nil (Wp_seq_region ?_)
  refine qF bn 0 0 rfl Try.underlying77 rfl siz3 rfl ?_
  refine qV (r_load (v := (I6 (a : Int))) rfl flat3 (Bn.cell rfl)) ?_
  refine qV (r_add (k := .i64) (a := (a : Int)) (b := 1) (c := ((a + 1 : Nat) : Int)) rfl rfl ((wI64 (by omega)).trans (by omega))) ?_
  refine qF bn 0 0 rfl Try.underlying77 rfl siz3 rfl ?_
  refine s_store (b := bn) (o := 0) (c' := #[(I6 ((a + 1 : Nat) : Int)), (I6 (p : Int)), (I6 (d : Int))]) (v := (I6 ((a + 1 : Nat) : Int))) rfl rfl rfl siz3 Bn (by simp) rfl ?_
  intro w3 S3
  replace hblk := S3.keep (by omega) hblk
  replace hbeg := S3.keep (by omega) hbeg
  replace hmap := S3.keepM (by omega) hmap
  replace hPb := S3.keep (by omega) hPb
  replace Bs := S3.keep (by omega) Bs
  replace B5 := S3.keep (by omega) B5
  replace E := S3.step E (by first | exact Or.inl (by omega) | exact Or.inr rfl | exact Or.inr (by assumption) | exact Or.inr (by simp) | exact Or.inr (by omega) | exact Or.inr (by dsimp only; omega))
  replace E1 := S3.step E1 (Or.inl (by omega))
  replace Bn := S3.blk
  refine WpL_nil (Wp_seq (Wp_seq_region ?_))
  refine qF b5 0 0 rfl Try.underlying87 rfl siz3 rfl ?_
  refine qV (r_load (v := (I6 0)) rfl flat3 (B5.cell rfl)) ?_
  refine WpL_nil (Wp_block (Wp_seq_region ?_))
  refine qV (r_eql (k := .i64) (a := 0) (b := 0) rfl rfl) ?_
  refine qA (.bool true) rfl ?_
  refine WpL_nil ?_
  refine Wp_cond_true rfl ?_
  refine Wp_seq ?_
  have hz_4 : w0.heap.size ≤ w3.heap.size := E.size
  have lz_4_rb : rb < w3.heap.size := hblk.lt
  have lz_4_bb : bb < w3.heap.size := hbeg.lt
  have lz_4_mb : mb < w3.heap.size := hmap.lt
  have lz_4_pb : pb < w3.heap.size := hPb.lt
  have lz_4_bs : bs < w3.heap.size := Bs.lt
  have lz_4_b5 : b5 < w3.heap.size := B5.lt
  have lz_4_bn : bn < w3.heap.size := Bn.lt
  refine Wp_seq ?_
  obtain ⟨Fs4, hFs4⟩ : ∃ Fs : List FctS, Fs = [(fun _ _ v _ => v = (P6 bs 1)), (fun _ _ v _ => v = (I6 (p : Int))), (fun _ _ v _ => v = (P6 rb 0)), (fun _ _ v _ => v = (P6 rb 0)), (fun _ _ v _ => v = (P6 rb 1)), (fun _ _ v _ => v = (.slice ta tn tc)), (fun _ _ v _ => v = (I6 (tn : Int))), (fun _ _ v _ => v = (.bool true)), (fun _ _ v _ => v = (.bool true)), (fun _ _ v _ => v = undef), (fun _ _ v _ => v = undef), (fun _ _ v _ => v = undef), (fun _ _ v _ => v = undef), (fun _ _ v _ => v = undef), (fun _ _ v _ => v = undef), (fun _ _ v _ => v = undef), (fun _ _ v _ => v = undef), (fun _ _ v _ => v = undef), (fun _ _ v _ => v = undef), (fun _ _ v _ => v = undef), (fun _ _ v _ => v = undef), (fun _ _ v _ => v = (.bool true))] := ⟨_, rfl⟩
  refine Wp_dagS (MsL []) [true, true, true, true, true, true, true, true, true, true, true, true, true, true, true, true, true, true, true, true, true, true] [] [29, 30, 31, 32, 33, 34, 35, 36, 37, 38, 39, 40, 41, 42, 43, 44, 45, 46, 47, 48, 49, 50] [[], [0], [], [2], [3], [4], [5], [1, 6], [7], [8], [8, 9], [8], [8, 11], [8, 12], [8, 13], [8], [8, 15], [8, 14, 16], [8, 17], [8, 10, 18], [8, 19], [8, 20]] [[], [0], [], [2], [3, 2], [4, 3, 2], [5, 4, 3, 2], [1, 0, 6, 5, 4, 3, 2], [7, 1, 0, 6, 5, 4, 3, 2], [8, 7, 1, 0, 6, 5, 4, 3, 2], [8, 7, 1, 0, 6, 5, 4, 3, 2, 9], [8, 7, 1, 0, 6, 5, 4, 3, 2], [8, 7, 1, 0, 6, 5, 4, 3, 2, 11], [8, 7, 1, 0, 6, 5, 4, 3, 2, 12, 11], [8, 7, 1, 0, 6, 5, 4, 3, 2, 13, 12, 11], [8, 7, 1, 0, 6, 5, 4, 3, 2], [8, 7, 1, 0, 6, 5, 4, 3, 2, 15], [8, 7, 1, 0, 6, 5, 4, 3, 2, 14, 13, 12, 11, 16, 15], [8, 7, 1, 0, 6, 5, 4, 3, 2, 17, 14, 13, 12, 11, 16, 15], [8, 7, 1, 0, 6, 5, 4, 3, 2, 10, 9, 18, 17, 14, 13, 12, 11, 16, 15], [8, 7, 1, 0, 6, 5, 4, 3, 2, 19, 10, 9, 18, 17, 14, 13, 12, 11, 16, 15], [8, 7, 1, 0, 6, 5, 4, 3, 2, 20, 19, 10, 9, 18, 17, 14, 13, 12, 11, 16, 15]] Fs4 hFs4 (by kernel_rfl) mixed (by kernel_rfl) (by kernel_rfl) (by kernel_rfl) (by kernel_rfl) ?_ ?_
  ·intro wd X0
   refine qD (fun S s' w' hi hN X U V H => ?_) ?_
   ·replace X := X.mono (M' := none1) (fun y _ h => by
      obtain ⟨j, hj, h⟩ := h
      exact h.elim)
    exact DoesT_pure (r_fieldAddr (b := bs) (o := 0) (o' := 1) (U 3 rfl) Try.underlying77 rfl siz3 rfl) rfl
   refine qD (fun S s' w' hi hN X U V H => ?_) ?_
   ·replace X := X.mono (M' := none1) (fun y _ h => by
      obtain ⟨j, hj, h⟩ := h
      exact h.elim)
    have e29 : s' 29 = (.pointer (some ⟨bs, 1, none⟩)) := (H 0 rfl).2 29 (fun _ _ v _ => v = (.pointer (some ⟨bs, 1, none⟩))) rfl (by rw [hFs4]; rfl)
    exact DoesT_pure (r_load (v := (I6 (p : Int))) e29 flat3 (((X0.trans X).keep Bs).cell rfl)) rfl
   refine qD (fun S s' w' hi hN X U V H => ?_) ?_
   ·replace X := X.mono (M' := none1) (fun y _ h => by
      obtain ⟨j, hj, h⟩ := h
      exact h.elim)
    exact DoesT_pure (r_move (v := (P6 rb 0)) (U 0 rfl)) rfl
   refine qD (fun S s' w' hi hN X U V H => ?_) ?_
   ·replace X := X.mono (M' := none1) (fun y _ h => by
      obtain ⟨j, hj, h⟩ := h
      exact h.elim)
    have e31 : s' 31 = (.pointer (some ⟨rb, 0, none⟩)) := (H 2 rfl).2 31 (fun _ _ v _ => v = (.pointer (some ⟨rb, 0, none⟩))) rfl (by rw [hFs4]; rfl)
    exact DoesT_pure (r_nilCheck (a := ⟨rb, 0, none⟩) e31) rfl
   refine qD (fun S s' w' hi hN X U V H => ?_) ?_
   ·replace X := X.mono (M' := none1) (fun y _ h => by
      obtain ⟨j, hj, h⟩ := h
      exact h.elim)
    have e32 : s' 32 = (.pointer (some ⟨rb, 0, none⟩)) := (H 3 rfl).2 32 (fun _ _ v _ => v = (.pointer (some ⟨rb, 0, none⟩))) rfl (by rw [hFs4]; rfl)
    exact DoesT_pure (r_fieldAddr (b := rb) (o := 0) (o' := 1) e32 Try.underlying80 rfl siz22 rfl) rfl
   refine qD (fun S s' w' hi hN X U V H => ?_) ?_
   ·replace X := X.mono (M' := none1) (fun y _ h => by
      obtain ⟨j, hj, h⟩ := h
      exact h.elim)
    have e33 : s' 33 = (.pointer (some ⟨rb, 1, none⟩)) := (H 4 rfl).2 33 (fun _ _ v _ => v = (.pointer (some ⟨rb, 1, none⟩))) rfl (by rw [hFs4]; rfl)
    exact DoesT_pure (r_load (v := (.slice ta tn tc)) e33 flat22 (((Ext.trans X0 X).keep hblk).cell rfl)) rfl
   refine qD (fun S s' w' hi hN X U V H => ?_) ?_
   ·replace X := X.mono (M' := none1) (fun y _ h => by
      obtain ⟨j, hj, h⟩ := h
      exact h.elim)
    have e34 : s' 34 = (.slice ta tn tc) := (H 5 rfl).2 34 (fun _ _ v _ => v = (.slice ta tn tc)) rfl (by rw [hFs4]; rfl)
    exact DoesT_pure (r_lenSlice (ad := ta) (n := tn) (cap := tc) Try.underlying22 e34) rfl
   refine qD (fun S s' w' hi hN X U V H => ?_) ?_
   ·replace X := X.mono (M' := none1) (fun y _ h => by
      obtain ⟨j, hj, h⟩ := h
      exact h.elim)
    have e30 : s' 30 = (.int .i64 ((p : Nat) : Int)) := (H 1 rfl).2 30 (fun _ _ v _ => v = (.int .i64 ((p : Nat) : Int))) rfl (by rw [hFs4]; rfl)
    have e35 : s' 35 = (.int .i64 ((tn : Nat) : Int)) := (H 6 rfl).2 35 (fun _ _ v _ => v = (.int .i64 ((tn : Nat) : Int))) rfl (by rw [hFs4]; rfl)
    exact DoesT_pure (Eq.trans (r_eql (k := .i64) (a := (p : Int)) (b := (tn : Int)) e30 e35) (by rw [hneq])) rfl
   refine qD (fun S s' w' hi hN X U V H => ?_) ?_
   ·replace X := X.mono (M' := none1) (fun y _ h => by
      obtain ⟨j, hj, h⟩ := h
      exact h.elim)
    have e36 : s' 36 = (.bool true) := (H 7 rfl).2 36 (fun _ _ v _ => v = (.bool true)) rfl (by rw [hFs4]; rfl)
    exact DoesT_pure (r_move (v := (.bool true)) e36) rfl
   refine DagStepsS.cons (StabS.eq) (LocS.const) (fun S s' w' hi hN X U V H => Or.inr ⟨Unmet_mk rfl rfl (d := 37) (Or.inl ((H 8 rfl).2 37 (fun _ _ v _ => v = (.bool true)) rfl (by rw [hFs4]; rfl))), ?_⟩) ?_
   ·exact rfl
   refine DagStepsS.cons (StabS.eq) (LocS.const) (fun S s' w' hi hN X U V H => Or.inr ⟨Unmet_mk rfl rfl (d := 37) (Or.inl ((H 8 rfl).2 37 (fun _ _ v _ => v = (.bool true)) rfl (by rw [hFs4]; rfl))), ?_⟩) ?_
   ·exact rfl
   refine DagStepsS.cons (StabS.eq) (LocS.const) (fun S s' w' hi hN X U V H => Or.inr ⟨Unmet_mk rfl rfl (d := 37) (Or.inl ((H 8 rfl).2 37 (fun _ _ v _ => v = (.bool true)) rfl (by rw [hFs4]; rfl))), ?_⟩) ?_
   ·exact rfl
   refine DagStepsS.cons (StabS.eq) (LocS.const) (fun S s' w' hi hN X U V H => Or.inr ⟨Unmet_mk rfl rfl (d := 37) (Or.inl ((H 8 rfl).2 37 (fun _ _ v _ => v = (.bool true)) rfl (by rw [hFs4]; rfl))), ?_⟩) ?_
   ·exact rfl
   refine DagStepsS.cons (StabS.eq) (LocS.const) (fun S s' w' hi hN X U V H => Or.inr ⟨Unmet_mk rfl rfl (d := 37) (Or.inl ((H 8 rfl).2 37 (fun _ _ v _ => v = (.bool true)) rfl (by rw [hFs4]; rfl))), ?_⟩) ?_
   ·exact rfl
   refine DagStepsS.cons (StabS.eq) (LocS.const) (fun S s' w' hi hN X U V H => Or.inr ⟨Unmet_mk rfl rfl (d := 37) (Or.inl ((H 8 rfl).2 37 (fun _ _ v _ => v = (.bool true)) rfl (by rw [hFs4]; rfl))), ?_⟩) ?_
   ·exact rfl
   refine DagStepsS.cons (StabS.eq) (LocS.const) (fun S s' w' hi hN X U V H => Or.inr ⟨Unmet_mk rfl rfl (d := 37) (Or.inl ((H 8 rfl).2 37 (fun _ _ v _ => v = (.bool true)) rfl (by rw [hFs4]; rfl))), ?_⟩) ?_
   ·exact rfl
   refine DagStepsS.cons (StabS.eq) (LocS.const) (fun S s' w' hi hN X U V H => Or.inr ⟨Unmet_mk rfl rfl (d := 37) (Or.inl ((H 8 rfl).2 37 (fun _ _ v _ => v = (.bool true)) rfl (by rw [hFs4]; rfl))), ?_⟩) ?_
   ·exact rfl
   refine DagStepsS.cons (StabS.eq) (LocS.const) (fun S s' w' hi hN X U V H => Or.inr ⟨Unmet_mk rfl rfl (d := 37) (Or.inl ((H 8 rfl).2 37 (fun _ _ v _ => v = (.bool true)) rfl (by rw [hFs4]; rfl))), ?_⟩) ?_
   ·exact rfl
   refine DagStepsS.cons (StabS.eq) (LocS.const) (fun S s' w' hi hN X U V H => Or.inr ⟨Unmet_mk rfl rfl (d := 37) (Or.inl ((H 8 rfl).2 37 (fun _ _ v _ => v = (.bool true)) rfl (by rw [hFs4]; rfl))), ?_⟩) ?_
   ·exact rfl
   refine DagStepsS.cons (StabS.eq) (LocS.const) (fun S s' w' hi hN X U V H => Or.inr ⟨Unmet_mk rfl rfl (d := 37) (Or.inl ((H 8 rfl).2 37 (fun _ _ v _ => v = (.bool true)) rfl (by rw [hFs4]; rfl))), ?_⟩) ?_
   ·exact rfl
   refine DagStepsS.cons (StabS.eq) (LocS.const) (fun S s' w' hi hN X U V H => Or.inr ⟨Unmet_mk rfl rfl (d := 37) (Or.inl ((H 8 rfl).2 37 (fun _ _ v _ => v = (.bool true)) rfl (by rw [hFs4]; rfl))), ?_⟩) ?_
   ·exact rfl
   refine qD (fun S s' w' hi hN X U V H => ?_) ?_
   ·replace X := X.mono (M' := none1) (fun y _ h => by
      obtain ⟨j, hj, h⟩ := h
      exact h.elim)
    have e37 : s' 37 = (.bool true) := (H 8 rfl).2 37 (fun _ _ v _ => v = (.bool true)) rfl (by rw [hFs4]; rfl)
    exact DoesT_pure (r_pick (b := true) (v := (.bool true)) e37 rfl) rfl
   exact DagStepsS.nil
  ·intro s' wd4 w4 X0 X4 U H
   replace X4 := X4.mono (M' := none1) (fun y _ h => by
     obtain ⟨j, hj, h⟩ := h
     exact h.elim)
   have e50 : s' 50 = (.bool true) := H 21 rfl 50 (fun _ _ v _ => v = (.bool true)) rfl (by rw [hFs4]; rfl)
   obtain ⟨j4, rfl⟩ := Fits.out (σ := s') (l := [(0, (.pointer (some ⟨rb, 0, none⟩))), (6, (.pointer (some ⟨bn, 0, none⟩))), (50, (.bool true))]) ⟨U 0 rfl, U 6 rfl, e50, trivial⟩
   clear U H
   replace hblk := (X0.trans X4).keep hblk
   replace hbeg := (X0.trans X4).keep hbeg
   replace hmap := (X0.trans X4).keepM hmap
   replace hPb := (X0.trans X4).keep hPb
   replace Bs := (X0.trans X4).keep Bs
   replace B5 := (X0.trans X4).keep B5
   replace Bn := (X0.trans X4).keep Bn
   replace X4 := X0.trans X4
   replace E := E.ext X4
   replace E1 := E1.ext X4
   refine WpL_nil (thn_normal ?_)
   refine Wp_cond_true rfl ?_
   refine Wp_seq_region ?_
   refine qA (.bool false) rfl ?_
   refine WpL_nil (Wp_ret (thn_ret (inB_ret (thn_ret ?_))))
   refine fin_tmp Try.results60 (v := (.bool false)) rfl ?_
   exact ⟨⟨rfl, es, B, gt, G, ⟨hblk, hmap, hbeg, hgl⟩, rfl, hFl, fun _ => ⟨rfl, rfl, rfl⟩, fun q hq => by cases hq⟩, E⟩
set_option maxHeartbeats 2000000 in
theorem try_setY {text : List Int} {code : List Ins} {a p d : Nat} {l : List (Int × Int)} {B : List Int} {G : Grp} {o : Option (Grp × Nat)} (hc : code[a]? = some (.set l)) {x : Int} (hx : text[p]? = some x) (hin : inS l x = true) (ih : RunC fRun text code (a + 1) (p + 1) many B G o) : RunC fTry text code a p d B G o := by
 intro r hcode F w0 rb pb mb bb ta tn tc es gf gt hC hA hFl hp
 subst hcode
 have hblk := hA.blk
 have hmap := hA.map
 have hbeg := hA.beg
 have hrl := hblk.lt
 have hml := hmap.lt
 have hbl := hbeg.lt
 have hd1 := hC.d1
 have hd2 := hC.d2
 have hd3 := hC.d3
 have hgl := hA.gl
 have htl := hC.tl
 obtain ⟨cb, cc, qb, n, row, hPb, hcl, hrow, hsub, han, hn1, hFpb⟩ := hC.prog.row hc
 have hpn := (hC.fl pb hFpb).2
 simp only [RowF] at hrow
 obtain ⟨sv, rfl, hsv, hsf⟩ := hrow
 obtain ⟨sa, sc, rfl⟩ := SlAt.form hsv
 have hTn : tn = text.length := by have h9 := (SlAt.cap hC.txt).2; rw [List.length_map] at h9; exact h9.symm
 simp only [List.length_map] at hsv hcl
 have hpt := lt_of_get hx
 obtain ⟨tb, to, rfl, htx⟩ := ints_cells (n := tn) hC.txt (by omega)
 have hneq : decide ((((p : Nat) : Int) : Int) = ((tn : Nat) : Int)) = false := decide_eq_false (by omega)
 refine Ret_of Try.func60 rfl Try.ntmps60 (Nat.le_of_ble_eq_true rfl) ?_
 have E : Chg (RMod rb mb bb) w0 w0 := Chg.refl _ _
 have E1 : Chg none1 w0 w0 := Chg.refl _ _
 refine Wp_seq_region ?_
 refine s_box (v := (.agg #[(I6 (a : Int)), (I6 (p : Int)), (I6 (d : Int))])) (c := #[(I6 (a : Int)), (I6 (p : Int)), (I6 (d : Int))]) (by decide) rfl rfl ?_
 intro bs ws Ns
 have Fs := Ns.ge E
 have Fs_E1 := Ns.ge E1
 have Os_rb := Ns.lt hblk
 have Os_bb := Ns.lt hbeg
 have Os_mb := Ns.ltM hmap
 have Os_pb := Ns.lt hPb
 replace hblk := Ns.keep hblk
 replace hbeg := Ns.keep hbeg
 replace hmap := Ns.keepM hmap
 replace hPb := Ns.keep hPb
 replace E := E.ext Ns.ext
 have Bs := Ns.blk
 replace E1 := E1.ext Ns.ext
 refine qA (.bool false) rfl ?_
 refine WpL_nil ?_
 obtain ⟨z0, hz0⟩ : ∃ z0, z0 = (ws).heap.size := ⟨_, rfl⟩
 have hz1 : w0.heap.size ≤ z0 := by rw [hz0]; exact E.size
 have hz2 : bs < z0 := by rw [hz0]; exact Bs.lt
 have hz_1 : w0.heap.size ≤ ws.heap.size := E.size
 have lz_1_rb : rb < ws.heap.size := hblk.lt
 have lz_1_bb : bb < ws.heap.size := hbeg.lt
 have lz_1_mb : mb < ws.heap.size := hmap.lt
 have lz_1_pb : pb < ws.heap.size := hPb.lt
 have lz_1_bs : bs < ws.heap.size := Bs.lt
 refine Wp_seq ?_
 obtain ⟨Fs1, hFs1⟩ : ∃ Fs : List FctS, Fs = [(fun _ _ v _ => v = (P6 rb 0)), (fun _ _ v _ => v = (P6 rb 0)), (fun _ _ v _ => v = (P6 rb 0)), (fun _ _ v _ => v = (P6 pb 0)), (fun _ _ v _ => v = (P6 pb 0)), (fun _ _ v _ => v = (P6 pb 0)), (fun _ _ v _ => v = (.slice (some ⟨cb, 0, none⟩) n cc)), (fun _ _ v _ => v = (P6 bs 0)), (fun _ _ v _ => v = (I6 (a : Int))), (fun _ _ v _ => v = (.pointer (some ⟨cb, 0 + a * 8, none⟩))), (fun _ _ v _ => v = (.agg #[(I6 0), (I6 0), (I6 0), (I6 0), (I6 0), (.slice sa l.length sc), (.pointer none), (.bool false)])), (fun _ _ => alF 87 #[(I6 0), (I6 0), (I6 0), (I6 0), (I6 0), (.slice none 0 0), (.pointer none), (.bool false)] ws.heap.size), (fun _ _ v _ => v = undef)] := ⟨_, rfl⟩
 refine Wp_dagS (MsL []) [true, true, true, true, true, true, true, true, true, true, true, true, false] [12] [9, 10, 11, 12, 13, 14, 15, 16, 17, 18, 19, 5, 196] [[], [0], [1], [2], [3], [4], [5], [], [7], [6, 8], [9], [], []] [[], [0], [1, 0], [2, 1, 0], [3, 2, 1, 0], [4, 3, 2, 1, 0], [5, 4, 3, 2, 1, 0], [], [7], [6, 5, 4, 3, 2, 1, 0, 8, 7], [9, 6, 5, 4, 3, 2, 1, 0, 8, 7], [], []] Fs1 hFs1 (by kernel_rfl) mixed (by kernel_rfl) (by kernel_rfl) (by kernel_rfl) (by kernel_rfl) ?_ ?_
 ·intro wd X0
  refine qD (fun S s' w' hi hN X U V H => ?_) ?_
  ·replace X := X.mono (M' := none1) (fun y _ h => by
     obtain ⟨j, hj, h⟩ := h
     exact h.elim)
   exact DoesT_pure (r_move (v := (P6 rb 0)) (U 0 rfl)) rfl
  refine qD (fun S s' w' hi hN X U V H => ?_) ?_
  ·replace X := X.mono (M' := none1) (fun y _ h => by
     obtain ⟨j, hj, h⟩ := h
     exact h.elim)
   have e9 : s' 9 = (.pointer (some ⟨rb, 0, none⟩)) := (H 0 rfl).2 9 (fun _ _ v _ => v = (.pointer (some ⟨rb, 0, none⟩))) rfl (by rw [hFs1]; rfl)
   exact DoesT_pure (r_nilCheck (a := ⟨rb, 0, none⟩) e9) rfl
  refine qD (fun S s' w' hi hN X U V H => ?_) ?_
  ·replace X := X.mono (M' := none1) (fun y _ h => by
     obtain ⟨j, hj, h⟩ := h
     exact h.elim)
   have e10 : s' 10 = (.pointer (some ⟨rb, 0, none⟩)) := (H 1 rfl).2 10 (fun _ _ v _ => v = (.pointer (some ⟨rb, 0, none⟩))) rfl (by rw [hFs1]; rfl)
   exact DoesT_pure (r_fieldAddr (b := rb) (o := 0) (o' := 0) e10 Try.underlying80 rfl siz56 rfl) rfl
  refine qD (fun S s' w' hi hN X U V H => ?_) ?_
  ·replace X := X.mono (M' := none1) (fun y _ h => by
     obtain ⟨j, hj, h⟩ := h
     exact h.elim)
   have e11 : s' 11 = (.pointer (some ⟨rb, 0, none⟩)) := (H 2 rfl).2 11 (fun _ _ v _ => v = (.pointer (some ⟨rb, 0, none⟩))) rfl (by rw [hFs1]; rfl)
   exact DoesT_pure (r_load (v := (P6 pb 0)) e11 flat56 (((Ext.trans X0 X).keep hblk).cell rfl)) rfl
  refine qD (fun S s' w' hi hN X U V H => ?_) ?_
  ·replace X := X.mono (M' := none1) (fun y _ h => by
     obtain ⟨j, hj, h⟩ := h
     exact h.elim)
   have e12 : s' 12 = (.pointer (some ⟨pb, 0, none⟩)) := (H 3 rfl).2 12 (fun _ _ v _ => v = (.pointer (some ⟨pb, 0, none⟩))) rfl (by rw [hFs1]; rfl)
   exact DoesT_pure (r_nilCheck (a := ⟨pb, 0, none⟩) e12) rfl
  refine qD (fun S s' w' hi hN X U V H => ?_) ?_
  ·replace X := X.mono (M' := none1) (fun y _ h => by
     obtain ⟨j, hj, h⟩ := h
     exact h.elim)
   have e13 : s' 13 = (.pointer (some ⟨pb, 0, none⟩)) := (H 4 rfl).2 13 (fun _ _ v _ => v = (.pointer (some ⟨pb, 0, none⟩))) rfl (by rw [hFs1]; rfl)
   exact DoesT_pure (r_fieldAddr (b := pb) (o := 0) (o' := 0) e13 Try.underlying83 rfl siz81 rfl) rfl
  refine qD (fun S s' w' hi hN X U V H => ?_) ?_
  ·replace X := X.mono (M' := none1) (fun y _ h => by
     obtain ⟨j, hj, h⟩ := h
     exact h.elim)
   have e14 : s' 14 = (.pointer (some ⟨pb, 0, none⟩)) := (H 5 rfl).2 14 (fun _ _ v _ => v = (.pointer (some ⟨pb, 0, none⟩))) rfl (by rw [hFs1]; rfl)
   exact DoesT_pure (r_load (v := (.slice (some ⟨cb, 0, none⟩) n cc)) e14 flat81 (((X0.trans X).keep hPb).cell rfl)) rfl
  refine qD (fun S s' w' hi hN X U V H => ?_) ?_
  ·replace X := X.mono (M' := none1) (fun y _ h => by
     obtain ⟨j, hj, h⟩ := h
     exact h.elim)
   exact DoesT_pure (r_fieldAddr (b := bs) (o := 0) (o' := 0) (U 3 rfl) Try.underlying77 rfl siz3 rfl) rfl
  refine qD (fun S s' w' hi hN X U V H => ?_) ?_
  ·replace X := X.mono (M' := none1) (fun y _ h => by
     obtain ⟨j, hj, h⟩ := h
     exact h.elim)
   have e16 : s' 16 = (.pointer (some ⟨bs, 0, none⟩)) := (H 7 rfl).2 16 (fun _ _ v _ => v = (.pointer (some ⟨bs, 0, none⟩))) rfl (by rw [hFs1]; rfl)
   exact DoesT_pure (r_load (v := (I6 (a : Int))) e16 flat3 (((X0.trans X).keep Bs).cell rfl)) rfl
  refine qD (fun S s' w' hi hN X U V H => ?_) ?_
  ·replace X := X.mono (M' := none1) (fun y _ h => by
     obtain ⟨j, hj, h⟩ := h
     exact h.elim)
   have e15 : s' 15 = (.slice (some ⟨cb, 0, none⟩) n cc) := (H 6 rfl).2 15 (fun _ _ v _ => v = (.slice (some ⟨cb, 0, none⟩) n cc)) rfl (by rw [hFs1]; rfl)
   have e17 : s' 17 = (.int .i64 ((a : Nat) : Int)) := (H 8 rfl).2 17 (fun _ _ v _ => v = (.int .i64 ((a : Nat) : Int))) rfl (by rw [hFs1]; rfl)
   exact DoesT_pure (r_indexSlice (b := cb) (o := 0) (len := n) (cap := cc) (i := a) (o' := 0 + a * 8) e15 e17 rfl Try.underlying81 siz87 (by omega) (by omega)) rfl
  refine qD (fun S s' w' hi hN X U V H => ?_) ?_
  ·replace X := X.mono (M' := none1) (fun y _ h => by
     obtain ⟨j, hj, h⟩ := h
     exact h.elim)
   have e18 : s' 18 = (.pointer (some ⟨cb, 0 + a * 8, none⟩)) := (H 9 rfl).2 18 (fun _ _ v _ => v = (.pointer (some ⟨cb, 0 + a * 8, none⟩))) rfl (by rw [hFs1]; rfl)
   exact DoesT_pure (r_loadAgg (vs := [(I6 0), (I6 0), (I6 0), (I6 0), (I6 0), (.slice sa l.length sc), (.pointer none), (.bool false)]) e18 agg87 siz87 rfl (hcl.ext (Ext.trans (Ns.ext) (Ext.trans X0 X)))) rfl
  refine DagStepsS.cons (StabS.chg (U := none1) (fun v w w' x h => alF_ext _ _ _ v w w' x h) (fun p y hp hw h => by
     exact h.elim)) (LocS.const) (fun S s' w' hi hN X U V H => Or.inl ⟨Guarded_none rfl, ?_⟩) ?_
  ·replace X := X.mono (M' := none1) (fun y _ h => by
     obtain ⟨j, hj, h⟩ := h
     exact h.elim)
   exact DoesT_alloc (c := #[(I6 0), (I6 0), (I6 0), (I6 0), (I6 0), (.slice none 0 0), (.pointer none), (.bool false)]) zer87 rfl (by have := X0.size; have := X.size; omega)
  refine DagStepsS.tail ?_
  exact DagStepsS.nil
 ·intro s' wd1 w1 X0 X1 U H
  replace X1 := X1.mono (M' := none1) (fun y _ h => by
    obtain ⟨j, hj, h⟩ := h
    exact h.elim)
  have e19 : s' 19 = (.agg #[(.int .i64 0), (.int .i64 0), (.int .i64 0), (.int .i64 0), (.int .i64 0), (.slice sa l.length sc), (.pointer none), (.bool false)]) := H 10 rfl 19 (fun _ _ v _ => v = (.agg #[(.int .i64 0), (.int .i64 0), (.int .i64 0), (.int .i64 0), (.int .i64 0), (.slice sa l.length sc), (.pointer none), (.bool false)])) rfl (by rw [hFs1]; rfl)
  obtain ⟨b5, e5, B5, g5⟩ := (show ((fun _ _ => alF 87 #[(.int .i64 0), (.int .i64 0), (.int .i64 0), (.int .i64 0), (.int .i64 0), (.slice none 0 0), (.pointer none), (.bool false)] ws.heap.size) : FctS) (allS [true, true, true, true, true, true, true, true, true, true, true, true, false]) s' (s' 5) w1 from H 11 rfl 5 (fun _ _ => alF 87 #[(.int .i64 0), (.int .i64 0), (.int .i64 0), (.int .i64 0), (.int .i64 0), (.slice none 0 0), (.pointer none), (.bool false)] ws.heap.size) rfl (by rw [hFs1]; rfl))
  obtain ⟨j1, rfl⟩ := Fits.out (σ := s') (l := [(0, (.pointer (some ⟨rb, 0, none⟩))), (3, (.pointer (some ⟨bs, 0, none⟩))), (19, (.agg #[(.int .i64 0), (.int .i64 0), (.int .i64 0), (.int .i64 0), (.int .i64 0), (.slice sa l.length sc), (.pointer none), (.bool false)])), (5, (.pointer (some ⟨b5, 0, none⟩)))]) ⟨U 0 rfl, U 3 rfl, e19, e5, trivial⟩
  clear U H
  replace hblk := (X0.trans X1).keep hblk
  replace hbeg := (X0.trans X1).keep hbeg
  replace hmap := (X0.trans X1).keepM hmap
  replace hPb := (X0.trans X1).keep hPb
  replace Bs := (X0.trans X1).keep Bs
  replace X1 := X0.trans X1
  replace E := E.ext X1
  replace E1 := E1.ext X1
  refine s_storeAgg (b := b5) (o := 0) (c' := #[(I6 0), (I6 0), (I6 0), (I6 0), (I6 0), (.slice sa l.length sc), (.pointer none), (.bool false)]) rfl rfl (by simp [Value.oneCell']) siz87 rfl B5 (by first | (simp; done) | exact Nat.le_of_ble_eq_true rfl) rfl ?_
  intro w2 S2
  replace hblk := S2.keep (by omega) hblk
  replace hbeg := S2.keep (by omega) hbeg
  replace hmap := S2.keepM (by omega) hmap
  replace hPb := S2.keep (by omega) hPb
  replace Bs := S2.keep (by omega) Bs
  replace E := S2.step E (by first | exact Or.inl (by omega) | exact Or.inr rfl | exact Or.inr (by assumption) | exact Or.inr (by simp) | exact Or.inr (by omega) | exact Or.inr (by dsimp only; omega))
  replace E1 := S2.step E1 (Or.inl (by omega))
  replace B5 := S2.blk
  refine WpL_nil (thn_normal (Wp_seq_region ?_))
  refine qV (r_loadAgg (vs := [(I6 (a : Int)), (I6 (p : Int)), (I6 (d : Int))]) rfl agg77 siz77 rfl (Bs.cells rfl)) ?_
  refine s_allocStore (v := (.agg #[(I6 (a : Int)), (I6 (p : Int)), (I6 (d : Int))])) (c := #[(I6 (a : Int)), (I6 (p : Int)), (I6 (d : Int))]) (n := 3) (by decide) zer77 rfl siz77 rfl rfl rfl (by simp [Value.oneCell']) ?_
  intro bn wn Nn
  have Fn := Nn.ge E
  have Fn_E1 := Nn.ge E1
  have On_rb := Nn.lt hblk
  have On_bb := Nn.lt hbeg
  have On_mb := Nn.ltM hmap
  have On_pb := Nn.lt hPb
  have On_bs := Nn.lt Bs
  have On_b5 := Nn.lt B5
  replace hblk := Nn.keep hblk
  replace hbeg := Nn.keep hbeg
  replace hmap := Nn.keepM hmap
  replace hPb := Nn.keep hPb
  replace Bs := Nn.keep Bs
  replace B5 := Nn.keep B5
  replace E := E.ext Nn.ext
  have Bn := Nn.blk
  replace E1 := E1.ext Nn.ext
  refine WpL_nil (Wp_seq_region ?_)
  refine qF bn 0 0 rfl Try.underlying77 rfl siz3 rfl ?_
  refine qV (r_load (v := (I6 (a : Int))) rfl flat3 (Bn.cell rfl)) ?_
  refine qV (r_add (k := .i64) (a := (a : Int)) (b := 1) (c := ((a + 1 : Nat) : Int)) rfl rfl ((wI64 (by omega)).trans (by omega))) ?_
  refine qF bn 0 0 rfl Try.underlying77 rfl siz3 rfl ?_
  refine s_store (b := bn) (o := 0) (c' := #[(I6 ((a + 1 : Nat) : Int)), (I6 (p : Int)), (I6 (d : Int))]) (v := (I6 ((a + 1 : Nat) : Int))) rfl rfl rfl siz3 Bn (by simp) rfl ?_
  intro w3 S3
  replace hblk := S3.keep (by omega) hblk
  replace hbeg := S3.keep (by omega) hbeg
  replace hmap := S3.keepM (by omega) hmap
  replace hPb := S3.keep (by omega) hPb
  replace Bs := S3.keep (by omega) Bs
  replace B5 := S3.keep (by omega) B5
  replace E := S3.step E (by first | exact Or.inl (by omega) | exact Or.inr rfl | exact Or.inr (by assumption) | exact Or.inr (by simp) | exact Or.inr (by omega) | exact Or.inr (by dsimp only; omega))
  replace E1 := S3.step E1 (Or.inl (by omega))
  replace Bn := S3.blk
  refine WpL_nil (Wp_seq (Wp_seq_region ?_))
  refine qF b5 0 0 rfl Try.underlying87 rfl siz3 rfl ?_
  refine qV (r_load (v := (I6 0)) rfl flat3 (B5.cell rfl)) ?_
  refine WpL_nil (Wp_block (Wp_seq_region ?_))
  refine qV (r_eql (k := .i64) (a := 0) (b := 0) rfl rfl) ?_
  refine qA (.bool true) rfl ?_
  refine WpL_nil ?_
  refine Wp_cond_true rfl ?_
  refine Wp_seq ?_
  have hz_4 : w0.heap.size ≤ w3.heap.size := E.size
  have lz_4_rb : rb < w3.heap.size := hblk.lt
  have lz_4_bb : bb < w3.heap.size := hbeg.lt
  have lz_4_mb : mb < w3.heap.size := hmap.lt
  have lz_4_pb : pb < w3.heap.size := hPb.lt
  have lz_4_bs : bs < w3.heap.size := Bs.lt
  have lz_4_b5 : b5 < w3.heap.size := B5.lt
  have lz_4_bn : bn < w3.heap.size := Bn.lt
  refine Wp_seq ?_
  obtain ⟨Fs4, hFs4⟩ : ∃ Fs : List FctS, Fs = [(fun _ _ v _ => v = (P6 bs 1)), (fun _ _ v _ => v = (I6 (p : Int))), (fun _ _ v _ => v = (P6 rb 0)), (fun _ _ v _ => v = (P6 rb 0)), (fun _ _ v _ => v = (P6 rb 1)), (fun _ _ v _ => v = (.slice (some ⟨tb, to, none⟩) tn tc)), (fun _ _ v _ => v = (I6 (tn : Int))), (fun _ _ v _ => v = (.bool false)), (fun _ _ v _ => v = (.bool false)), (fun _ _ v _ => v = (P6 b5 5)), (fun _ _ v _ => v = (.slice sa l.length sc)), (fun _ _ v _ => v = (P6 rb 0)), (fun _ _ v _ => v = (P6 rb 0)), (fun _ _ v _ => v = (P6 rb 1)), (fun _ _ v _ => v = (.slice (some ⟨tb, to, none⟩) tn tc)), (fun _ _ v _ => v = (P6 bs 1)), (fun _ _ v _ => v = (I6 (p : Int))), (fun _ _ v _ => v = (.pointer (some ⟨tb, to + p, none⟩))), (fun _ _ v _ => v = (I6 x)), (fun _ _ v _ => v = (.bool (inS l x))), (fun _ _ v _ => v = (.bool (!(inS l x)))), (fun _ _ v _ => v = (.bool (!(inS l x))))] := ⟨_, rfl⟩
  refine Wp_dagS (MsL []) [true, true, true, true, true, true, true, true, true, true, true, true, true, true, true, true, true, true, true, true, true, true] [] [29, 30, 31, 32, 33, 34, 35, 36, 37, 38, 39, 40, 41, 42, 43, 44, 45, 46, 47, 48, 49, 50] [[], [0], [], [2], [3], [4], [5], [1, 6], [7], [8], [8, 9], [8], [8, 11], [8, 12], [8, 13], [8], [8, 15], [8, 14, 16], [8, 17], [8, 10, 18], [8, 19], [8, 20]] [[], [0], [], [2], [3, 2], [4, 3, 2], [5, 4, 3, 2], [1, 0, 6, 5, 4, 3, 2], [7, 1, 0, 6, 5, 4, 3, 2], [8, 7, 1, 0, 6, 5, 4, 3, 2], [8, 7, 1, 0, 6, 5, 4, 3, 2, 9], [8, 7, 1, 0, 6, 5, 4, 3, 2], [8, 7, 1, 0, 6, 5, 4, 3, 2, 11], [8, 7, 1, 0, 6, 5, 4, 3, 2, 12, 11], [8, 7, 1, 0, 6, 5, 4, 3, 2, 13, 12, 11], [8, 7, 1, 0, 6, 5, 4, 3, 2], [8, 7, 1, 0, 6, 5, 4, 3, 2, 15], [8, 7, 1, 0, 6, 5, 4, 3, 2, 14, 13, 12, 11, 16, 15], [8, 7, 1, 0, 6, 5, 4, 3, 2, 17, 14, 13, 12, 11, 16, 15], [8, 7, 1, 0, 6, 5, 4, 3, 2, 10, 9, 18, 17, 14, 13, 12, 11, 16, 15], [8, 7, 1, 0, 6, 5, 4, 3, 2, 19, 10, 9, 18, 17, 14, 13, 12, 11, 16, 15], [8, 7, 1, 0, 6, 5, 4, 3, 2, 20, 19, 10, 9, 18, 17, 14, 13, 12, 11, 16, 15]] Fs4 hFs4 (by kernel_rfl) mixed (by kernel_rfl) (by kernel_rfl) (by kernel_rfl) (by kernel_rfl) ?_ ?_
  ·intro wd X0
   refine qD (fun S s' w' hi hN X U V H => ?_) ?_
   ·replace X := X.mono (M' := none1) (fun y _ h => by
      obtain ⟨j, hj, h⟩ := h
      exact h.elim)
    exact DoesT_pure (r_fieldAddr (b := bs) (o := 0) (o' := 1) (U 3 rfl) Try.underlying77 rfl siz3 rfl) rfl
   refine qD (fun S s' w' hi hN X U V H => ?_) ?_
   ·replace X := X.mono (M' := none1) (fun y _ h => by
      obtain ⟨j, hj, h⟩ := h
      exact h.elim)
    have e29 : s' 29 = (.pointer (some ⟨bs, 1, none⟩)) := (H 0 rfl).2 29 (fun _ _ v _ => v = (.pointer (some ⟨bs, 1, none⟩))) rfl (by rw [hFs4]; rfl)
    exact DoesT_pure (r_load (v := (I6 (p : Int))) e29 flat3 (((X0.trans X).keep Bs).cell rfl)) rfl
   refine qD (fun S s' w' hi hN X U V H => ?_) ?_
   ·replace X := X.mono (M' := none1) (fun y _ h => by
      obtain ⟨j, hj, h⟩ := h
      exact h.elim)
    exact DoesT_pure (r_move (v := (P6 rb 0)) (U 0 rfl)) rfl
   refine qD (fun S s' w' hi hN X U V H => ?_) ?_
   ·replace X := X.mono (M' := none1) (fun y _ h => by
      obtain ⟨j, hj, h⟩ := h
      exact h.elim)
    have e31 : s' 31 = (.pointer (some ⟨rb, 0, none⟩)) := (H 2 rfl).2 31 (fun _ _ v _ => v = (.pointer (some ⟨rb, 0, none⟩))) rfl (by rw [hFs4]; rfl)
    exact DoesT_pure (r_nilCheck (a := ⟨rb, 0, none⟩) e31) rfl
   refine qD (fun S s' w' hi hN X U V H => ?_) ?_
   ·replace X := X.mono (M' := none1) (fun y _ h => by
      obtain ⟨j, hj, h⟩ := h
      exact h.elim)
    have e32 : s' 32 = (.pointer (some ⟨rb, 0, none⟩)) := (H 3 rfl).2 32 (fun _ _ v _ => v = (.pointer (some ⟨rb, 0, none⟩))) rfl (by rw [hFs4]; rfl)
    exact DoesT_pure (r_fieldAddr (b := rb) (o := 0) (o' := 1) e32 Try.underlying80 rfl siz22 rfl) rfl
   refine qD (fun S s' w' hi hN X U V H => ?_) ?_
   ·replace X := X.mono (M' := none1) (fun y _ h => by
      obtain ⟨j, hj, h⟩ := h
      exact h.elim)
    have e33 : s' 33 = (.pointer (some ⟨rb, 1, none⟩)) := (H 4 rfl).2 33 (fun _ _ v _ => v = (.pointer (some ⟨rb, 1, none⟩))) rfl (by rw [hFs4]; rfl)
    exact DoesT_pure (r_load (v := (.slice (some ⟨tb, to, none⟩) tn tc)) e33 flat22 (((Ext.trans X0 X).keep hblk).cell rfl)) rfl
   refine qD (fun S s' w' hi hN X U V H => ?_) ?_
   ·replace X := X.mono (M' := none1) (fun y _ h => by
      obtain ⟨j, hj, h⟩ := h
      exact h.elim)
    have e34 : s' 34 = (.slice (some ⟨tb, to, none⟩) tn tc) := (H 5 rfl).2 34 (fun _ _ v _ => v = (.slice (some ⟨tb, to, none⟩) tn tc)) rfl (by rw [hFs4]; rfl)
    exact DoesT_pure (r_lenSlice (ad := some ⟨tb, to, none⟩) (n := tn) (cap := tc) Try.underlying22 e34) rfl
   refine qD (fun S s' w' hi hN X U V H => ?_) ?_
   ·replace X := X.mono (M' := none1) (fun y _ h => by
      obtain ⟨j, hj, h⟩ := h
      exact h.elim)
    have e30 : s' 30 = (.int .i64 ((p : Nat) : Int)) := (H 1 rfl).2 30 (fun _ _ v _ => v = (.int .i64 ((p : Nat) : Int))) rfl (by rw [hFs4]; rfl)
    have e35 : s' 35 = (.int .i64 ((tn : Nat) : Int)) := (H 6 rfl).2 35 (fun _ _ v _ => v = (.int .i64 ((tn : Nat) : Int))) rfl (by rw [hFs4]; rfl)
    exact DoesT_pure (Eq.trans (r_eql (k := .i64) (a := (p : Int)) (b := (tn : Int)) e30 e35) (by rw [hneq])) rfl
   refine qD (fun S s' w' hi hN X U V H => ?_) ?_
   ·replace X := X.mono (M' := none1) (fun y _ h => by
      obtain ⟨j, hj, h⟩ := h
      exact h.elim)
    have e36 : s' 36 = (.bool false) := (H 7 rfl).2 36 (fun _ _ v _ => v = (.bool false)) rfl (by rw [hFs4]; rfl)
    exact DoesT_pure (r_move (v := (.bool false)) e36) rfl
   refine DagStepsS.cons (StabS.eq) (LocS.const) (fun S s' w' hi hN X U V H => Or.inl ⟨Guarded_some rfl rfl (d := 37) ((H 8 rfl).2 37 (fun _ _ v _ => v = (.bool false)) rfl (by rw [hFs4]; rfl)), ?_⟩) ?_
   ·replace X := X.mono (M' := none1) (fun y _ h => by
      obtain ⟨j, hj, h⟩ := h
      exact h.elim)
    exact DoesT_pure (r_fieldAddr (b := b5) (o := 0) (o' := 5) (U 5 rfl) Try.underlying87 rfl siz24 rfl) rfl
   refine DagStepsS.cons (StabS.eq) (LocS.const) (fun S s' w' hi hN X U V H => Or.inl ⟨Guarded_some rfl rfl (d := 37) ((H 8 rfl).2 37 (fun _ _ v _ => v = (.bool false)) rfl (by rw [hFs4]; rfl)), ?_⟩) ?_
   ·replace X := X.mono (M' := none1) (fun y _ h => by
      obtain ⟨j, hj, h⟩ := h
      exact h.elim)
    have e38 : s' 38 = (.pointer (some ⟨b5, 5, none⟩)) := (H 9 rfl).2 38 (fun _ _ v _ => v = (.pointer (some ⟨b5, 5, none⟩))) rfl (by rw [hFs4]; rfl)
    exact DoesT_pure (r_load (v := (.slice sa l.length sc)) e38 flat24 (((X0.trans X).keep B5).cell rfl)) rfl
   refine DagStepsS.cons (StabS.eq) (LocS.const) (fun S s' w' hi hN X U V H => Or.inl ⟨Guarded_some rfl rfl (d := 37) ((H 8 rfl).2 37 (fun _ _ v _ => v = (.bool false)) rfl (by rw [hFs4]; rfl)), ?_⟩) ?_
   ·replace X := X.mono (M' := none1) (fun y _ h => by
      obtain ⟨j, hj, h⟩ := h
      exact h.elim)
    exact DoesT_pure (r_move (v := (P6 rb 0)) (U 0 rfl)) rfl
   refine DagStepsS.cons (StabS.eq) (LocS.const) (fun S s' w' hi hN X U V H => Or.inl ⟨Guarded_some rfl rfl (d := 37) ((H 8 rfl).2 37 (fun _ _ v _ => v = (.bool false)) rfl (by rw [hFs4]; rfl)), ?_⟩) ?_
   ·replace X := X.mono (M' := none1) (fun y _ h => by
      obtain ⟨j, hj, h⟩ := h
      exact h.elim)
    have e40 : s' 40 = (.pointer (some ⟨rb, 0, none⟩)) := (H 11 rfl).2 40 (fun _ _ v _ => v = (.pointer (some ⟨rb, 0, none⟩))) rfl (by rw [hFs4]; rfl)
    exact DoesT_pure (r_nilCheck (a := ⟨rb, 0, none⟩) e40) rfl
   refine DagStepsS.cons (StabS.eq) (LocS.const) (fun S s' w' hi hN X U V H => Or.inl ⟨Guarded_some rfl rfl (d := 37) ((H 8 rfl).2 37 (fun _ _ v _ => v = (.bool false)) rfl (by rw [hFs4]; rfl)), ?_⟩) ?_
   ·replace X := X.mono (M' := none1) (fun y _ h => by
      obtain ⟨j, hj, h⟩ := h
      exact h.elim)
    have e41 : s' 41 = (.pointer (some ⟨rb, 0, none⟩)) := (H 12 rfl).2 41 (fun _ _ v _ => v = (.pointer (some ⟨rb, 0, none⟩))) rfl (by rw [hFs4]; rfl)
    exact DoesT_pure (r_fieldAddr (b := rb) (o := 0) (o' := 1) e41 Try.underlying80 rfl siz22 rfl) rfl
   refine DagStepsS.cons (StabS.eq) (LocS.const) (fun S s' w' hi hN X U V H => Or.inl ⟨Guarded_some rfl rfl (d := 37) ((H 8 rfl).2 37 (fun _ _ v _ => v = (.bool false)) rfl (by rw [hFs4]; rfl)), ?_⟩) ?_
   ·replace X := X.mono (M' := none1) (fun y _ h => by
      obtain ⟨j, hj, h⟩ := h
      exact h.elim)
    have e42 : s' 42 = (.pointer (some ⟨rb, 1, none⟩)) := (H 13 rfl).2 42 (fun _ _ v _ => v = (.pointer (some ⟨rb, 1, none⟩))) rfl (by rw [hFs4]; rfl)
    exact DoesT_pure (r_load (v := (.slice (some ⟨tb, to, none⟩) tn tc)) e42 flat22 (((Ext.trans X0 X).keep hblk).cell rfl)) rfl
   refine DagStepsS.cons (StabS.eq) (LocS.const) (fun S s' w' hi hN X U V H => Or.inl ⟨Guarded_some rfl rfl (d := 37) ((H 8 rfl).2 37 (fun _ _ v _ => v = (.bool false)) rfl (by rw [hFs4]; rfl)), ?_⟩) ?_
   ·replace X := X.mono (M' := none1) (fun y _ h => by
      obtain ⟨j, hj, h⟩ := h
      exact h.elim)
    exact DoesT_pure (r_fieldAddr (b := bs) (o := 0) (o' := 1) (U 3 rfl) Try.underlying77 rfl siz3 rfl) rfl
   refine DagStepsS.cons (StabS.eq) (LocS.const) (fun S s' w' hi hN X U V H => Or.inl ⟨Guarded_some rfl rfl (d := 37) ((H 8 rfl).2 37 (fun _ _ v _ => v = (.bool false)) rfl (by rw [hFs4]; rfl)), ?_⟩) ?_
   ·replace X := X.mono (M' := none1) (fun y _ h => by
      obtain ⟨j, hj, h⟩ := h
      exact h.elim)
    have e44 : s' 44 = (.pointer (some ⟨bs, 1, none⟩)) := (H 15 rfl).2 44 (fun _ _ v _ => v = (.pointer (some ⟨bs, 1, none⟩))) rfl (by rw [hFs4]; rfl)
    exact DoesT_pure (r_load (v := (I6 (p : Int))) e44 flat3 (((X0.trans X).keep Bs).cell rfl)) rfl
   refine DagStepsS.cons (StabS.eq) (LocS.const) (fun S s' w' hi hN X U V H => Or.inl ⟨Guarded_some rfl rfl (d := 37) ((H 8 rfl).2 37 (fun _ _ v _ => v = (.bool false)) rfl (by rw [hFs4]; rfl)), ?_⟩) ?_
   ·replace X := X.mono (M' := none1) (fun y _ h => by
      obtain ⟨j, hj, h⟩ := h
      exact h.elim)
    have e43 : s' 43 = (.slice (some ⟨tb, to, none⟩) tn tc) := (H 14 rfl).2 43 (fun _ _ v _ => v = (.slice (some ⟨tb, to, none⟩) tn tc)) rfl (by rw [hFs4]; rfl)
    have e45 : s' 45 = (.int .i64 ((p : Nat) : Int)) := (H 16 rfl).2 45 (fun _ _ v _ => v = (.int .i64 ((p : Nat) : Int))) rfl (by rw [hFs4]; rfl)
    exact DoesT_pure (r_indexSlice (b := tb) (o := to) (len := tn) (cap := tc) (i := p) (o' := to + p) e43 e45 rfl Try.underlying22 siz3 (by omega) (by omega)) rfl
   refine DagStepsS.cons (StabS.eq) (LocS.const) (fun S s' w' hi hN X U V H => Or.inl ⟨Guarded_some rfl rfl (d := 37) ((H 8 rfl).2 37 (fun _ _ v _ => v = (.bool false)) rfl (by rw [hFs4]; rfl)), ?_⟩) ?_
   ·replace X := X.mono (M' := none1) (fun y _ h => by
      obtain ⟨j, hj, h⟩ := h
      exact h.elim)
    have e46 : s' 46 = (.pointer (some ⟨tb, to + p, none⟩)) := (H 17 rfl).2 46 (fun _ _ v _ => v = (.pointer (some ⟨tb, to + p, none⟩))) rfl (by rw [hFs4]; rfl)
    exact DoesT_pure (r_load (v := (I6 x)) e46 flat3 ((Ext.trans E1 (X0.trans X)).cell (htx p x hx))) rfl
   refine DagStepsS.cons (StabS.eq) (LocS.const) (fun S s' w' hi hN X U V H => Or.inl ⟨Guarded_some rfl rfl (d := 37) ((H 8 rfl).2 37 (fun _ _ v _ => v = (.bool false)) rfl (by rw [hFs4]; rfl)), ?_⟩) ?_
   ·replace X := X.mono (M' := none1) (fun y _ h => by
      obtain ⟨j, hj, h⟩ := h
      exact h.elim)
    have e39 : s' 39 = (.slice sa l.length sc) := (H 10 rfl).2 39 (fun _ _ v _ => v = (.slice sa l.length sc)) rfl (by rw [hFs4]; rfl)
    have e47 : s' 47 = (.int .i64 x) := (H 18 rfl).2 47 (fun _ _ v _ => v = (.int .i64 x)) rfl (by rw [hFs4]; rfl)
    exact DoesT_callE (r_callF (vs := [(.slice sa l.length sc), (I6 x)]) Try.func68 nm68 bd68 (lst2 e39 e47)) (in_c _ _ l x (hsv.ext (Ext.trans E1 (X0.trans X))))
   refine DagStepsS.cons (StabS.eq) (LocS.const) (fun S s' w' hi hN X U V H => Or.inl ⟨Guarded_some rfl rfl (d := 37) ((H 8 rfl).2 37 (fun _ _ v _ => v = (.bool false)) rfl (by rw [hFs4]; rfl)), ?_⟩) ?_
   ·replace X := X.mono (M' := none1) (fun y _ h => by
      obtain ⟨j, hj, h⟩ := h
      exact h.elim)
    have e48 : s' 48 = (.bool (inS l x)) := (H 19 rfl).2 48 (fun _ _ v _ => v = (.bool (inS l x))) rfl (by rw [hFs4]; rfl)
    exact DoesT_pure (r_not (b := inS l x) e48) rfl
   refine qD (fun S s' w' hi hN X U V H => ?_) ?_
   ·replace X := X.mono (M' := none1) (fun y _ h => by
      obtain ⟨j, hj, h⟩ := h
      exact h.elim)
    have e37 : s' 37 = (.bool false) := (H 8 rfl).2 37 (fun _ _ v _ => v = (.bool false)) rfl (by rw [hFs4]; rfl)
    have e49 : s' 49 = (.bool (!(inS l x))) := (H 20 rfl).2 49 (fun _ _ v _ => v = (.bool (!(inS l x)))) rfl (by rw [hFs4]; rfl)
    exact DoesT_pure (r_pick (b := false) (v := (.bool (!(inS l x)))) e37 e49) rfl
   exact DagStepsS.nil
  ·intro s' wd4 w4 X0 X4 U H
   replace X4 := X4.mono (M' := none1) (fun y _ h => by
     obtain ⟨j, hj, h⟩ := h
     exact h.elim)
   have e50 : s' 50 = (.bool (!(inS l x))) := H 21 rfl 50 (fun _ _ v _ => v = (.bool (!(inS l x)))) rfl (by rw [hFs4]; rfl)
   obtain ⟨j4, rfl⟩ := Fits.out (σ := s') (l := [(0, (.pointer (some ⟨rb, 0, none⟩))), (6, (.pointer (some ⟨bn, 0, none⟩))), (50, (.bool (!(inS l x))))]) ⟨U 0 rfl, U 6 rfl, e50, trivial⟩
   clear U H
   replace hblk := (X0.trans X4).keep hblk
   replace hbeg := (X0.trans X4).keep hbeg
   replace hmap := (X0.trans X4).keepM hmap
   replace hPb := (X0.trans X4).keep hPb
   replace Bs := (X0.trans X4).keep Bs
   replace B5 := (X0.trans X4).keep B5
   replace Bn := (X0.trans X4).keep Bn
   replace X4 := X0.trans X4
   replace E := E.ext X4
   replace E1 := E1.ext X4
   refine WpL_nil (thn_normal ?_)
   have hc5 : (!(inS l x)) = false := by rw [hin]; rfl
   refine Wp_cond_false (congrArg Value.bool hc5) ?_
   refine Wp_skip (thn_normal (Wp_seq_region ?_))
   refine qF bn 0 1 rfl Try.underlying77 rfl siz3 rfl ?_
   refine qV (r_load (v := (I6 (p : Int))) rfl flat3 (Bn.cell rfl)) ?_
   refine qV (r_add (k := .i64) (a := (p : Int)) (b := 1) (c := ((p + 1 : Nat) : Int)) rfl rfl ((wI64 (by omega)).trans (by omega))) ?_
   refine qF bn 0 1 rfl Try.underlying77 rfl siz3 rfl ?_
   refine s_store (b := bn) (o := 1) (c' := #[(I6 ((a + 1 : Nat) : Int)), (I6 ((p + 1 : Nat) : Int)), (I6 (d : Int))]) (v := (I6 ((p + 1 : Nat) : Int))) rfl rfl rfl siz3 Bn (by simp) rfl ?_
   intro w6 S6
   replace hblk := S6.keep (by omega) hblk
   replace hbeg := S6.keep (by omega) hbeg
   replace hmap := S6.keepM (by omega) hmap
   replace hPb := S6.keep (by omega) hPb
   replace Bs := S6.keep (by omega) Bs
   replace B5 := S6.keep (by omega) B5
   replace E := S6.step E (by first | exact Or.inl (by omega) | exact Or.inr rfl | exact Or.inr (by assumption) | exact Or.inr (by simp) | exact Or.inr (by omega) | exact Or.inr (by dsimp only; omega))
   replace E1 := S6.step E1 (Or.inl (by omega))
   replace Bn := S6.blk
   refine WpL_nil (Wp_region ?_)
   refine qF bn 0 2 rfl Try.underlying77 rfl siz3 rfl ?_
   refine s_store (b := bn) (o := 2) (c' := #[(I6 ((a + 1 : Nat) : Int)), (I6 ((p + 1 : Nat) : Int)), (I6 1048576)]) (v := (I6 1048576)) rfl rfl rfl siz3 Bn (by simp) rfl ?_
   intro w7 S7
   replace hblk := S7.keep (by omega) hblk
   replace hbeg := S7.keep (by omega) hbeg
   replace hmap := S7.keepM (by omega) hmap
   replace hPb := S7.keep (by omega) hPb
   replace Bs := S7.keep (by omega) Bs
   replace B5 := S7.keep (by omega) B5
   replace E := S7.step E (by first | exact Or.inl (by omega) | exact Or.inr rfl | exact Or.inr (by assumption) | exact Or.inr (by simp) | exact Or.inr (by omega) | exact Or.inr (by dsimp only; omega))
   replace E1 := S7.step E1 (Or.inl (by omega))
   replace Bn := S7.blk
   refine WpL_nil (inB_normal (thn_normal (Wp_seq_region ?_)))
   refine qM (P6 rb 0) rfl ?_
   refine qV (r_loadAgg (vs := [(I6 ((a + 1 : Nat) : Int)), (I6 ((p + 1 : Nat) : Int)), (I6 1048576)]) rfl agg77 siz77 rfl (Bn.cells rfl)) ?_
   refine WpL_enter rfl rfl (by decide) (r_callF (vs := [(P6 rb 0), (.agg #[(I6 ((a + 1 : Nat) : Int)), (I6 ((p + 1 : Nat) : Int)), (I6 1048576)])]) Try.func40 nm40 bd40 rfl) (ih r rfl F _ rb pb mb bb _ _ _ es gf gt (hC.mod E) ⟨hblk, hmap, hbeg, hgl⟩ hFl hpt) ?_
   rintro _ w19 ⟨⟨rfl, hO⟩, C19⟩
   replace hPb := C19.keep (fun h => by rcases h with h | h | h <;> omega) hPb
   replace Bs := C19.keep (fun h => by rcases h with h | h | h <;> omega) Bs
   replace B5 := C19.keep (fun h => by rcases h with h | h | h <;> omega) B5
   replace Bn := C19.keep (fun h => by rcases h with h | h | h <;> omega) Bn
   replace E := E.step C19 (fun _ _ h => h)
   refine qA (.bool o.isSome) rfl ?_
   refine WpL_nil (Wp_ret ?_)
   refine fin_tmp Try.results60 (v := (.bool o.isSome)) rfl ?_
   exact ⟨⟨rfl, hO⟩, E⟩
theorem try_setN {text : List Int} {code : List Ins} {a p d : Nat} {l : List (Int × Int)} {B : List Int} {G : Grp} (hc : code[a]? = some (.set l)) (hs : setOk text l p = false) : RunC fTry text code a p d B G none := by
  unfold setOk at hs
  cases hx : text[p]? with
  | none => exact try_setN2 hc hx
  | some x => rw [hx] at hs; exact try_setN1 hc hx hs
theorem try_set {text : List Int} {code : List Ins} {a p d : Nat} {l : List (Int × Int)} {B : List Int} {G : Grp} {o : Option (Grp × Nat)} (hc : code[a]? = some (.set l)) (hs : setOk text l p = true) (ih : RunC fRun text code (a + 1) (p + 1) many B G o) : RunC fTry text code a p d B G o := by
  unfold setOk at hs
  cases hx : text[p]? with
  | none => rw [hx] at hs; cases hs
  | some x => rw [hx] at hs; exact try_setY hc hx hs ih
set_option maxHeartbeats 2000000 in
theorem try_chkN {text : List Int} {code : List Ins} {a p d m : Nat} {B : List Int} {G : Grp} (hc : code[a]? = some (.chk m)) (hd : d < m) : RunC fTry text code a p d B G none := by
 intro r hcode F w0 rb pb mb bb ta tn tc es gf gt hC hA hFl hp
 subst hcode
 have hblk := hA.blk
 have hmap := hA.map
 have hbeg := hA.beg
 have hrl := hblk.lt
 have hml := hmap.lt
 have hbl := hbeg.lt
 have hd1 := hC.d1
 have hd2 := hC.d2
 have hd3 := hC.d3
 have hgl := hA.gl
 have htl := hC.tl
 obtain ⟨cb, cc, qb, n, row, hPb, hcl, hrow, hsub, han, hn1, hFpb⟩ := hC.prog.row hc
 have hpn := (hC.fl pb hFpb).2
 simp only [RowF] at hrow
 subst hrow
 refine Ret_of Try.func60 rfl Try.ntmps60 (Nat.le_of_ble_eq_true rfl) ?_
 have E : Chg (RMod rb mb bb) w0 w0 := Chg.refl _ _
 have E1 : Chg none1 w0 w0 := Chg.refl _ _
 refine Wp_seq_region ?_
 refine s_box (v := (.agg #[(I6 (a : Int)), (I6 (p : Int)), (I6 (d : Int))])) (c := #[(I6 (a : Int)), (I6 (p : Int)), (I6 (d : Int))]) (by decide) rfl rfl ?_
 intro bs ws Ns
 have Fs := Ns.ge E
 have Fs_E1 := Ns.ge E1
 have Os_rb := Ns.lt hblk
 have Os_bb := Ns.lt hbeg
 have Os_mb := Ns.ltM hmap
 have Os_pb := Ns.lt hPb
 replace hblk := Ns.keep hblk
 replace hbeg := Ns.keep hbeg
 replace hmap := Ns.keepM hmap
 replace hPb := Ns.keep hPb
 replace E := E.ext Ns.ext
 have Bs := Ns.blk
 replace E1 := E1.ext Ns.ext
 refine qA (.bool false) rfl ?_
 refine WpL_nil ?_
 obtain ⟨z0, hz0⟩ : ∃ z0, z0 = (ws).heap.size := ⟨_, rfl⟩
 have hz1 : w0.heap.size ≤ z0 := by rw [hz0]; exact E.size
 have hz2 : bs < z0 := by rw [hz0]; exact Bs.lt
 have hz_1 : w0.heap.size ≤ ws.heap.size := E.size
 have lz_1_rb : rb < ws.heap.size := hblk.lt
 have lz_1_bb : bb < ws.heap.size := hbeg.lt
 have lz_1_mb : mb < ws.heap.size := hmap.lt
 have lz_1_pb : pb < ws.heap.size := hPb.lt
 have lz_1_bs : bs < ws.heap.size := Bs.lt
 refine Wp_seq ?_
 obtain ⟨Fs1, hFs1⟩ : ∃ Fs : List FctS, Fs = [(fun _ _ v _ => v = (P6 rb 0)), (fun _ _ v _ => v = (P6 rb 0)), (fun _ _ v _ => v = (P6 rb 0)), (fun _ _ v _ => v = (P6 pb 0)), (fun _ _ v _ => v = (P6 pb 0)), (fun _ _ v _ => v = (P6 pb 0)), (fun _ _ v _ => v = (.slice (some ⟨cb, 0, none⟩) n cc)), (fun _ _ v _ => v = (P6 bs 0)), (fun _ _ v _ => v = (I6 (a : Int))), (fun _ _ v _ => v = (.pointer (some ⟨cb, 0 + a * 8, none⟩))), (fun _ _ v _ => v = (.agg #[(I6 7), (I6 0), (I6 0), (I6 (m : Int)), (I6 0), (.slice none 0 0), (.pointer none), (.bool false)])), (fun _ _ => alF 87 #[(I6 0), (I6 0), (I6 0), (I6 0), (I6 0), (.slice none 0 0), (.pointer none), (.bool false)] ws.heap.size), (fun _ _ v _ => v = undef)] := ⟨_, rfl⟩
 refine Wp_dagS (MsL []) [true, true, true, true, true, true, true, true, true, true, true, true, false] [12] [9, 10, 11, 12, 13, 14, 15, 16, 17, 18, 19, 5, 196] [[], [0], [1], [2], [3], [4], [5], [], [7], [6, 8], [9], [], []] [[], [0], [1, 0], [2, 1, 0], [3, 2, 1, 0], [4, 3, 2, 1, 0], [5, 4, 3, 2, 1, 0], [], [7], [6, 5, 4, 3, 2, 1, 0, 8, 7], [9, 6, 5, 4, 3, 2, 1, 0, 8, 7], [], []] Fs1 hFs1 (by kernel_rfl) mixed (by kernel_rfl) (by kernel_rfl) (by kernel_rfl) (by kernel_rfl) ?_ ?_
 ·intro wd X0
  refine qD (fun S s' w' hi hN X U V H => ?_) ?_
  ·replace X := X.mono (M' := none1) (fun y _ h => by
     obtain ⟨j, hj, h⟩ := h
     exact h.elim)
   exact DoesT_pure (r_move (v := (P6 rb 0)) (U 0 rfl)) rfl
  refine qD (fun S s' w' hi hN X U V H => ?_) ?_
  ·replace X := X.mono (M' := none1) (fun y _ h => by
     obtain ⟨j, hj, h⟩ := h
     exact h.elim)
   have e9 : s' 9 = (.pointer (some ⟨rb, 0, none⟩)) := (H 0 rfl).2 9 (fun _ _ v _ => v = (.pointer (some ⟨rb, 0, none⟩))) rfl (by rw [hFs1]; rfl)
   exact DoesT_pure (r_nilCheck (a := ⟨rb, 0, none⟩) e9) rfl
  refine qD (fun S s' w' hi hN X U V H => ?_) ?_
  ·replace X := X.mono (M' := none1) (fun y _ h => by
     obtain ⟨j, hj, h⟩ := h
     exact h.elim)
   have e10 : s' 10 = (.pointer (some ⟨rb, 0, none⟩)) := (H 1 rfl).2 10 (fun _ _ v _ => v = (.pointer (some ⟨rb, 0, none⟩))) rfl (by rw [hFs1]; rfl)
   exact DoesT_pure (r_fieldAddr (b := rb) (o := 0) (o' := 0) e10 Try.underlying80 rfl siz56 rfl) rfl
  refine qD (fun S s' w' hi hN X U V H => ?_) ?_
  ·replace X := X.mono (M' := none1) (fun y _ h => by
     obtain ⟨j, hj, h⟩ := h
     exact h.elim)
   have e11 : s' 11 = (.pointer (some ⟨rb, 0, none⟩)) := (H 2 rfl).2 11 (fun _ _ v _ => v = (.pointer (some ⟨rb, 0, none⟩))) rfl (by rw [hFs1]; rfl)
   exact DoesT_pure (r_load (v := (P6 pb 0)) e11 flat56 (((Ext.trans X0 X).keep hblk).cell rfl)) rfl
  refine qD (fun S s' w' hi hN X U V H => ?_) ?_
  ·replace X := X.mono (M' := none1) (fun y _ h => by
     obtain ⟨j, hj, h⟩ := h
     exact h.elim)
   have e12 : s' 12 = (.pointer (some ⟨pb, 0, none⟩)) := (H 3 rfl).2 12 (fun _ _ v _ => v = (.pointer (some ⟨pb, 0, none⟩))) rfl (by rw [hFs1]; rfl)
   exact DoesT_pure (r_nilCheck (a := ⟨pb, 0, none⟩) e12) rfl
  refine qD (fun S s' w' hi hN X U V H => ?_) ?_
  ·replace X := X.mono (M' := none1) (fun y _ h => by
     obtain ⟨j, hj, h⟩ := h
     exact h.elim)
   have e13 : s' 13 = (.pointer (some ⟨pb, 0, none⟩)) := (H 4 rfl).2 13 (fun _ _ v _ => v = (.pointer (some ⟨pb, 0, none⟩))) rfl (by rw [hFs1]; rfl)
   exact DoesT_pure (r_fieldAddr (b := pb) (o := 0) (o' := 0) e13 Try.underlying83 rfl siz81 rfl) rfl
  refine qD (fun S s' w' hi hN X U V H => ?_) ?_
  ·replace X := X.mono (M' := none1) (fun y _ h => by
     obtain ⟨j, hj, h⟩ := h
     exact h.elim)
   have e14 : s' 14 = (.pointer (some ⟨pb, 0, none⟩)) := (H 5 rfl).2 14 (fun _ _ v _ => v = (.pointer (some ⟨pb, 0, none⟩))) rfl (by rw [hFs1]; rfl)
   exact DoesT_pure (r_load (v := (.slice (some ⟨cb, 0, none⟩) n cc)) e14 flat81 (((X0.trans X).keep hPb).cell rfl)) rfl
  refine qD (fun S s' w' hi hN X U V H => ?_) ?_
  ·replace X := X.mono (M' := none1) (fun y _ h => by
     obtain ⟨j, hj, h⟩ := h
     exact h.elim)
   exact DoesT_pure (r_fieldAddr (b := bs) (o := 0) (o' := 0) (U 3 rfl) Try.underlying77 rfl siz3 rfl) rfl
  refine qD (fun S s' w' hi hN X U V H => ?_) ?_
  ·replace X := X.mono (M' := none1) (fun y _ h => by
     obtain ⟨j, hj, h⟩ := h
     exact h.elim)
   have e16 : s' 16 = (.pointer (some ⟨bs, 0, none⟩)) := (H 7 rfl).2 16 (fun _ _ v _ => v = (.pointer (some ⟨bs, 0, none⟩))) rfl (by rw [hFs1]; rfl)
   exact DoesT_pure (r_load (v := (I6 (a : Int))) e16 flat3 (((X0.trans X).keep Bs).cell rfl)) rfl
  refine qD (fun S s' w' hi hN X U V H => ?_) ?_
  ·replace X := X.mono (M' := none1) (fun y _ h => by
     obtain ⟨j, hj, h⟩ := h
     exact h.elim)
   have e15 : s' 15 = (.slice (some ⟨cb, 0, none⟩) n cc) := (H 6 rfl).2 15 (fun _ _ v _ => v = (.slice (some ⟨cb, 0, none⟩) n cc)) rfl (by rw [hFs1]; rfl)
   have e17 : s' 17 = (.int .i64 ((a : Nat) : Int)) := (H 8 rfl).2 17 (fun _ _ v _ => v = (.int .i64 ((a : Nat) : Int))) rfl (by rw [hFs1]; rfl)
   exact DoesT_pure (r_indexSlice (b := cb) (o := 0) (len := n) (cap := cc) (i := a) (o' := 0 + a * 8) e15 e17 rfl Try.underlying81 siz87 (by omega) (by omega)) rfl
  refine qD (fun S s' w' hi hN X U V H => ?_) ?_
  ·replace X := X.mono (M' := none1) (fun y _ h => by
     obtain ⟨j, hj, h⟩ := h
     exact h.elim)
   have e18 : s' 18 = (.pointer (some ⟨cb, 0 + a * 8, none⟩)) := (H 9 rfl).2 18 (fun _ _ v _ => v = (.pointer (some ⟨cb, 0 + a * 8, none⟩))) rfl (by rw [hFs1]; rfl)
   exact DoesT_pure (r_loadAgg (vs := [(I6 7), (I6 0), (I6 0), (I6 (m : Int)), (I6 0), (.slice none 0 0), (.pointer none), (.bool false)]) e18 agg87 siz87 rfl (hcl.ext (Ext.trans (Ns.ext) (Ext.trans X0 X)))) rfl
  refine DagStepsS.cons (StabS.chg (U := none1) (fun v w w' x h => alF_ext _ _ _ v w w' x h) (fun p y hp hw h => by
     exact h.elim)) (LocS.const) (fun S s' w' hi hN X U V H => Or.inl ⟨Guarded_none rfl, ?_⟩) ?_
  ·replace X := X.mono (M' := none1) (fun y _ h => by
     obtain ⟨j, hj, h⟩ := h
     exact h.elim)
   exact DoesT_alloc (c := #[(I6 0), (I6 0), (I6 0), (I6 0), (I6 0), (.slice none 0 0), (.pointer none), (.bool false)]) zer87 rfl (by have := X0.size; have := X.size; omega)
  refine DagStepsS.tail ?_
  exact DagStepsS.nil
 ·intro s' wd1 w1 X0 X1 U H
  replace X1 := X1.mono (M' := none1) (fun y _ h => by
    obtain ⟨j, hj, h⟩ := h
    exact h.elim)
  have e19 : s' 19 = (.agg #[(.int .i64 7), (.int .i64 0), (.int .i64 0), (.int .i64 ((m : Nat) : Int)), (.int .i64 0), (.slice none 0 0), (.pointer none), (.bool false)]) := H 10 rfl 19 (fun _ _ v _ => v = (.agg #[(.int .i64 7), (.int .i64 0), (.int .i64 0), (.int .i64 ((m : Nat) : Int)), (.int .i64 0), (.slice none 0 0), (.pointer none), (.bool false)])) rfl (by rw [hFs1]; rfl)
  obtain ⟨b5, e5, B5, g5⟩ := (show ((fun _ _ => alF 87 #[(.int .i64 0), (.int .i64 0), (.int .i64 0), (.int .i64 0), (.int .i64 0), (.slice none 0 0), (.pointer none), (.bool false)] ws.heap.size) : FctS) (allS [true, true, true, true, true, true, true, true, true, true, true, true, false]) s' (s' 5) w1 from H 11 rfl 5 (fun _ _ => alF 87 #[(.int .i64 0), (.int .i64 0), (.int .i64 0), (.int .i64 0), (.int .i64 0), (.slice none 0 0), (.pointer none), (.bool false)] ws.heap.size) rfl (by rw [hFs1]; rfl))
  obtain ⟨j1, rfl⟩ := Fits.out (σ := s') (l := [(0, (.pointer (some ⟨rb, 0, none⟩))), (3, (.pointer (some ⟨bs, 0, none⟩))), (19, (.agg #[(.int .i64 7), (.int .i64 0), (.int .i64 0), (.int .i64 ((m : Nat) : Int)), (.int .i64 0), (.slice none 0 0), (.pointer none), (.bool false)])), (5, (.pointer (some ⟨b5, 0, none⟩)))]) ⟨U 0 rfl, U 3 rfl, e19, e5, trivial⟩
  clear U H
  replace hblk := (X0.trans X1).keep hblk
  replace hbeg := (X0.trans X1).keep hbeg
  replace hmap := (X0.trans X1).keepM hmap
  replace hPb := (X0.trans X1).keep hPb
  replace Bs := (X0.trans X1).keep Bs
  replace X1 := X0.trans X1
  replace E := E.ext X1
  replace E1 := E1.ext X1
  refine s_storeAgg (b := b5) (o := 0) (c' := #[(I6 7), (I6 0), (I6 0), (I6 (m : Int)), (I6 0), (.slice none 0 0), (.pointer none), (.bool false)]) rfl rfl (by simp [Value.oneCell']) siz87 rfl B5 (by first | (simp; done) | exact Nat.le_of_ble_eq_true rfl) rfl ?_
  intro w2 S2
  replace hblk := S2.keep (by omega) hblk
  replace hbeg := S2.keep (by omega) hbeg
  replace hmap := S2.keepM (by omega) hmap
  replace hPb := S2.keep (by omega) hPb
  replace Bs := S2.keep (by omega) Bs
  replace E := S2.step E (by first | exact Or.inl (by omega) | exact Or.inr rfl | exact Or.inr (by assumption) | exact Or.inr (by simp) | exact Or.inr (by omega) | exact Or.inr (by dsimp only; omega))
  replace E1 := S2.step E1 (Or.inl (by omega))
  replace B5 := S2.blk
  refine WpL_nil (thn_normal (Wp_seq_region ?_))
  refine qV (r_loadAgg (vs := [(I6 (a : Int)), (I6 (p : Int)), (I6 (d : Int))]) rfl agg77 siz77 rfl (Bs.cells rfl)) ?_
  refine s_allocStore (v := (.agg #[(I6 (a : Int)), (I6 (p : Int)), (I6 (d : Int))])) (c := #[(I6 (a : Int)), (I6 (p : Int)), (I6 (d : Int))]) (n := 3) (by decide) zer77 rfl siz77 rfl rfl rfl (by simp [Value.oneCell']) ?_
  intro bn wn Nn
  have Fn := Nn.ge E
  have Fn_E1 := Nn.ge E1
  have On_rb := Nn.lt hblk
  have On_bb := Nn.lt hbeg
  have On_mb := Nn.ltM hmap
  have On_pb := Nn.lt hPb
  have On_bs := Nn.lt Bs
  have On_b5 := Nn.lt B5
  replace hblk := Nn.keep hblk
  replace hbeg := Nn.keep hbeg
  replace hmap := Nn.keepM hmap
  replace hPb := Nn.keep hPb
  replace Bs := Nn.keep Bs
  replace B5 := Nn.keep B5
  replace E := E.ext Nn.ext
  have Bn := Nn.blk
  replace E1 := E1.ext Nn.ext
  refine WpL_nil (Wp_seq_region ?_)
  refine qF bn 0 0 rfl Try.underlying77 rfl siz3 rfl ?_
  refine qV (r_load (v := (I6 (a : Int))) rfl flat3 (Bn.cell rfl)) ?_
  refine qV (r_add (k := .i64) (a := (a : Int)) (b := 1) (c := ((a + 1 : Nat) : Int)) rfl rfl ((wI64 (by omega)).trans (by omega))) ?_
  refine qF bn 0 0 rfl Try.underlying77 rfl siz3 rfl ?_
  refine s_store (b := bn) (o := 0) (c' := #[(I6 ((a + 1 : Nat) : Int)), (I6 (p : Int)), (I6 (d : Int))]) (v := (I6 ((a + 1 : Nat) : Int))) rfl rfl rfl siz3 Bn (by simp) rfl ?_
  intro w3 S3
  replace hblk := S3.keep (by omega) hblk
  replace hbeg := S3.keep (by omega) hbeg
  replace hmap := S3.keepM (by omega) hmap
  replace hPb := S3.keep (by omega) hPb
  replace Bs := S3.keep (by omega) Bs
  replace B5 := S3.keep (by omega) B5
  replace E := S3.step E (by first | exact Or.inl (by omega) | exact Or.inr rfl | exact Or.inr (by assumption) | exact Or.inr (by simp) | exact Or.inr (by omega) | exact Or.inr (by dsimp only; omega))
  replace E1 := S3.step E1 (Or.inl (by omega))
  replace Bn := S3.blk
  refine WpL_nil (Wp_seq (Wp_seq_region ?_))
  refine qF b5 0 0 rfl Try.underlying87 rfl siz3 rfl ?_
  refine qV (r_load (v := (I6 7)) rfl flat3 (B5.cell rfl)) ?_
  refine WpL_nil (Wp_block (Wp_seq_region ?_))
  refine qV (r_eql (k := .i64) (a := 7) (b := 0) rfl rfl) ?_
  refine qA (.bool false) rfl ?_
  refine WpL_nil ?_
  refine Wp_cond_false rfl ?_
  refine Wp_seq_region ?_
  refine qV (r_eql (k := .i64) (a := 7) (b := 1) rfl rfl) ?_
  refine qA (.bool false) rfl ?_
  refine WpL_nil ?_
  refine Wp_cond_false rfl ?_
  refine Wp_seq_region ?_
  refine qV (r_eql (k := .i64) (a := 7) (b := 2) rfl rfl) ?_
  refine qA (.bool false) rfl ?_
  refine WpL_nil ?_
  refine Wp_cond_false rfl ?_
  refine Wp_seq_region ?_
  refine qV (r_eql (k := .i64) (a := 7) (b := 3) rfl rfl) ?_
  refine qA (.bool false) rfl ?_
  refine WpL_nil ?_
  refine Wp_cond_false rfl ?_
  refine Wp_seq_region ?_
  refine qV (r_eql (k := .i64) (a := 7) (b := 4) rfl rfl) ?_
  refine qA (.bool false) rfl ?_
  refine WpL_nil ?_
  refine Wp_cond_false rfl ?_
  refine Wp_seq_region ?_
  refine qV (r_eql (k := .i64) (a := 7) (b := 5) rfl rfl) ?_
  refine qA (.bool false) rfl ?_
  refine WpL_nil ?_
  refine Wp_cond_false rfl ?_
  refine Wp_seq_region ?_
  refine qV (r_eql (k := .i64) (a := 7) (b := 6) rfl rfl) ?_
  refine qA (.bool false) rfl ?_
  refine WpL_nil ?_
  refine Wp_cond_false rfl ?_
  refine Wp_seq_region ?_
  refine qV (r_eql (k := .i64) (a := 7) (b := 7) rfl rfl) ?_
  refine qA (.bool true) rfl ?_
  refine WpL_nil ?_
  refine Wp_cond_true rfl ?_
  refine Wp_seq_region ?_
  refine qF bs 0 2 rfl Try.underlying77 rfl siz3 rfl ?_
  refine qV (r_load (v := (I6 (d : Int))) rfl flat3 (Bs.cell rfl)) ?_
  refine qF b5 0 3 rfl Try.underlying87 rfl siz3 rfl ?_
  refine qV (r_load (v := (I6 (m : Int))) rfl flat3 (B5.cell rfl)) ?_
  refine qV (r_lss (k := .i64) (a := (d : Int)) (b := (m : Int)) rfl rfl) ?_
  refine WpL_nil ?_
  have hc4 : (decide ((((d : Nat) : Int) : Int) < ((m : Nat) : Int))) = true := decide_eq_true (by omega)
  refine Wp_cond_true (congrArg Value.bool hc4) ?_
  refine Wp_seq_region ?_
  refine qA (.bool false) rfl ?_
  refine WpL_nil (Wp_ret (inB_ret (thn_ret ?_)))
  refine fin_tmp Try.results60 (v := (.bool false)) rfl ?_
  exact ⟨⟨rfl, es, B, gt, G, ⟨hblk, hmap, hbeg, hgl⟩, rfl, hFl, fun _ => ⟨rfl, rfl, rfl⟩, fun q hq => by cases hq⟩, E⟩
set_option maxHeartbeats 2000000 in
theorem try_chkY {text : List Int} {code : List Ins} {a p d m : Nat} {B : List Int} {G : Grp} {o : Option (Grp × Nat)} (hc : code[a]? = some (.chk m)) (hd : m ≤ d) (ih : RunC fRun text code (a + 1) p d B G o) : RunC fTry text code a p d B G o := by
 intro r hcode F w0 rb pb mb bb ta tn tc es gf gt hC hA hFl hp
 subst hcode
 have hblk := hA.blk
 have hmap := hA.map
 have hbeg := hA.beg
 have hrl := hblk.lt
 have hml := hmap.lt
 have hbl := hbeg.lt
 have hd1 := hC.d1
 have hd2 := hC.d2
 have hd3 := hC.d3
 have hgl := hA.gl
 have htl := hC.tl
 obtain ⟨cb, cc, qb, n, row, hPb, hcl, hrow, hsub, han, hn1, hFpb⟩ := hC.prog.row hc
 have hpn := (hC.fl pb hFpb).2
 simp only [RowF] at hrow
 subst hrow
 refine Ret_of Try.func60 rfl Try.ntmps60 (Nat.le_of_ble_eq_true rfl) ?_
 have E : Chg (RMod rb mb bb) w0 w0 := Chg.refl _ _
 have E1 : Chg none1 w0 w0 := Chg.refl _ _
 refine Wp_seq_region ?_
 refine s_box (v := (.agg #[(I6 (a : Int)), (I6 (p : Int)), (I6 (d : Int))])) (c := #[(I6 (a : Int)), (I6 (p : Int)), (I6 (d : Int))]) (by decide) rfl rfl ?_
 intro bs ws Ns
 have Fs := Ns.ge E
 have Fs_E1 := Ns.ge E1
 have Os_rb := Ns.lt hblk
 have Os_bb := Ns.lt hbeg
 have Os_mb := Ns.ltM hmap
 have Os_pb := Ns.lt hPb
 replace hblk := Ns.keep hblk
 replace hbeg := Ns.keep hbeg
 replace hmap := Ns.keepM hmap
 replace hPb := Ns.keep hPb
 replace E := E.ext Ns.ext
 have Bs := Ns.blk
 replace E1 := E1.ext Ns.ext
 refine qA (.bool false) rfl ?_
 refine WpL_nil ?_
 obtain ⟨z0, hz0⟩ : ∃ z0, z0 = (ws).heap.size := ⟨_, rfl⟩
 have hz1 : w0.heap.size ≤ z0 := by rw [hz0]; exact E.size
 have hz2 : bs < z0 := by rw [hz0]; exact Bs.lt
 have hz_1 : w0.heap.size ≤ ws.heap.size := E.size
 have lz_1_rb : rb < ws.heap.size := hblk.lt
 have lz_1_bb : bb < ws.heap.size := hbeg.lt
 have lz_1_mb : mb < ws.heap.size := hmap.lt
 have lz_1_pb : pb < ws.heap.size := hPb.lt
 have lz_1_bs : bs < ws.heap.size := Bs.lt
 refine Wp_seq ?_
 obtain ⟨Fs1, hFs1⟩ : ∃ Fs : List FctS, Fs = [(fun _ _ v _ => v = (P6 rb 0)), (fun _ _ v _ => v = (P6 rb 0)), (fun _ _ v _ => v = (P6 rb 0)), (fun _ _ v _ => v = (P6 pb 0)), (fun _ _ v _ => v = (P6 pb 0)), (fun _ _ v _ => v = (P6 pb 0)), (fun _ _ v _ => v = (.slice (some ⟨cb, 0, none⟩) n cc)), (fun _ _ v _ => v = (P6 bs 0)), (fun _ _ v _ => v = (I6 (a : Int))), (fun _ _ v _ => v = (.pointer (some ⟨cb, 0 + a * 8, none⟩))), (fun _ _ v _ => v = (.agg #[(I6 7), (I6 0), (I6 0), (I6 (m : Int)), (I6 0), (.slice none 0 0), (.pointer none), (.bool false)])), (fun _ _ => alF 87 #[(I6 0), (I6 0), (I6 0), (I6 0), (I6 0), (.slice none 0 0), (.pointer none), (.bool false)] ws.heap.size), (fun _ _ v _ => v = undef)] := ⟨_, rfl⟩
 refine Wp_dagS (MsL []) [true, true, true, true, true, true, true, true, true, true, true, true, false] [12] [9, 10, 11, 12, 13, 14, 15, 16, 17, 18, 19, 5, 196] [[], [0], [1], [2], [3], [4], [5], [], [7], [6, 8], [9], [], []] [[], [0], [1, 0], [2, 1, 0], [3, 2, 1, 0], [4, 3, 2, 1, 0], [5, 4, 3, 2, 1, 0], [], [7], [6, 5, 4, 3, 2, 1, 0, 8, 7], [9, 6, 5, 4, 3, 2, 1, 0, 8, 7], [], []] Fs1 hFs1 (by kernel_rfl) mixed (by kernel_rfl) (by kernel_rfl) (by kernel_rfl) (by kernel_rfl) ?_ ?_
 ·intro wd X0
  refine qD (fun S s' w' hi hN X U V H => ?_) ?_
  ·replace X := X.mono (M' := none1) (fun y _ h => by
     obtain ⟨j, hj, h⟩ := h
     exact h.elim)
   exact DoesT_pure (r_move (v := (P6 rb 0)) (U 0 rfl)) rfl
  refine qD (fun S s' w' hi hN X U V H => ?_) ?_
  ·replace X := X.mono (M' := none1) (fun y _ h => by
     obtain ⟨j, hj, h⟩ := h
     exact h.elim)
   have e9 : s' 9 = (.pointer (some ⟨rb, 0, none⟩)) := (H 0 rfl).2 9 (fun _ _ v _ => v = (.pointer (some ⟨rb, 0, none⟩))) rfl (by rw [hFs1]; rfl)
   exact DoesT_pure (r_nilCheck (a := ⟨rb, 0, none⟩) e9) rfl
  refine qD (fun S s' w' hi hN X U V H => ?_) ?_
  ·replace X := X.mono (M' := none1) (fun y _ h => by
     obtain ⟨j, hj, h⟩ := h
     exact h.elim)
   have e10 : s' 10 = (.pointer (some ⟨rb, 0, none⟩)) := (H 1 rfl).2 10 (fun _ _ v _ => v = (.pointer (some ⟨rb, 0, none⟩))) rfl (by rw [hFs1]; rfl)
   exact DoesT_pure (r_fieldAddr (b := rb) (o := 0) (o' := 0) e10 Try.underlying80 rfl siz56 rfl) rfl
  refine qD (fun S s' w' hi hN X U V H => ?_) ?_
  ·replace X := X.mono (M' := none1) (fun y _ h => by
     obtain ⟨j, hj, h⟩ := h
     exact h.elim)
   have e11 : s' 11 = (.pointer (some ⟨rb, 0, none⟩)) := (H 2 rfl).2 11 (fun _ _ v _ => v = (.pointer (some ⟨rb, 0, none⟩))) rfl (by rw [hFs1]; rfl)
   exact DoesT_pure (r_load (v := (P6 pb 0)) e11 flat56 (((Ext.trans X0 X).keep hblk).cell rfl)) rfl
  refine qD (fun S s' w' hi hN X U V H => ?_) ?_
  ·replace X := X.mono (M' := none1) (fun y _ h => by
     obtain ⟨j, hj, h⟩ := h
     exact h.elim)
   have e12 : s' 12 = (.pointer (some ⟨pb, 0, none⟩)) := (H 3 rfl).2 12 (fun _ _ v _ => v = (.pointer (some ⟨pb, 0, none⟩))) rfl (by rw [hFs1]; rfl)
   exact DoesT_pure (r_nilCheck (a := ⟨pb, 0, none⟩) e12) rfl
  refine qD (fun S s' w' hi hN X U V H => ?_) ?_
  ·replace X := X.mono (M' := none1) (fun y _ h => by
     obtain ⟨j, hj, h⟩ := h
     exact h.elim)
   have e13 : s' 13 = (.pointer (some ⟨pb, 0, none⟩)) := (H 4 rfl).2 13 (fun _ _ v _ => v = (.pointer (some ⟨pb, 0, none⟩))) rfl (by rw [hFs1]; rfl)
   exact DoesT_pure (r_fieldAddr (b := pb) (o := 0) (o' := 0) e13 Try.underlying83 rfl siz81 rfl) rfl
  refine qD (fun S s' w' hi hN X U V H => ?_) ?_
  ·replace X := X.mono (M' := none1) (fun y _ h => by
     obtain ⟨j, hj, h⟩ := h
     exact h.elim)
   have e14 : s' 14 = (.pointer (some ⟨pb, 0, none⟩)) := (H 5 rfl).2 14 (fun _ _ v _ => v = (.pointer (some ⟨pb, 0, none⟩))) rfl (by rw [hFs1]; rfl)
   exact DoesT_pure (r_load (v := (.slice (some ⟨cb, 0, none⟩) n cc)) e14 flat81 (((X0.trans X).keep hPb).cell rfl)) rfl
  refine qD (fun S s' w' hi hN X U V H => ?_) ?_
  ·replace X := X.mono (M' := none1) (fun y _ h => by
     obtain ⟨j, hj, h⟩ := h
     exact h.elim)
   exact DoesT_pure (r_fieldAddr (b := bs) (o := 0) (o' := 0) (U 3 rfl) Try.underlying77 rfl siz3 rfl) rfl
  refine qD (fun S s' w' hi hN X U V H => ?_) ?_
  ·replace X := X.mono (M' := none1) (fun y _ h => by
     obtain ⟨j, hj, h⟩ := h
     exact h.elim)
   have e16 : s' 16 = (.pointer (some ⟨bs, 0, none⟩)) := (H 7 rfl).2 16 (fun _ _ v _ => v = (.pointer (some ⟨bs, 0, none⟩))) rfl (by rw [hFs1]; rfl)
   exact DoesT_pure (r_load (v := (I6 (a : Int))) e16 flat3 (((X0.trans X).keep Bs).cell rfl)) rfl
  refine qD (fun S s' w' hi hN X U V H => ?_) ?_
  ·replace X := X.mono (M' := none1) (fun y _ h => by
     obtain ⟨j, hj, h⟩ := h
     exact h.elim)
   have e15 : s' 15 = (.slice (some ⟨cb, 0, none⟩) n cc) := (H 6 rfl).2 15 (fun _ _ v _ => v = (.slice (some ⟨cb, 0, none⟩) n cc)) rfl (by rw [hFs1]; rfl)
   have e17 : s' 17 = (.int .i64 ((a : Nat) : Int)) := (H 8 rfl).2 17 (fun _ _ v _ => v = (.int .i64 ((a : Nat) : Int))) rfl (by rw [hFs1]; rfl)
   exact DoesT_pure (r_indexSlice (b := cb) (o := 0) (len := n) (cap := cc) (i := a) (o' := 0 + a * 8) e15 e17 rfl Try.underlying81 siz87 (by omega) (by omega)) rfl
  refine qD (fun S s' w' hi hN X U V H => ?_) ?_
  ·replace X := X.mono (M' := none1) (fun y _ h => by
     obtain ⟨j, hj, h⟩ := h
     exact h.elim)
   have e18 : s' 18 = (.pointer (some ⟨cb, 0 + a * 8, none⟩)) := (H 9 rfl).2 18 (fun _ _ v _ => v = (.pointer (some ⟨cb, 0 + a * 8, none⟩))) rfl (by rw [hFs1]; rfl)
   exact DoesT_pure (r_loadAgg (vs := [(I6 7), (I6 0), (I6 0), (I6 (m : Int)), (I6 0), (.slice none 0 0), (.pointer none), (.bool false)]) e18 agg87 siz87 rfl (hcl.ext (Ext.trans (Ns.ext) (Ext.trans X0 X)))) rfl
  refine DagStepsS.cons (StabS.chg (U := none1) (fun v w w' x h => alF_ext _ _ _ v w w' x h) (fun p y hp hw h => by
     exact h.elim)) (LocS.const) (fun S s' w' hi hN X U V H => Or.inl ⟨Guarded_none rfl, ?_⟩) ?_
  ·replace X := X.mono (M' := none1) (fun y _ h => by
     obtain ⟨j, hj, h⟩ := h
     exact h.elim)
   exact DoesT_alloc (c := #[(I6 0), (I6 0), (I6 0), (I6 0), (I6 0), (.slice none 0 0), (.pointer none), (.bool false)]) zer87 rfl (by have := X0.size; have := X.size; omega)
  refine DagStepsS.tail ?_
  exact DagStepsS.nil
 ·intro s' wd1 w1 X0 X1 U H
  replace X1 := X1.mono (M' := none1) (fun y _ h => by
    obtain ⟨j, hj, h⟩ := h
    exact h.elim)
  have e19 : s' 19 = (.agg #[(.int .i64 7), (.int .i64 0), (.int .i64 0), (.int .i64 ((m : Nat) : Int)), (.int .i64 0), (.slice none 0 0), (.pointer none), (.bool false)]) := H 10 rfl 19 (fun _ _ v _ => v = (.agg #[(.int .i64 7), (.int .i64 0), (.int .i64 0), (.int .i64 ((m : Nat) : Int)), (.int .i64 0), (.slice none 0 0), (.pointer none), (.bool false)])) rfl (by rw [hFs1]; rfl)
  obtain ⟨b5, e5, B5, g5⟩ := (show ((fun _ _ => alF 87 #[(.int .i64 0), (.int .i64 0), (.int .i64 0), (.int .i64 0), (.int .i64 0), (.slice none 0 0), (.pointer none), (.bool false)] ws.heap.size) : FctS) (allS [true, true, true, true, true, true, true, true, true, true, true, true, false]) s' (s' 5) w1 from H 11 rfl 5 (fun _ _ => alF 87 #[(.int .i64 0), (.int .i64 0), (.int .i64 0), (.int .i64 0), (.int .i64 0), (.slice none 0 0), (.pointer none), (.bool false)] ws.heap.size) rfl (by rw [hFs1]; rfl))
  obtain ⟨j1, rfl⟩ := Fits.out (σ := s') (l := [(0, (.pointer (some ⟨rb, 0, none⟩))), (3, (.pointer (some ⟨bs, 0, none⟩))), (19, (.agg #[(.int .i64 7), (.int .i64 0), (.int .i64 0), (.int .i64 ((m : Nat) : Int)), (.int .i64 0), (.slice none 0 0), (.pointer none), (.bool false)])), (5, (.pointer (some ⟨b5, 0, none⟩)))]) ⟨U 0 rfl, U 3 rfl, e19, e5, trivial⟩
  clear U H
  replace hblk := (X0.trans X1).keep hblk
  replace hbeg := (X0.trans X1).keep hbeg
  replace hmap := (X0.trans X1).keepM hmap
  replace hPb := (X0.trans X1).keep hPb
  replace Bs := (X0.trans X1).keep Bs
  replace X1 := X0.trans X1
  replace E := E.ext X1
  replace E1 := E1.ext X1
  refine s_storeAgg (b := b5) (o := 0) (c' := #[(I6 7), (I6 0), (I6 0), (I6 (m : Int)), (I6 0), (.slice none 0 0), (.pointer none), (.bool false)]) rfl rfl (by simp [Value.oneCell']) siz87 rfl B5 (by first | (simp; done) | exact Nat.le_of_ble_eq_true rfl) rfl ?_
  intro w2 S2
  replace hblk := S2.keep (by omega) hblk
  replace hbeg := S2.keep (by omega) hbeg
  replace hmap := S2.keepM (by omega) hmap
  replace hPb := S2.keep (by omega) hPb
  replace Bs := S2.keep (by omega) Bs
  replace E := S2.step E (by first | exact Or.inl (by omega) | exact Or.inr rfl | exact Or.inr (by assumption) | exact Or.inr (by simp) | exact Or.inr (by omega) | exact Or.inr (by dsimp only; omega))
  replace E1 := S2.step E1 (Or.inl (by omega))
  replace B5 := S2.blk
  refine WpL_nil (thn_normal (Wp_seq_region ?_))
  refine qV (r_loadAgg (vs := [(I6 (a : Int)), (I6 (p : Int)), (I6 (d : Int))]) rfl agg77 siz77 rfl (Bs.cells rfl)) ?_
  refine s_allocStore (v := (.agg #[(I6 (a : Int)), (I6 (p : Int)), (I6 (d : Int))])) (c := #[(I6 (a : Int)), (I6 (p : Int)), (I6 (d : Int))]) (n := 3) (by decide) zer77 rfl siz77 rfl rfl rfl (by simp [Value.oneCell']) ?_
  intro bn wn Nn
  have Fn := Nn.ge E
  have Fn_E1 := Nn.ge E1
  have On_rb := Nn.lt hblk
  have On_bb := Nn.lt hbeg
  have On_mb := Nn.ltM hmap
  have On_pb := Nn.lt hPb
  have On_bs := Nn.lt Bs
  have On_b5 := Nn.lt B5
  replace hblk := Nn.keep hblk
  replace hbeg := Nn.keep hbeg
  replace hmap := Nn.keepM hmap
  replace hPb := Nn.keep hPb
  replace Bs := Nn.keep Bs
  replace B5 := Nn.keep B5
  replace E := E.ext Nn.ext
  have Bn := Nn.blk
  replace E1 := E1.ext Nn.ext
  refine WpL_nil (Wp_seq_region ?_)
  refine qF bn 0 0 rfl Try.underlying77 rfl siz3 rfl ?_
  refine qV (r_load (v := (I6 (a : Int))) rfl flat3 (Bn.cell rfl)) ?_
  refine qV (r_add (k := .i64) (a := (a : Int)) (b := 1) (c := ((a + 1 : Nat) : Int)) rfl rfl ((wI64 (by omega)).trans (by omega))) ?_
  refine qF bn 0 0 rfl Try.underlying77 rfl siz3 rfl ?_
  refine s_store (b := bn) (o := 0) (c' := #[(I6 ((a + 1 : Nat) : Int)), (I6 (p : Int)), (I6 (d : Int))]) (v := (I6 ((a + 1 : Nat) : Int))) rfl rfl rfl siz3 Bn (by simp) rfl ?_
  intro w3 S3
  replace hblk := S3.keep (by omega) hblk
  replace hbeg := S3.keep (by omega) hbeg
  replace hmap := S3.keepM (by omega) hmap
  replace hPb := S3.keep (by omega) hPb
  replace Bs := S3.keep (by omega) Bs
  replace B5 := S3.keep (by omega) B5
  replace E := S3.step E (by first | exact Or.inl (by omega) | exact Or.inr rfl | exact Or.inr (by assumption) | exact Or.inr (by simp) | exact Or.inr (by omega) | exact Or.inr (by dsimp only; omega))
  replace E1 := S3.step E1 (Or.inl (by omega))
  replace Bn := S3.blk
  refine WpL_nil (Wp_seq (Wp_seq_region ?_))
  refine qF b5 0 0 rfl Try.underlying87 rfl siz3 rfl ?_
  refine qV (r_load (v := (I6 7)) rfl flat3 (B5.cell rfl)) ?_
  refine WpL_nil (Wp_block (Wp_seq_region ?_))
  refine qV (r_eql (k := .i64) (a := 7) (b := 0) rfl rfl) ?_
  refine qA (.bool false) rfl ?_
  refine WpL_nil ?_
  refine Wp_cond_false rfl ?_
  refine Wp_seq_region ?_
  refine qV (r_eql (k := .i64) (a := 7) (b := 1) rfl rfl) ?_
  refine qA (.bool false) rfl ?_
  refine WpL_nil ?_
  refine Wp_cond_false rfl ?_
  refine Wp_seq_region ?_
  refine qV (r_eql (k := .i64) (a := 7) (b := 2) rfl rfl) ?_
  refine qA (.bool false) rfl ?_
  refine WpL_nil ?_
  refine Wp_cond_false rfl ?_
  refine Wp_seq_region ?_
  refine qV (r_eql (k := .i64) (a := 7) (b := 3) rfl rfl) ?_
  refine qA (.bool false) rfl ?_
  refine WpL_nil ?_
  refine Wp_cond_false rfl ?_
  refine Wp_seq_region ?_
  refine qV (r_eql (k := .i64) (a := 7) (b := 4) rfl rfl) ?_
  refine qA (.bool false) rfl ?_
  refine WpL_nil ?_
  refine Wp_cond_false rfl ?_
  refine Wp_seq_region ?_
  refine qV (r_eql (k := .i64) (a := 7) (b := 5) rfl rfl) ?_
  refine qA (.bool false) rfl ?_
  refine WpL_nil ?_
  refine Wp_cond_false rfl ?_
  refine Wp_seq_region ?_
  refine qV (r_eql (k := .i64) (a := 7) (b := 6) rfl rfl) ?_
  refine qA (.bool false) rfl ?_
  refine WpL_nil ?_
  refine Wp_cond_false rfl ?_
  refine Wp_seq_region ?_
  refine qV (r_eql (k := .i64) (a := 7) (b := 7) rfl rfl) ?_
  refine qA (.bool true) rfl ?_
  refine WpL_nil ?_
  refine Wp_cond_true rfl ?_
  refine Wp_seq_region ?_
  refine qF bs 0 2 rfl Try.underlying77 rfl siz3 rfl ?_
  refine qV (r_load (v := (I6 (d : Int))) rfl flat3 (Bs.cell rfl)) ?_
  refine qF b5 0 3 rfl Try.underlying87 rfl siz3 rfl ?_
  refine qV (r_load (v := (I6 (m : Int))) rfl flat3 (B5.cell rfl)) ?_
  refine qV (r_lss (k := .i64) (a := (d : Int)) (b := (m : Int)) rfl rfl) ?_
  refine WpL_nil ?_
  have hc4 : (decide ((((d : Nat) : Int) : Int) < ((m : Nat) : Int))) = false := decide_eq_false (by omega)
  refine Wp_cond_false (congrArg Value.bool hc4) ?_
  refine Wp_skip (inB_normal (thn_normal (Wp_seq_region ?_)))
  refine qM (P6 rb 0) rfl ?_
  refine qV (r_loadAgg (vs := [(I6 ((a + 1 : Nat) : Int)), (I6 (p : Int)), (I6 (d : Int))]) rfl agg77 siz77 rfl (Bn.cells rfl)) ?_
  refine WpL_enter rfl rfl (by decide) (r_callF (vs := [(P6 rb 0), (.agg #[(I6 ((a + 1 : Nat) : Int)), (I6 (p : Int)), (I6 (d : Int))])]) Try.func40 nm40 bd40 rfl) (ih r rfl F _ rb pb mb bb _ _ _ es gf gt (hC.mod E) ⟨hblk, hmap, hbeg, hgl⟩ hFl hp) ?_
  rintro _ w19 ⟨⟨rfl, hO⟩, C19⟩
  replace hPb := C19.keep (fun h => by rcases h with h | h | h <;> omega) hPb
  replace Bs := C19.keep (fun h => by rcases h with h | h | h <;> omega) Bs
  replace B5 := C19.keep (fun h => by rcases h with h | h | h <;> omega) B5
  replace Bn := C19.keep (fun h => by rcases h with h | h | h <;> omega) Bn
  replace E := E.step C19 (fun _ _ h => h)
  refine qA (.bool o.isSome) rfl ?_
  refine WpL_nil (Wp_ret ?_)
  refine fin_tmp Try.results60 (v := (.bool o.isSome)) rfl ?_
  exact ⟨⟨rfl, hO⟩, E⟩
set_option maxHeartbeats 2000000 in
theorem try_ent {text : List Int} {code : List Ins} {a p d m : Nat} {B : List Int} {G : Grp} {o : Option (Grp × Nat)} (hc : code[a]? = some (.ent m)) (h1 : 1 ≤ m) (h2 : m ≤ 1000000) (ih : RunC fRun text code (a + 1) p (min d (m - 1)) B G o) : RunC fTry text code a p d B G o := by
 intro r hcode F w0 rb pb mb bb ta tn tc es gf gt hC hA hFl hp
 subst hcode
 have hblk := hA.blk
 have hmap := hA.map
 have hbeg := hA.beg
 have hrl := hblk.lt
 have hml := hmap.lt
 have hbl := hbeg.lt
 have hd1 := hC.d1
 have hd2 := hC.d2
 have hd3 := hC.d3
 have hgl := hA.gl
 have htl := hC.tl
 obtain ⟨cb, cc, qb, n, row, hPb, hcl, hrow, hsub, han, hn1, hFpb⟩ := hC.prog.row hc
 have hpn := (hC.fl pb hFpb).2
 simp only [RowF] at hrow
 subst hrow
 refine Ret_of Try.func60 rfl Try.ntmps60 (Nat.le_of_ble_eq_true rfl) ?_
 have E : Chg (RMod rb mb bb) w0 w0 := Chg.refl _ _
 have E1 : Chg none1 w0 w0 := Chg.refl _ _
 refine Wp_seq_region ?_
 refine s_box (v := (.agg #[(I6 (a : Int)), (I6 (p : Int)), (I6 (d : Int))])) (c := #[(I6 (a : Int)), (I6 (p : Int)), (I6 (d : Int))]) (by decide) rfl rfl ?_
 intro bs ws Ns
 have Fs := Ns.ge E
 have Fs_E1 := Ns.ge E1
 have Os_rb := Ns.lt hblk
 have Os_bb := Ns.lt hbeg
 have Os_mb := Ns.ltM hmap
 have Os_pb := Ns.lt hPb
 replace hblk := Ns.keep hblk
 replace hbeg := Ns.keep hbeg
 replace hmap := Ns.keepM hmap
 replace hPb := Ns.keep hPb
 replace E := E.ext Ns.ext
 have Bs := Ns.blk
 replace E1 := E1.ext Ns.ext
 refine qA (.bool false) rfl ?_
 refine WpL_nil ?_
 obtain ⟨z0, hz0⟩ : ∃ z0, z0 = (ws).heap.size := ⟨_, rfl⟩
 have hz1 : w0.heap.size ≤ z0 := by rw [hz0]; exact E.size
 have hz2 : bs < z0 := by rw [hz0]; exact Bs.lt
 have hz_1 : w0.heap.size ≤ ws.heap.size := E.size
 have lz_1_rb : rb < ws.heap.size := hblk.lt
 have lz_1_bb : bb < ws.heap.size := hbeg.lt
 have lz_1_mb : mb < ws.heap.size := hmap.lt
 have lz_1_pb : pb < ws.heap.size := hPb.lt
 have lz_1_bs : bs < ws.heap.size := Bs.lt
 refine Wp_seq ?_
 obtain ⟨Fs1, hFs1⟩ : ∃ Fs : List FctS, Fs = [(fun _ _ v _ => v = (P6 rb 0)), (fun _ _ v _ => v = (P6 rb 0)), (fun _ _ v _ => v = (P6 rb 0)), (fun _ _ v _ => v = (P6 pb 0)), (fun _ _ v _ => v = (P6 pb 0)), (fun _ _ v _ => v = (P6 pb 0)), (fun _ _ v _ => v = (.slice (some ⟨cb, 0, none⟩) n cc)), (fun _ _ v _ => v = (P6 bs 0)), (fun _ _ v _ => v = (I6 (a : Int))), (fun _ _ v _ => v = (.pointer (some ⟨cb, 0 + a * 8, none⟩))), (fun _ _ v _ => v = (.agg #[(I6 6), (I6 0), (I6 0), (I6 (m : Int)), (I6 0), (.slice none 0 0), (.pointer none), (.bool false)])), (fun _ _ => alF 87 #[(I6 0), (I6 0), (I6 0), (I6 0), (I6 0), (.slice none 0 0), (.pointer none), (.bool false)] ws.heap.size), (fun _ _ v _ => v = undef)] := ⟨_, rfl⟩
 refine Wp_dagS (MsL []) [true, true, true, true, true, true, true, true, true, true, true, true, false] [12] [9, 10, 11, 12, 13, 14, 15, 16, 17, 18, 19, 5, 196] [[], [0], [1], [2], [3], [4], [5], [], [7], [6, 8], [9], [], []] [[], [0], [1, 0], [2, 1, 0], [3, 2, 1, 0], [4, 3, 2, 1, 0], [5, 4, 3, 2, 1, 0], [], [7], [6, 5, 4, 3, 2, 1, 0, 8, 7], [9, 6, 5, 4, 3, 2, 1, 0, 8, 7], [], []] Fs1 hFs1 (by kernel_rfl) mixed (by kernel_rfl) (by kernel_rfl) (by kernel_rfl) (by kernel_rfl) ?_ ?_
 ·intro wd X0
  refine qD (fun S s' w' hi hN X U V H => ?_) ?_
  ·replace X := X.mono (M' := none1) (fun y _ h => by
     obtain ⟨j, hj, h⟩ := h
     exact h.elim)
   exact DoesT_pure (r_move (v := (P6 rb 0)) (U 0 rfl)) rfl
  refine qD (fun S s' w' hi hN X U V H => ?_) ?_
  ·replace X := X.mono (M' := none1) (fun y _ h => by
     obtain ⟨j, hj, h⟩ := h
     exact h.elim)
   have e9 : s' 9 = (.pointer (some ⟨rb, 0, none⟩)) := (H 0 rfl).2 9 (fun _ _ v _ => v = (.pointer (some ⟨rb, 0, none⟩))) rfl (by rw [hFs1]; rfl)
   exact DoesT_pure (r_nilCheck (a := ⟨rb, 0, none⟩) e9) rfl
  refine qD (fun S s' w' hi hN X U V H => ?_) ?_
  ·replace X := X.mono (M' := none1) (fun y _ h => by
     obtain ⟨j, hj, h⟩ := h
     exact h.elim)
   have e10 : s' 10 = (.pointer (some ⟨rb, 0, none⟩)) := (H 1 rfl).2 10 (fun _ _ v _ => v = (.pointer (some ⟨rb, 0, none⟩))) rfl (by rw [hFs1]; rfl)
   exact DoesT_pure (r_fieldAddr (b := rb) (o := 0) (o' := 0) e10 Try.underlying80 rfl siz56 rfl) rfl
  refine qD (fun S s' w' hi hN X U V H => ?_) ?_
  ·replace X := X.mono (M' := none1) (fun y _ h => by
     obtain ⟨j, hj, h⟩ := h
     exact h.elim)
   have e11 : s' 11 = (.pointer (some ⟨rb, 0, none⟩)) := (H 2 rfl).2 11 (fun _ _ v _ => v = (.pointer (some ⟨rb, 0, none⟩))) rfl (by rw [hFs1]; rfl)
   exact DoesT_pure (r_load (v := (P6 pb 0)) e11 flat56 (((Ext.trans X0 X).keep hblk).cell rfl)) rfl
  refine qD (fun S s' w' hi hN X U V H => ?_) ?_
  ·replace X := X.mono (M' := none1) (fun y _ h => by
     obtain ⟨j, hj, h⟩ := h
     exact h.elim)
   have e12 : s' 12 = (.pointer (some ⟨pb, 0, none⟩)) := (H 3 rfl).2 12 (fun _ _ v _ => v = (.pointer (some ⟨pb, 0, none⟩))) rfl (by rw [hFs1]; rfl)
   exact DoesT_pure (r_nilCheck (a := ⟨pb, 0, none⟩) e12) rfl
  refine qD (fun S s' w' hi hN X U V H => ?_) ?_
  ·replace X := X.mono (M' := none1) (fun y _ h => by
     obtain ⟨j, hj, h⟩ := h
     exact h.elim)
   have e13 : s' 13 = (.pointer (some ⟨pb, 0, none⟩)) := (H 4 rfl).2 13 (fun _ _ v _ => v = (.pointer (some ⟨pb, 0, none⟩))) rfl (by rw [hFs1]; rfl)
   exact DoesT_pure (r_fieldAddr (b := pb) (o := 0) (o' := 0) e13 Try.underlying83 rfl siz81 rfl) rfl
  refine qD (fun S s' w' hi hN X U V H => ?_) ?_
  ·replace X := X.mono (M' := none1) (fun y _ h => by
     obtain ⟨j, hj, h⟩ := h
     exact h.elim)
   have e14 : s' 14 = (.pointer (some ⟨pb, 0, none⟩)) := (H 5 rfl).2 14 (fun _ _ v _ => v = (.pointer (some ⟨pb, 0, none⟩))) rfl (by rw [hFs1]; rfl)
   exact DoesT_pure (r_load (v := (.slice (some ⟨cb, 0, none⟩) n cc)) e14 flat81 (((X0.trans X).keep hPb).cell rfl)) rfl
  refine qD (fun S s' w' hi hN X U V H => ?_) ?_
  ·replace X := X.mono (M' := none1) (fun y _ h => by
     obtain ⟨j, hj, h⟩ := h
     exact h.elim)
   exact DoesT_pure (r_fieldAddr (b := bs) (o := 0) (o' := 0) (U 3 rfl) Try.underlying77 rfl siz3 rfl) rfl
  refine qD (fun S s' w' hi hN X U V H => ?_) ?_
  ·replace X := X.mono (M' := none1) (fun y _ h => by
     obtain ⟨j, hj, h⟩ := h
     exact h.elim)
   have e16 : s' 16 = (.pointer (some ⟨bs, 0, none⟩)) := (H 7 rfl).2 16 (fun _ _ v _ => v = (.pointer (some ⟨bs, 0, none⟩))) rfl (by rw [hFs1]; rfl)
   exact DoesT_pure (r_load (v := (I6 (a : Int))) e16 flat3 (((X0.trans X).keep Bs).cell rfl)) rfl
  refine qD (fun S s' w' hi hN X U V H => ?_) ?_
  ·replace X := X.mono (M' := none1) (fun y _ h => by
     obtain ⟨j, hj, h⟩ := h
     exact h.elim)
   have e15 : s' 15 = (.slice (some ⟨cb, 0, none⟩) n cc) := (H 6 rfl).2 15 (fun _ _ v _ => v = (.slice (some ⟨cb, 0, none⟩) n cc)) rfl (by rw [hFs1]; rfl)
   have e17 : s' 17 = (.int .i64 ((a : Nat) : Int)) := (H 8 rfl).2 17 (fun _ _ v _ => v = (.int .i64 ((a : Nat) : Int))) rfl (by rw [hFs1]; rfl)
   exact DoesT_pure (r_indexSlice (b := cb) (o := 0) (len := n) (cap := cc) (i := a) (o' := 0 + a * 8) e15 e17 rfl Try.underlying81 siz87 (by omega) (by omega)) rfl
  refine qD (fun S s' w' hi hN X U V H => ?_) ?_
  ·replace X := X.mono (M' := none1) (fun y _ h => by
     obtain ⟨j, hj, h⟩ := h
     exact h.elim)
   have e18 : s' 18 = (.pointer (some ⟨cb, 0 + a * 8, none⟩)) := (H 9 rfl).2 18 (fun _ _ v _ => v = (.pointer (some ⟨cb, 0 + a * 8, none⟩))) rfl (by rw [hFs1]; rfl)
   exact DoesT_pure (r_loadAgg (vs := [(I6 6), (I6 0), (I6 0), (I6 (m : Int)), (I6 0), (.slice none 0 0), (.pointer none), (.bool false)]) e18 agg87 siz87 rfl (hcl.ext (Ext.trans (Ns.ext) (Ext.trans X0 X)))) rfl
  refine DagStepsS.cons (StabS.chg (U := none1) (fun v w w' x h => alF_ext _ _ _ v w w' x h) (fun p y hp hw h => by
     exact h.elim)) (LocS.const) (fun S s' w' hi hN X U V H => Or.inl ⟨Guarded_none rfl, ?_⟩) ?_
  ·replace X := X.mono (M' := none1) (fun y _ h => by
     obtain ⟨j, hj, h⟩ := h
     exact h.elim)
   exact DoesT_alloc (c := #[(I6 0), (I6 0), (I6 0), (I6 0), (I6 0), (.slice none 0 0), (.pointer none), (.bool false)]) zer87 rfl (by have := X0.size; have := X.size; omega)
  refine DagStepsS.tail ?_
  exact DagStepsS.nil
 ·intro s' wd1 w1 X0 X1 U H
  replace X1 := X1.mono (M' := none1) (fun y _ h => by
    obtain ⟨j, hj, h⟩ := h
    exact h.elim)
  have e19 : s' 19 = (.agg #[(.int .i64 6), (.int .i64 0), (.int .i64 0), (.int .i64 ((m : Nat) : Int)), (.int .i64 0), (.slice none 0 0), (.pointer none), (.bool false)]) := H 10 rfl 19 (fun _ _ v _ => v = (.agg #[(.int .i64 6), (.int .i64 0), (.int .i64 0), (.int .i64 ((m : Nat) : Int)), (.int .i64 0), (.slice none 0 0), (.pointer none), (.bool false)])) rfl (by rw [hFs1]; rfl)
  obtain ⟨b5, e5, B5, g5⟩ := (show ((fun _ _ => alF 87 #[(.int .i64 0), (.int .i64 0), (.int .i64 0), (.int .i64 0), (.int .i64 0), (.slice none 0 0), (.pointer none), (.bool false)] ws.heap.size) : FctS) (allS [true, true, true, true, true, true, true, true, true, true, true, true, false]) s' (s' 5) w1 from H 11 rfl 5 (fun _ _ => alF 87 #[(.int .i64 0), (.int .i64 0), (.int .i64 0), (.int .i64 0), (.int .i64 0), (.slice none 0 0), (.pointer none), (.bool false)] ws.heap.size) rfl (by rw [hFs1]; rfl))
  obtain ⟨j1, rfl⟩ := Fits.out (σ := s') (l := [(0, (.pointer (some ⟨rb, 0, none⟩))), (3, (.pointer (some ⟨bs, 0, none⟩))), (19, (.agg #[(.int .i64 6), (.int .i64 0), (.int .i64 0), (.int .i64 ((m : Nat) : Int)), (.int .i64 0), (.slice none 0 0), (.pointer none), (.bool false)])), (5, (.pointer (some ⟨b5, 0, none⟩)))]) ⟨U 0 rfl, U 3 rfl, e19, e5, trivial⟩
  clear U H
  replace hblk := (X0.trans X1).keep hblk
  replace hbeg := (X0.trans X1).keep hbeg
  replace hmap := (X0.trans X1).keepM hmap
  replace hPb := (X0.trans X1).keep hPb
  replace Bs := (X0.trans X1).keep Bs
  replace X1 := X0.trans X1
  replace E := E.ext X1
  replace E1 := E1.ext X1
  refine s_storeAgg (b := b5) (o := 0) (c' := #[(I6 6), (I6 0), (I6 0), (I6 (m : Int)), (I6 0), (.slice none 0 0), (.pointer none), (.bool false)]) rfl rfl (by simp [Value.oneCell']) siz87 rfl B5 (by first | (simp; done) | exact Nat.le_of_ble_eq_true rfl) rfl ?_
  intro w2 S2
  replace hblk := S2.keep (by omega) hblk
  replace hbeg := S2.keep (by omega) hbeg
  replace hmap := S2.keepM (by omega) hmap
  replace hPb := S2.keep (by omega) hPb
  replace Bs := S2.keep (by omega) Bs
  replace E := S2.step E (by first | exact Or.inl (by omega) | exact Or.inr rfl | exact Or.inr (by assumption) | exact Or.inr (by simp) | exact Or.inr (by omega) | exact Or.inr (by dsimp only; omega))
  replace E1 := S2.step E1 (Or.inl (by omega))
  replace B5 := S2.blk
  refine WpL_nil (thn_normal (Wp_seq_region ?_))
  refine qV (r_loadAgg (vs := [(I6 (a : Int)), (I6 (p : Int)), (I6 (d : Int))]) rfl agg77 siz77 rfl (Bs.cells rfl)) ?_
  refine s_allocStore (v := (.agg #[(I6 (a : Int)), (I6 (p : Int)), (I6 (d : Int))])) (c := #[(I6 (a : Int)), (I6 (p : Int)), (I6 (d : Int))]) (n := 3) (by decide) zer77 rfl siz77 rfl rfl rfl (by simp [Value.oneCell']) ?_
  intro bn wn Nn
  have Fn := Nn.ge E
  have Fn_E1 := Nn.ge E1
  have On_rb := Nn.lt hblk
  have On_bb := Nn.lt hbeg
  have On_mb := Nn.ltM hmap
  have On_pb := Nn.lt hPb
  have On_bs := Nn.lt Bs
  have On_b5 := Nn.lt B5
  replace hblk := Nn.keep hblk
  replace hbeg := Nn.keep hbeg
  replace hmap := Nn.keepM hmap
  replace hPb := Nn.keep hPb
  replace Bs := Nn.keep Bs
  replace B5 := Nn.keep B5
  replace E := E.ext Nn.ext
  have Bn := Nn.blk
  replace E1 := E1.ext Nn.ext
  refine WpL_nil (Wp_seq_region ?_)
  refine qF bn 0 0 rfl Try.underlying77 rfl siz3 rfl ?_
  refine qV (r_load (v := (I6 (a : Int))) rfl flat3 (Bn.cell rfl)) ?_
  refine qV (r_add (k := .i64) (a := (a : Int)) (b := 1) (c := ((a + 1 : Nat) : Int)) rfl rfl ((wI64 (by omega)).trans (by omega))) ?_
  refine qF bn 0 0 rfl Try.underlying77 rfl siz3 rfl ?_
  refine s_store (b := bn) (o := 0) (c' := #[(I6 ((a + 1 : Nat) : Int)), (I6 (p : Int)), (I6 (d : Int))]) (v := (I6 ((a + 1 : Nat) : Int))) rfl rfl rfl siz3 Bn (by simp) rfl ?_
  intro w3 S3
  replace hblk := S3.keep (by omega) hblk
  replace hbeg := S3.keep (by omega) hbeg
  replace hmap := S3.keepM (by omega) hmap
  replace hPb := S3.keep (by omega) hPb
  replace Bs := S3.keep (by omega) Bs
  replace B5 := S3.keep (by omega) B5
  replace E := S3.step E (by first | exact Or.inl (by omega) | exact Or.inr rfl | exact Or.inr (by assumption) | exact Or.inr (by simp) | exact Or.inr (by omega) | exact Or.inr (by dsimp only; omega))
  replace E1 := S3.step E1 (Or.inl (by omega))
  replace Bn := S3.blk
  refine WpL_nil (Wp_seq (Wp_seq_region ?_))
  refine qF b5 0 0 rfl Try.underlying87 rfl siz3 rfl ?_
  refine qV (r_load (v := (I6 6)) rfl flat3 (B5.cell rfl)) ?_
  refine WpL_nil (Wp_block (Wp_seq_region ?_))
  refine qV (r_eql (k := .i64) (a := 6) (b := 0) rfl rfl) ?_
  refine qA (.bool false) rfl ?_
  refine WpL_nil ?_
  refine Wp_cond_false rfl ?_
  refine Wp_seq_region ?_
  refine qV (r_eql (k := .i64) (a := 6) (b := 1) rfl rfl) ?_
  refine qA (.bool false) rfl ?_
  refine WpL_nil ?_
  refine Wp_cond_false rfl ?_
  refine Wp_seq_region ?_
  refine qV (r_eql (k := .i64) (a := 6) (b := 2) rfl rfl) ?_
  refine qA (.bool false) rfl ?_
  refine WpL_nil ?_
  refine Wp_cond_false rfl ?_
  refine Wp_seq_region ?_
  refine qV (r_eql (k := .i64) (a := 6) (b := 3) rfl rfl) ?_
  refine qA (.bool false) rfl ?_
  refine WpL_nil ?_
  refine Wp_cond_false rfl ?_
  refine Wp_seq_region ?_
  refine qV (r_eql (k := .i64) (a := 6) (b := 4) rfl rfl) ?_
  refine qA (.bool false) rfl ?_
  refine WpL_nil ?_
  refine Wp_cond_false rfl ?_
  refine Wp_seq_region ?_
  refine qV (r_eql (k := .i64) (a := 6) (b := 5) rfl rfl) ?_
  refine qA (.bool false) rfl ?_
  refine WpL_nil ?_
  refine Wp_cond_false rfl ?_
  refine Wp_seq_region ?_
  refine qV (r_eql (k := .i64) (a := 6) (b := 6) rfl rfl) ?_
  refine qA (.bool true) rfl ?_
  refine WpL_nil ?_
  refine Wp_cond_true rfl ?_
  refine Wp_region ?_
  refine qF bs 0 2 rfl Try.underlying77 rfl siz3 rfl ?_
  refine qV (r_load (v := (I6 (d : Int))) rfl flat3 (Bs.cell rfl)) ?_
  refine qF b5 0 3 rfl Try.underlying87 rfl siz3 rfl ?_
  refine qV (r_load (v := (I6 (m : Int))) rfl flat3 (B5.cell rfl)) ?_
  refine qV (r_sub (k := .i64) (a := (m : Int)) (b := 1) (c := ((m - 1 : Nat) : Int)) rfl rfl ((wI64 (by omega)).trans (by omega))) ?_
  refine qV (r_minI (k := .i64) (a := (d : Int)) (b := ((m - 1 : Nat) : Int)) (c := ((min d (m - 1) : Nat) : Int)) rfl rfl (by omega)) ?_
  refine qF bn 0 2 rfl Try.underlying77 rfl siz3 rfl ?_
  refine s_store (b := bn) (o := 2) (c' := #[(I6 ((a + 1 : Nat) : Int)), (I6 (p : Int)), (I6 ((min d (m - 1) : Nat) : Int))]) (v := (I6 ((min d (m - 1) : Nat) : Int))) rfl rfl rfl siz3 Bn (by simp) rfl ?_
  intro w4 S4
  replace hblk := S4.keep (by omega) hblk
  replace hbeg := S4.keep (by omega) hbeg
  replace hmap := S4.keepM (by omega) hmap
  replace hPb := S4.keep (by omega) hPb
  replace Bs := S4.keep (by omega) Bs
  replace B5 := S4.keep (by omega) B5
  replace E := S4.step E (by first | exact Or.inl (by omega) | exact Or.inr rfl | exact Or.inr (by assumption) | exact Or.inr (by simp) | exact Or.inr (by omega) | exact Or.inr (by dsimp only; omega))
  replace E1 := S4.step E1 (Or.inl (by omega))
  replace Bn := S4.blk
  refine WpL_nil (inB_normal (thn_normal (Wp_seq_region ?_)))
  refine qM (P6 rb 0) rfl ?_
  refine qV (r_loadAgg (vs := [(I6 ((a + 1 : Nat) : Int)), (I6 (p : Int)), (I6 ((min d (m - 1) : Nat) : Int))]) rfl agg77 siz77 rfl (Bn.cells rfl)) ?_
  refine WpL_enter rfl rfl (by decide) (r_callF (vs := [(P6 rb 0), (.agg #[(I6 ((a + 1 : Nat) : Int)), (I6 (p : Int)), (I6 ((min d (m - 1) : Nat) : Int))])]) Try.func40 nm40 bd40 rfl) (ih r rfl F _ rb pb mb bb _ _ _ es gf gt (hC.mod E) ⟨hblk, hmap, hbeg, hgl⟩ hFl hp) ?_
  rintro _ w19 ⟨⟨rfl, hO⟩, C19⟩
  replace hPb := C19.keep (fun h => by rcases h with h | h | h <;> omega) hPb
  replace Bs := C19.keep (fun h => by rcases h with h | h | h <;> omega) Bs
  replace B5 := C19.keep (fun h => by rcases h with h | h | h <;> omega) B5
  replace Bn := C19.keep (fun h => by rcases h with h | h | h <;> omega) Bn
  replace E := E.step C19 (fun _ _ h => h)
  refine qA (.bool o.isSome) rfl ?_
  refine WpL_nil (Wp_ret ?_)
  refine fin_tmp Try.results60 (v := (.bool o.isSome)) rfl ?_
  exact ⟨⟨rfl, hO⟩, E⟩
set_option maxHeartbeats 2000000 in
theorem try_fin {text : List Int} {code : List Ins} {a p d : Nat} {B : List Int} {G : Grp} (hc : code[a]? = some .fin) : RunC fTry text code a p d B G (some (G, p)) := by
 intro r hcode F w0 rb pb mb bb ta tn tc es gf gt hC hA hFl hp
 subst hcode
 have hblk := hA.blk
 have hmap := hA.map
 have hbeg := hA.beg
 have hrl := hblk.lt
 have hml := hmap.lt
 have hbl := hbeg.lt
 have hd1 := hC.d1
 have hd2 := hC.d2
 have hd3 := hC.d3
 have hgl := hA.gl
 have htl := hC.tl
 obtain ⟨cb, cc, qb, n, row, hPb, hcl, hrow, hsub, han, hn1, hFpb⟩ := hC.prog.row hc
 have hpn := (hC.fl pb hFpb).2
 simp only [RowF] at hrow
 subst hrow
 refine Ret_of Try.func60 rfl Try.ntmps60 (Nat.le_of_ble_eq_true rfl) ?_
 have E : Chg (RMod rb mb bb) w0 w0 := Chg.refl _ _
 have E1 : Chg none1 w0 w0 := Chg.refl _ _
 refine Wp_seq_region ?_
 refine s_box (v := (.agg #[(I6 (a : Int)), (I6 (p : Int)), (I6 (d : Int))])) (c := #[(I6 (a : Int)), (I6 (p : Int)), (I6 (d : Int))]) (by decide) rfl rfl ?_
 intro bs ws Ns
 have Fs := Ns.ge E
 have Fs_E1 := Ns.ge E1
 have Os_rb := Ns.lt hblk
 have Os_bb := Ns.lt hbeg
 have Os_mb := Ns.ltM hmap
 have Os_pb := Ns.lt hPb
 replace hblk := Ns.keep hblk
 replace hbeg := Ns.keep hbeg
 replace hmap := Ns.keepM hmap
 replace hPb := Ns.keep hPb
 replace E := E.ext Ns.ext
 have Bs := Ns.blk
 replace E1 := E1.ext Ns.ext
 refine qA (.bool false) rfl ?_
 refine WpL_nil ?_
 obtain ⟨z0, hz0⟩ : ∃ z0, z0 = (ws).heap.size := ⟨_, rfl⟩
 have hz1 : w0.heap.size ≤ z0 := by rw [hz0]; exact E.size
 have hz2 : bs < z0 := by rw [hz0]; exact Bs.lt
 have hz_1 : w0.heap.size ≤ ws.heap.size := E.size
 have lz_1_rb : rb < ws.heap.size := hblk.lt
 have lz_1_bb : bb < ws.heap.size := hbeg.lt
 have lz_1_mb : mb < ws.heap.size := hmap.lt
 have lz_1_pb : pb < ws.heap.size := hPb.lt
 have lz_1_bs : bs < ws.heap.size := Bs.lt
 refine Wp_seq ?_
 obtain ⟨Fs1, hFs1⟩ : ∃ Fs : List FctS, Fs = [(fun _ _ v _ => v = (P6 rb 0)), (fun _ _ v _ => v = (P6 rb 0)), (fun _ _ v _ => v = (P6 rb 0)), (fun _ _ v _ => v = (P6 pb 0)), (fun _ _ v _ => v = (P6 pb 0)), (fun _ _ v _ => v = (P6 pb 0)), (fun _ _ v _ => v = (.slice (some ⟨cb, 0, none⟩) n cc)), (fun _ _ v _ => v = (P6 bs 0)), (fun _ _ v _ => v = (I6 (a : Int))), (fun _ _ v _ => v = (.pointer (some ⟨cb, 0 + a * 8, none⟩))), (fun _ _ v _ => v = (.agg #[(I6 8), (I6 0), (I6 0), (I6 0), (I6 0), (.slice none 0 0), (.pointer none), (.bool false)])), (fun _ _ => alF 87 #[(I6 0), (I6 0), (I6 0), (I6 0), (I6 0), (.slice none 0 0), (.pointer none), (.bool false)] ws.heap.size), (fun _ _ v _ => v = undef)] := ⟨_, rfl⟩
 refine Wp_dagS (MsL []) [true, true, true, true, true, true, true, true, true, true, true, true, false] [12] [9, 10, 11, 12, 13, 14, 15, 16, 17, 18, 19, 5, 196] [[], [0], [1], [2], [3], [4], [5], [], [7], [6, 8], [9], [], []] [[], [0], [1, 0], [2, 1, 0], [3, 2, 1, 0], [4, 3, 2, 1, 0], [5, 4, 3, 2, 1, 0], [], [7], [6, 5, 4, 3, 2, 1, 0, 8, 7], [9, 6, 5, 4, 3, 2, 1, 0, 8, 7], [], []] Fs1 hFs1 (by kernel_rfl) mixed (by kernel_rfl) (by kernel_rfl) (by kernel_rfl) (by kernel_rfl) ?_ ?_
 ·intro wd X0
  refine qD (fun S s' w' hi hN X U V H => ?_) ?_
  ·replace X := X.mono (M' := none1) (fun y _ h => by
     obtain ⟨j, hj, h⟩ := h
     exact h.elim)
   exact DoesT_pure (r_move (v := (P6 rb 0)) (U 0 rfl)) rfl
  refine qD (fun S s' w' hi hN X U V H => ?_) ?_
  ·replace X := X.mono (M' := none1) (fun y _ h => by
     obtain ⟨j, hj, h⟩ := h
     exact h.elim)
   have e9 : s' 9 = (.pointer (some ⟨rb, 0, none⟩)) := (H 0 rfl).2 9 (fun _ _ v _ => v = (.pointer (some ⟨rb, 0, none⟩))) rfl (by rw [hFs1]; rfl)
   exact DoesT_pure (r_nilCheck (a := ⟨rb, 0, none⟩) e9) rfl
  refine qD (fun S s' w' hi hN X U V H => ?_) ?_
  ·replace X := X.mono (M' := none1) (fun y _ h => by
     obtain ⟨j, hj, h⟩ := h
     exact h.elim)
   have e10 : s' 10 = (.pointer (some ⟨rb, 0, none⟩)) := (H 1 rfl).2 10 (fun _ _ v _ => v = (.pointer (some ⟨rb, 0, none⟩))) rfl (by rw [hFs1]; rfl)
   exact DoesT_pure (r_fieldAddr (b := rb) (o := 0) (o' := 0) e10 Try.underlying80 rfl siz56 rfl) rfl
  refine qD (fun S s' w' hi hN X U V H => ?_) ?_
  ·replace X := X.mono (M' := none1) (fun y _ h => by
     obtain ⟨j, hj, h⟩ := h
     exact h.elim)
   have e11 : s' 11 = (.pointer (some ⟨rb, 0, none⟩)) := (H 2 rfl).2 11 (fun _ _ v _ => v = (.pointer (some ⟨rb, 0, none⟩))) rfl (by rw [hFs1]; rfl)
   exact DoesT_pure (r_load (v := (P6 pb 0)) e11 flat56 (((Ext.trans X0 X).keep hblk).cell rfl)) rfl
  refine qD (fun S s' w' hi hN X U V H => ?_) ?_
  ·replace X := X.mono (M' := none1) (fun y _ h => by
     obtain ⟨j, hj, h⟩ := h
     exact h.elim)
   have e12 : s' 12 = (.pointer (some ⟨pb, 0, none⟩)) := (H 3 rfl).2 12 (fun _ _ v _ => v = (.pointer (some ⟨pb, 0, none⟩))) rfl (by rw [hFs1]; rfl)
   exact DoesT_pure (r_nilCheck (a := ⟨pb, 0, none⟩) e12) rfl
  refine qD (fun S s' w' hi hN X U V H => ?_) ?_
  ·replace X := X.mono (M' := none1) (fun y _ h => by
     obtain ⟨j, hj, h⟩ := h
     exact h.elim)
   have e13 : s' 13 = (.pointer (some ⟨pb, 0, none⟩)) := (H 4 rfl).2 13 (fun _ _ v _ => v = (.pointer (some ⟨pb, 0, none⟩))) rfl (by rw [hFs1]; rfl)
   exact DoesT_pure (r_fieldAddr (b := pb) (o := 0) (o' := 0) e13 Try.underlying83 rfl siz81 rfl) rfl
  refine qD (fun S s' w' hi hN X U V H => ?_) ?_
  ·replace X := X.mono (M' := none1) (fun y _ h => by
     obtain ⟨j, hj, h⟩ := h
     exact h.elim)
   have e14 : s' 14 = (.pointer (some ⟨pb, 0, none⟩)) := (H 5 rfl).2 14 (fun _ _ v _ => v = (.pointer (some ⟨pb, 0, none⟩))) rfl (by rw [hFs1]; rfl)
   exact DoesT_pure (r_load (v := (.slice (some ⟨cb, 0, none⟩) n cc)) e14 flat81 (((X0.trans X).keep hPb).cell rfl)) rfl
  refine qD (fun S s' w' hi hN X U V H => ?_) ?_
  ·replace X := X.mono (M' := none1) (fun y _ h => by
     obtain ⟨j, hj, h⟩ := h
     exact h.elim)
   exact DoesT_pure (r_fieldAddr (b := bs) (o := 0) (o' := 0) (U 3 rfl) Try.underlying77 rfl siz3 rfl) rfl
  refine qD (fun S s' w' hi hN X U V H => ?_) ?_
  ·replace X := X.mono (M' := none1) (fun y _ h => by
     obtain ⟨j, hj, h⟩ := h
     exact h.elim)
   have e16 : s' 16 = (.pointer (some ⟨bs, 0, none⟩)) := (H 7 rfl).2 16 (fun _ _ v _ => v = (.pointer (some ⟨bs, 0, none⟩))) rfl (by rw [hFs1]; rfl)
   exact DoesT_pure (r_load (v := (I6 (a : Int))) e16 flat3 (((X0.trans X).keep Bs).cell rfl)) rfl
  refine qD (fun S s' w' hi hN X U V H => ?_) ?_
  ·replace X := X.mono (M' := none1) (fun y _ h => by
     obtain ⟨j, hj, h⟩ := h
     exact h.elim)
   have e15 : s' 15 = (.slice (some ⟨cb, 0, none⟩) n cc) := (H 6 rfl).2 15 (fun _ _ v _ => v = (.slice (some ⟨cb, 0, none⟩) n cc)) rfl (by rw [hFs1]; rfl)
   have e17 : s' 17 = (.int .i64 ((a : Nat) : Int)) := (H 8 rfl).2 17 (fun _ _ v _ => v = (.int .i64 ((a : Nat) : Int))) rfl (by rw [hFs1]; rfl)
   exact DoesT_pure (r_indexSlice (b := cb) (o := 0) (len := n) (cap := cc) (i := a) (o' := 0 + a * 8) e15 e17 rfl Try.underlying81 siz87 (by omega) (by omega)) rfl
  refine qD (fun S s' w' hi hN X U V H => ?_) ?_
  ·replace X := X.mono (M' := none1) (fun y _ h => by
     obtain ⟨j, hj, h⟩ := h
     exact h.elim)
   have e18 : s' 18 = (.pointer (some ⟨cb, 0 + a * 8, none⟩)) := (H 9 rfl).2 18 (fun _ _ v _ => v = (.pointer (some ⟨cb, 0 + a * 8, none⟩))) rfl (by rw [hFs1]; rfl)
   exact DoesT_pure (r_loadAgg (vs := [(I6 8), (I6 0), (I6 0), (I6 0), (I6 0), (.slice none 0 0), (.pointer none), (.bool false)]) e18 agg87 siz87 rfl (hcl.ext (Ext.trans (Ns.ext) (Ext.trans X0 X)))) rfl
  refine DagStepsS.cons (StabS.chg (U := none1) (fun v w w' x h => alF_ext _ _ _ v w w' x h) (fun p y hp hw h => by
     exact h.elim)) (LocS.const) (fun S s' w' hi hN X U V H => Or.inl ⟨Guarded_none rfl, ?_⟩) ?_
  ·replace X := X.mono (M' := none1) (fun y _ h => by
     obtain ⟨j, hj, h⟩ := h
     exact h.elim)
   exact DoesT_alloc (c := #[(I6 0), (I6 0), (I6 0), (I6 0), (I6 0), (.slice none 0 0), (.pointer none), (.bool false)]) zer87 rfl (by have := X0.size; have := X.size; omega)
  refine DagStepsS.tail ?_
  exact DagStepsS.nil
 ·intro s' wd1 w1 X0 X1 U H
  replace X1 := X1.mono (M' := none1) (fun y _ h => by
    obtain ⟨j, hj, h⟩ := h
    exact h.elim)
  have e19 : s' 19 = (.agg #[(.int .i64 8), (.int .i64 0), (.int .i64 0), (.int .i64 0), (.int .i64 0), (.slice none 0 0), (.pointer none), (.bool false)]) := H 10 rfl 19 (fun _ _ v _ => v = (.agg #[(.int .i64 8), (.int .i64 0), (.int .i64 0), (.int .i64 0), (.int .i64 0), (.slice none 0 0), (.pointer none), (.bool false)])) rfl (by rw [hFs1]; rfl)
  obtain ⟨b5, e5, B5, g5⟩ := (show ((fun _ _ => alF 87 #[(.int .i64 0), (.int .i64 0), (.int .i64 0), (.int .i64 0), (.int .i64 0), (.slice none 0 0), (.pointer none), (.bool false)] ws.heap.size) : FctS) (allS [true, true, true, true, true, true, true, true, true, true, true, true, false]) s' (s' 5) w1 from H 11 rfl 5 (fun _ _ => alF 87 #[(.int .i64 0), (.int .i64 0), (.int .i64 0), (.int .i64 0), (.int .i64 0), (.slice none 0 0), (.pointer none), (.bool false)] ws.heap.size) rfl (by rw [hFs1]; rfl))
  obtain ⟨j1, rfl⟩ := Fits.out (σ := s') (l := [(0, (.pointer (some ⟨rb, 0, none⟩))), (3, (.pointer (some ⟨bs, 0, none⟩))), (19, (.agg #[(.int .i64 8), (.int .i64 0), (.int .i64 0), (.int .i64 0), (.int .i64 0), (.slice none 0 0), (.pointer none), (.bool false)])), (5, (.pointer (some ⟨b5, 0, none⟩)))]) ⟨U 0 rfl, U 3 rfl, e19, e5, trivial⟩
  clear U H
  replace hblk := (X0.trans X1).keep hblk
  replace hbeg := (X0.trans X1).keep hbeg
  replace hmap := (X0.trans X1).keepM hmap
  replace hPb := (X0.trans X1).keep hPb
  replace Bs := (X0.trans X1).keep Bs
  replace X1 := X0.trans X1
  replace E := E.ext X1
  replace E1 := E1.ext X1
  refine s_storeAgg (b := b5) (o := 0) (c' := #[(I6 8), (I6 0), (I6 0), (I6 0), (I6 0), (.slice none 0 0), (.pointer none), (.bool false)]) rfl rfl (by simp [Value.oneCell']) siz87 rfl B5 (by first | (simp; done) | exact Nat.le_of_ble_eq_true rfl) rfl ?_
  intro w2 S2
  replace hblk := S2.keep (by omega) hblk
  replace hbeg := S2.keep (by omega) hbeg
  replace hmap := S2.keepM (by omega) hmap
  replace hPb := S2.keep (by omega) hPb
  replace Bs := S2.keep (by omega) Bs
  replace E := S2.step E (by first | exact Or.inl (by omega) | exact Or.inr rfl | exact Or.inr (by assumption) | exact Or.inr (by simp) | exact Or.inr (by omega) | exact Or.inr (by dsimp only; omega))
  replace E1 := S2.step E1 (Or.inl (by omega))
  replace B5 := S2.blk
  refine WpL_nil (thn_normal (Wp_seq_region ?_))
  refine qV (r_loadAgg (vs := [(I6 (a : Int)), (I6 (p : Int)), (I6 (d : Int))]) rfl agg77 siz77 rfl (Bs.cells rfl)) ?_
  refine s_allocStore (v := (.agg #[(I6 (a : Int)), (I6 (p : Int)), (I6 (d : Int))])) (c := #[(I6 (a : Int)), (I6 (p : Int)), (I6 (d : Int))]) (n := 3) (by decide) zer77 rfl siz77 rfl rfl rfl (by simp [Value.oneCell']) ?_
  intro bn wn Nn
  have Fn := Nn.ge E
  have Fn_E1 := Nn.ge E1
  have On_rb := Nn.lt hblk
  have On_bb := Nn.lt hbeg
  have On_mb := Nn.ltM hmap
  have On_pb := Nn.lt hPb
  have On_bs := Nn.lt Bs
  have On_b5 := Nn.lt B5
  replace hblk := Nn.keep hblk
  replace hbeg := Nn.keep hbeg
  replace hmap := Nn.keepM hmap
  replace hPb := Nn.keep hPb
  replace Bs := Nn.keep Bs
  replace B5 := Nn.keep B5
  replace E := E.ext Nn.ext
  have Bn := Nn.blk
  replace E1 := E1.ext Nn.ext
  refine WpL_nil (Wp_seq_region ?_)
  refine qF bn 0 0 rfl Try.underlying77 rfl siz3 rfl ?_
  refine qV (r_load (v := (I6 (a : Int))) rfl flat3 (Bn.cell rfl)) ?_
  refine qV (r_add (k := .i64) (a := (a : Int)) (b := 1) (c := ((a + 1 : Nat) : Int)) rfl rfl ((wI64 (by omega)).trans (by omega))) ?_
  refine qF bn 0 0 rfl Try.underlying77 rfl siz3 rfl ?_
  refine s_store (b := bn) (o := 0) (c' := #[.int .i64 ((a + 1 : Nat) : Int), .int .i64 (p : Int), .int .i64 (d : Int)]) (v := (I6 ((a + 1 : Nat) : Int))) rfl rfl rfl siz3 Bn (by simp) (rfl) ?_
  intro w3 S3
  replace hblk := S3.keep (by omega) hblk
  replace hbeg := S3.keep (by omega) hbeg
  replace hmap := S3.keepM (by omega) hmap
  replace hPb := S3.keep (by omega) hPb
  replace Bs := S3.keep (by omega) Bs
  replace B5 := S3.keep (by omega) B5
  replace E := S3.step E (by first | exact Or.inl (by omega) | exact Or.inr rfl | exact Or.inr (by assumption) | exact Or.inr (by simp) | exact Or.inr (by omega) | exact Or.inr (by dsimp only; omega))
  replace Bn := S3.blk
  refine WpL_nil (Wp_seq (Wp_seq_region ?_))
  refine qF b5 0 0 rfl Try.underlying87 rfl siz3 rfl ?_
  refine qV (r_load (v := (I6 8)) rfl flat3 (B5.cell rfl)) ?_
  refine WpL_nil (Wp_block (Wp_seq_region ?_))
  refine qV (r_eql (k := .i64) (a := 8) (b := 0) rfl rfl) ?_
  refine qA (.bool false) rfl ?_
  refine WpL_nil ?_
  refine Wp_cond_false rfl ?_
  refine Wp_seq_region ?_
  refine qV (r_eql (k := .i64) (a := 8) (b := 1) rfl rfl) ?_
  refine qA (.bool false) rfl ?_
  refine WpL_nil ?_
  refine Wp_cond_false rfl ?_
  refine Wp_seq_region ?_
  refine qV (r_eql (k := .i64) (a := 8) (b := 2) rfl rfl) ?_
  refine qA (.bool false) rfl ?_
  refine WpL_nil ?_
  refine Wp_cond_false rfl ?_
  refine Wp_seq_region ?_
  refine qV (r_eql (k := .i64) (a := 8) (b := 3) rfl rfl) ?_
  refine qA (.bool false) rfl ?_
  refine WpL_nil ?_
  refine Wp_cond_false rfl ?_
  refine Wp_seq_region ?_
  refine qV (r_eql (k := .i64) (a := 8) (b := 4) rfl rfl) ?_
  refine qA (.bool false) rfl ?_
  refine WpL_nil ?_
  refine Wp_cond_false rfl ?_
  refine Wp_seq_region ?_
  refine qV (r_eql (k := .i64) (a := 8) (b := 5) rfl rfl) ?_
  refine qA (.bool false) rfl ?_
  refine WpL_nil ?_
  refine Wp_cond_false rfl ?_
  refine Wp_seq_region ?_
  refine qV (r_eql (k := .i64) (a := 8) (b := 6) rfl rfl) ?_
  refine qA (.bool false) rfl ?_
  refine WpL_nil ?_
  refine Wp_cond_false rfl ?_
  refine Wp_seq_region ?_
  refine qV (r_eql (k := .i64) (a := 8) (b := 7) rfl rfl) ?_
  refine qA (.bool false) rfl ?_
  refine WpL_nil ?_
  refine Wp_cond_false rfl ?_
  refine Wp_seq_region ?_
  refine qV (r_eql (k := .i64) (a := 8) (b := 8) rfl rfl) ?_
  refine qA (.bool true) rfl ?_
  refine WpL_nil ?_
  refine Wp_cond_true rfl ?_
  refine Wp_seq_region ?_
  refine qM (P6 rb 0) rfl ?_
  refine qF bs 0 1 rfl Try.underlying77 rfl siz3 rfl ?_
  refine qV (r_load (v := (I6 (p : Int))) rfl flat3 (Bs.cell rfl)) ?_
  refine qV (r_nilCheck (a := ⟨rb, 0, none⟩) rfl) ?_
  refine qF rb 0 4 rfl Try.underlying80 rfl siz33 rfl ?_
  refine qF rb 4 5 rfl Try.underlying33 rfl siz3 rfl ?_
  refine s_store (b := rb) (o := 5) (c' := (runV pb mb bb ta tn tc B.length gf (p : Int) G).toArray) (v := (I6 (p : Int))) rfl rfl rfl siz3 hblk (by simp [runV]) (rfl) ?_
  intro w4 S4
  replace hbeg := S4.keep (by omega) hbeg
  replace hmap := S4.keepM (by omega) hmap
  replace hPb := S4.keep (by omega) hPb
  replace Bs := S4.keep (by omega) Bs
  replace B5 := S4.keep (by omega) B5
  replace Bn := S4.keep (by omega) Bn
  replace E := S4.step E (by first | exact Or.inl (by omega) | exact Or.inr rfl | exact Or.inr (by assumption) | exact Or.inr (by simp) | exact Or.inr (by omega) | exact Or.inr (by dsimp only; omega))
  replace hblk := S4.blk
  refine WpL_nil (Wp_seq_region ?_)
  refine qA (.bool true) rfl ?_
  refine WpL_nil (Wp_ret (inB_ret (thn_ret ?_)))
  refine fin_tmp Try.results60 (v := (.bool true)) rfl ?_
  exact ⟨⟨rfl, es, B, ((p : Nat) : Int), G, ⟨hblk, hmap, hbeg, hgl⟩, rfl, hFl, (fun h => by cases h), fun q hq => by cases hq; exact ⟨rfl, rfl⟩⟩, E⟩
end Go.Proofs
