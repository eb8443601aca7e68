/- Contracts and plain lemmas, part 5. -/
import Derived.Tactics
import Derived.Deep.Quiet
import Derived.Laws.AppendOwn
import Derived.KernelRfl
import Derived.Laws.Entries
import Derived.Laws.Build
import Derived.Below
import Derived.RowKit3
import Derived.StillTail
import Derived.Sort.Grow
import Derived.Deep.Draws
import Derived.Test.YtgifkdbbgffemaaChecked
import Derived.Laws.StructEq
import Derived.MapKept
import Derived.Laws.BytesArg
import Derived.DeepKeys3
import Derived.OpenShut
import Derived.ChangeSlices
import Derived.Test.YtgifkdbbgffemaaRows
import Derived.Test.YtgifkdbbgffemaaCl4
namespace Go.Proofs
open Go Go.Eng Go.Sort
set_option maxRecDepth 100000
set_option maxHeartbeats 2000000 in
theorem try_splitY {text : List Int} {code : List Ins} {a p d x y : Nat} {B : List Int} {G : Grp} {v : Grp × Nat} (hc : code[a]? = some (.split x y)) (ih : RunC fRun text code x p d B G (some v)) : RunC fTry text code a p d B G (some v) := by
 intro r hcode F w0 rb pb mb bb ta tn tc es gf gt hC hA hFl hp
 subst hcode
 have hblk := hA.blk
 have hmap := hA.map
 have hbeg := hA.beg
 have hrl := hblk.lt
 have hml := hmap.lt
 have hbl := hbeg.lt
 have hd1 := hC.d1
 have hd2 := hC.d2
 have hd3 := hC.d3
 have hgl := hA.gl
 have htl := hC.tl
 obtain ⟨cb, cc, qb, n, row, hPb, hcl, hrow, hsub, han, hn1, hFpb⟩ := hC.prog.row hc
 have hpn := (hC.fl pb hFpb).2
 simp only [RowF] at hrow
 subst hrow
 refine Ret_of Try.func60 rfl Try.ntmps60 (Nat.le_of_ble_eq_true rfl) ?_
 have E : Chg (RMod rb mb bb) w0 w0 := Chg.refl _ _
 have E1 : Chg none1 w0 w0 := Chg.refl _ _
 refine Wp_seq_region ?_
 refine s_box (v := (.agg #[(I6 (a : Int)), (I6 (p : Int)), (I6 (d : Int))])) (c := #[(I6 (a : Int)), (I6 (p : Int)), (I6 (d : Int))]) (by decide) rfl rfl ?_
 intro bs ws Ns
 have Fs := Ns.ge E
 have Fs_E1 := Ns.ge E1
 have Os_rb := Ns.lt hblk
 have Os_bb := Ns.lt hbeg
 have Os_mb := Ns.ltM hmap
 have Os_pb := Ns.lt hPb
 replace hblk := Ns.keep hblk
 replace hbeg := Ns.keep hbeg
 replace hmap := Ns.keepM hmap
 replace hPb := Ns.keep hPb
 replace E := E.ext Ns.ext
 have Bs := Ns.blk
 replace E1 := E1.ext Ns.ext
 refine qA (.bool false) rfl ?_
 refine WpL_nil ?_
 obtain ⟨z0, hz0⟩ : ∃ z0, z0 = (ws).heap.size := ⟨_, rfl⟩
 have hz1 : w0.heap.size ≤ z0 := by rw [hz0]; exact E.size
 have hz2 : bs < z0 := by rw [hz0]; exact Bs.lt
 have hz_1 : w0.heap.size ≤ ws.heap.size := E.size
 have lz_1_rb : rb < ws.heap.size := hblk.lt
 have lz_1_bb : bb < ws.heap.size := hbeg.lt
 have lz_1_mb : mb < ws.heap.size := hmap.lt
 have lz_1_pb : pb < ws.heap.size := hPb.lt
 have lz_1_bs : bs < ws.heap.size := Bs.lt
 refine Wp_seq ?_
 obtain ⟨Fs1, hFs1⟩ : ∃ Fs : List FctS, Fs = [(fun _ _ v _ => v = (P6 rb 0)), (fun _ _ v _ => v = (P6 rb 0)), (fun _ _ v _ => v = (P6 rb 0)), (fun _ _ v _ => v = (P6 pb 0)), (fun _ _ v _ => v = (P6 pb 0)), (fun _ _ v _ => v = (P6 pb 0)), (fun _ _ v _ => v = (.slice (some ⟨cb, 0, none⟩) n cc)), (fun _ _ v _ => v = (P6 bs 0)), (fun _ _ v _ => v = (I6 (a : Int))), (fun _ _ v _ => v = (.pointer (some ⟨cb, 0 + a * 8, none⟩))), (fun _ _ v _ => v = (.agg #[(I6 1), (I6 (x : Int)), (I6 (y : Int)), (I6 0), (I6 0), (.slice none 0 0), (.pointer none), (.bool false)])), (fun _ _ => alF 87 #[(I6 0), (I6 0), (I6 0), (I6 0), (I6 0), (.slice none 0 0), (.pointer none), (.bool false)] ws.heap.size), (fun _ _ v _ => v = undef)] := ⟨_, rfl⟩
 refine Wp_dagS (MsL []) [true, true, true, true, true, true, true, true, true, true, true, true, false] [12] [9, 10, 11, 12, 13, 14, 15, 16, 17, 18, 19, 5, 196] [[], [0], [1], [2], [3], [4], [5], [], [7], [6, 8], [9], [], []] [[], [0], [1, 0], [2, 1, 0], [3, 2, 1, 0], [4, 3, 2, 1, 0], [5, 4, 3, 2, 1, 0], [], [7], [6, 5, 4, 3, 2, 1, 0, 8, 7], [9, 6, 5, 4, 3, 2, 1, 0, 8, 7], [], []] Fs1 hFs1 (by kernel_rfl) mixed (by kernel_rfl) (by kernel_rfl) (by kernel_rfl) (by kernel_rfl) ?_ ?_
 ·intro wd X0
  refine qD (fun S s' w' hi hN X U V H => ?_) ?_
  ·replace X := X.mono (M' := none1) (fun y _ h => by
     obtain ⟨j, hj, h⟩ := h
     exact h.elim)
   exact DoesT_pure (r_move (v := (P6 rb 0)) (U 0 rfl)) rfl
  refine qD (fun S s' w' hi hN X U V H => ?_) ?_
  ·replace X := X.mono (M' := none1) (fun y _ h => by
     obtain ⟨j, hj, h⟩ := h
     exact h.elim)
   have e9 : s' 9 = (.pointer (some ⟨rb, 0, none⟩)) := (H 0 rfl).2 9 (fun _ _ v _ => v = (.pointer (some ⟨rb, 0, none⟩))) rfl (by rw [hFs1]; rfl)
   exact DoesT_pure (r_nilCheck (a := ⟨rb, 0, none⟩) e9) rfl
  refine qD (fun S s' w' hi hN X U V H => ?_) ?_
  ·replace X := X.mono (M' := none1) (fun y _ h => by
     obtain ⟨j, hj, h⟩ := h
     exact h.elim)
   have e10 : s' 10 = (.pointer (some ⟨rb, 0, none⟩)) := (H 1 rfl).2 10 (fun _ _ v _ => v = (.pointer (some ⟨rb, 0, none⟩))) rfl (by rw [hFs1]; rfl)
   exact DoesT_pure (r_fieldAddr (b := rb) (o := 0) (o' := 0) e10 Try.underlying80 rfl siz56 rfl) rfl
  refine qD (fun S s' w' hi hN X U V H => ?_) ?_
  ·replace X := X.mono (M' := none1) (fun y _ h => by
     obtain ⟨j, hj, h⟩ := h
     exact h.elim)
   have e11 : s' 11 = (.pointer (some ⟨rb, 0, none⟩)) := (H 2 rfl).2 11 (fun _ _ v _ => v = (.pointer (some ⟨rb, 0, none⟩))) rfl (by rw [hFs1]; rfl)
   exact DoesT_pure (r_load (v := (P6 pb 0)) e11 flat56 (((Ext.trans X0 X).keep hblk).cell rfl)) rfl
  refine qD (fun S s' w' hi hN X U V H => ?_) ?_
  ·replace X := X.mono (M' := none1) (fun y _ h => by
     obtain ⟨j, hj, h⟩ := h
     exact h.elim)
   have e12 : s' 12 = (.pointer (some ⟨pb, 0, none⟩)) := (H 3 rfl).2 12 (fun _ _ v _ => v = (.pointer (some ⟨pb, 0, none⟩))) rfl (by rw [hFs1]; rfl)
   exact DoesT_pure (r_nilCheck (a := ⟨pb, 0, none⟩) e12) rfl
  refine qD (fun S s' w' hi hN X U V H => ?_) ?_
  ·replace X := X.mono (M' := none1) (fun y _ h => by
     obtain ⟨j, hj, h⟩ := h
     exact h.elim)
   have e13 : s' 13 = (.pointer (some ⟨pb, 0, none⟩)) := (H 4 rfl).2 13 (fun _ _ v _ => v = (.pointer (some ⟨pb, 0, none⟩))) rfl (by rw [hFs1]; rfl)
   exact DoesT_pure (r_fieldAddr (b := pb) (o := 0) (o' := 0) e13 Try.underlying83 rfl siz81 rfl) rfl
  refine qD (fun S s' w' hi hN X U V H => ?_) ?_
  ·replace X := X.mono (M' := none1) (fun y _ h => by
     obtain ⟨j, hj, h⟩ := h
     exact h.elim)
   have e14 : s' 14 = (.pointer (some ⟨pb, 0, none⟩)) := (H 5 rfl).2 14 (fun _ _ v _ => v = (.pointer (some ⟨pb, 0, none⟩))) rfl (by rw [hFs1]; rfl)
   exact DoesT_pure (r_load (v := (.slice (some ⟨cb, 0, none⟩) n cc)) e14 flat81 (((X0.trans X).keep hPb).cell rfl)) rfl
  refine qD (fun S s' w' hi hN X U V H => ?_) ?_
  ·replace X := X.mono (M' := none1) (fun y _ h => by
     obtain ⟨j, hj, h⟩ := h
     exact h.elim)
   exact DoesT_pure (r_fieldAddr (b := bs) (o := 0) (o' := 0) (U 3 rfl) Try.underlying77 rfl siz3 rfl) rfl
  refine qD (fun S s' w' hi hN X U V H => ?_) ?_
  ·replace X := X.mono (M' := none1) (fun y _ h => by
     obtain ⟨j, hj, h⟩ := h
     exact h.elim)
   have e16 : s' 16 = (.pointer (some ⟨bs, 0, none⟩)) := (H 7 rfl).2 16 (fun _ _ v _ => v = (.pointer (some ⟨bs, 0, none⟩))) rfl (by rw [hFs1]; rfl)
   exact DoesT_pure (r_load (v := (I6 (a : Int))) e16 flat3 (((X0.trans X).keep Bs).cell rfl)) rfl
  refine qD (fun S s' w' hi hN X U V H => ?_) ?_
  ·replace X := X.mono (M' := none1) (fun y _ h => by
     obtain ⟨j, hj, h⟩ := h
     exact h.elim)
   have e15 : s' 15 = (.slice (some ⟨cb, 0, none⟩) n cc) := (H 6 rfl).2 15 (fun _ _ v _ => v = (.slice (some ⟨cb, 0, none⟩) n cc)) rfl (by rw [hFs1]; rfl)
   have e17 : s' 17 = (.int .i64 ((a : Nat) : Int)) := (H 8 rfl).2 17 (fun _ _ v _ => v = (.int .i64 ((a : Nat) : Int))) rfl (by rw [hFs1]; rfl)
   exact DoesT_pure (r_indexSlice (b := cb) (o := 0) (len := n) (cap := cc) (i := a) (o' := 0 + a * 8) e15 e17 rfl Try.underlying81 siz87 (by omega) (by omega)) rfl
  refine qD (fun S s' w' hi hN X U V H => ?_) ?_
  ·replace X := X.mono (M' := none1) (fun y _ h => by
     obtain ⟨j, hj, h⟩ := h
     exact h.elim)
   have e18 : s' 18 = (.pointer (some ⟨cb, 0 + a * 8, none⟩)) := (H 9 rfl).2 18 (fun _ _ v _ => v = (.pointer (some ⟨cb, 0 + a * 8, none⟩))) rfl (by rw [hFs1]; rfl)
   exact DoesT_pure (r_loadAgg (vs := [(I6 1), (I6 (x : Int)), (I6 (y : Int)), (I6 0), (I6 0), (.slice none 0 0), (.pointer none), (.bool false)]) e18 agg87 siz87 rfl (hcl.ext (Ext.trans (Ns.ext) (Ext.trans X0 X)))) rfl
  refine DagStepsS.cons (StabS.chg (U := none1) (fun v w w' x h => alF_ext _ _ _ v w w' x h) (fun p y hp hw h => by
     exact h.elim)) (LocS.const) (fun S s' w' hi hN X U V H => Or.inl ⟨Guarded_none rfl, ?_⟩) ?_
  ·replace X := X.mono (M' := none1) (fun y _ h => by
     obtain ⟨j, hj, h⟩ := h
     exact h.elim)
   exact DoesT_alloc (c := #[(I6 0), (I6 0), (I6 0), (I6 0), (I6 0), (.slice none 0 0), (.pointer none), (.bool false)]) zer87 rfl (by have := X0.size; have := X.size; omega)
  refine DagStepsS.tail ?_
  exact DagStepsS.nil
 ·intro s' wd1 w1 X0 X1 U H
  replace X1 := X1.mono (M' := none1) (fun y _ h => by
    obtain ⟨j, hj, h⟩ := h
    exact h.elim)
  have e19 : s' 19 = (.agg #[(.int .i64 1), (.int .i64 ((x : Nat) : Int)), (.int .i64 ((y : Nat) : Int)), (.int .i64 0), (.int .i64 0), (.slice none 0 0), (.pointer none), (.bool false)]) := H 10 rfl 19 (fun _ _ v _ => v = (.agg #[(.int .i64 1), (.int .i64 ((x : Nat) : Int)), (.int .i64 ((y : Nat) : Int)), (.int .i64 0), (.int .i64 0), (.slice none 0 0), (.pointer none), (.bool false)])) rfl (by rw [hFs1]; rfl)
  obtain ⟨b5, e5, B5, g5⟩ := (show ((fun _ _ => alF 87 #[(.int .i64 0), (.int .i64 0), (.int .i64 0), (.int .i64 0), (.int .i64 0), (.slice none 0 0), (.pointer none), (.bool false)] ws.heap.size) : FctS) (allS [true, true, true, true, true, true, true, true, true, true, true, true, false]) s' (s' 5) w1 from H 11 rfl 5 (fun _ _ => alF 87 #[(.int .i64 0), (.int .i64 0), (.int .i64 0), (.int .i64 0), (.int .i64 0), (.slice none 0 0), (.pointer none), (.bool false)] ws.heap.size) rfl (by rw [hFs1]; rfl))
  obtain ⟨j1, rfl⟩ := Fits.out (σ := s') (l := [(0, (.pointer (some ⟨rb, 0, none⟩))), (3, (.pointer (some ⟨bs, 0, none⟩))), (19, (.agg #[(.int .i64 1), (.int .i64 ((x : Nat) : Int)), (.int .i64 ((y : Nat) : Int)), (.int .i64 0), (.int .i64 0), (.slice none 0 0), (.pointer none), (.bool false)])), (5, (.pointer (some ⟨b5, 0, none⟩)))]) ⟨U 0 rfl, U 3 rfl, e19, e5, trivial⟩
  clear U H
  replace hblk := (X0.trans X1).keep hblk
  replace hbeg := (X0.trans X1).keep hbeg
  replace hmap := (X0.trans X1).keepM hmap
  replace hPb := (X0.trans X1).keep hPb
  replace Bs := (X0.trans X1).keep Bs
  replace X1 := X0.trans X1
  replace E := E.ext X1
  replace E1 := E1.ext X1
  refine s_storeAgg (b := b5) (o := 0) (c' := #[(I6 1), (I6 (x : Int)), (I6 (y : Int)), (I6 0), (I6 0), (.slice none 0 0), (.pointer none), (.bool false)]) rfl rfl (by simp [Value.oneCell']) siz87 rfl B5 (by first | (simp; done) | exact Nat.le_of_ble_eq_true rfl) rfl ?_
  intro w2 S2
  replace hblk := S2.keep (by omega) hblk
  replace hbeg := S2.keep (by omega) hbeg
  replace hmap := S2.keepM (by omega) hmap
  replace hPb := S2.keep (by omega) hPb
  replace Bs := S2.keep (by omega) Bs
  replace E := S2.step E (by first | exact Or.inl (by omega) | exact Or.inr rfl | exact Or.inr (by assumption) | exact Or.inr (by simp) | exact Or.inr (by omega) | exact Or.inr (by dsimp only; omega))
  replace E1 := S2.step E1 (Or.inl (by omega))
  replace B5 := S2.blk
  refine WpL_nil (thn_normal (Wp_seq_region ?_))
  refine qV (r_loadAgg (vs := [(I6 (a : Int)), (I6 (p : Int)), (I6 (d : Int))]) rfl agg77 siz77 rfl (Bs.cells rfl)) ?_
  refine s_allocStore (v := (.agg #[(I6 (a : Int)), (I6 (p : Int)), (I6 (d : Int))])) (c := #[(I6 (a : Int)), (I6 (p : Int)), (I6 (d : Int))]) (n := 3) (by decide) zer77 rfl siz77 rfl rfl rfl (by simp [Value.oneCell']) ?_
  intro bn wn Nn
  have Fn := Nn.ge E
  have Fn_E1 := Nn.ge E1
  have On_rb := Nn.lt hblk
  have On_bb := Nn.lt hbeg
  have On_mb := Nn.ltM hmap
  have On_pb := Nn.lt hPb
  have On_bs := Nn.lt Bs
  have On_b5 := Nn.lt B5
  replace hblk := Nn.keep hblk
  replace hbeg := Nn.keep hbeg
  replace hmap := Nn.keepM hmap
  replace hPb := Nn.keep hPb
  replace Bs := Nn.keep Bs
  replace B5 := Nn.keep B5
  replace E := E.ext Nn.ext
  have Bn := Nn.blk
  replace E1 := E1.ext Nn.ext
  refine WpL_nil (Wp_seq_region ?_)
  refine qF bn 0 0 rfl Try.underlying77 rfl siz3 rfl ?_
  refine qV (r_load (v := (I6 (a : Int))) rfl flat3 (Bn.cell rfl)) ?_
  refine qV (r_add (k := .i64) (a := (a : Int)) (b := 1) (c := ((a + 1 : Nat) : Int)) rfl rfl ((wI64 (by omega)).trans (by omega))) ?_
  refine qF bn 0 0 rfl Try.underlying77 rfl siz3 rfl ?_
  refine s_store (b := bn) (o := 0) (c' := #[(I6 ((a + 1 : Nat) : Int)), (I6 (p : Int)), (I6 (d : Int))]) (v := (I6 ((a + 1 : Nat) : Int))) rfl rfl rfl siz3 Bn (by simp) rfl ?_
  intro w3 S3
  replace hblk := S3.keep (by omega) hblk
  replace hbeg := S3.keep (by omega) hbeg
  replace hmap := S3.keepM (by omega) hmap
  replace hPb := S3.keep (by omega) hPb
  replace Bs := S3.keep (by omega) Bs
  replace B5 := S3.keep (by omega) B5
  replace E := S3.step E (by first | exact Or.inl (by omega) | exact Or.inr rfl | exact Or.inr (by assumption) | exact Or.inr (by simp) | exact Or.inr (by omega) | exact Or.inr (by dsimp only; omega))
  replace E1 := S3.step E1 (Or.inl (by omega))
  replace Bn := S3.blk
  refine WpL_nil (Wp_seq (Wp_seq_region ?_))
  refine qF b5 0 0 rfl Try.underlying87 rfl siz3 rfl ?_
  refine qV (r_load (v := (I6 1)) rfl flat3 (B5.cell rfl)) ?_
  refine WpL_nil (Wp_block (Wp_seq_region ?_))
  refine qV (r_eql (k := .i64) (a := 1) (b := 0) rfl rfl) ?_
  refine qA (.bool false) rfl ?_
  refine WpL_nil ?_
  refine Wp_cond_false rfl ?_
  refine Wp_seq_region ?_
  refine qV (r_eql (k := .i64) (a := 1) (b := 1) rfl rfl) ?_
  refine qA (.bool true) rfl ?_
  refine WpL_nil ?_
  refine Wp_cond_true rfl ?_
  refine Wp_seq_region ?_
  refine qF b5 0 1 rfl Try.underlying87 rfl siz3 rfl ?_
  refine qV (r_load (v := (I6 (x : Int))) rfl flat3 (B5.cell rfl)) ?_
  refine qF bn 0 0 rfl Try.underlying77 rfl siz3 rfl ?_
  refine s_store (b := bn) (o := 0) (c' := #[(I6 (x : Int)), (I6 (p : Int)), (I6 (d : Int))]) (v := (I6 (x : Int))) rfl rfl rfl siz3 Bn (by simp) rfl ?_
  intro w4 S4
  replace hblk := S4.keep (by omega) hblk
  replace hbeg := S4.keep (by omega) hbeg
  replace hmap := S4.keepM (by omega) hmap
  replace hPb := S4.keep (by omega) hPb
  replace Bs := S4.keep (by omega) Bs
  replace B5 := S4.keep (by omega) B5
  replace E := S4.step E (by first | exact Or.inl (by omega) | exact Or.inr rfl | exact Or.inr (by assumption) | exact Or.inr (by simp) | exact Or.inr (by omega) | exact Or.inr (by dsimp only; omega))
  replace E1 := S4.step E1 (Or.inl (by omega))
  replace Bn := S4.blk
  refine WpL_nil (Wp_seq (Wp_seq_region ?_))
  refine qM (P6 rb 0) rfl ?_
  refine qV (r_loadAgg (vs := [(I6 (x : Int)), (I6 (p : Int)), (I6 (d : Int))]) rfl agg77 siz77 rfl (Bn.cells rfl)) ?_
  refine WpL_enter rfl rfl (by decide) (r_callF (vs := [(P6 rb 0), (.agg #[(I6 (x : Int)), (I6 (p : Int)), (I6 (d : Int))])]) Try.func40 nm40 bd40 rfl) (ih r rfl F _ rb pb mb bb _ _ _ es gf gt (hC.mod E) ⟨hblk, hmap, hbeg, hgl⟩ hFl hp) ?_
  rintro _ w19 ⟨⟨rfl, hO⟩, C19⟩
  replace hPb := C19.keep (fun h => by rcases h with h | h | h <;> omega) hPb
  replace Bs := C19.keep (fun h => by rcases h with h | h | h <;> omega) Bs
  replace B5 := C19.keep (fun h => by rcases h with h | h | h <;> omega) B5
  replace Bn := C19.keep (fun h => by rcases h with h | h | h <;> omega) Bn
  replace E := E.step C19 (fun _ _ h => h)
  refine WpL_nil ?_
  have hc5 : ((some v).isSome) = true := rfl
  refine Wp_cond_true (congrArg Value.bool hc5) ?_
  refine Wp_seq_region ?_
  refine qA (.bool true) rfl ?_
  refine WpL_nil (Wp_ret (thn_ret (inB_ret (thn_ret ?_))))
  refine fin_tmp Try.results60 (v := (.bool true)) rfl ?_
  exact ⟨⟨rfl, hO⟩, E⟩
set_option maxHeartbeats 2000000 in
theorem try_splitN {text : List Int} {code : List Ins} {a p d x y : Nat} {B : List Int} {G : Grp} {o : Option (Grp × Nat)} (hc : code[a]? = some (.split x y)) (ih1 : RunC fRun text code x p d B G none) (ih : RunC fRun text code y p d B G o) : RunC fTry text code a p d B G o := by
 intro r hcode F w0 rb pb mb bb ta tn tc es gf gt hC hA hFl hp
 subst hcode
 have hblk := hA.blk
 have hmap := hA.map
 have hbeg := hA.beg
 have hrl := hblk.lt
 have hml := hmap.lt
 have hbl := hbeg.lt
 have hd1 := hC.d1
 have hd2 := hC.d2
 have hd3 := hC.d3
 have hgl := hA.gl
 have htl := hC.tl
 obtain ⟨cb, cc, qb, n, row, hPb, hcl, hrow, hsub, han, hn1, hFpb⟩ := hC.prog.row hc
 have hpn := (hC.fl pb hFpb).2
 simp only [RowF] at hrow
 subst hrow
 refine Ret_of Try.func60 rfl Try.ntmps60 (Nat.le_of_ble_eq_true rfl) ?_
 have E : Chg (RMod rb mb bb) w0 w0 := Chg.refl _ _
 have E1 : Chg none1 w0 w0 := Chg.refl _ _
 refine Wp_seq_region ?_
 refine s_box (v := (.agg #[(I6 (a : Int)), (I6 (p : Int)), (I6 (d : Int))])) (c := #[(I6 (a : Int)), (I6 (p : Int)), (I6 (d : Int))]) (by decide) rfl rfl ?_
 intro bs ws Ns
 have Fs := Ns.ge E
 have Fs_E1 := Ns.ge E1
 have Os_rb := Ns.lt hblk
 have Os_bb := Ns.lt hbeg
 have Os_mb := Ns.ltM hmap
 have Os_pb := Ns.lt hPb
 replace hblk := Ns.keep hblk
 replace hbeg := Ns.keep hbeg
 replace hmap := Ns.keepM hmap
 replace hPb := Ns.keep hPb
 replace E := E.ext Ns.ext
 have Bs := Ns.blk
 replace E1 := E1.ext Ns.ext
 refine qA (.bool false) rfl ?_
 refine WpL_nil ?_
 obtain ⟨z0, hz0⟩ : ∃ z0, z0 = (ws).heap.size := ⟨_, rfl⟩
 have hz1 : w0.heap.size ≤ z0 := by rw [hz0]; exact E.size
 have hz2 : bs < z0 := by rw [hz0]; exact Bs.lt
 have hz_1 : w0.heap.size ≤ ws.heap.size := E.size
 have lz_1_rb : rb < ws.heap.size := hblk.lt
 have lz_1_bb : bb < ws.heap.size := hbeg.lt
 have lz_1_mb : mb < ws.heap.size := hmap.lt
 have lz_1_pb : pb < ws.heap.size := hPb.lt
 have lz_1_bs : bs < ws.heap.size := Bs.lt
 refine Wp_seq ?_
 obtain ⟨Fs1, hFs1⟩ : ∃ Fs : List FctS, Fs = [(fun _ _ v _ => v = (P6 rb 0)), (fun _ _ v _ => v = (P6 rb 0)), (fun _ _ v _ => v = (P6 rb 0)), (fun _ _ v _ => v = (P6 pb 0)), (fun _ _ v _ => v = (P6 pb 0)), (fun _ _ v _ => v = (P6 pb 0)), (fun _ _ v _ => v = (.slice (some ⟨cb, 0, none⟩) n cc)), (fun _ _ v _ => v = (P6 bs 0)), (fun _ _ v _ => v = (I6 (a : Int))), (fun _ _ v _ => v = (.pointer (some ⟨cb, 0 + a * 8, none⟩))), (fun _ _ v _ => v = (.agg #[(I6 1), (I6 (x : Int)), (I6 (y : Int)), (I6 0), (I6 0), (.slice none 0 0), (.pointer none), (.bool false)])), (fun _ _ => alF 87 #[(I6 0), (I6 0), (I6 0), (I6 0), (I6 0), (.slice none 0 0), (.pointer none), (.bool false)] ws.heap.size), (fun _ _ v _ => v = undef)] := ⟨_, rfl⟩
 refine Wp_dagS (MsL []) [true, true, true, true, true, true, true, true, true, true, true, true, false] [12] [9, 10, 11, 12, 13, 14, 15, 16, 17, 18, 19, 5, 196] [[], [0], [1], [2], [3], [4], [5], [], [7], [6, 8], [9], [], []] [[], [0], [1, 0], [2, 1, 0], [3, 2, 1, 0], [4, 3, 2, 1, 0], [5, 4, 3, 2, 1, 0], [], [7], [6, 5, 4, 3, 2, 1, 0, 8, 7], [9, 6, 5, 4, 3, 2, 1, 0, 8, 7], [], []] Fs1 hFs1 (by kernel_rfl) mixed (by kernel_rfl) (by kernel_rfl) (by kernel_rfl) (by kernel_rfl) ?_ ?_
 ·intro wd X0
  refine qD (fun S s' w' hi hN X U V H => ?_) ?_
  ·replace X := X.mono (M' := none1) (fun y _ h => by
     obtain ⟨j, hj, h⟩ := h
     exact h.elim)
   exact DoesT_pure (r_move (v := (P6 rb 0)) (U 0 rfl)) rfl
  refine qD (fun S s' w' hi hN X U V H => ?_) ?_
  ·replace X := X.mono (M' := none1) (fun y _ h => by
     obtain ⟨j, hj, h⟩ := h
     exact h.elim)
   have e9 : s' 9 = (.pointer (some ⟨rb, 0, none⟩)) := (H 0 rfl).2 9 (fun _ _ v _ => v = (.pointer (some ⟨rb, 0, none⟩))) rfl (by rw [hFs1]; rfl)
   exact DoesT_pure (r_nilCheck (a := ⟨rb, 0, none⟩) e9) rfl
  refine qD (fun S s' w' hi hN X U V H => ?_) ?_
  ·replace X := X.mono (M' := none1) (fun y _ h => by
     obtain ⟨j, hj, h⟩ := h
     exact h.elim)
   have e10 : s' 10 = (.pointer (some ⟨rb, 0, none⟩)) := (H 1 rfl).2 10 (fun _ _ v _ => v = (.pointer (some ⟨rb, 0, none⟩))) rfl (by rw [hFs1]; rfl)
   exact DoesT_pure (r_fieldAddr (b := rb) (o := 0) (o' := 0) e10 Try.underlying80 rfl siz56 rfl) rfl
  refine qD (fun S s' w' hi hN X U V H => ?_) ?_
  ·replace X := X.mono (M' := none1) (fun y _ h => by
     obtain ⟨j, hj, h⟩ := h
     exact h.elim)
   have e11 : s' 11 = (.pointer (some ⟨rb, 0, none⟩)) := (H 2 rfl).2 11 (fun _ _ v _ => v = (.pointer (some ⟨rb, 0, none⟩))) rfl (by rw [hFs1]; rfl)
   exact DoesT_pure (r_load (v := (P6 pb 0)) e11 flat56 (((Ext.trans X0 X).keep hblk).cell rfl)) rfl
  refine qD (fun S s' w' hi hN X U V H => ?_) ?_
  ·replace X := X.mono (M' := none1) (fun y _ h => by
     obtain ⟨j, hj, h⟩ := h
     exact h.elim)
   have e12 : s' 12 = (.pointer (some ⟨pb, 0, none⟩)) := (H 3 rfl).2 12 (fun _ _ v _ => v = (.pointer (some ⟨pb, 0, none⟩))) rfl (by rw [hFs1]; rfl)
   exact DoesT_pure (r_nilCheck (a := ⟨pb, 0, none⟩) e12) rfl
  refine qD (fun S s' w' hi hN X U V H => ?_) ?_
  ·replace X := X.mono (M' := none1) (fun y _ h => by
     obtain ⟨j, hj, h⟩ := h
     exact h.elim)
   have e13 : s' 13 = (.pointer (some ⟨pb, 0, none⟩)) := (H 4 rfl).2 13 (fun _ _ v _ => v = (.pointer (some ⟨pb, 0, none⟩))) rfl (by rw [hFs1]; rfl)
   exact DoesT_pure (r_fieldAddr (b := pb) (o := 0) (o' := 0) e13 Try.underlying83 rfl siz81 rfl) rfl
  refine qD (fun S s' w' hi hN X U V H => ?_) ?_
  ·replace X := X.mono (M' := none1) (fun y _ h => by
     obtain ⟨j, hj, h⟩ := h
     exact h.elim)
   have e14 : s' 14 = (.pointer (some ⟨pb, 0, none⟩)) := (H 5 rfl).2 14 (fun _ _ v _ => v = (.pointer (some ⟨pb, 0, none⟩))) rfl (by rw [hFs1]; rfl)
   exact DoesT_pure (r_load (v := (.slice (some ⟨cb, 0, none⟩) n cc)) e14 flat81 (((X0.trans X).keep hPb).cell rfl)) rfl
  refine qD (fun S s' w' hi hN X U V H => ?_) ?_
  ·replace X := X.mono (M' := none1) (fun y _ h => by
     obtain ⟨j, hj, h⟩ := h
     exact h.elim)
   exact DoesT_pure (r_fieldAddr (b := bs) (o := 0) (o' := 0) (U 3 rfl) Try.underlying77 rfl siz3 rfl) rfl
  refine qD (fun S s' w' hi hN X U V H => ?_) ?_
  ·replace X := X.mono (M' := none1) (fun y _ h => by
     obtain ⟨j, hj, h⟩ := h
     exact h.elim)
   have e16 : s' 16 = (.pointer (some ⟨bs, 0, none⟩)) := (H 7 rfl).2 16 (fun _ _ v _ => v = (.pointer (some ⟨bs, 0, none⟩))) rfl (by rw [hFs1]; rfl)
   exact DoesT_pure (r_load (v := (I6 (a : Int))) e16 flat3 (((X0.trans X).keep Bs).cell rfl)) rfl
  refine qD (fun S s' w' hi hN X U V H => ?_) ?_
  ·replace X := X.mono (M' := none1) (fun y _ h => by
     obtain ⟨j, hj, h⟩ := h
     exact h.elim)
   have e15 : s' 15 = (.slice (some ⟨cb, 0, none⟩) n cc) := (H 6 rfl).2 15 (fun _ _ v _ => v = (.slice (some ⟨cb, 0, none⟩) n cc)) rfl (by rw [hFs1]; rfl)
   have e17 : s' 17 = (.int .i64 ((a : Nat) : Int)) := (H 8 rfl).2 17 (fun _ _ v _ => v = (.int .i64 ((a : Nat) : Int))) rfl (by rw [hFs1]; rfl)
   exact DoesT_pure (r_indexSlice (b := cb) (o := 0) (len := n) (cap := cc) (i := a) (o' := 0 + a * 8) e15 e17 rfl Try.underlying81 siz87 (by omega) (by omega)) rfl
  refine qD (fun S s' w' hi hN X U V H => ?_) ?_
  ·replace X := X.mono (M' := none1) (fun y _ h => by
     obtain ⟨j, hj, h⟩ := h
     exact h.elim)
   have e18 : s' 18 = (.pointer (some ⟨cb, 0 + a * 8, none⟩)) := (H 9 rfl).2 18 (fun _ _ v _ => v = (.pointer (some ⟨cb, 0 + a * 8, none⟩))) rfl (by rw [hFs1]; rfl)
   exact DoesT_pure (r_loadAgg (vs := [(I6 1), (I6 (x : Int)), (I6 (y : Int)), (I6 0), (I6 0), (.slice none 0 0), (.pointer none), (.bool false)]) e18 agg87 siz87 rfl (hcl.ext (Ext.trans (Ns.ext) (Ext.trans X0 X)))) rfl
  refine DagStepsS.cons (StabS.chg (U := none1) (fun v w w' x h => alF_ext _ _ _ v w w' x h) (fun p y hp hw h => by
     exact h.elim)) (LocS.const) (fun S s' w' hi hN X U V H => Or.inl ⟨Guarded_none rfl, ?_⟩) ?_
  ·replace X := X.mono (M' := none1) (fun y _ h => by
     obtain ⟨j, hj, h⟩ := h
     exact h.elim)
   exact DoesT_alloc (c := #[(I6 0), (I6 0), (I6 0), (I6 0), (I6 0), (.slice none 0 0), (.pointer none), (.bool false)]) zer87 rfl (by have := X0.size; have := X.size; omega)
  refine DagStepsS.tail ?_
  exact DagStepsS.nil
 ·intro s' wd1 w1 X0 X1 U H
  replace X1 := X1.mono (M' := none1) (fun y _ h => by
    obtain ⟨j, hj, h⟩ := h
    exact h.elim)
  have e19 : s' 19 = (.agg #[(.int .i64 1), (.int .i64 ((x : Nat) : Int)), (.int .i64 ((y : Nat) : Int)), (.int .i64 0), (.int .i64 0), (.slice none 0 0), (.pointer none), (.bool false)]) := H 10 rfl 19 (fun _ _ v _ => v = (.agg #[(.int .i64 1), (.int .i64 ((x : Nat) : Int)), (.int .i64 ((y : Nat) : Int)), (.int .i64 0), (.int .i64 0), (.slice none 0 0), (.pointer none), (.bool false)])) rfl (by rw [hFs1]; rfl)
  obtain ⟨b5, e5, B5, g5⟩ := (show ((fun _ _ => alF 87 #[(.int .i64 0), (.int .i64 0), (.int .i64 0), (.int .i64 0), (.int .i64 0), (.slice none 0 0), (.pointer none), (.bool false)] ws.heap.size) : FctS) (allS [true, true, true, true, true, true, true, true, true, true, true, true, false]) s' (s' 5) w1 from H 11 rfl 5 (fun _ _ => alF 87 #[(.int .i64 0), (.int .i64 0), (.int .i64 0), (.int .i64 0), (.int .i64 0), (.slice none 0 0), (.pointer none), (.bool false)] ws.heap.size) rfl (by rw [hFs1]; rfl))
  obtain ⟨j1, rfl⟩ := Fits.out (σ := s') (l := [(0, (.pointer (some ⟨rb, 0, none⟩))), (3, (.pointer (some ⟨bs, 0, none⟩))), (19, (.agg #[(.int .i64 1), (.int .i64 ((x : Nat) : Int)), (.int .i64 ((y : Nat) : Int)), (.int .i64 0), (.int .i64 0), (.slice none 0 0), (.pointer none), (.bool false)])), (5, (.pointer (some ⟨b5, 0, none⟩)))]) ⟨U 0 rfl, U 3 rfl, e19, e5, trivial⟩
  clear U H
  replace hblk := (X0.trans X1).keep hblk
  replace hbeg := (X0.trans X1).keep hbeg
  replace hmap := (X0.trans X1).keepM hmap
  replace hPb := (X0.trans X1).keep hPb
  replace Bs := (X0.trans X1).keep Bs
  replace X1 := X0.trans X1
  replace E := E.ext X1
  replace E1 := E1.ext X1
  refine s_storeAgg (b := b5) (o := 0) (c' := #[(I6 1), (I6 (x : Int)), (I6 (y : Int)), (I6 0), (I6 0), (.slice none 0 0), (.pointer none), (.bool false)]) rfl rfl (by simp [Value.oneCell']) siz87 rfl B5 (by first | (simp; done) | exact Nat.le_of_ble_eq_true rfl) rfl ?_
  intro w2 S2
  replace hblk := S2.keep (by omega) hblk
  replace hbeg := S2.keep (by omega) hbeg
  replace hmap := S2.keepM (by omega) hmap
  replace hPb := S2.keep (by omega) hPb
  replace Bs := S2.keep (by omega) Bs
  replace E := S2.step E (by first | exact Or.inl (by omega) | exact Or.inr rfl | exact Or.inr (by assumption) | exact Or.inr (by simp) | exact Or.inr (by omega) | exact Or.inr (by dsimp only; omega))
  replace E1 := S2.step E1 (Or.inl (by omega))
  replace B5 := S2.blk
  refine WpL_nil (thn_normal (Wp_seq_region ?_))
  refine qV (r_loadAgg (vs := [(I6 (a : Int)), (I6 (p : Int)), (I6 (d : Int))]) rfl agg77 siz77 rfl (Bs.cells rfl)) ?_
  refine s_allocStore (v := (.agg #[(I6 (a : Int)), (I6 (p : Int)), (I6 (d : Int))])) (c := #[(I6 (a : Int)), (I6 (p : Int)), (I6 (d : Int))]) (n := 3) (by decide) zer77 rfl siz77 rfl rfl rfl (by simp [Value.oneCell']) ?_
  intro bn wn Nn
  have Fn := Nn.ge E
  have Fn_E1 := Nn.ge E1
  have On_rb := Nn.lt hblk
  have On_bb := Nn.lt hbeg
  have On_mb := Nn.ltM hmap
  have On_pb := Nn.lt hPb
  have On_bs := Nn.lt Bs
  have On_b5 := Nn.lt B5
  replace hblk := Nn.keep hblk
  replace hbeg := Nn.keep hbeg
  replace hmap := Nn.keepM hmap
  replace hPb := Nn.keep hPb
  replace Bs := Nn.keep Bs
  replace B5 := Nn.keep B5
  replace E := E.ext Nn.ext
  have Bn := Nn.blk
  replace E1 := E1.ext Nn.ext
  refine WpL_nil (Wp_seq_region ?_)
  refine qF bn 0 0 rfl Try.underlying77 rfl siz3 rfl ?_
  refine qV (r_load (v := (I6 (a : Int))) rfl flat3 (Bn.cell rfl)) ?_
  refine qV (r_add (k := .i64) (a := (a : Int)) (b := 1) (c := ((a + 1 : Nat) : Int)) rfl rfl ((wI64 (by omega)).trans (by omega))) ?_
  refine qF bn 0 0 rfl Try.underlying77 rfl siz3 rfl ?_
  refine s_store (b := bn) (o := 0) (c' := #[(I6 ((a + 1 : Nat) : Int)), (I6 (p : Int)), (I6 (d : Int))]) (v := (I6 ((a + 1 : Nat) : Int))) rfl rfl rfl siz3 Bn (by simp) rfl ?_
  intro w3 S3
  replace hblk := S3.keep (by omega) hblk
  replace hbeg := S3.keep (by omega) hbeg
  replace hmap := S3.keepM (by omega) hmap
  replace hPb := S3.keep (by omega) hPb
  replace Bs := S3.keep (by omega) Bs
  replace B5 := S3.keep (by omega) B5
  replace E := S3.step E (by first | exact Or.inl (by omega) | exact Or.inr rfl | exact Or.inr (by assumption) | exact Or.inr (by simp) | exact Or.inr (by omega) | exact Or.inr (by dsimp only; omega))
  replace E1 := S3.step E1 (Or.inl (by omega))
  replace Bn := S3.blk
  refine WpL_nil (Wp_seq (Wp_seq_region ?_))
  refine qF b5 0 0 rfl Try.underlying87 rfl siz3 rfl ?_
  refine qV (r_load (v := (I6 1)) rfl flat3 (B5.cell rfl)) ?_
  refine WpL_nil (Wp_block (Wp_seq_region ?_))
  refine qV (r_eql (k := .i64) (a := 1) (b := 0) rfl rfl) ?_
  refine qA (.bool false) rfl ?_
  refine WpL_nil ?_
  refine Wp_cond_false rfl ?_
  refine Wp_seq_region ?_
  refine qV (r_eql (k := .i64) (a := 1) (b := 1) rfl rfl) ?_
  refine qA (.bool true) rfl ?_
  refine WpL_nil ?_
  refine Wp_cond_true rfl ?_
  refine Wp_seq_region ?_
  refine qF b5 0 1 rfl Try.underlying87 rfl siz3 rfl ?_
  refine qV (r_load (v := (I6 (x : Int))) rfl flat3 (B5.cell rfl)) ?_
  refine qF bn 0 0 rfl Try.underlying77 rfl siz3 rfl ?_
  refine s_store (b := bn) (o := 0) (c' := #[(I6 (x : Int)), (I6 (p : Int)), (I6 (d : Int))]) (v := (I6 (x : Int))) rfl rfl rfl siz3 Bn (by simp) rfl ?_
  intro w4 S4
  replace hblk := S4.keep (by omega) hblk
  replace hbeg := S4.keep (by omega) hbeg
  replace hmap := S4.keepM (by omega) hmap
  replace hPb := S4.keep (by omega) hPb
  replace Bs := S4.keep (by omega) Bs
  replace B5 := S4.keep (by omega) B5
  replace E := S4.step E (by first | exact Or.inl (by omega) | exact Or.inr rfl | exact Or.inr (by assumption) | exact Or.inr (by simp) | exact Or.inr (by omega) | exact Or.inr (by dsimp only; omega))
  replace E1 := S4.step E1 (Or.inl (by omega))
  replace Bn := S4.blk
  refine WpL_nil (Wp_seq (Wp_seq_region ?_))
  refine qM (P6 rb 0) rfl ?_
  refine qV (r_loadAgg (vs := [(I6 (x : Int)), (I6 (p : Int)), (I6 (d : Int))]) rfl agg77 siz77 rfl (Bn.cells rfl)) ?_
  refine WpL_enter rfl rfl (by decide) (r_callF (vs := [(P6 rb 0), (.agg #[(I6 (x : Int)), (I6 (p : Int)), (I6 (d : Int))])]) Try.func40 nm40 bd40 rfl) (ih1 r rfl F _ rb pb mb bb _ _ _ es gf gt (hC.mod E) ⟨hblk, hmap, hbeg, hgl⟩ hFl hp) ?_
  rintro _ w19 ⟨⟨rfl, hO⟩, C19⟩
  replace hPb := C19.keep (fun h => by rcases h with h | h | h <;> omega) hPb
  replace Bs := C19.keep (fun h => by rcases h with h | h | h <;> omega) Bs
  replace B5 := C19.keep (fun h => by rcases h with h | h | h <;> omega) B5
  replace Bn := C19.keep (fun h => by rcases h with h | h | h <;> omega) Bn
  replace E := E.step C19 (fun _ _ h => h)
  refine WpL_nil ?_
  have hc5 : ((none : Option (Grp × Nat)).isSome) = false := rfl
  refine Wp_cond_false (congrArg Value.bool hc5) ?_
  obtain ⟨es', B', gt', G', hA', hl', hF', hn', _⟩ := hO
  obtain ⟨rfl, rfl, rfl⟩ := hn' rfl
  refine Wp_skip (thn_normal (Wp_region ?_))
  refine qF b5 0 2 rfl Try.underlying87 rfl siz3 rfl ?_
  refine qV (r_load (v := (I6 (y : Int))) rfl flat3 (B5.cell rfl)) ?_
  refine qF bn 0 0 rfl Try.underlying77 rfl siz3 rfl ?_
  refine s_store (b := bn) (o := 0) (c' := #[(I6 (y : Int)), (I6 (p : Int)), (I6 (d : Int))]) (v := (I6 (y : Int))) rfl rfl rfl siz3 Bn (by simp) rfl ?_
  intro w6 S6
  replace hA' := hA'.chg S6.chg (fun h => by have h' : rb = bn := h; omega) (fun h => by have h' : mb = bn := h; omega) (fun h => by have h' : bb = bn := h; omega)
  replace hPb := S6.keep (by omega) hPb
  replace Bs := S6.keep (by omega) Bs
  replace B5 := S6.keep (by omega) B5
  replace E := S6.step E (by first | exact Or.inl (by omega) | exact Or.inr rfl | exact Or.inr (by assumption) | exact Or.inr (by simp) | exact Or.inr (by omega) | exact Or.inr (by dsimp only; omega))
  replace Bn := S6.blk
  refine WpL_nil (inB_normal (thn_normal (Wp_seq_region ?_)))
  refine qM (P6 rb 0) rfl ?_
  refine qV (r_loadAgg (vs := [(I6 (y : Int)), (I6 (p : Int)), (I6 (d : Int))]) rfl agg77 siz77 rfl (Bn.cells rfl)) ?_
  refine WpL_enter rfl rfl (by decide) (r_callF (vs := [(P6 rb 0), (.agg #[(I6 (y : Int)), (I6 (p : Int)), (I6 (d : Int))])]) Try.func40 nm40 bd40 rfl) (ih r rfl F _ rb pb mb bb _ _ _ es' gf gt' (hC.mod E) hA' hF' hp) ?_
  rintro _ w29 ⟨⟨rfl, hO⟩, C29⟩
  replace hPb := C29.keep (fun h => by rcases h with h | h | h <;> omega) hPb
  replace Bs := C29.keep (fun h => by rcases h with h | h | h <;> omega) Bs
  replace B5 := C29.keep (fun h => by rcases h with h | h | h <;> omega) B5
  replace Bn := C29.keep (fun h => by rcases h with h | h | h <;> omega) Bn
  replace E := E.step C29 (fun _ _ h => h)
  refine qA (.bool o.isSome) rfl ?_
  refine WpL_nil (Wp_ret ?_)
  refine fin_tmp Try.results60 (v := (.bool o.isSome)) rfl ?_
  exact ⟨⟨rfl, hO⟩, E⟩
set_option maxHeartbeats 4000000 in
theorem try_opn {text : List Int} {code : List Ins} {a p d t : Nat} {B : List Int} {G : Grp} {o : Option (Grp × Nat)} (hc : code[a]? = some (.opn t)) (ht : t < B.length) (ih : RunC fRun text code (a + 1) p d (B.set t p) G o) : RunC fTry text code a p d B G o := by
 intro r hcode F w0 rb pb mb bb ta tn tc es gf gt hC hA hFl hp
 subst hcode
 have hblk := hA.blk
 have hmap := hA.map
 have hbeg := hA.beg
 have hrl := hblk.lt
 have hml := hmap.lt
 have hbl := hbeg.lt
 have hd1 := hC.d1
 have hd2 := hC.d2
 have hd3 := hC.d3
 have hgl := hA.gl
 have htl := hC.tl
 obtain ⟨cb, cc, qb, n, row, hPb, hcl, hrow, hsub, han, hn1, hFpb⟩ := hC.prog.row hc
 have hpn := (hC.fl pb hFpb).2
 simp only [RowF] at hrow
 subst hrow
 obtain ⟨old, hold⟩ := get_of_lt ht
 have hBl : (B.set t (p : Int)).length = B.length := by simp
 have hback : (B.set t (p : Int)).set t old = B := by
  rw [List.set_set]
  apply List.ext_getElem?
  intro i
  rw [List.getElem?_set]
  by_cases hi : t = i
  ·subst hi; rw [if_pos rfl, if_pos ht, hold]
  ·rw [if_neg hi]
 refine Ret_of Try.func60 rfl Try.ntmps60 (Nat.le_of_ble_eq_true rfl) ?_
 have E : Chg (RMod rb mb bb) w0 w0 := Chg.refl _ _
 have E1 : Chg none1 w0 w0 := Chg.refl _ _
 refine Wp_seq_region ?_
 refine s_box (v := (.agg #[(I6 (a : Int)), (I6 (p : Int)), (I6 (d : Int))])) (c := #[(I6 (a : Int)), (I6 (p : Int)), (I6 (d : Int))]) (by decide) rfl rfl ?_
 intro bs ws Ns
 have Fs := Ns.ge E
 have Fs_E1 := Ns.ge E1
 have Os_rb := Ns.lt hblk
 have Os_bb := Ns.lt hbeg
 have Os_mb := Ns.ltM hmap
 have Os_pb := Ns.lt hPb
 replace hblk := Ns.keep hblk
 replace hbeg := Ns.keep hbeg
 replace hmap := Ns.keepM hmap
 replace hPb := Ns.keep hPb
 replace E := E.ext Ns.ext
 have Bs := Ns.blk
 replace E1 := E1.ext Ns.ext
 refine qA (.bool false) rfl ?_
 refine WpL_nil ?_
 obtain ⟨z0, hz0⟩ : ∃ z0, z0 = (ws).heap.size := ⟨_, rfl⟩
 have hz1 : w0.heap.size ≤ z0 := by rw [hz0]; exact E.size
 have hz2 : bs < z0 := by rw [hz0]; exact Bs.lt
 have hz_1 : w0.heap.size ≤ ws.heap.size := E.size
 have lz_1_rb : rb < ws.heap.size := hblk.lt
 have lz_1_bb : bb < ws.heap.size := hbeg.lt
 have lz_1_mb : mb < ws.heap.size := hmap.lt
 have lz_1_pb : pb < ws.heap.size := hPb.lt
 have lz_1_bs : bs < ws.heap.size := Bs.lt
 refine Wp_seq ?_
 obtain ⟨Fs1, hFs1⟩ : ∃ Fs : List FctS, Fs = [(fun _ _ v _ => v = (P6 rb 0)), (fun _ _ v _ => v = (P6 rb 0)), (fun _ _ v _ => v = (P6 rb 0)), (fun _ _ v _ => v = (P6 pb 0)), (fun _ _ v _ => v = (P6 pb 0)), (fun _ _ v _ => v = (P6 pb 0)), (fun _ _ v _ => v = (.slice (some ⟨cb, 0, none⟩) n cc)), (fun _ _ v _ => v = (P6 bs 0)), (fun _ _ v _ => v = (I6 (a : Int))), (fun _ _ v _ => v = (.pointer (some ⟨cb, 0 + a * 8, none⟩))), (fun _ _ v _ => v = (.agg #[(I6 3), (I6 0), (I6 0), (I6 0), (I6 (t : Int)), (.slice none 0 0), (.pointer none), (.bool false)])), (fun _ _ => alF 87 #[(I6 0), (I6 0), (I6 0), (I6 0), (I6 0), (.slice none 0 0), (.pointer none), (.bool false)] ws.heap.size), (fun _ _ v _ => v = undef)] := ⟨_, rfl⟩
 refine Wp_dagS (MsL []) [true, true, true, true, true, true, true, true, true, true, true, true, false] [12] [9, 10, 11, 12, 13, 14, 15, 16, 17, 18, 19, 5, 196] [[], [0], [1], [2], [3], [4], [5], [], [7], [6, 8], [9], [], []] [[], [0], [1, 0], [2, 1, 0], [3, 2, 1, 0], [4, 3, 2, 1, 0], [5, 4, 3, 2, 1, 0], [], [7], [6, 5, 4, 3, 2, 1, 0, 8, 7], [9, 6, 5, 4, 3, 2, 1, 0, 8, 7], [], []] Fs1 hFs1 (by kernel_rfl) mixed (by kernel_rfl) (by kernel_rfl) (by kernel_rfl) (by kernel_rfl) ?_ ?_
 ·intro wd X0
  refine qD (fun S s' w' hi hN X U V H => ?_) ?_
  ·replace X := X.mono (M' := none1) (fun y _ h => by
     obtain ⟨j, hj, h⟩ := h
     exact h.elim)
   exact DoesT_pure (r_move (v := (P6 rb 0)) (U 0 rfl)) rfl
  refine qD (fun S s' w' hi hN X U V H => ?_) ?_
  ·replace X := X.mono (M' := none1) (fun y _ h => by
     obtain ⟨j, hj, h⟩ := h
     exact h.elim)
   have e9 : s' 9 = (.pointer (some ⟨rb, 0, none⟩)) := (H 0 rfl).2 9 (fun _ _ v _ => v = (.pointer (some ⟨rb, 0, none⟩))) rfl (by rw [hFs1]; rfl)
   exact DoesT_pure (r_nilCheck (a := ⟨rb, 0, none⟩) e9) rfl
  refine qD (fun S s' w' hi hN X U V H => ?_) ?_
  ·replace X := X.mono (M' := none1) (fun y _ h => by
     obtain ⟨j, hj, h⟩ := h
     exact h.elim)
   have e10 : s' 10 = (.pointer (some ⟨rb, 0, none⟩)) := (H 1 rfl).2 10 (fun _ _ v _ => v = (.pointer (some ⟨rb, 0, none⟩))) rfl (by rw [hFs1]; rfl)
   exact DoesT_pure (r_fieldAddr (b := rb) (o := 0) (o' := 0) e10 Try.underlying80 rfl siz56 rfl) rfl
  refine qD (fun S s' w' hi hN X U V H => ?_) ?_
  ·replace X := X.mono (M' := none1) (fun y _ h => by
     obtain ⟨j, hj, h⟩ := h
     exact h.elim)
   have e11 : s' 11 = (.pointer (some ⟨rb, 0, none⟩)) := (H 2 rfl).2 11 (fun _ _ v _ => v = (.pointer (some ⟨rb, 0, none⟩))) rfl (by rw [hFs1]; rfl)
   exact DoesT_pure (r_load (v := (P6 pb 0)) e11 flat56 (((Ext.trans X0 X).keep hblk).cell rfl)) rfl
  refine qD (fun S s' w' hi hN X U V H => ?_) ?_
  ·replace X := X.mono (M' := none1) (fun y _ h => by
     obtain ⟨j, hj, h⟩ := h
     exact h.elim)
   have e12 : s' 12 = (.pointer (some ⟨pb, 0, none⟩)) := (H 3 rfl).2 12 (fun _ _ v _ => v = (.pointer (some ⟨pb, 0, none⟩))) rfl (by rw [hFs1]; rfl)
   exact DoesT_pure (r_nilCheck (a := ⟨pb, 0, none⟩) e12) rfl
  refine qD (fun S s' w' hi hN X U V H => ?_) ?_
  ·replace X := X.mono (M' := none1) (fun y _ h => by
     obtain ⟨j, hj, h⟩ := h
     exact h.elim)
   have e13 : s' 13 = (.pointer (some ⟨pb, 0, none⟩)) := (H 4 rfl).2 13 (fun _ _ v _ => v = (.pointer (some ⟨pb, 0, none⟩))) rfl (by rw [hFs1]; rfl)
   exact DoesT_pure (r_fieldAddr (b := pb) (o := 0) (o' := 0) e13 Try.underlying83 rfl siz81 rfl) rfl
  refine qD (fun S s' w' hi hN X U V H => ?_) ?_
  ·replace X := X.mono (M' := none1) (fun y _ h => by
     obtain ⟨j, hj, h⟩ := h
     exact h.elim)
   have e14 : s' 14 = (.pointer (some ⟨pb, 0, none⟩)) := (H 5 rfl).2 14 (fun _ _ v _ => v = (.pointer (some ⟨pb, 0, none⟩))) rfl (by rw [hFs1]; rfl)
   exact DoesT_pure (r_load (v := (.slice (some ⟨cb, 0, none⟩) n cc)) e14 flat81 (((X0.trans X).keep hPb).cell rfl)) rfl
  refine qD (fun S s' w' hi hN X U V H => ?_) ?_
  ·replace X := X.mono (M' := none1) (fun y _ h => by
     obtain ⟨j, hj, h⟩ := h
     exact h.elim)
   exact DoesT_pure (r_fieldAddr (b := bs) (o := 0) (o' := 0) (U 3 rfl) Try.underlying77 rfl siz3 rfl) rfl
  refine qD (fun S s' w' hi hN X U V H => ?_) ?_
  ·replace X := X.mono (M' := none1) (fun y _ h => by
     obtain ⟨j, hj, h⟩ := h
     exact h.elim)
   have e16 : s' 16 = (.pointer (some ⟨bs, 0, none⟩)) := (H 7 rfl).2 16 (fun _ _ v _ => v = (.pointer (some ⟨bs, 0, none⟩))) rfl (by rw [hFs1]; rfl)
   exact DoesT_pure (r_load (v := (I6 (a : Int))) e16 flat3 (((X0.trans X).keep Bs).cell rfl)) rfl
  refine qD (fun S s' w' hi hN X U V H => ?_) ?_
  ·replace X := X.mono (M' := none1) (fun y _ h => by
     obtain ⟨j, hj, h⟩ := h
     exact h.elim)
   have e15 : s' 15 = (.slice (some ⟨cb, 0, none⟩) n cc) := (H 6 rfl).2 15 (fun _ _ v _ => v = (.slice (some ⟨cb, 0, none⟩) n cc)) rfl (by rw [hFs1]; rfl)
   have e17 : s' 17 = (.int .i64 ((a : Nat) : Int)) := (H 8 rfl).2 17 (fun _ _ v _ => v = (.int .i64 ((a : Nat) : Int))) rfl (by rw [hFs1]; rfl)
   exact DoesT_pure (r_indexSlice (b := cb) (o := 0) (len := n) (cap := cc) (i := a) (o' := 0 + a * 8) e15 e17 rfl Try.underlying81 siz87 (by omega) (by omega)) rfl
  refine qD (fun S s' w' hi hN X U V H => ?_) ?_
  ·replace X := X.mono (M' := none1) (fun y _ h => by
     obtain ⟨j, hj, h⟩ := h
     exact h.elim)
   have e18 : s' 18 = (.pointer (some ⟨cb, 0 + a * 8, none⟩)) := (H 9 rfl).2 18 (fun _ _ v _ => v = (.pointer (some ⟨cb, 0 + a * 8, none⟩))) rfl (by rw [hFs1]; rfl)
   exact DoesT_pure (r_loadAgg (vs := [(I6 3), (I6 0), (I6 0), (I6 0), (I6 (t : Int)), (.slice none 0 0), (.pointer none), (.bool false)]) e18 agg87 siz87 rfl (hcl.ext (Ext.trans (Ns.ext) (Ext.trans X0 X)))) rfl
  refine DagStepsS.cons (StabS.chg (U := none1) (fun v w w' x h => alF_ext _ _ _ v w w' x h) (fun p y hp hw h => by
     exact h.elim)) (LocS.const) (fun S s' w' hi hN X U V H => Or.inl ⟨Guarded_none rfl, ?_⟩) ?_
  ·replace X := X.mono (M' := none1) (fun y _ h => by
     obtain ⟨j, hj, h⟩ := h
     exact h.elim)
   exact DoesT_alloc (c := #[(I6 0), (I6 0), (I6 0), (I6 0), (I6 0), (.slice none 0 0), (.pointer none), (.bool false)]) zer87 rfl (by have := X0.size; have := X.size; omega)
  refine DagStepsS.tail ?_
  exact DagStepsS.nil
 ·intro s' wd1 w1 X0 X1 U H
  replace X1 := X1.mono (M' := none1) (fun y _ h => by
    obtain ⟨j, hj, h⟩ := h
    exact h.elim)
  have e19 : s' 19 = (.agg #[(.int .i64 3), (.int .i64 0), (.int .i64 0), (.int .i64 0), (.int .i64 ((t : Nat) : Int)), (.slice none 0 0), (.pointer none), (.bool false)]) := H 10 rfl 19 (fun _ _ v _ => v = (.agg #[(.int .i64 3), (.int .i64 0), (.int .i64 0), (.int .i64 0), (.int .i64 ((t : Nat) : Int)), (.slice none 0 0), (.pointer none), (.bool false)])) rfl (by rw [hFs1]; rfl)
  obtain ⟨b5, e5, B5, g5⟩ := (show ((fun _ _ => alF 87 #[(.int .i64 0), (.int .i64 0), (.int .i64 0), (.int .i64 0), (.int .i64 0), (.slice none 0 0), (.pointer none), (.bool false)] ws.heap.size) : FctS) (allS [true, true, true, true, true, true, true, true, true, true, true, true, false]) s' (s' 5) w1 from H 11 rfl 5 (fun _ _ => alF 87 #[(.int .i64 0), (.int .i64 0), (.int .i64 0), (.int .i64 0), (.int .i64 0), (.slice none 0 0), (.pointer none), (.bool false)] ws.heap.size) rfl (by rw [hFs1]; rfl))
  obtain ⟨j1, rfl⟩ := Fits.out (σ := s') (l := [(0, (.pointer (some ⟨rb, 0, none⟩))), (3, (.pointer (some ⟨bs, 0, none⟩))), (19, (.agg #[(.int .i64 3), (.int .i64 0), (.int .i64 0), (.int .i64 0), (.int .i64 ((t : Nat) : Int)), (.slice none 0 0), (.pointer none), (.bool false)])), (5, (.pointer (some ⟨b5, 0, none⟩)))]) ⟨U 0 rfl, U 3 rfl, e19, e5, trivial⟩
  clear U H
  replace hblk := (X0.trans X1).keep hblk
  replace hbeg := (X0.trans X1).keep hbeg
  replace hmap := (X0.trans X1).keepM hmap
  replace hPb := (X0.trans X1).keep hPb
  replace Bs := (X0.trans X1).keep Bs
  replace X1 := X0.trans X1
  replace E := E.ext X1
  replace E1 := E1.ext X1
  refine s_storeAgg (b := b5) (o := 0) (c' := #[(I6 3), (I6 0), (I6 0), (I6 0), (I6 (t : Int)), (.slice none 0 0), (.pointer none), (.bool false)]) rfl rfl (by simp [Value.oneCell']) siz87 rfl B5 (by first | (simp; done) | exact Nat.le_of_ble_eq_true rfl) rfl ?_
  intro w2 S2
  replace hblk := S2.keep (by omega) hblk
  replace hbeg := S2.keep (by omega) hbeg
  replace hmap := S2.keepM (by omega) hmap
  replace hPb := S2.keep (by omega) hPb
  replace Bs := S2.keep (by omega) Bs
  replace E := S2.step E (by first | exact Or.inl (by omega) | exact Or.inr rfl | exact Or.inr (by assumption) | exact Or.inr (by simp) | exact Or.inr (by omega) | exact Or.inr (by dsimp only; omega))
  replace E1 := S2.step E1 (Or.inl (by omega))
  replace B5 := S2.blk
  refine WpL_nil (thn_normal (Wp_seq_region ?_))
  refine qV (r_loadAgg (vs := [(I6 (a : Int)), (I6 (p : Int)), (I6 (d : Int))]) rfl agg77 siz77 rfl (Bs.cells rfl)) ?_
  refine s_allocStore (v := (.agg #[(I6 (a : Int)), (I6 (p : Int)), (I6 (d : Int))])) (c := #[(I6 (a : Int)), (I6 (p : Int)), (I6 (d : Int))]) (n := 3) (by decide) zer77 rfl siz77 rfl rfl rfl (by simp [Value.oneCell']) ?_
  intro bn wn Nn
  have Fn := Nn.ge E
  have Fn_E1 := Nn.ge E1
  have On_rb := Nn.lt hblk
  have On_bb := Nn.lt hbeg
  have On_mb := Nn.ltM hmap
  have On_pb := Nn.lt hPb
  have On_bs := Nn.lt Bs
  have On_b5 := Nn.lt B5
  replace hblk := Nn.keep hblk
  replace hbeg := Nn.keep hbeg
  replace hmap := Nn.keepM hmap
  replace hPb := Nn.keep hPb
  replace Bs := Nn.keep Bs
  replace B5 := Nn.keep B5
  replace E := E.ext Nn.ext
  have Bn := Nn.blk
  replace E1 := E1.ext Nn.ext
  refine WpL_nil (Wp_seq_region ?_)
  refine qF bn 0 0 rfl Try.underlying77 rfl siz3 rfl ?_
  refine qV (r_load (v := (I6 (a : Int))) rfl flat3 (Bn.cell rfl)) ?_
  refine qV (r_add (k := .i64) (a := (a : Int)) (b := 1) (c := ((a + 1 : Nat) : Int)) rfl rfl ((wI64 (by omega)).trans (by omega))) ?_
  refine qF bn 0 0 rfl Try.underlying77 rfl siz3 rfl ?_
  refine s_store (b := bn) (o := 0) (c' := #[(I6 ((a + 1 : Nat) : Int)), (I6 (p : Int)), (I6 (d : Int))]) (v := (I6 ((a + 1 : Nat) : Int))) rfl rfl rfl siz3 Bn (by simp) rfl ?_
  intro w3 S3
  replace hblk := S3.keep (by omega) hblk
  replace hbeg := S3.keep (by omega) hbeg
  replace hmap := S3.keepM (by omega) hmap
  replace hPb := S3.keep (by omega) hPb
  replace Bs := S3.keep (by omega) Bs
  replace B5 := S3.keep (by omega) B5
  replace E := S3.step E (by first | exact Or.inl (by omega) | exact Or.inr rfl | exact Or.inr (by assumption) | exact Or.inr (by simp) | exact Or.inr (by omega) | exact Or.inr (by dsimp only; omega))
  replace E1 := S3.step E1 (Or.inl (by omega))
  replace Bn := S3.blk
  refine WpL_nil (Wp_seq (Wp_seq_region ?_))
  refine qF b5 0 0 rfl Try.underlying87 rfl siz3 rfl ?_
  refine qV (r_load (v := (I6 3)) rfl flat3 (B5.cell rfl)) ?_
  refine WpL_nil (Wp_block (Wp_seq_region ?_))
  refine qV (r_eql (k := .i64) (a := 3) (b := 0) rfl rfl) ?_
  refine qA (.bool false) rfl ?_
  refine WpL_nil ?_
  refine Wp_cond_false rfl ?_
  refine Wp_seq_region ?_
  refine qV (r_eql (k := .i64) (a := 3) (b := 1) rfl rfl) ?_
  refine qA (.bool false) rfl ?_
  refine WpL_nil ?_
  refine Wp_cond_false rfl ?_
  refine Wp_seq_region ?_
  refine qV (r_eql (k := .i64) (a := 3) (b := 2) rfl rfl) ?_
  refine qA (.bool false) rfl ?_
  refine WpL_nil ?_
  refine Wp_cond_false rfl ?_
  refine Wp_seq_region ?_
  refine qV (r_eql (k := .i64) (a := 3) (b := 3) rfl rfl) ?_
  refine qA (.bool true) rfl ?_
  refine WpL_nil ?_
  refine Wp_cond_true rfl ?_
  have hz_4 : w0.heap.size ≤ w3.heap.size := E.size
  have lz_4_rb : rb < w3.heap.size := hblk.lt
  have lz_4_bb : bb < w3.heap.size := hbeg.lt
  have lz_4_mb : mb < w3.heap.size := hmap.lt
  have lz_4_pb : pb < w3.heap.size := hPb.lt
  have lz_4_bs : bs < w3.heap.size := Bs.lt
  have lz_4_b5 : b5 < w3.heap.size := B5.lt
  have lz_4_bn : bn < w3.heap.size := Bn.lt
  refine Wp_seq ?_
  obtain ⟨Fs4, hFs4⟩ : ∃ Fs : List FctS, Fs = [(fun _ _ v _ => v = (P6 rb 0)), (fun _ _ v _ => v = (P6 rb 0)), (fun _ _ v _ => v = (P6 rb 3)), (fun _ _ v _ => v = (.slice (some ⟨bb, 0, none⟩) B.length B.length)), (fun _ _ v _ => v = (P6 b5 4)), (fun _ _ v _ => v = (I6 (t : Int))), (fun _ _ v _ => v = (.pointer (some ⟨bb, 0 + t, none⟩))), (fun _ _ v _ => v = (I6 old)), (fun _ _ v _ => v = undef)] := ⟨_, rfl⟩
  refine Wp_dagS (MsL []) [true, true, true, true, true, true, true, true, false] [8] [74, 75, 76, 77, 78, 79, 80, 81, 192] [[], [0], [1], [2], [], [4], [3, 5], [6], []] [[], [0], [1, 0], [2, 1, 0], [], [4], [3, 2, 1, 0, 5, 4], [6, 3, 2, 1, 0, 5, 4], []] Fs4 hFs4 (by kernel_rfl) mixed (by kernel_rfl) (by kernel_rfl) (by kernel_rfl) (by kernel_rfl) ?_ ?_
  ·intro wd X0
   refine qD (fun S s' w' hi hN X U V H => ?_) ?_
   ·replace X := X.mono (M' := none1) (fun y _ h => by
      obtain ⟨j, hj, h⟩ := h
      exact h.elim)
    exact DoesT_pure (r_move (v := (P6 rb 0)) (U 0 rfl)) rfl
   refine qD (fun S s' w' hi hN X U V H => ?_) ?_
   ·replace X := X.mono (M' := none1) (fun y _ h => by
      obtain ⟨j, hj, h⟩ := h
      exact h.elim)
    have e74 : s' 74 = (.pointer (some ⟨rb, 0, none⟩)) := (H 0 rfl).2 74 (fun _ _ v _ => v = (.pointer (some ⟨rb, 0, none⟩))) rfl (by rw [hFs4]; rfl)
    exact DoesT_pure (r_nilCheck (a := ⟨rb, 0, none⟩) e74) rfl
   refine qD (fun S s' w' hi hN X U V H => ?_) ?_
   ·replace X := X.mono (M' := none1) (fun y _ h => by
      obtain ⟨j, hj, h⟩ := h
      exact h.elim)
    have e75 : s' 75 = (.pointer (some ⟨rb, 0, none⟩)) := (H 1 rfl).2 75 (fun _ _ v _ => v = (.pointer (some ⟨rb, 0, none⟩))) rfl (by rw [hFs4]; rfl)
    exact DoesT_pure (r_fieldAddr (b := rb) (o := 0) (o' := 3) e75 Try.underlying80 rfl siz22 rfl) rfl
   refine qD (fun S s' w' hi hN X U V H => ?_) ?_
   ·replace X := X.mono (M' := none1) (fun y _ h => by
      obtain ⟨j, hj, h⟩ := h
      exact h.elim)
    have e76 : s' 76 = (.pointer (some ⟨rb, 3, none⟩)) := (H 2 rfl).2 76 (fun _ _ v _ => v = (.pointer (some ⟨rb, 3, none⟩))) rfl (by rw [hFs4]; rfl)
    exact DoesT_pure (r_load (v := (.slice (some ⟨bb, 0, none⟩) B.length B.length)) e76 flat22 (((Ext.trans X0 X).keep hblk).cell rfl)) rfl
   refine qD (fun S s' w' hi hN X U V H => ?_) ?_
   ·replace X := X.mono (M' := none1) (fun y _ h => by
      obtain ⟨j, hj, h⟩ := h
      exact h.elim)
    exact DoesT_pure (r_fieldAddr (b := b5) (o := 0) (o' := 4) (U 5 rfl) Try.underlying87 rfl siz3 rfl) rfl
   refine qD (fun S s' w' hi hN X U V H => ?_) ?_
   ·replace X := X.mono (M' := none1) (fun y _ h => by
      obtain ⟨j, hj, h⟩ := h
      exact h.elim)
    have e78 : s' 78 = (.pointer (some ⟨b5, 4, none⟩)) := (H 4 rfl).2 78 (fun _ _ v _ => v = (.pointer (some ⟨b5, 4, none⟩))) rfl (by rw [hFs4]; rfl)
    exact DoesT_pure (r_load (v := (I6 (t : Int))) e78 flat3 (((X0.trans X).keep B5).cell rfl)) rfl
   refine qD (fun S s' w' hi hN X U V H => ?_) ?_
   ·replace X := X.mono (M' := none1) (fun y _ h => by
      obtain ⟨j, hj, h⟩ := h
      exact h.elim)
    have e77 : s' 77 = (.slice (some ⟨bb, 0, none⟩) B.length B.length) := (H 3 rfl).2 77 (fun _ _ v _ => v = (.slice (some ⟨bb, 0, none⟩) B.length B.length)) rfl (by rw [hFs4]; rfl)
    have e79 : s' 79 = (.int .i64 ((t : Nat) : Int)) := (H 5 rfl).2 79 (fun _ _ v _ => v = (.int .i64 ((t : Nat) : Int))) rfl (by rw [hFs4]; rfl)
    exact DoesT_pure (r_indexSlice (b := bb) (o := 0) (len := B.length) (cap := B.length) (i := t) (o' := 0 + t) e77 e79 rfl Try.underlying22 siz3 (by omega) (by omega)) rfl
   refine qD (fun S s' w' hi hN X U V H => ?_) ?_
   ·replace X := X.mono (M' := none1) (fun y _ h => by
      obtain ⟨j, hj, h⟩ := h
      exact h.elim)
    have e80 : s' 80 = (.pointer (some ⟨bb, 0 + t, none⟩)) := (H 6 rfl).2 80 (fun _ _ v _ => v = (.pointer (some ⟨bb, 0 + t, none⟩))) rfl (by rw [hFs4]; rfl)
    exact DoesT_pure (r_load (v := (I6 old)) e80 flat3 (((Ext.trans X0 X).keep hbeg).cell (by rw [Nat.zero_add, List.getElem?_toArray, List.getElem?_map, hold]; rfl))) rfl
   refine DagStepsS.tail ?_
   exact DagStepsS.nil
  ·intro s' wd4 w4 X0 X4 U H
   replace X4 := X4.mono (M' := none1) (fun y _ h => by
     obtain ⟨j, hj, h⟩ := h
     exact h.elim)
   have e81 : s' 81 = (.int .i64 old) := H 7 rfl 81 (fun _ _ v _ => v = (.int .i64 old)) rfl (by rw [hFs4]; rfl)
   obtain ⟨j4, rfl⟩ := Fits.out (σ := s') (l := [(0, (.pointer (some ⟨rb, 0, none⟩))), (3, (.pointer (some ⟨bs, 0, none⟩))), (5, (.pointer (some ⟨b5, 0, none⟩))), (6, (.pointer (some ⟨bn, 0, none⟩))), (81, (.int .i64 old))]) ⟨U 0 rfl, U 3 rfl, U 5 rfl, U 6 rfl, e81, trivial⟩
   clear U H
   replace hblk := (X0.trans X4).keep hblk
   replace hbeg := (X0.trans X4).keep hbeg
   replace hmap := (X0.trans X4).keepM hmap
   replace hPb := (X0.trans X4).keep hPb
   replace Bs := (X0.trans X4).keep Bs
   replace B5 := (X0.trans X4).keep B5
   replace Bn := (X0.trans X4).keep Bn
   replace X4 := X0.trans X4
   replace E := E.ext X4
   refine qA (I6 old) rfl ?_
   refine WpL_nil (thn_normal ?_)
   refine Wp_seq_draw 9 mixed (by kernel_rfl) ?_
   intro w5 X5 _
   replace hblk := X5.keep hblk
   replace hbeg := X5.keep hbeg
   replace hmap := X5.keepM hmap
   replace hPb := X5.keep hPb
   replace Bs := X5.keep Bs
   replace B5 := X5.keep B5
   replace Bn := X5.keep Bn
   replace E := E.ext X5
   refine qT (r_move (v := (P6 rb 0)) rfl) ?_
   refine qT (r_nilCheck (a := ⟨rb, 0, none⟩) rfl) ?_
   refine qT (r_fieldAddr (b := rb) (o := 0) (o' := 3) rfl Try.underlying80 rfl siz22 rfl) ?_
   refine qT (r_load (v := (.slice (some ⟨bb, 0, none⟩) B.length B.length)) rfl flat22 (hblk.cell rfl)) ?_
   refine qT (r_fieldAddr (b := b5) (o := 0) (o' := 4) rfl Try.underlying87 rfl siz3 rfl) ?_
   refine qT (r_load (v := (I6 (t : Int))) rfl flat3 (B5.cell rfl)) ?_
   refine qT (r_fieldAddr (b := bs) (o := 0) (o' := 1) rfl Try.underlying77 rfl siz3 rfl) ?_
   refine qT (r_load (v := (I6 (p : Int))) rfl flat3 (Bs.cell rfl)) ?_
   refine qT (r_indexSlice (b := bb) (o := 0) (len := B.length) (cap := B.length) (i := t) (o' := 0 + t) rfl rfl rfl Try.underlying22 siz3 (by omega) (by omega)) ?_
   refine WpT_zero ?_
   refine s_store (b := bb) (o := 0 + t) (c' := ((B.set t (p : Int)).map (Value.int .i64)).toArray) (v := (I6 (p : Int))) rfl rfl rfl siz3 hbeg (by simp; omega) (by rw [Nat.zero_add, List.setIfInBounds_toArray, List.map_set]) ?_
   intro w6 S6
   replace hblk := S6.keep (by omega) hblk
   replace hmap := S6.keepM (by omega) hmap
   replace hPb := S6.keep (by omega) hPb
   replace Bs := S6.keep (by omega) Bs
   replace B5 := S6.keep (by omega) B5
   replace Bn := S6.keep (by omega) Bn
   replace E := S6.step E (by first | exact Or.inl (by omega) | exact Or.inr rfl | exact Or.inr (by assumption) | exact Or.inr (by simp) | exact Or.inr (by omega) | exact Or.inr (by dsimp only; omega))
   replace hbeg := S6.blk
   refine WpL_nil (Wp_seq (Wp_seq_region ?_))
   refine qM (P6 rb 0) rfl ?_
   refine qV (r_loadAgg (vs := [(I6 ((a + 1 : Nat) : Int)), (I6 (p : Int)), (I6 (d : Int))]) rfl agg77 siz77 rfl (Bn.cells rfl)) ?_
   refine WpL_enter rfl rfl (by decide) (r_callF (vs := [(P6 rb 0), (.agg #[(I6 ((a + 1 : Nat) : Int)), (I6 (p : Int)), (I6 (d : Int))])]) Try.func40 nm40 bd40 rfl) (ih r rfl F _ rb pb mb bb _ _ _ es gf gt (hC.mod E) ⟨by rw [hBl]; exact hblk, hmap, hbeg, hgl⟩ (by rw [hBl]; exact hFl) hp) ?_
   rintro _ w19 ⟨⟨rfl, hO⟩, C19⟩
   replace hPb := C19.keep (fun h => by rcases h with h | h | h <;> omega) hPb
   replace Bs := C19.keep (fun h => by rcases h with h | h | h <;> omega) Bs
   replace B5 := C19.keep (fun h => by rcases h with h | h | h <;> omega) B5
   replace Bn := C19.keep (fun h => by rcases h with h | h | h <;> omega) Bn
   replace E := E.step C19 (fun _ _ h => h)
   obtain ⟨es', B', gt', G', hA', hl', hF', hn', hq'⟩ := hO
   rw [hBl] at hl' hF'
   refine WpL_nil ?_
   refine Wp_cond (b := o.isSome) rfl (fun hs => ?_) (fun hs => ?_)
   ·have khs := hs
    refine Wp_seq_region ?_
    refine qA (.bool true) rfl ?_
    refine WpL_nil (Wp_ret (thn_ret (inB_ret (thn_ret ?_))))
    refine fin_tmp Try.results60 (v := (.bool true)) rfl ?_
    exact ⟨⟨by rw [hs], es', B', gt', G', hA', hl', hF', (fun h => by rw [h] at hs; cases hs), hq'⟩, E⟩
   ·have khs := hs
    have hno : o = none := by simpa using hs
    obtain ⟨rfl, rfl, rfl⟩ := hn' hno
    have hblk := hA'.blk
    have hmap := hA'.map
    have hbeg := hA'.beg
    rw [hBl] at hblk
    refine Wp_skip (thn_normal ?_)
    refine Wp_seq_draw 8 mixed (by kernel_rfl) ?_
    intro w8 X8 _
    replace hPb := X8.keep hPb
    replace Bs := X8.keep Bs
    replace B5 := X8.keep B5
    replace Bn := X8.keep Bn
    replace hblk := X8.keep hblk
    replace hbeg := X8.keep hbeg
    replace hmap := X8.keepM hmap
    replace E := E.ext X8
    refine qT (r_move (v := (P6 rb 0)) rfl) ?_
    refine qT (r_nilCheck (a := ⟨rb, 0, none⟩) rfl) ?_
    refine qT (r_fieldAddr (b := rb) (o := 0) (o' := 3) rfl Try.underlying80 rfl siz22 rfl) ?_
    refine qT (r_load (v := (.slice (some ⟨bb, 0, none⟩) B.length B.length)) rfl flat22 (hblk.cell rfl)) ?_
    refine qT (r_fieldAddr (b := b5) (o := 0) (o' := 4) rfl Try.underlying87 rfl siz3 rfl) ?_
    refine qT (r_load (v := (I6 (t : Int))) rfl flat3 (B5.cell rfl)) ?_
    refine qT (r_move (v := (I6 old)) rfl) ?_
    refine qT (r_indexSlice (b := bb) (o := 0) (len := B.length) (cap := B.length) (i := t) (o' := 0 + t) rfl rfl rfl Try.underlying22 siz3 (by omega) (by omega)) ?_
    refine WpT_zero ?_
    refine s_store (b := bb) (o := 0 + t) (c' := (B.map (Value.int .i64)).toArray) (v := (I6 old)) rfl rfl rfl siz3 hbeg (by simp; omega) (by rw [Nat.zero_add, List.setIfInBounds_toArray, ← List.map_set, hback]) ?_
    intro w9 S9
    replace hPb := S9.keep (by omega) hPb
    replace Bs := S9.keep (by omega) Bs
    replace B5 := S9.keep (by omega) B5
    replace Bn := S9.keep (by omega) Bn
    replace hblk := S9.keep (by omega) hblk
    replace hmap := S9.keepM (by omega) hmap
    replace E := S9.step E (by first | exact Or.inl (by omega) | exact Or.inr rfl | exact Or.inr (by assumption) | exact Or.inr (by simp) | exact Or.inr (by omega) | exact Or.inr (by dsimp only; omega))
    replace hbeg := S9.blk
    refine WpL_nil (Wp_seq_region ?_)
    refine qA (.bool false) rfl ?_
    refine WpL_nil (Wp_ret (inB_ret (thn_ret ?_)))
    refine fin_tmp Try.results60 (v := (.bool false)) rfl ?_
    exact ⟨⟨by rw [hno]; rfl, es', B, gt', G', ⟨hblk, hmap, hbeg, hA'.gl⟩, rfl, hF', fun _ => ⟨rfl, rfl, rfl⟩, fun q hq => by rw [hno] at hq; cases hq⟩, E⟩
theorem runV_len (pb mb bb : Nat) (ta : Option Addr) (tn tc n : Nat) (gf gt : Int) (G : Grp) : (runV pb mb bb ta tn tc n gf gt G).length = 6 + G.length * 2 := by
 simp [runV, grpV_len]; omega
theorem runV_cells {w : World} {rb pb mb bb : Nat} {ta : Option Addr} {tn tc n : Nat} {gf gt : Int} {G : Grp} {T i : Nat} {q : Int × Int} (h : Blk w rb (runV pb mb bb ta tn tc n gf gt G).toArray T) (hq : G[i]? = some q) : CellsAt w rb (6 + i * 2) [.int .i64 q.1, .int .i64 q.2] := by
  obtain ⟨h1, h2⟩ := grpV_get G i q hq
  intro j u hu
  match j, hu with
  | 0, hu =>
    simp at hu; subst hu
    refine h.cell ?_
    rw [List.getElem?_toArray]
    unfold runV
    rw [List.getElem?_append_right (by simp), ← h1]
    congr 1
    simp
  | 1, hu =>
    simp at hu; subst hu
    refine h.cell ?_
    rw [List.getElem?_toArray]
    unfold runV
    rw [List.getElem?_append_right (by simp; omega), ← h2]
    congr 1
    simp; omega
  | j + 2, hu => simp at hu
theorem set_back {α : Type} {l : List α} {i : Nat} {x old : α} (h : l[i]? = some old) : (l.set i x).set i old = l := by
 have hlt := lt_of_get h
 rw [List.set_set]
 apply List.ext_getElem?
 intro j
 rw [List.getElem?_set]
 by_cases hi : i = j
 ·subst hi; rw [if_pos rfl, if_pos hlt, h]
 ·rw [if_neg hi]
set_option maxHeartbeats 4000000 in
theorem try_cls {text : List Int} {code : List Ins} {a p d t m : Nat} {x : Int} {B : List Int} {G : Grp} {o : Option (Grp × Nat)} (hc : code[a]? = some (.cls t m)) (hm10 : m < 10) (hx : B[t]? = some x) (ih : RunC fRun text code (a + 1) p d B (G.set m (x, (p : Int))) o) : RunC fTry text code a p d B G o := by
 intro r hcode F w0 rb pb mb bb ta tn tc es gf gt hC hA hFl hp
 subst hcode
 have hblk := hA.blk
 have hmap := hA.map
 have hbeg := hA.beg
 have hrl := hblk.lt
 have hml := hmap.lt
 have hbl := hbeg.lt
 have hd1 := hC.d1
 have hd2 := hC.d2
 have hd3 := hC.d3
 have hgl := hA.gl
 have htl := hC.tl
 obtain ⟨cb, cc, qb, n, row, hPb, hcl, hrow, hsub, han, hn1, hFpb⟩ := hC.prog.row hc
 have hpn := (hC.fl pb hFpb).2
 simp only [RowF] at hrow
 subst hrow
 have ht := lt_of_get hx
 obtain ⟨old, hold⟩ := get_of_lt (l := G) (i := m) (by omega)
 have hGl : (G.set m (x, (p : Int))).length = 10 := by simpa using hgl
 have hback := set_back (x := (x, (p : Int))) hold
 refine Ret_of Try.func60 rfl Try.ntmps60 (Nat.le_of_ble_eq_true rfl) ?_
 have E : Chg (RMod rb mb bb) w0 w0 := Chg.refl _ _
 have E1 : Chg none1 w0 w0 := Chg.refl _ _
 refine Wp_seq_region ?_
 refine s_box (v := (.agg #[(I6 (a : Int)), (I6 (p : Int)), (I6 (d : Int))])) (c := #[(I6 (a : Int)), (I6 (p : Int)), (I6 (d : Int))]) (by decide) rfl rfl ?_
 intro bs ws Ns
 have Fs := Ns.ge E
 have Fs_E1 := Ns.ge E1
 have Os_rb := Ns.lt hblk
 have Os_bb := Ns.lt hbeg
 have Os_mb := Ns.ltM hmap
 have Os_pb := Ns.lt hPb
 replace hblk := Ns.keep hblk
 replace hbeg := Ns.keep hbeg
 replace hmap := Ns.keepM hmap
 replace hPb := Ns.keep hPb
 replace E := E.ext Ns.ext
 have Bs := Ns.blk
 replace E1 := E1.ext Ns.ext
 refine qA (.bool false) rfl ?_
 refine WpL_nil ?_
 obtain ⟨z0, hz0⟩ : ∃ z0, z0 = (ws).heap.size := ⟨_, rfl⟩
 have hz1 : w0.heap.size ≤ z0 := by rw [hz0]; exact E.size
 have hz2 : bs < z0 := by rw [hz0]; exact Bs.lt
 have hz_1 : w0.heap.size ≤ ws.heap.size := E.size
 have lz_1_rb : rb < ws.heap.size := hblk.lt
 have lz_1_bb : bb < ws.heap.size := hbeg.lt
 have lz_1_mb : mb < ws.heap.size := hmap.lt
 have lz_1_pb : pb < ws.heap.size := hPb.lt
 have lz_1_bs : bs < ws.heap.size := Bs.lt
 refine Wp_seq ?_
 obtain ⟨Fs1, hFs1⟩ : ∃ Fs : List FctS, Fs = [(fun _ _ v _ => v = (P6 rb 0)), (fun _ _ v _ => v = (P6 rb 0)), (fun _ _ v _ => v = (P6 rb 0)), (fun _ _ v _ => v = (P6 pb 0)), (fun _ _ v _ => v = (P6 pb 0)), (fun _ _ v _ => v = (P6 pb 0)), (fun _ _ v _ => v = (.slice (some ⟨cb, 0, none⟩) n cc)), (fun _ _ v _ => v = (P6 bs 0)), (fun _ _ v _ => v = (I6 (a : Int))), (fun _ _ v _ => v = (.pointer (some ⟨cb, 0 + a * 8, none⟩))), (fun _ _ v _ => v = (.agg #[(I6 4), (I6 0), (I6 0), (I6 (m : Int)), (I6 (t : Int)), (.slice none 0 0), (.pointer none), (.bool false)])), (fun _ _ => alF 87 #[(I6 0), (I6 0), (I6 0), (I6 0), (I6 0), (.slice none 0 0), (.pointer none), (.bool false)] ws.heap.size), (fun _ _ v _ => v = undef)] := ⟨_, rfl⟩
 refine Wp_dagS (MsL []) [true, true, true, true, true, true, true, true, true, true, true, true, false] [12] [9, 10, 11, 12, 13, 14, 15, 16, 17, 18, 19, 5, 196] [[], [0], [1], [2], [3], [4], [5], [], [7], [6, 8], [9], [], []] [[], [0], [1, 0], [2, 1, 0], [3, 2, 1, 0], [4, 3, 2, 1, 0], [5, 4, 3, 2, 1, 0], [], [7], [6, 5, 4, 3, 2, 1, 0, 8, 7], [9, 6, 5, 4, 3, 2, 1, 0, 8, 7], [], []] Fs1 hFs1 (by kernel_rfl) mixed (by kernel_rfl) (by kernel_rfl) (by kernel_rfl) (by kernel_rfl) ?_ ?_
 ·intro wd X0
  refine qD (fun S s' w' hi hN X U V H => ?_) ?_
  ·replace X := X.mono (M' := none1) (fun y _ h => by
     obtain ⟨j, hj, h⟩ := h
     exact h.elim)
   exact DoesT_pure (r_move (v := (P6 rb 0)) (U 0 rfl)) rfl
  refine qD (fun S s' w' hi hN X U V H => ?_) ?_
  ·replace X := X.mono (M' := none1) (fun y _ h => by
     obtain ⟨j, hj, h⟩ := h
     exact h.elim)
   have e9 : s' 9 = (.pointer (some ⟨rb, 0, none⟩)) := (H 0 rfl).2 9 (fun _ _ v _ => v = (.pointer (some ⟨rb, 0, none⟩))) rfl (by rw [hFs1]; rfl)
   exact DoesT_pure (r_nilCheck (a := ⟨rb, 0, none⟩) e9) rfl
  refine qD (fun S s' w' hi hN X U V H => ?_) ?_
  ·replace X := X.mono (M' := none1) (fun y _ h => by
     obtain ⟨j, hj, h⟩ := h
     exact h.elim)
   have e10 : s' 10 = (.pointer (some ⟨rb, 0, none⟩)) := (H 1 rfl).2 10 (fun _ _ v _ => v = (.pointer (some ⟨rb, 0, none⟩))) rfl (by rw [hFs1]; rfl)
   exact DoesT_pure (r_fieldAddr (b := rb) (o := 0) (o' := 0) e10 Try.underlying80 rfl siz56 rfl) rfl
  refine qD (fun S s' w' hi hN X U V H => ?_) ?_
  ·replace X := X.mono (M' := none1) (fun y _ h => by
     obtain ⟨j, hj, h⟩ := h
     exact h.elim)
   have e11 : s' 11 = (.pointer (some ⟨rb, 0, none⟩)) := (H 2 rfl).2 11 (fun _ _ v _ => v = (.pointer (some ⟨rb, 0, none⟩))) rfl (by rw [hFs1]; rfl)
   exact DoesT_pure (r_load (v := (P6 pb 0)) e11 flat56 (((Ext.trans X0 X).keep hblk).cell rfl)) rfl
  refine qD (fun S s' w' hi hN X U V H => ?_) ?_
  ·replace X := X.mono (M' := none1) (fun y _ h => by
     obtain ⟨j, hj, h⟩ := h
     exact h.elim)
   have e12 : s' 12 = (.pointer (some ⟨pb, 0, none⟩)) := (H 3 rfl).2 12 (fun _ _ v _ => v = (.pointer (some ⟨pb, 0, none⟩))) rfl (by rw [hFs1]; rfl)
   exact DoesT_pure (r_nilCheck (a := ⟨pb, 0, none⟩) e12) rfl
  refine qD (fun S s' w' hi hN X U V H => ?_) ?_
  ·replace X := X.mono (M' := none1) (fun y _ h => by
     obtain ⟨j, hj, h⟩ := h
     exact h.elim)
   have e13 : s' 13 = (.pointer (some ⟨pb, 0, none⟩)) := (H 4 rfl).2 13 (fun _ _ v _ => v = (.pointer (some ⟨pb, 0, none⟩))) rfl (by rw [hFs1]; rfl)
   exact DoesT_pure (r_fieldAddr (b := pb) (o := 0) (o' := 0) e13 Try.underlying83 rfl siz81 rfl) rfl
  refine qD (fun S s' w' hi hN X U V H => ?_) ?_
  ·replace X := X.mono (M' := none1) (fun y _ h => by
     obtain ⟨j, hj, h⟩ := h
     exact h.elim)
   have e14 : s' 14 = (.pointer (some ⟨pb, 0, none⟩)) := (H 5 rfl).2 14 (fun _ _ v _ => v = (.pointer (some ⟨pb, 0, none⟩))) rfl (by rw [hFs1]; rfl)
   exact DoesT_pure (r_load (v := (.slice (some ⟨cb, 0, none⟩) n cc)) e14 flat81 (((X0.trans X).keep hPb).cell rfl)) rfl
  refine qD (fun S s' w' hi hN X U V H => ?_) ?_
  ·replace X := X.mono (M' := none1) (fun y _ h => by
     obtain ⟨j, hj, h⟩ := h
     exact h.elim)
   exact DoesT_pure (r_fieldAddr (b := bs) (o := 0) (o' := 0) (U 3 rfl) Try.underlying77 rfl siz3 rfl) rfl
  refine qD (fun S s' w' hi hN X U V H => ?_) ?_
  ·replace X := X.mono (M' := none1) (fun y _ h => by
     obtain ⟨j, hj, h⟩ := h
     exact h.elim)
   have e16 : s' 16 = (.pointer (some ⟨bs, 0, none⟩)) := (H 7 rfl).2 16 (fun _ _ v _ => v = (.pointer (some ⟨bs, 0, none⟩))) rfl (by rw [hFs1]; rfl)
   exact DoesT_pure (r_load (v := (I6 (a : Int))) e16 flat3 (((X0.trans X).keep Bs).cell rfl)) rfl
  refine qD (fun S s' w' hi hN X U V H => ?_) ?_
  ·replace X := X.mono (M' := none1) (fun y _ h => by
     obtain ⟨j, hj, h⟩ := h
     exact h.elim)
   have e15 : s' 15 = (.slice (some ⟨cb, 0, none⟩) n cc) := (H 6 rfl).2 15 (fun _ _ v _ => v = (.slice (some ⟨cb, 0, none⟩) n cc)) rfl (by rw [hFs1]; rfl)
   have e17 : s' 17 = (.int .i64 ((a : Nat) : Int)) := (H 8 rfl).2 17 (fun _ _ v _ => v = (.int .i64 ((a : Nat) : Int))) rfl (by rw [hFs1]; rfl)
   exact DoesT_pure (r_indexSlice (b := cb) (o := 0) (len := n) (cap := cc) (i := a) (o' := 0 + a * 8) e15 e17 rfl Try.underlying81 siz87 (by omega) (by omega)) rfl
  refine qD (fun S s' w' hi hN X U V H => ?_) ?_
  ·replace X := X.mono (M' := none1) (fun y _ h => by
     obtain ⟨j, hj, h⟩ := h
     exact h.elim)
   have e18 : s' 18 = (.pointer (some ⟨cb, 0 + a * 8, none⟩)) := (H 9 rfl).2 18 (fun _ _ v _ => v = (.pointer (some ⟨cb, 0 + a * 8, none⟩))) rfl (by rw [hFs1]; rfl)
   exact DoesT_pure (r_loadAgg (vs := [(I6 4), (I6 0), (I6 0), (I6 (m : Int)), (I6 (t : Int)), (.slice none 0 0), (.pointer none), (.bool false)]) e18 agg87 siz87 rfl (hcl.ext (Ext.trans (Ns.ext) (Ext.trans X0 X)))) rfl
  refine DagStepsS.cons (StabS.chg (U := none1) (fun v w w' x h => alF_ext _ _ _ v w w' x h) (fun p y hp hw h => by
     exact h.elim)) (LocS.const) (fun S s' w' hi hN X U V H => Or.inl ⟨Guarded_none rfl, ?_⟩) ?_
  ·replace X := X.mono (M' := none1) (fun y _ h => by
     obtain ⟨j, hj, h⟩ := h
     exact h.elim)
   exact DoesT_alloc (c := #[(I6 0), (I6 0), (I6 0), (I6 0), (I6 0), (.slice none 0 0), (.pointer none), (.bool false)]) zer87 rfl (by have := X0.size; have := X.size; omega)
  refine DagStepsS.tail ?_
  exact DagStepsS.nil
 ·intro s' wd1 w1 X0 X1 U H
  replace X1 := X1.mono (M' := none1) (fun y _ h => by
    obtain ⟨j, hj, h⟩ := h
    exact h.elim)
  have e19 : s' 19 = (.agg #[(.int .i64 4), (.int .i64 0), (.int .i64 0), (.int .i64 ((m : Nat) : Int)), (.int .i64 ((t : Nat) : Int)), (.slice none 0 0), (.pointer none), (.bool false)]) := H 10 rfl 19 (fun _ _ v _ => v = (.agg #[(.int .i64 4), (.int .i64 0), (.int .i64 0), (.int .i64 ((m : Nat) : Int)), (.int .i64 ((t : Nat) : Int)), (.slice none 0 0), (.pointer none), (.bool false)])) rfl (by rw [hFs1]; rfl)
  obtain ⟨b5, e5, B5, g5⟩ := (show ((fun _ _ => alF 87 #[(.int .i64 0), (.int .i64 0), (.int .i64 0), (.int .i64 0), (.int .i64 0), (.slice none 0 0), (.pointer none), (.bool false)] ws.heap.size) : FctS) (allS [true, true, true, true, true, true, true, true, true, true, true, true, false]) s' (s' 5) w1 from H 11 rfl 5 (fun _ _ => alF 87 #[(.int .i64 0), (.int .i64 0), (.int .i64 0), (.int .i64 0), (.int .i64 0), (.slice none 0 0), (.pointer none), (.bool false)] ws.heap.size) rfl (by rw [hFs1]; rfl))
  obtain ⟨j1, rfl⟩ := Fits.out (σ := s') (l := [(0, (.pointer (some ⟨rb, 0, none⟩))), (3, (.pointer (some ⟨bs, 0, none⟩))), (19, (.agg #[(.int .i64 4), (.int .i64 0), (.int .i64 0), (.int .i64 ((m : Nat) : Int)), (.int .i64 ((t : Nat) : Int)), (.slice none 0 0), (.pointer none), (.bool false)])), (5, (.pointer (some ⟨b5, 0, none⟩)))]) ⟨U 0 rfl, U 3 rfl, e19, e5, trivial⟩
  clear U H
  replace hblk := (X0.trans X1).keep hblk
  replace hbeg := (X0.trans X1).keep hbeg
  replace hmap := (X0.trans X1).keepM hmap
  replace hPb := (X0.trans X1).keep hPb
  replace Bs := (X0.trans X1).keep Bs
  replace X1 := X0.trans X1
  replace E := E.ext X1
  replace E1 := E1.ext X1
  refine s_storeAgg (b := b5) (o := 0) (c' := #[(I6 4), (I6 0), (I6 0), (I6 (m : Int)), (I6 (t : Int)), (.slice none 0 0), (.pointer none), (.bool false)]) rfl rfl (by simp [Value.oneCell']) siz87 rfl B5 (by first | (simp; done) | exact Nat.le_of_ble_eq_true rfl) rfl ?_
  intro w2 S2
  replace hblk := S2.keep (by omega) hblk
  replace hbeg := S2.keep (by omega) hbeg
  replace hmap := S2.keepM (by omega) hmap
  replace hPb := S2.keep (by omega) hPb
  replace Bs := S2.keep (by omega) Bs
  replace E := S2.step E (by first | exact Or.inl (by omega) | exact Or.inr rfl | exact Or.inr (by assumption) | exact Or.inr (by simp) | exact Or.inr (by omega) | exact Or.inr (by dsimp only; omega))
  replace E1 := S2.step E1 (Or.inl (by omega))
  replace B5 := S2.blk
  refine WpL_nil (thn_normal (Wp_seq_region ?_))
  refine qV (r_loadAgg (vs := [(I6 (a : Int)), (I6 (p : Int)), (I6 (d : Int))]) rfl agg77 siz77 rfl (Bs.cells rfl)) ?_
  refine s_allocStore (v := (.agg #[(I6 (a : Int)), (I6 (p : Int)), (I6 (d : Int))])) (c := #[(I6 (a : Int)), (I6 (p : Int)), (I6 (d : Int))]) (n := 3) (by decide) zer77 rfl siz77 rfl rfl rfl (by simp [Value.oneCell']) ?_
  intro bn wn Nn
  have Fn := Nn.ge E
  have Fn_E1 := Nn.ge E1
  have On_rb := Nn.lt hblk
  have On_bb := Nn.lt hbeg
  have On_mb := Nn.ltM hmap
  have On_pb := Nn.lt hPb
  have On_bs := Nn.lt Bs
  have On_b5 := Nn.lt B5
  replace hblk := Nn.keep hblk
  replace hbeg := Nn.keep hbeg
  replace hmap := Nn.keepM hmap
  replace hPb := Nn.keep hPb
  replace Bs := Nn.keep Bs
  replace B5 := Nn.keep B5
  replace E := E.ext Nn.ext
  have Bn := Nn.blk
  replace E1 := E1.ext Nn.ext
  refine WpL_nil (Wp_seq_region ?_)
  refine qF bn 0 0 rfl Try.underlying77 rfl siz3 rfl ?_
  refine qV (r_load (v := (I6 (a : Int))) rfl flat3 (Bn.cell rfl)) ?_
  refine qV (r_add (k := .i64) (a := (a : Int)) (b := 1) (c := ((a + 1 : Nat) : Int)) rfl rfl ((wI64 (by omega)).trans (by omega))) ?_
  refine qF bn 0 0 rfl Try.underlying77 rfl siz3 rfl ?_
  refine s_store (b := bn) (o := 0) (c' := #[(I6 ((a + 1 : Nat) : Int)), (I6 (p : Int)), (I6 (d : Int))]) (v := (I6 ((a + 1 : Nat) : Int))) rfl rfl rfl siz3 Bn (by simp) rfl ?_
  intro w3 S3
  replace hblk := S3.keep (by omega) hblk
  replace hbeg := S3.keep (by omega) hbeg
  replace hmap := S3.keepM (by omega) hmap
  replace hPb := S3.keep (by omega) hPb
  replace Bs := S3.keep (by omega) Bs
  replace B5 := S3.keep (by omega) B5
  replace E := S3.step E (by first | exact Or.inl (by omega) | exact Or.inr rfl | exact Or.inr (by assumption) | exact Or.inr (by simp) | exact Or.inr (by omega) | exact Or.inr (by dsimp only; omega))
  replace E1 := S3.step E1 (Or.inl (by omega))
  replace Bn := S3.blk
  refine WpL_nil (Wp_seq (Wp_seq_region ?_))
  refine qF b5 0 0 rfl Try.underlying87 rfl siz3 rfl ?_
  refine qV (r_load (v := (I6 4)) rfl flat3 (B5.cell rfl)) ?_
  refine WpL_nil (Wp_block (Wp_seq_region ?_))
  refine qV (r_eql (k := .i64) (a := 4) (b := 0) rfl rfl) ?_
  refine qA (.bool false) rfl ?_
  refine WpL_nil ?_
  refine Wp_cond_false rfl ?_
  refine Wp_seq_region ?_
  refine qV (r_eql (k := .i64) (a := 4) (b := 1) rfl rfl) ?_
  refine qA (.bool false) rfl ?_
  refine WpL_nil ?_
  refine Wp_cond_false rfl ?_
  refine Wp_seq_region ?_
  refine qV (r_eql (k := .i64) (a := 4) (b := 2) rfl rfl) ?_
  refine qA (.bool false) rfl ?_
  refine WpL_nil ?_
  refine Wp_cond_false rfl ?_
  refine Wp_seq_region ?_
  refine qV (r_eql (k := .i64) (a := 4) (b := 3) rfl rfl) ?_
  refine qA (.bool false) rfl ?_
  refine WpL_nil ?_
  refine Wp_cond_false rfl ?_
  refine Wp_seq_region ?_
  refine qV (r_eql (k := .i64) (a := 4) (b := 4) rfl rfl) ?_
  refine qA (.bool true) rfl ?_
  refine WpL_nil ?_
  refine Wp_cond_true rfl ?_
  have hz_4 : w0.heap.size ≤ w3.heap.size := E.size
  have lz_4_rb : rb < w3.heap.size := hblk.lt
  have lz_4_bb : bb < w3.heap.size := hbeg.lt
  have lz_4_mb : mb < w3.heap.size := hmap.lt
  have lz_4_pb : pb < w3.heap.size := hPb.lt
  have lz_4_bs : bs < w3.heap.size := Bs.lt
  have lz_4_b5 : b5 < w3.heap.size := B5.lt
  have lz_4_bn : bn < w3.heap.size := Bn.lt
  refine Wp_seq ?_
  obtain ⟨Fs4, hFs4⟩ : ∃ Fs : List FctS, Fs = [(fun _ _ v _ => v = (P6 rb 0)), (fun _ _ v _ => v = (P6 b5 3)), (fun _ _ v _ => v = (I6 (m : Int))), (fun _ _ v _ => v = (P6 rb 0)), (fun _ _ v _ => v = (P6 rb 4)), (fun _ _ v _ => v = (P6 rb 6)), (fun _ _ v _ => v = (.pointer (some ⟨rb, 6 + m * 2, none⟩))), (fun _ _ v _ => v = (.agg #[(I6 old.1), (I6 old.2)])), (fun _ _ => alF 30 #[(I6 0), (I6 0)] w3.heap.size), (fun _ _ v _ => v = undef)] := ⟨_, rfl⟩
  refine Wp_dagS (MsL []) [true, true, true, true, true, true, true, true, true, false] [9] [104, 105, 106, 107, 108, 109, 110, 111, 8, 193] [[], [], [1], [0], [3], [4], [2, 5], [6], [], []] [[], [], [1], [0], [3, 0], [4, 3, 0], [2, 1, 5, 4, 3, 0], [6, 2, 1, 5, 4, 3, 0], [], []] Fs4 hFs4 (by kernel_rfl) mixed (by kernel_rfl) (by kernel_rfl) (by kernel_rfl) (by kernel_rfl) ?_ ?_
  ·intro wd X0
   refine qD (fun S s' w' hi hN X U V H => ?_) ?_
   ·replace X := X.mono (M' := none1) (fun y _ h => by
      obtain ⟨j, hj, h⟩ := h
      exact h.elim)
    exact DoesT_pure (r_move (v := (P6 rb 0)) (U 0 rfl)) rfl
   refine qD (fun S s' w' hi hN X U V H => ?_) ?_
   ·replace X := X.mono (M' := none1) (fun y _ h => by
      obtain ⟨j, hj, h⟩ := h
      exact h.elim)
    exact DoesT_pure (r_fieldAddr (b := b5) (o := 0) (o' := 3) (U 5 rfl) Try.underlying87 rfl siz3 rfl) rfl
   refine qD (fun S s' w' hi hN X U V H => ?_) ?_
   ·replace X := X.mono (M' := none1) (fun y _ h => by
      obtain ⟨j, hj, h⟩ := h
      exact h.elim)
    have e105 : s' 105 = (.pointer (some ⟨b5, 3, none⟩)) := (H 1 rfl).2 105 (fun _ _ v _ => v = (.pointer (some ⟨b5, 3, none⟩))) rfl (by rw [hFs4]; rfl)
    exact DoesT_pure (r_load (v := (I6 (m : Int))) e105 flat3 (((X0.trans X).keep B5).cell rfl)) rfl
   refine qD (fun S s' w' hi hN X U V H => ?_) ?_
   ·replace X := X.mono (M' := none1) (fun y _ h => by
      obtain ⟨j, hj, h⟩ := h
      exact h.elim)
    have e104 : s' 104 = (.pointer (some ⟨rb, 0, none⟩)) := (H 0 rfl).2 104 (fun _ _ v _ => v = (.pointer (some ⟨rb, 0, none⟩))) rfl (by rw [hFs4]; rfl)
    exact DoesT_pure (r_nilCheck (a := ⟨rb, 0, none⟩) e104) rfl
   refine qD (fun S s' w' hi hN X U V H => ?_) ?_
   ·replace X := X.mono (M' := none1) (fun y _ h => by
      obtain ⟨j, hj, h⟩ := h
      exact h.elim)
    have e107 : s' 107 = (.pointer (some ⟨rb, 0, none⟩)) := (H 3 rfl).2 107 (fun _ _ v _ => v = (.pointer (some ⟨rb, 0, none⟩))) rfl (by rw [hFs4]; rfl)
    exact DoesT_pure (r_fieldAddr (b := rb) (o := 0) (o' := 4) e107 Try.underlying80 rfl siz33 rfl) rfl
   refine qD (fun S s' w' hi hN X U V H => ?_) ?_
   ·replace X := X.mono (M' := none1) (fun y _ h => by
      obtain ⟨j, hj, h⟩ := h
      exact h.elim)
    have e108 : s' 108 = (.pointer (some ⟨rb, 4, none⟩)) := (H 4 rfl).2 108 (fun _ _ v _ => v = (.pointer (some ⟨rb, 4, none⟩))) rfl (by rw [hFs4]; rfl)
    exact DoesT_pure (r_fieldAddr (b := rb) (o := 4) (o' := 6) e108 Try.underlying33 rfl siz31 rfl) rfl
   refine qD (fun S s' w' hi hN X U V H => ?_) ?_
   ·replace X := X.mono (M' := none1) (fun y _ h => by
      obtain ⟨j, hj, h⟩ := h
      exact h.elim)
    have e109 : s' 109 = (.pointer (some ⟨rb, 6, none⟩)) := (H 5 rfl).2 109 (fun _ _ v _ => v = (.pointer (some ⟨rb, 6, none⟩))) rfl (by rw [hFs4]; rfl)
    have e106 : s' 106 = (.int .i64 ((m : Nat) : Int)) := (H 2 rfl).2 106 (fun _ _ v _ => v = (.int .i64 ((m : Nat) : Int))) rfl (by rw [hFs4]; rfl)
    exact DoesT_pure (r_indexArr (b := rb) (o := 6) (i := m) (o' := 6 + m * 2) e109 e106 rfl Try.underlying31 siz30 (by omega) (by omega)) rfl
   refine qD (fun S s' w' hi hN X U V H => ?_) ?_
   ·replace X := X.mono (M' := none1) (fun y _ h => by
      obtain ⟨j, hj, h⟩ := h
      exact h.elim)
    have e110 : s' 110 = (.pointer (some ⟨rb, 6 + m * 2, none⟩)) := (H 6 rfl).2 110 (fun _ _ v _ => v = (.pointer (some ⟨rb, 6 + m * 2, none⟩))) rfl (by rw [hFs4]; rfl)
    exact DoesT_pure (r_loadAgg (vs := [(I6 old.1), (I6 old.2)]) e110 agg30 siz30 rfl (runV_cells ((Ext.trans X0 X).keep hblk) hold)) rfl
   refine DagStepsS.cons (StabS.chg (U := none1) (fun v w w' x h => alF_ext _ _ _ v w w' x h) (fun p y hp hw h => by
      exact h.elim)) (LocS.const) (fun S s' w' hi hN X U V H => Or.inl ⟨Guarded_none rfl, ?_⟩) ?_
   ·replace X := X.mono (M' := none1) (fun y _ h => by
      obtain ⟨j, hj, h⟩ := h
      exact h.elim)
    exact DoesT_alloc (c := #[(I6 0), (I6 0)]) zer30 rfl (by have := X0.size; have := X.size; omega)
   refine DagStepsS.tail ?_
   exact DagStepsS.nil
  ·intro s' wd4 w4 X0 X4 U H
   replace X4 := X4.mono (M' := none1) (fun y _ h => by
     obtain ⟨j, hj, h⟩ := h
     exact h.elim)
   have e111 : s' 111 = (.agg #[(.int .i64 old.1), (.int .i64 old.2)]) := H 7 rfl 111 (fun _ _ v _ => v = (.agg #[(.int .i64 old.1), (.int .i64 old.2)])) rfl (by rw [hFs4]; rfl)
   obtain ⟨b8, e8, B8, g8⟩ := (show ((fun _ _ => alF 30 #[(.int .i64 0), (.int .i64 0)] w3.heap.size) : FctS) (allS [true, true, true, true, true, true, true, true, true, false]) s' (s' 8) w4 from H 8 rfl 8 (fun _ _ => alF 30 #[(.int .i64 0), (.int .i64 0)] w3.heap.size) rfl (by rw [hFs4]; rfl))
   obtain ⟨j4, rfl⟩ := Fits.out (σ := s') (l := [(0, (.pointer (some ⟨rb, 0, none⟩))), (3, (.pointer (some ⟨bs, 0, none⟩))), (5, (.pointer (some ⟨b5, 0, none⟩))), (6, (.pointer (some ⟨bn, 0, none⟩))), (111, (.agg #[(.int .i64 old.1), (.int .i64 old.2)])), (8, (.pointer (some ⟨b8, 0, none⟩)))]) ⟨U 0 rfl, U 3 rfl, U 5 rfl, U 6 rfl, e111, e8, trivial⟩
   clear U H
   replace hblk := (X0.trans X4).keep hblk
   replace hbeg := (X0.trans X4).keep hbeg
   replace hmap := (X0.trans X4).keepM hmap
   replace hPb := (X0.trans X4).keep hPb
   replace Bs := (X0.trans X4).keep Bs
   replace B5 := (X0.trans X4).keep B5
   replace Bn := (X0.trans X4).keep Bn
   replace X4 := X0.trans X4
   replace E := E.ext X4
   refine s_storeAgg (b := b8) (o := 0) (c' := #[(I6 old.1), (I6 old.2)]) rfl rfl (by simp [Value.oneCell']) siz30 rfl B8 (by first | (simp; done) | exact Nat.le_of_ble_eq_true rfl) rfl ?_
   intro w5 S5
   replace hblk := S5.keep (by omega) hblk
   replace hbeg := S5.keep (by omega) hbeg
   replace hmap := S5.keepM (by omega) hmap
   replace hPb := S5.keep (by omega) hPb
   replace Bs := S5.keep (by omega) Bs
   replace B5 := S5.keep (by omega) B5
   replace Bn := S5.keep (by omega) Bn
   replace E := S5.step E (by first | exact Or.inl (by omega) | exact Or.inr rfl | exact Or.inr (by assumption) | exact Or.inr (by simp) | exact Or.inr (by omega) | exact Or.inr (by dsimp only; omega))
   replace B8 := S5.blk
   refine WpL_nil (thn_normal ?_)
   refine Wp_seq_draw 18 mixed (by kernel_rfl) ?_
   intro w6 X6 _
   replace hblk := X6.keep hblk
   replace hbeg := X6.keep hbeg
   replace hmap := X6.keepM hmap
   replace hPb := X6.keep hPb
   replace Bs := X6.keep Bs
   replace B5 := X6.keep B5
   replace Bn := X6.keep Bn
   replace B8 := X6.keep B8
   replace E := E.ext X6
   refine qT (r_move (v := (P6 rb 0)) rfl) ?_
   refine qT (r_fieldAddr (b := b5) (o := 0) (o' := 3) rfl Try.underlying87 rfl siz3 rfl) ?_
   refine qT (r_load (v := (I6 (m : Int))) rfl flat3 (B5.cell rfl)) ?_
   refine qT (r_move (v := (P6 rb 0)) rfl) ?_
   refine qT (r_nilCheck (a := ⟨rb, 0, none⟩) rfl) ?_
   refine qT (r_fieldAddr (b := rb) (o := 0) (o' := 3) rfl Try.underlying80 rfl siz22 rfl) ?_
   refine qT (r_load (v := (.slice (some ⟨bb, 0, none⟩) B.length B.length)) rfl flat22 (hblk.cell rfl)) ?_
   refine qT (r_fieldAddr (b := b5) (o := 0) (o' := 4) rfl Try.underlying87 rfl siz3 rfl) ?_
   refine qT (r_load (v := (I6 (t : Int))) rfl flat3 (B5.cell rfl)) ?_
   refine qT (r_indexSlice (b := bb) (o := 0) (len := B.length) (cap := B.length) (i := t) (o' := 0 + t) rfl rfl rfl Try.underlying22 siz3 (by omega) (by omega)) ?_
   refine qT (r_load (v := (I6 x)) rfl flat3 (hbeg.cell (by rw [Nat.zero_add, List.getElem?_toArray, List.getElem?_map, hx]; rfl))) ?_
   refine qT (r_fieldAddr (b := bs) (o := 0) (o' := 1) rfl Try.underlying77 rfl siz3 rfl) ?_
   refine qT (r_load (v := (I6 (p : Int))) rfl flat3 (Bs.cell rfl)) ?_
   refine qT (r_build (ps := [(0, (I6 x)), (1, (I6 (p : Int)))]) (v := (.agg #[(I6 x), (I6 (p : Int))])) rfl (by kernel_rfl)) ?_
   refine qT (r_nilCheck (a := ⟨rb, 0, none⟩) rfl) ?_
   refine qT (r_fieldAddr (b := rb) (o := 0) (o' := 4) rfl Try.underlying80 rfl siz33 rfl) ?_
   refine qT (r_fieldAddr (b := rb) (o := 4) (o' := 6) rfl Try.underlying33 rfl siz31 rfl) ?_
   refine qT (r_indexArr (b := rb) (o := 6) (i := m) (o' := 6 + m * 2) rfl rfl rfl Try.underlying31 siz30 (by omega) (by omega)) ?_
   refine WpT_zero ?_
   refine s_storeAgg (b := rb) (o := 6 + m * 2) (n := 2) (c' := (runV pb mb bb ta tn tc B.length gf gt (G.set m (x, (p : Int)))).toArray) (vs := #[(I6 x), (I6 (p : Int))]) rfl rfl (by simp [Value.oneCell']) siz30 (rfl) hblk (by rw [List.size_toArray, runV_len]; omega) (runV_put (by omega)) ?_
   intro w7 S7
   replace hbeg := S7.keep (by omega) hbeg
   replace hmap := S7.keepM (by omega) hmap
   replace hPb := S7.keep (by omega) hPb
   replace Bs := S7.keep (by omega) Bs
   replace B5 := S7.keep (by omega) B5
   replace Bn := S7.keep (by omega) Bn
   replace B8 := S7.keep (by omega) B8
   replace E := S7.step E (by first | exact Or.inl (by omega) | exact Or.inr rfl | exact Or.inr (by assumption) | exact Or.inr (by simp) | exact Or.inr (by omega) | exact Or.inr (by dsimp only; omega))
   replace hblk := S7.blk
   refine WpL_nil (Wp_seq (Wp_seq_region ?_))
   refine qM (P6 rb 0) rfl ?_
   refine qV (r_loadAgg (vs := [(I6 ((a + 1 : Nat) : Int)), (I6 (p : Int)), (I6 (d : Int))]) rfl agg77 siz77 rfl (Bn.cells rfl)) ?_
   refine WpL_enter rfl rfl (by decide) (r_callF (vs := [(P6 rb 0), (.agg #[(I6 ((a + 1 : Nat) : Int)), (I6 (p : Int)), (I6 (d : Int))])]) Try.func40 nm40 bd40 rfl) (ih r rfl F _ rb pb mb bb _ _ _ es gf gt (hC.mod E) ⟨hblk, hmap, hbeg, hGl⟩ hFl hp) ?_
   rintro _ w19 ⟨⟨rfl, hO⟩, C19⟩
   replace hPb := C19.keep (fun h => by rcases h with h | h | h <;> omega) hPb
   replace Bs := C19.keep (fun h => by rcases h with h | h | h <;> omega) Bs
   replace B5 := C19.keep (fun h => by rcases h with h | h | h <;> omega) B5
   replace Bn := C19.keep (fun h => by rcases h with h | h | h <;> omega) Bn
   replace B8 := C19.keep (fun h => by rcases h with h | h | h <;> omega) B8
   replace E := E.step C19 (fun _ _ h => h)
   obtain ⟨es', B', gt', G', hA', hl', hF', hn', hq'⟩ := hO
   refine WpL_nil ?_
   refine Wp_cond (b := o.isSome) rfl (fun hs => ?_) (fun hs => ?_)
   ·have khs := hs
    refine Wp_seq_region ?_
    refine qA (.bool true) rfl ?_
    refine WpL_nil (Wp_ret (thn_ret (inB_ret (thn_ret ?_))))
    refine fin_tmp Try.results60 (v := (.bool true)) rfl ?_
    exact ⟨⟨by rw [hs], es', B', gt', G', hA', hl', hF', (fun h => by rw [h] at hs; cases hs), hq'⟩, E⟩
   ·have khs := hs
    have hno : o = none := by simpa using hs
    obtain ⟨rfl, rfl, rfl⟩ := hn' hno
    have hblk := hA'.blk
    have hmap := hA'.map
    have hbeg := hA'.beg
    refine Wp_skip (thn_normal ?_)
    refine Wp_seq_draw 8 mixed (by kernel_rfl) ?_
    intro w9 X9 _
    replace hPb := X9.keep hPb
    replace Bs := X9.keep Bs
    replace B5 := X9.keep B5
    replace Bn := X9.keep Bn
    replace B8 := X9.keep B8
    replace hblk := X9.keep hblk
    replace hbeg := X9.keep hbeg
    replace hmap := X9.keepM hmap
    replace E := E.ext X9
    refine qT (r_move (v := (P6 rb 0)) rfl) ?_
    refine qT (r_fieldAddr (b := b5) (o := 0) (o' := 3) rfl Try.underlying87 rfl siz3 rfl) ?_
    refine qT (r_load (v := (I6 (m : Int))) rfl flat3 (B5.cell rfl)) ?_
    refine qT (r_loadAgg (vs := [(I6 old.1), (I6 old.2)]) rfl agg30 siz30 rfl (B8.cells rfl)) ?_
    refine qT (r_nilCheck (a := ⟨rb, 0, none⟩) rfl) ?_
    refine qT (r_fieldAddr (b := rb) (o := 0) (o' := 4) rfl Try.underlying80 rfl siz33 rfl) ?_
    refine qT (r_fieldAddr (b := rb) (o := 4) (o' := 6) rfl Try.underlying33 rfl siz31 rfl) ?_
    refine qT (r_indexArr (b := rb) (o := 6) (i := m) (o' := 6 + m * 2) rfl rfl rfl Try.underlying31 siz30 (by omega) (by omega)) ?_
    refine WpT_zero ?_
    refine s_storeAgg (b := rb) (o := 6 + m * 2) (n := 2) (c' := (runV pb mb bb ta tn tc B'.length gf gt' G).toArray) (vs := #[(I6 old.1), (I6 old.2)]) rfl rfl (by simp [Value.oneCell']) siz30 (rfl) hblk (by rw [List.size_toArray, runV_len]; omega) (by rw [runV_put (by omega), hback]) ?_
    intro w10 S10
    replace hPb := S10.keep (by omega) hPb
    replace Bs := S10.keep (by omega) Bs
    replace B5 := S10.keep (by omega) B5
    replace Bn := S10.keep (by omega) Bn
    replace B8 := S10.keep (by omega) B8
    replace hbeg := S10.keep (by omega) hbeg
    replace hmap := S10.keepM (by omega) hmap
    replace E := S10.step E (by first | exact Or.inl (by omega) | exact Or.inr rfl | exact Or.inr (by assumption) | exact Or.inr (by simp) | exact Or.inr (by omega) | exact Or.inr (by dsimp only; omega))
    replace hblk := S10.blk
    refine WpL_nil (Wp_seq_region ?_)
    refine qA (.bool false) rfl ?_
    refine WpL_nil (Wp_ret (inB_ret (thn_ret ?_)))
    refine fin_tmp Try.results60 (v := (.bool false)) rfl ?_
    exact ⟨⟨by rw [hno]; rfl, es', B', gt', G, ⟨hblk, hmap, hbeg, hgl⟩, rfl, hF', fun _ => ⟨rfl, rfl, rfl⟩, fun q hq => by rw [hno] at hq; cases hq⟩, E⟩
def stF (z qb : Nat) (ta : Option Addr) (tn tc : Nat) (r : Re) : Fct := fun v w => ∃ rb mb bb, v = .pointer (some ⟨rb, 0, none⟩) ∧ (z ≤ rb ∧ z ≤ mb ∧ z ≤ bb) ∧ (rb ≠ mb ∧ rb ≠ bb ∧ mb ≠ bb) ∧ RunAt w rb qb mb bb ta tn tc (List.replicate (tempsOf r) 0) [] 0 0 G0
theorem stF_ext {z qb : Nat} {ta : Option Addr} {tn tc : Nat} {r : Re} : ∀ v w w', Chg none1 w w' → stF z qb ta tn tc r v w → stF z qb ta tn tc r v w' := by
 rintro v w w' e ⟨rb, mb, bb, h1, h2, h3, h4⟩
 exact ⟨rb, mb, bb, h1, h2, h3, h4.ext e⟩
theorem start_t (F : Nat → Prop) (w0 : World) (pb : Nat) (r : Re) (ta : Option Addr) (tn tc z : Nat) (h : ProgAt F w0 pb r) (hz : z ≤ w0.heap.size) :
  Ret Try.prog 39 #[.pointer (some ⟨pb, 0, none⟩), .slice ta tn tc] w0 fun v w => stF z pb ta tn tc r v w ∧ Ext w0 w := by
 have ht : tempsOf r ≤ 1000 := by cases h with | mk hB hF hF2 hb htm hn hl hc hr hs => exact htm
 refine (start_c F w0 pb r ta tn tc h ht).mono ?_
 rintro v w ⟨⟨rb, mb, bb, h1, h2, h3, h4⟩, e⟩
 exact ⟨⟨rb, mb, bb, h1, by omega, h3, h4⟩, e⟩
theorem Fails.nil (text : List Int) (code : List Ins) (n : Nat) : Fails text code n [] := fun q hq => by cases hq
theorem look_run {text : List Int} {r' : Re} {p z : Nat} {o : Option (Grp × Nat)} (ih : RunC fRun text (progOf r') 0 p 0 (List.replicate (tempsOf r') 0) G0 o) {F : Nat → Prop} {w0 w : World} {rb pb mb bb qb rb2 mb2 bb2 : Nat} {ta : Option Addr} {tn tc : Nat} {r : Re} (hC : Ctx F w0 rb pb mb bb ta tn tc text r) (hq : ProgAt F w0 qb r') (e : Ext w0 w)
  (hz : w0.heap.size ≤ z) (h2 : z ≤ rb2 ∧ z ≤ mb2 ∧ z ≤ bb2) (h3 : rb2 ≠ mb2 ∧ rb2 ≠ bb2 ∧ mb2 ≠ bb2) (hA : RunAt w rb2 qb mb2 bb2 ta tn tc (List.replicate (tempsOf r') 0) [] 0 0 G0) (hp : p ≤ text.length) :
  Ret Try.prog fRun #[.pointer (some ⟨rb2, 0, none⟩), .agg #[iV 0, iV p, iV 0]] w fun v w' => v = .bool o.isSome ∧ Chg (fun q => z ≤ q) w w' := by
 have hC2 := hC.ext e
 refine (ih r' rfl F w rb2 qb mb2 bb2 ta tn tc [] 0 0 ⟨hq.chg e (fun _ _ f => f), fun y hy => ⟨(hC2.fl y hy).1, ?_⟩, hC2.txt, hC2.tf, hC2.tl, h3.1, h3.2.1, h3.2.2⟩ hA (Fails.nil _ _ _) hp).mono ?_
 ·have := (hC.fl y hy).1; omega
 ·rintro v w' ⟨⟨h4, _⟩, c⟩
  exact ⟨h4, c.mono fun q _ hm => by rcases hm with h | h | h <;> omega⟩
set_option maxHeartbeats 4000000 in
theorem try_lookN {text : List Int} {code : List Ins} {a p d : Nat} {r' : Re} {ng : Bool} {B : List Int} {G : Grp} {o' : Option (Grp × Nat)} (hc : code[a]? = some (.look r' ng)) (ih0 : RunC fRun text (progOf r') 0 p 0 (List.replicate (tempsOf r') 0) G0 o') (ho : o'.isSome = ng) : RunC fTry text code a p d B G none := by
 intro r hcode F w0 rb pb mb bb ta tn tc es gf gt hC hA hFl hp
 subst hcode
 have hblk := hA.blk
 have hmap := hA.map
 have hbeg := hA.beg
 have hrl := hblk.lt
 have hml := hmap.lt
 have hbl := hbeg.lt
 have hd1 := hC.d1
 have hd2 := hC.d2
 have hd3 := hC.d3
 have hgl := hA.gl
 have htl := hC.tl
 obtain ⟨cb, cc, qb, n, row, hPb, hcl, hrow, hsub, han, hn1, hFpb⟩ := hC.prog.row hc
 have hpn := (hC.fl pb hFpb).2
 simp only [RowF] at hrow
 subst hrow
 refine Ret_of Try.func60 rfl Try.ntmps60 (Nat.le_of_ble_eq_true rfl) ?_
 have E : Chg (RMod rb mb bb) w0 w0 := Chg.refl _ _
 have E1 : Chg none1 w0 w0 := Chg.refl _ _
 refine Wp_seq_region ?_
 refine s_box (v := (.agg #[(I6 (a : Int)), (I6 (p : Int)), (I6 (d : Int))])) (c := #[(I6 (a : Int)), (I6 (p : Int)), (I6 (d : Int))]) (by decide) rfl rfl ?_
 intro bs ws Ns
 have Fs := Ns.ge E
 have Fs_E1 := Ns.ge E1
 have Os_rb := Ns.lt hblk
 have Os_bb := Ns.lt hbeg
 have Os_mb := Ns.ltM hmap
 have Os_pb := Ns.lt hPb
 replace hblk := Ns.keep hblk
 replace hbeg := Ns.keep hbeg
 replace hmap := Ns.keepM hmap
 replace hPb := Ns.keep hPb
 replace E := E.ext Ns.ext
 have Bs := Ns.blk
 replace E1 := E1.ext Ns.ext
 refine qA (.bool false) rfl ?_
 refine WpL_nil ?_
 obtain ⟨z0, hz0⟩ : ∃ z0, z0 = (ws).heap.size := ⟨_, rfl⟩
 have hz1 : w0.heap.size ≤ z0 := by rw [hz0]; exact E.size
 have hz2 : bs < z0 := by rw [hz0]; exact Bs.lt
 have hz_1 : w0.heap.size ≤ ws.heap.size := E.size
 have lz_1_rb : rb < ws.heap.size := hblk.lt
 have lz_1_bb : bb < ws.heap.size := hbeg.lt
 have lz_1_mb : mb < ws.heap.size := hmap.lt
 have lz_1_pb : pb < ws.heap.size := hPb.lt
 have lz_1_bs : bs < ws.heap.size := Bs.lt
 refine Wp_seq ?_
 obtain ⟨Fs1, hFs1⟩ : ∃ Fs : List FctS, Fs = [(fun _ _ v _ => v = (P6 rb 0)), (fun _ _ v _ => v = (P6 rb 0)), (fun _ _ v _ => v = (P6 rb 0)), (fun _ _ v _ => v = (P6 pb 0)), (fun _ _ v _ => v = (P6 pb 0)), (fun _ _ v _ => v = (P6 pb 0)), (fun _ _ v _ => v = (.slice (some ⟨cb, 0, none⟩) n cc)), (fun _ _ v _ => v = (P6 bs 0)), (fun _ _ v _ => v = (I6 (a : Int))), (fun _ _ v _ => v = (.pointer (some ⟨cb, 0 + a * 8, none⟩))), (fun _ _ v _ => v = (.agg #[(I6 5), (I6 0), (I6 0), (I6 0), (I6 0), (.slice none 0 0), (P6 qb 0), (.bool ng)])), (fun _ _ => alF 87 #[(I6 0), (I6 0), (I6 0), (I6 0), (I6 0), (.slice none 0 0), (.pointer none), (.bool false)] ws.heap.size), (fun _ _ v _ => v = undef)] := ⟨_, rfl⟩
 refine Wp_dagS (MsL []) [true, true, true, true, true, true, true, true, true, true, true, true, false] [12] [9, 10, 11, 12, 13, 14, 15, 16, 17, 18, 19, 5, 196] [[], [0], [1], [2], [3], [4], [5], [], [7], [6, 8], [9], [], []] [[], [0], [1, 0], [2, 1, 0], [3, 2, 1, 0], [4, 3, 2, 1, 0], [5, 4, 3, 2, 1, 0], [], [7], [6, 5, 4, 3, 2, 1, 0, 8, 7], [9, 6, 5, 4, 3, 2, 1, 0, 8, 7], [], []] Fs1 hFs1 (by kernel_rfl) mixed (by kernel_rfl) (by kernel_rfl) (by kernel_rfl) (by kernel_rfl) ?_ ?_
 ·intro wd X0
  refine qD (fun S s' w' hi hN X U V H => ?_) ?_
  ·replace X := X.mono (M' := none1) (fun y _ h => by
     obtain ⟨j, hj, h⟩ := h
     exact h.elim)
   exact DoesT_pure (r_move (v := (P6 rb 0)) (U 0 rfl)) rfl
  refine qD (fun S s' w' hi hN X U V H => ?_) ?_
  ·replace X := X.mono (M' := none1) (fun y _ h => by
     obtain ⟨j, hj, h⟩ := h
     exact h.elim)
   have e9 : s' 9 = (.pointer (some ⟨rb, 0, none⟩)) := (H 0 rfl).2 9 (fun _ _ v _ => v = (.pointer (some ⟨rb, 0, none⟩))) rfl (by rw [hFs1]; rfl)
   exact DoesT_pure (r_nilCheck (a := ⟨rb, 0, none⟩) e9) rfl
  refine qD (fun S s' w' hi hN X U V H => ?_) ?_
  ·replace X := X.mono (M' := none1) (fun y _ h => by
     obtain ⟨j, hj, h⟩ := h
     exact h.elim)
   have e10 : s' 10 = (.pointer (some ⟨rb, 0, none⟩)) := (H 1 rfl).2 10 (fun _ _ v _ => v = (.pointer (some ⟨rb, 0, none⟩))) rfl (by rw [hFs1]; rfl)
   exact DoesT_pure (r_fieldAddr (b := rb) (o := 0) (o' := 0) e10 Try.underlying80 rfl siz56 rfl) rfl
  refine qD (fun S s' w' hi hN X U V H => ?_) ?_
  ·replace X := X.mono (M' := none1) (fun y _ h => by
     obtain ⟨j, hj, h⟩ := h
     exact h.elim)
   have e11 : s' 11 = (.pointer (some ⟨rb, 0, none⟩)) := (H 2 rfl).2 11 (fun _ _ v _ => v = (.pointer (some ⟨rb, 0, none⟩))) rfl (by rw [hFs1]; rfl)
   exact DoesT_pure (r_load (v := (P6 pb 0)) e11 flat56 (((Ext.trans X0 X).keep hblk).cell rfl)) rfl
  refine qD (fun S s' w' hi hN X U V H => ?_) ?_
  ·replace X := X.mono (M' := none1) (fun y _ h => by
     obtain ⟨j, hj, h⟩ := h
     exact h.elim)
   have e12 : s' 12 = (.pointer (some ⟨pb, 0, none⟩)) := (H 3 rfl).2 12 (fun _ _ v _ => v = (.pointer (some ⟨pb, 0, none⟩))) rfl (by rw [hFs1]; rfl)
   exact DoesT_pure (r_nilCheck (a := ⟨pb, 0, none⟩) e12) rfl
  refine qD (fun S s' w' hi hN X U V H => ?_) ?_
  ·replace X := X.mono (M' := none1) (fun y _ h => by
     obtain ⟨j, hj, h⟩ := h
     exact h.elim)
   have e13 : s' 13 = (.pointer (some ⟨pb, 0, none⟩)) := (H 4 rfl).2 13 (fun _ _ v _ => v = (.pointer (some ⟨pb, 0, none⟩))) rfl (by rw [hFs1]; rfl)
   exact DoesT_pure (r_fieldAddr (b := pb) (o := 0) (o' := 0) e13 Try.underlying83 rfl siz81 rfl) rfl
  refine qD (fun S s' w' hi hN X U V H => ?_) ?_
  ·replace X := X.mono (M' := none1) (fun y _ h => by
     obtain ⟨j, hj, h⟩ := h
     exact h.elim)
   have e14 : s' 14 = (.pointer (some ⟨pb, 0, none⟩)) := (H 5 rfl).2 14 (fun _ _ v _ => v = (.pointer (some ⟨pb, 0, none⟩))) rfl (by rw [hFs1]; rfl)
   exact DoesT_pure (r_load (v := (.slice (some ⟨cb, 0, none⟩) n cc)) e14 flat81 (((X0.trans X).keep hPb).cell rfl)) rfl
  refine qD (fun S s' w' hi hN X U V H => ?_) ?_
  ·replace X := X.mono (M' := none1) (fun y _ h => by
     obtain ⟨j, hj, h⟩ := h
     exact h.elim)
   exact DoesT_pure (r_fieldAddr (b := bs) (o := 0) (o' := 0) (U 3 rfl) Try.underlying77 rfl siz3 rfl) rfl
  refine qD (fun S s' w' hi hN X U V H => ?_) ?_
  ·replace X := X.mono (M' := none1) (fun y _ h => by
     obtain ⟨j, hj, h⟩ := h
     exact h.elim)
   have e16 : s' 16 = (.pointer (some ⟨bs, 0, none⟩)) := (H 7 rfl).2 16 (fun _ _ v _ => v = (.pointer (some ⟨bs, 0, none⟩))) rfl (by rw [hFs1]; rfl)
   exact DoesT_pure (r_load (v := (I6 (a : Int))) e16 flat3 (((X0.trans X).keep Bs).cell rfl)) rfl
  refine qD (fun S s' w' hi hN X U V H => ?_) ?_
  ·replace X := X.mono (M' := none1) (fun y _ h => by
     obtain ⟨j, hj, h⟩ := h
     exact h.elim)
   have e15 : s' 15 = (.slice (some ⟨cb, 0, none⟩) n cc) := (H 6 rfl).2 15 (fun _ _ v _ => v = (.slice (some ⟨cb, 0, none⟩) n cc)) rfl (by rw [hFs1]; rfl)
   have e17 : s' 17 = (.int .i64 ((a : Nat) : Int)) := (H 8 rfl).2 17 (fun _ _ v _ => v = (.int .i64 ((a : Nat) : Int))) rfl (by rw [hFs1]; rfl)
   exact DoesT_pure (r_indexSlice (b := cb) (o := 0) (len := n) (cap := cc) (i := a) (o' := 0 + a * 8) e15 e17 rfl Try.underlying81 siz87 (by omega) (by omega)) rfl
  refine qD (fun S s' w' hi hN X U V H => ?_) ?_
  ·replace X := X.mono (M' := none1) (fun y _ h => by
     obtain ⟨j, hj, h⟩ := h
     exact h.elim)
   have e18 : s' 18 = (.pointer (some ⟨cb, 0 + a * 8, none⟩)) := (H 9 rfl).2 18 (fun _ _ v _ => v = (.pointer (some ⟨cb, 0 + a * 8, none⟩))) rfl (by rw [hFs1]; rfl)
   exact DoesT_pure (r_loadAgg (vs := [(I6 5), (I6 0), (I6 0), (I6 0), (I6 0), (.slice none 0 0), (P6 qb 0), (.bool ng)]) e18 agg87 siz87 rfl (hcl.ext (Ext.trans (Ns.ext) (Ext.trans X0 X)))) rfl
  refine DagStepsS.cons (StabS.chg (U := none1) (fun v w w' x h => alF_ext _ _ _ v w w' x h) (fun p y hp hw h => by
     exact h.elim)) (LocS.const) (fun S s' w' hi hN X U V H => Or.inl ⟨Guarded_none rfl, ?_⟩) ?_
  ·replace X := X.mono (M' := none1) (fun y _ h => by
     obtain ⟨j, hj, h⟩ := h
     exact h.elim)
   exact DoesT_alloc (c := #[(I6 0), (I6 0), (I6 0), (I6 0), (I6 0), (.slice none 0 0), (.pointer none), (.bool false)]) zer87 rfl (by have := X0.size; have := X.size; omega)
  refine DagStepsS.tail ?_
  exact DagStepsS.nil
 ·intro s' wd1 w1 X0 X1 U H
  replace X1 := X1.mono (M' := none1) (fun y _ h => by
    obtain ⟨j, hj, h⟩ := h
    exact h.elim)
  have e19 : s' 19 = (.agg #[(.int .i64 5), (.int .i64 0), (.int .i64 0), (.int .i64 0), (.int .i64 0), (.slice none 0 0), (.pointer (some ⟨qb, 0, none⟩)), (.bool ng)]) := H 10 rfl 19 (fun _ _ v _ => v = (.agg #[(.int .i64 5), (.int .i64 0), (.int .i64 0), (.int .i64 0), (.int .i64 0), (.slice none 0 0), (.pointer (some ⟨qb, 0, none⟩)), (.bool ng)])) rfl (by rw [hFs1]; rfl)
  obtain ⟨b5, e5, B5, g5⟩ := (show ((fun _ _ => alF 87 #[(.int .i64 0), (.int .i64 0), (.int .i64 0), (.int .i64 0), (.int .i64 0), (.slice none 0 0), (.pointer none), (.bool false)] ws.heap.size) : FctS) (allS [true, true, true, true, true, true, true, true, true, true, true, true, false]) s' (s' 5) w1 from H 11 rfl 5 (fun _ _ => alF 87 #[(.int .i64 0), (.int .i64 0), (.int .i64 0), (.int .i64 0), (.int .i64 0), (.slice none 0 0), (.pointer none), (.bool false)] ws.heap.size) rfl (by rw [hFs1]; rfl))
  obtain ⟨j1, rfl⟩ := Fits.out (σ := s') (l := [(0, (.pointer (some ⟨rb, 0, none⟩))), (3, (.pointer (some ⟨bs, 0, none⟩))), (19, (.agg #[(.int .i64 5), (.int .i64 0), (.int .i64 0), (.int .i64 0), (.int .i64 0), (.slice none 0 0), (.pointer (some ⟨qb, 0, none⟩)), (.bool ng)])), (5, (.pointer (some ⟨b5, 0, none⟩)))]) ⟨U 0 rfl, U 3 rfl, e19, e5, trivial⟩
  clear U H
  replace hblk := (X0.trans X1).keep hblk
  replace hbeg := (X0.trans X1).keep hbeg
  replace hmap := (X0.trans X1).keepM hmap
  replace hPb := (X0.trans X1).keep hPb
  replace Bs := (X0.trans X1).keep Bs
  replace X1 := X0.trans X1
  replace E := E.ext X1
  replace E1 := E1.ext X1
  refine s_storeAgg (b := b5) (o := 0) (c' := #[(I6 5), (I6 0), (I6 0), (I6 0), (I6 0), (.slice none 0 0), (P6 qb 0), (.bool ng)]) rfl rfl (by simp [Value.oneCell']) siz87 rfl B5 (by first | (simp; done) | exact Nat.le_of_ble_eq_true rfl) rfl ?_
  intro w2 S2
  replace hblk := S2.keep (by omega) hblk
  replace hbeg := S2.keep (by omega) hbeg
  replace hmap := S2.keepM (by omega) hmap
  replace hPb := S2.keep (by omega) hPb
  replace Bs := S2.keep (by omega) Bs
  replace E := S2.step E (by first | exact Or.inl (by omega) | exact Or.inr rfl | exact Or.inr (by assumption) | exact Or.inr (by simp) | exact Or.inr (by omega) | exact Or.inr (by dsimp only; omega))
  replace E1 := S2.step E1 (Or.inl (by omega))
  replace B5 := S2.blk
  refine WpL_nil (thn_normal (Wp_seq_region ?_))
  refine qV (r_loadAgg (vs := [(I6 (a : Int)), (I6 (p : Int)), (I6 (d : Int))]) rfl agg77 siz77 rfl (Bs.cells rfl)) ?_
  refine s_allocStore (v := (.agg #[(I6 (a : Int)), (I6 (p : Int)), (I6 (d : Int))])) (c := #[(I6 (a : Int)), (I6 (p : Int)), (I6 (d : Int))]) (n := 3) (by decide) zer77 rfl siz77 rfl rfl rfl (by simp [Value.oneCell']) ?_
  intro bn wn Nn
  have Fn := Nn.ge E
  have Fn_E1 := Nn.ge E1
  have On_rb := Nn.lt hblk
  have On_bb := Nn.lt hbeg
  have On_mb := Nn.ltM hmap
  have On_pb := Nn.lt hPb
  have On_bs := Nn.lt Bs
  have On_b5 := Nn.lt B5
  replace hblk := Nn.keep hblk
  replace hbeg := Nn.keep hbeg
  replace hmap := Nn.keepM hmap
  replace hPb := Nn.keep hPb
  replace Bs := Nn.keep Bs
  replace B5 := Nn.keep B5
  replace E := E.ext Nn.ext
  have Bn := Nn.blk
  replace E1 := E1.ext Nn.ext
  refine WpL_nil (Wp_seq_region ?_)
  refine qF bn 0 0 rfl Try.underlying77 rfl siz3 rfl ?_
  refine qV (r_load (v := (I6 (a : Int))) rfl flat3 (Bn.cell rfl)) ?_
  refine qV (r_add (k := .i64) (a := (a : Int)) (b := 1) (c := ((a + 1 : Nat) : Int)) rfl rfl ((wI64 (by omega)).trans (by omega))) ?_
  refine qF bn 0 0 rfl Try.underlying77 rfl siz3 rfl ?_
  refine s_store (b := bn) (o := 0) (c' := #[(I6 ((a + 1 : Nat) : Int)), (I6 (p : Int)), (I6 (d : Int))]) (v := (I6 ((a + 1 : Nat) : Int))) rfl rfl rfl siz3 Bn (by simp) rfl ?_
  intro w3 S3
  replace hblk := S3.keep (by omega) hblk
  replace hbeg := S3.keep (by omega) hbeg
  replace hmap := S3.keepM (by omega) hmap
  replace hPb := S3.keep (by omega) hPb
  replace Bs := S3.keep (by omega) Bs
  replace B5 := S3.keep (by omega) B5
  replace E := S3.step E (by first | exact Or.inl (by omega) | exact Or.inr rfl | exact Or.inr (by assumption) | exact Or.inr (by simp) | exact Or.inr (by omega) | exact Or.inr (by dsimp only; omega))
  replace E1 := S3.step E1 (Or.inl (by omega))
  replace Bn := S3.blk
  refine WpL_nil (Wp_seq (Wp_seq_region ?_))
  refine qF b5 0 0 rfl Try.underlying87 rfl siz3 rfl ?_
  refine qV (r_load (v := (I6 5)) rfl flat3 (B5.cell rfl)) ?_
  refine WpL_nil (Wp_block (Wp_seq_region ?_))
  refine qV (r_eql (k := .i64) (a := 5) (b := 0) rfl rfl) ?_
  refine qA (.bool false) rfl ?_
  refine WpL_nil ?_
  refine Wp_cond_false rfl ?_
  refine Wp_seq_region ?_
  refine qV (r_eql (k := .i64) (a := 5) (b := 1) rfl rfl) ?_
  refine qA (.bool false) rfl ?_
  refine WpL_nil ?_
  refine Wp_cond_false rfl ?_
  refine Wp_seq_region ?_
  refine qV (r_eql (k := .i64) (a := 5) (b := 2) rfl rfl) ?_
  refine qA (.bool false) rfl ?_
  refine WpL_nil ?_
  refine Wp_cond_false rfl ?_
  refine Wp_seq_region ?_
  refine qV (r_eql (k := .i64) (a := 5) (b := 3) rfl rfl) ?_
  refine qA (.bool false) rfl ?_
  refine WpL_nil ?_
  refine Wp_cond_false rfl ?_
  refine Wp_seq_region ?_
  refine qV (r_eql (k := .i64) (a := 5) (b := 4) rfl rfl) ?_
  refine qA (.bool false) rfl ?_
  refine WpL_nil ?_
  refine Wp_cond_false rfl ?_
  refine Wp_seq_region ?_
  refine qV (r_eql (k := .i64) (a := 5) (b := 5) rfl rfl) ?_
  refine qA (.bool true) rfl ?_
  refine WpL_nil ?_
  refine Wp_cond_true rfl ?_
  obtain ⟨z9, hz9⟩ : ∃ z, z = (w3).heap.size := ⟨_, rfl⟩
  have hz9b : b5 < z9 ∧ bn < z9 ∧ bs < z9 ∧ w0.heap.size ≤ z9 := ⟨by rw [hz9]; exact B5.lt, by rw [hz9]; exact Bn.lt, by rw [hz9]; exact Bs.lt, by rw [hz9]; exact E.size⟩
  have hpw := (hC.fl pb hFpb).1
  have hz_4 : w0.heap.size ≤ w3.heap.size := E.size
  have lz_4_rb : rb < w3.heap.size := hblk.lt
  have lz_4_bb : bb < w3.heap.size := hbeg.lt
  have lz_4_mb : mb < w3.heap.size := hmap.lt
  have lz_4_pb : pb < w3.heap.size := hPb.lt
  have lz_4_bs : bs < w3.heap.size := Bs.lt
  have lz_4_b5 : b5 < w3.heap.size := B5.lt
  have lz_4_bn : bn < w3.heap.size := Bn.lt
  refine Wp_seq ?_
  obtain ⟨Fs4, hFs4⟩ : ∃ Fs : List FctS, Fs = [(fun _ _ v _ => v = (P6 b5 6)), (fun _ _ v _ => v = (P6 qb 0)), (fun _ _ v _ => v = (P6 rb 0)), (fun _ _ v _ => v = (P6 rb 0)), (fun _ _ v _ => v = (P6 rb 1)), (fun _ _ v _ => v = (.slice ta tn tc)), (fun S _ v w => S 10 = false → (stF z9 qb ta tn tc r') v w), (fun _ _ v _ => v = (P6 bs 1)), (fun _ _ v _ => v = (I6 (p : Int))), (fun _ _ v _ => v = (.agg #[(I6 0), (I6 (p : Int)), (I6 0)])), (fun _ _ v _ => v = (.bool o'.isSome)), (fun _ _ v _ => v = (P6 b5 7)), (fun _ _ v _ => v = (.bool ng)), (fun _ _ v _ => v = (.bool (o'.isSome == ng)))] := ⟨_, rfl⟩
  refine Wp_dagS (MsL [(10, (fun q => z9 ≤ q))]) [true, true, true, true, true, true, true, true, true, true, true, true, true, true] [] [143, 144, 145, 146, 147, 148, 149, 150, 151, 152, 153, 154, 155, 156] [[], [0], [], [2], [3], [4], [1, 5], [], [7], [8], [6, 9], [], [11], [10, 12]] [[], [0], [], [2], [3, 2], [4, 3, 2], [1, 0, 5, 4, 3, 2], [], [7], [8, 7], [6, 1, 0, 5, 4, 3, 2, 9, 8, 7], [], [11], [10, 6, 1, 0, 5, 4, 3, 2, 9, 8, 7, 12, 11]] Fs4 hFs4 (by kernel_rfl) mixed (by kernel_rfl) (by kernel_rfl) (by kernel_rfl) (by kernel_rfl) ?_ ?_
  ·intro wd X0
   refine qD (fun S s' w' hi hN X U V H => ?_) ?_
   ·replace X := X.mono (M' := none1) (fun y _ h => by
      obtain ⟨j, hj, h⟩ := h
      rcases MsL_or h with ⟨rfl, h0⟩ | h0
      ·exact Bool.noConfusion (hj.symm.trans (hN 10 rfl))
      exact h0.elim)
    exact DoesT_pure (r_fieldAddr (b := b5) (o := 0) (o' := 6) (U 5 rfl) Try.underlying87 rfl siz56 rfl) rfl
   refine qD (fun S s' w' hi hN X U V H => ?_) ?_
   ·replace X := X.mono (M' := none1) (fun y _ h => by
      obtain ⟨j, hj, h⟩ := h
      rcases MsL_or h with ⟨rfl, h0⟩ | h0
      ·exact Bool.noConfusion (hj.symm.trans (hN 10 rfl))
      exact h0.elim)
    have e143 : s' 143 = (.pointer (some ⟨b5, 6, none⟩)) := (H 0 rfl).2 143 (fun _ _ v _ => v = (.pointer (some ⟨b5, 6, none⟩))) rfl (by rw [hFs4]; rfl)
    exact DoesT_pure (r_load (v := (P6 qb 0)) e143 flat56 (((X0.trans X).keep B5).cell rfl)) rfl
   refine qD (fun S s' w' hi hN X U V H => ?_) ?_
   ·replace X := X.mono (M' := none1) (fun y _ h => by
      obtain ⟨j, hj, h⟩ := h
      rcases MsL_or h with ⟨rfl, h0⟩ | h0
      ·exact Bool.noConfusion (hj.symm.trans (hN 10 rfl))
      exact h0.elim)
    exact DoesT_pure (r_move (v := (P6 rb 0)) (U 0 rfl)) rfl
   refine qD (fun S s' w' hi hN X U V H => ?_) ?_
   ·replace X := X.mono (M' := none1) (fun y _ h => by
      obtain ⟨j, hj, h⟩ := h
      rcases MsL_or h with ⟨rfl, h0⟩ | h0
      ·exact Bool.noConfusion (hj.symm.trans (hN 10 rfl))
      exact h0.elim)
    have e145 : s' 145 = (.pointer (some ⟨rb, 0, none⟩)) := (H 2 rfl).2 145 (fun _ _ v _ => v = (.pointer (some ⟨rb, 0, none⟩))) rfl (by rw [hFs4]; rfl)
    exact DoesT_pure (r_nilCheck (a := ⟨rb, 0, none⟩) e145) rfl
   refine qD (fun S s' w' hi hN X U V H => ?_) ?_
   ·replace X := X.mono (M' := none1) (fun y _ h => by
      obtain ⟨j, hj, h⟩ := h
      rcases MsL_or h with ⟨rfl, h0⟩ | h0
      ·exact Bool.noConfusion (hj.symm.trans (hN 10 rfl))
      exact h0.elim)
    have e146 : s' 146 = (.pointer (some ⟨rb, 0, none⟩)) := (H 3 rfl).2 146 (fun _ _ v _ => v = (.pointer (some ⟨rb, 0, none⟩))) rfl (by rw [hFs4]; rfl)
    exact DoesT_pure (r_fieldAddr (b := rb) (o := 0) (o' := 1) e146 Try.underlying80 rfl siz22 rfl) rfl
   refine qD (fun S s' w' hi hN X U V H => ?_) ?_
   ·replace X := X.mono (M' := none1) (fun y _ h => by
      obtain ⟨j, hj, h⟩ := h
      rcases MsL_or h with ⟨rfl, h0⟩ | h0
      ·exact Bool.noConfusion (hj.symm.trans (hN 10 rfl))
      exact h0.elim)
    have e147 : s' 147 = (.pointer (some ⟨rb, 1, none⟩)) := (H 4 rfl).2 147 (fun _ _ v _ => v = (.pointer (some ⟨rb, 1, none⟩))) rfl (by rw [hFs4]; rfl)
    exact DoesT_pure (r_load (v := (.slice ta tn tc)) e147 flat22 (((Ext.trans X0 X).keep hblk).cell rfl)) rfl
   refine DagStepsS.cons (StabS.till (U := none1) (stF_ext) (fun p y hp hw hpc h => by
      rcases MsL_or h with ⟨rfl, h0⟩ | h0
      ·exact absurd rfl hpc
      exact h0.elim)) (LocS.const) (fun S s' w' hi hN X U V H => Or.inl ⟨Guarded_none rfl, ?_⟩) ?_
   ·replace X := X.mono (M' := none1) (fun y _ h => by
      obtain ⟨j, hj, h⟩ := h
      rcases MsL_or h with ⟨rfl, h0⟩ | h0
      ·exact Bool.noConfusion (hj.symm.trans (hN 10 rfl))
      exact h0.elim)
    have e144 : s' 144 = (.pointer (some ⟨qb, 0, none⟩)) := (H 1 rfl).2 144 (fun _ _ v _ => v = (.pointer (some ⟨qb, 0, none⟩))) rfl (by rw [hFs4]; rfl)
    have e148 : s' 148 = (.slice ta tn tc) := (H 5 rfl).2 148 (fun _ _ v _ => v = (.slice ta tn tc)) rfl (by rw [hFs4]; rfl)
    exact DoesT_callE (r_callF (vs := [(P6 qb 0), (.slice ta tn tc)]) Try.func39 nm39 bd39 (lst2 e144 e148)) (start_t F _ qb r' ta tn tc z9 ((hsub r' ng rfl).chg (Ext.trans E1 (X0.trans X)) (fun _ _ f => f)) (by have := X0.size; have := X.size; omega) |>.mono (fun v w h => ⟨fun _ => h.1, h.2⟩))
   refine qD (fun S s' w' hi hN X U V H => ?_) ?_
   ·replace X := X.mono (M' := none1) (fun y _ h => by
      obtain ⟨j, hj, h⟩ := h
      rcases MsL_or h with ⟨rfl, h0⟩ | h0
      ·exact Bool.noConfusion (hj.symm.trans (hN 10 rfl))
      exact h0.elim)
    exact DoesT_pure (r_fieldAddr (b := bs) (o := 0) (o' := 1) (U 3 rfl) Try.underlying77 rfl siz3 rfl) rfl
   refine qD (fun S s' w' hi hN X U V H => ?_) ?_
   ·replace X := X.mono (M' := none1) (fun y _ h => by
      obtain ⟨j, hj, h⟩ := h
      rcases MsL_or h with ⟨rfl, h0⟩ | h0
      ·exact Bool.noConfusion (hj.symm.trans (hN 10 rfl))
      exact h0.elim)
    have e150 : s' 150 = (.pointer (some ⟨bs, 1, none⟩)) := (H 7 rfl).2 150 (fun _ _ v _ => v = (.pointer (some ⟨bs, 1, none⟩))) rfl (by rw [hFs4]; rfl)
    exact DoesT_pure (r_load (v := (I6 (p : Int))) e150 flat3 (((X0.trans X).keep Bs).cell rfl)) rfl
   refine qD (fun S s' w' hi hN X U V H => ?_) ?_
   ·replace X := X.mono (M' := none1) (fun y _ h => by
      obtain ⟨j, hj, h⟩ := h
      rcases MsL_or h with ⟨rfl, h0⟩ | h0
      ·exact Bool.noConfusion (hj.symm.trans (hN 10 rfl))
      exact h0.elim)
    have e151 : s' 151 = (.int .i64 ((p : Nat) : Int)) := (H 8 rfl).2 151 (fun _ _ v _ => v = (.int .i64 ((p : Nat) : Int))) rfl (by rw [hFs4]; rfl)
    exact DoesT_pure (r_build (ps := [(1, (I6 (p : Int)))]) (v := (.agg #[(I6 0), (I6 (p : Int)), (I6 0)])) (bld1 e151) (by kernel_rfl)) rfl
   refine qD (fun S s' w' hi hN X U V H => ?_) ?_
   ·replace X := X.mono (M' := none1) (fun y _ h => by
      obtain ⟨j, hj, h⟩ := h
      rcases MsL_or h with ⟨rfl, h0⟩ | h0
      ·exact Bool.noConfusion (hj.symm.trans hi)
      exact h0.elim)
    obtain ⟨r149, m149, b149, e149, n149, d149, A149⟩ := (show (stF z9 qb ta tn tc r') (s' 149) w' from ((H 6 rfl).2 149 (fun S _ v w => S 10 = false → (stF z9 qb ta tn tc r') v w) rfl (by rw [hFs4]; rfl)) hi)
    have e152 : s' 152 = (.agg #[(.int .i64 0), (.int .i64 ((p : Nat) : Int)), (.int .i64 0)]) := (H 9 rfl).2 152 (fun _ _ v _ => v = (.agg #[(.int .i64 0), (.int .i64 ((p : Nat) : Int)), (.int .i64 0)])) rfl (by rw [hFs4]; rfl)
    exact DoesT_enter (r_callF (vs := [(P6 r149 0), (.agg #[(I6 0), (I6 (p : Int)), (I6 0)])]) Try.func40 nm40 bd40 (lst2 e149 e152)) (look_run ih0 hC (hsub r' ng rfl) (Ext.trans E1 (X0.trans X)) (by omega) n149 d149 A149 hp |>.mono (fun u w h => ⟨h.1, h.2.mono (fun q _ h => .inl ⟨rfl, h⟩)⟩))
   refine qD (fun S s' w' hi hN X U V H => ?_) ?_
   ·replace X := X.mono (M' := (fun y => (fun q => z9 ≤ q) y)) (fun y _ h => by
      obtain ⟨j, hj, h⟩ := h
      rcases MsL_or h with ⟨rfl, h0⟩ | h0
      ·exact h0
      exact h0.elim)
    exact DoesT_pure (r_fieldAddr (b := b5) (o := 0) (o' := 7) (U 5 rfl) Try.underlying87 rfl siz4 rfl) rfl
   refine qD (fun S s' w' hi hN X U V H => ?_) ?_
   ·replace X := X.mono (M' := (fun y => (fun q => z9 ≤ q) y)) (fun y _ h => by
      obtain ⟨j, hj, h⟩ := h
      rcases MsL_or h with ⟨rfl, h0⟩ | h0
      ·exact h0
      exact h0.elim)
    have e154 : s' 154 = (.pointer (some ⟨b5, 7, none⟩)) := (H 11 rfl).2 154 (fun _ _ v _ => v = (.pointer (some ⟨b5, 7, none⟩))) rfl (by rw [hFs4]; rfl)
    exact DoesT_pure (r_load (v := (.bool ng)) e154 flat4 ((Chg.keep X (fun h => by dsimp only at h; omega) (X0.keep B5)).cell rfl)) rfl
   refine qD (fun S s' w' hi hN X U V H => ?_) ?_
   ·replace X := X.mono (M' := (fun y => (fun q => z9 ≤ q) y)) (fun y _ h => by
      obtain ⟨j, hj, h⟩ := h
      rcases MsL_or h with ⟨rfl, h0⟩ | h0
      ·exact h0
      exact h0.elim)
    have e153 : s' 153 = (.bool o'.isSome) := (H 10 rfl).2 153 (fun _ _ v _ => v = (.bool o'.isSome)) rfl (by rw [hFs4]; rfl)
    have e155 : s' 155 = (.bool ng) := (H 12 rfl).2 155 (fun _ _ v _ => v = (.bool ng)) rfl (by rw [hFs4]; rfl)
    exact DoesT_pure (r_eqlB (p := o'.isSome) (q := ng) Try.underlying4 e153 e155) rfl
   exact DagStepsS.nil
  ·intro s' wd4 w4 X0 X4 U H
   replace X4 := X4.mono (M' := (fun y => (fun q => z9 ≤ q) y)) (fun y _ h => by
     obtain ⟨j, hj, h⟩ := h
     rcases MsL_or h with ⟨rfl, h0⟩ | h0
     ·exact h0
     exact h0.elim)
   have e156 : s' 156 = (.bool (o'.isSome == ng)) := H 13 rfl 156 (fun _ _ v _ => v = (.bool (o'.isSome == ng))) rfl (by rw [hFs4]; rfl)
   obtain ⟨j4, rfl⟩ := Fits.out (σ := s') (l := [(0, (.pointer (some ⟨rb, 0, none⟩))), (6, (.pointer (some ⟨bn, 0, none⟩))), (156, (.bool (o'.isSome == ng)))]) ⟨U 0 rfl, U 6 rfl, e156, trivial⟩
   clear U H
   replace hblk := Chg.keep X4 (fun h => by dsimp only at h; omega) (X0.keep hblk)
   replace hbeg := Chg.keep X4 (fun h => by dsimp only at h; omega) (X0.keep hbeg)
   replace hmap := Chg.keepM X4 (fun h => by dsimp only at h; omega) (X0.keepM hmap)
   replace hPb := Chg.keep X4 (fun h => by dsimp only at h; omega) (X0.keep hPb)
   replace Bs := Chg.keep X4 (fun h => by dsimp only at h; omega) (X0.keep Bs)
   replace B5 := Chg.keep X4 (fun h => by dsimp only at h; omega) (X0.keep B5)
   replace Bn := Chg.keep X4 (fun h => by dsimp only at h; omega) (X0.keep Bn)
   replace E := (E.ext X0).step X4 (fun q hq h => by dsimp only at h; omega)
   refine WpL_nil (thn_normal ?_)
   have hc5 : ((o'.isSome == ng)) = true := by rw [ho]; simp
   refine Wp_cond_true (congrArg Value.bool hc5) ?_
   refine Wp_seq_region ?_
   refine qA (.bool false) rfl ?_
   refine WpL_nil (Wp_ret (inB_ret (thn_ret ?_)))
   refine fin_tmp Try.results60 (v := (.bool false)) rfl ?_
   exact ⟨⟨rfl, es, B, gt, G, ⟨hblk, hmap, hbeg, hgl⟩, rfl, hFl, fun _ => ⟨rfl, rfl, rfl⟩, fun q hq => by cases hq⟩, E⟩
set_option maxHeartbeats 4000000 in
theorem try_lookY {text : List Int} {code : List Ins} {a p d : Nat} {r' : Re} {ng : Bool} {B : List Int} {G : Grp} {o o' : Option (Grp × Nat)} (hc : code[a]? = some (.look r' ng)) (ih0 : RunC fRun text (progOf r') 0 p 0 (List.replicate (tempsOf r') 0) G0 o') (ho : o'.isSome ≠ ng) (ih : RunC fRun text code (a + 1) p d B G o) : RunC fTry text code a p d B G o := by
 intro r hcode F w0 rb pb mb bb ta tn tc es gf gt hC hA hFl hp
 subst hcode
 have hblk := hA.blk
 have hmap := hA.map
 have hbeg := hA.beg
 have hrl := hblk.lt
 have hml := hmap.lt
 have hbl := hbeg.lt
 have hd1 := hC.d1
 have hd2 := hC.d2
 have hd3 := hC.d3
 have hgl := hA.gl
 have htl := hC.tl
 obtain ⟨cb, cc, qb, n, row, hPb, hcl, hrow, hsub, han, hn1, hFpb⟩ := hC.prog.row hc
 have hpn := (hC.fl pb hFpb).2
 simp only [RowF] at hrow
 subst hrow
 refine Ret_of Try.func60 rfl Try.ntmps60 (Nat.le_of_ble_eq_true rfl) ?_
 have E : Chg (RMod rb mb bb) w0 w0 := Chg.refl _ _
 have E1 : Chg none1 w0 w0 := Chg.refl _ _
 refine Wp_seq_region ?_
 refine s_box (v := (.agg #[(I6 (a : Int)), (I6 (p : Int)), (I6 (d : Int))])) (c := #[(I6 (a : Int)), (I6 (p : Int)), (I6 (d : Int))]) (by decide) rfl rfl ?_
 intro bs ws Ns
 have Fs := Ns.ge E
 have Fs_E1 := Ns.ge E1
 have Os_rb := Ns.lt hblk
 have Os_bb := Ns.lt hbeg
 have Os_mb := Ns.ltM hmap
 have Os_pb := Ns.lt hPb
 replace hblk := Ns.keep hblk
 replace hbeg := Ns.keep hbeg
 replace hmap := Ns.keepM hmap
 replace hPb := Ns.keep hPb
 replace E := E.ext Ns.ext
 have Bs := Ns.blk
 replace E1 := E1.ext Ns.ext
 refine qA (.bool false) rfl ?_
 refine WpL_nil ?_
 obtain ⟨z0, hz0⟩ : ∃ z0, z0 = (ws).heap.size := ⟨_, rfl⟩
 have hz1 : w0.heap.size ≤ z0 := by rw [hz0]; exact E.size
 have hz2 : bs < z0 := by rw [hz0]; exact Bs.lt
 have hz_1 : w0.heap.size ≤ ws.heap.size := E.size
 have lz_1_rb : rb < ws.heap.size := hblk.lt
 have lz_1_bb : bb < ws.heap.size := hbeg.lt
 have lz_1_mb : mb < ws.heap.size := hmap.lt
 have lz_1_pb : pb < ws.heap.size := hPb.lt
 have lz_1_bs : bs < ws.heap.size := Bs.lt
 refine Wp_seq ?_
 obtain ⟨Fs1, hFs1⟩ : ∃ Fs : List FctS, Fs = [(fun _ _ v _ => v = (P6 rb 0)), (fun _ _ v _ => v = (P6 rb 0)), (fun _ _ v _ => v = (P6 rb 0)), (fun _ _ v _ => v = (P6 pb 0)), (fun _ _ v _ => v = (P6 pb 0)), (fun _ _ v _ => v = (P6 pb 0)), (fun _ _ v _ => v = (.slice (some ⟨cb, 0, none⟩) n cc)), (fun _ _ v _ => v = (P6 bs 0)), (fun _ _ v _ => v = (I6 (a : Int))), (fun _ _ v _ => v = (.pointer (some ⟨cb, 0 + a * 8, none⟩))), (fun _ _ v _ => v = (.agg #[(I6 5), (I6 0), (I6 0), (I6 0), (I6 0), (.slice none 0 0), (P6 qb 0), (.bool ng)])), (fun _ _ => alF 87 #[(I6 0), (I6 0), (I6 0), (I6 0), (I6 0), (.slice none 0 0), (.pointer none), (.bool false)] ws.heap.size), (fun _ _ v _ => v = undef)] := ⟨_, rfl⟩
 refine Wp_dagS (MsL []) [true, true, true, true, true, true, true, true, true, true, true, true, false] [12] [9, 10, 11, 12, 13, 14, 15, 16, 17, 18, 19, 5, 196] [[], [0], [1], [2], [3], [4], [5], [], [7], [6, 8], [9], [], []] [[], [0], [1, 0], [2, 1, 0], [3, 2, 1, 0], [4, 3, 2, 1, 0], [5, 4, 3, 2, 1, 0], [], [7], [6, 5, 4, 3, 2, 1, 0, 8, 7], [9, 6, 5, 4, 3, 2, 1, 0, 8, 7], [], []] Fs1 hFs1 (by kernel_rfl) mixed (by kernel_rfl) (by kernel_rfl) (by kernel_rfl) (by kernel_rfl) ?_ ?_
 ·intro wd X0
  refine qD (fun S s' w' hi hN X U V H => ?_) ?_
  ·replace X := X.mono (M' := none1) (fun y _ h => by
     obtain ⟨j, hj, h⟩ := h
     exact h.elim)
   exact DoesT_pure (r_move (v := (P6 rb 0)) (U 0 rfl)) rfl
  refine qD (fun S s' w' hi hN X U V H => ?_) ?_
  ·replace X := X.mono (M' := none1) (fun y _ h => by
     obtain ⟨j, hj, h⟩ := h
     exact h.elim)
   have e9 : s' 9 = (.pointer (some ⟨rb, 0, none⟩)) := (H 0 rfl).2 9 (fun _ _ v _ => v = (.pointer (some ⟨rb, 0, none⟩))) rfl (by rw [hFs1]; rfl)
   exact DoesT_pure (r_nilCheck (a := ⟨rb, 0, none⟩) e9) rfl
  refine qD (fun S s' w' hi hN X U V H => ?_) ?_
  ·replace X := X.mono (M' := none1) (fun y _ h => by
     obtain ⟨j, hj, h⟩ := h
     exact h.elim)
   have e10 : s' 10 = (.pointer (some ⟨rb, 0, none⟩)) := (H 1 rfl).2 10 (fun _ _ v _ => v = (.pointer (some ⟨rb, 0, none⟩))) rfl (by rw [hFs1]; rfl)
   exact DoesT_pure (r_fieldAddr (b := rb) (o := 0) (o' := 0) e10 Try.underlying80 rfl siz56 rfl) rfl
  refine qD (fun S s' w' hi hN X U V H => ?_) ?_
  ·replace X := X.mono (M' := none1) (fun y _ h => by
     obtain ⟨j, hj, h⟩ := h
     exact h.elim)
   have e11 : s' 11 = (.pointer (some ⟨rb, 0, none⟩)) := (H 2 rfl).2 11 (fun _ _ v _ => v = (.pointer (some ⟨rb, 0, none⟩))) rfl (by rw [hFs1]; rfl)
   exact DoesT_pure (r_load (v := (P6 pb 0)) e11 flat56 (((Ext.trans X0 X).keep hblk).cell rfl)) rfl
  refine qD (fun S s' w' hi hN X U V H => ?_) ?_
  ·replace X := X.mono (M' := none1) (fun y _ h => by
     obtain ⟨j, hj, h⟩ := h
     exact h.elim)
   have e12 : s' 12 = (.pointer (some ⟨pb, 0, none⟩)) := (H 3 rfl).2 12 (fun _ _ v _ => v = (.pointer (some ⟨pb, 0, none⟩))) rfl (by rw [hFs1]; rfl)
   exact DoesT_pure (r_nilCheck (a := ⟨pb, 0, none⟩) e12) rfl
  refine qD (fun S s' w' hi hN X U V H => ?_) ?_
  ·replace X := X.mono (M' := none1) (fun y _ h => by
     obtain ⟨j, hj, h⟩ := h
     exact h.elim)
   have e13 : s' 13 = (.pointer (some ⟨pb, 0, none⟩)) := (H 4 rfl).2 13 (fun _ _ v _ => v = (.pointer (some ⟨pb, 0, none⟩))) rfl (by rw [hFs1]; rfl)
   exact DoesT_pure (r_fieldAddr (b := pb) (o := 0) (o' := 0) e13 Try.underlying83 rfl siz81 rfl) rfl
  refine qD (fun S s' w' hi hN X U V H => ?_) ?_
  ·replace X := X.mono (M' := none1) (fun y _ h => by
     obtain ⟨j, hj, h⟩ := h
     exact h.elim)
   have e14 : s' 14 = (.pointer (some ⟨pb, 0, none⟩)) := (H 5 rfl).2 14 (fun _ _ v _ => v = (.pointer (some ⟨pb, 0, none⟩))) rfl (by rw [hFs1]; rfl)
   exact DoesT_pure (r_load (v := (.slice (some ⟨cb, 0, none⟩) n cc)) e14 flat81 (((X0.trans X).keep hPb).cell rfl)) rfl
  refine qD (fun S s' w' hi hN X U V H => ?_) ?_
  ·replace X := X.mono (M' := none1) (fun y _ h => by
     obtain ⟨j, hj, h⟩ := h
     exact h.elim)
   exact DoesT_pure (r_fieldAddr (b := bs) (o := 0) (o' := 0) (U 3 rfl) Try.underlying77 rfl siz3 rfl) rfl
  refine qD (fun S s' w' hi hN X U V H => ?_) ?_
  ·replace X := X.mono (M' := none1) (fun y _ h => by
     obtain ⟨j, hj, h⟩ := h
     exact h.elim)
   have e16 : s' 16 = (.pointer (some ⟨bs, 0, none⟩)) := (H 7 rfl).2 16 (fun _ _ v _ => v = (.pointer (some ⟨bs, 0, none⟩))) rfl (by rw [hFs1]; rfl)
   exact DoesT_pure (r_load (v := (I6 (a : Int))) e16 flat3 (((X0.trans X).keep Bs).cell rfl)) rfl
  refine qD (fun S s' w' hi hN X U V H => ?_) ?_
  ·replace X := X.mono (M' := none1) (fun y _ h => by
     obtain ⟨j, hj, h⟩ := h
     exact h.elim)
   have e15 : s' 15 = (.slice (some ⟨cb, 0, none⟩) n cc) := (H 6 rfl).2 15 (fun _ _ v _ => v = (.slice (some ⟨cb, 0, none⟩) n cc)) rfl (by rw [hFs1]; rfl)
   have e17 : s' 17 = (.int .i64 ((a : Nat) : Int)) := (H 8 rfl).2 17 (fun _ _ v _ => v = (.int .i64 ((a : Nat) : Int))) rfl (by rw [hFs1]; rfl)
   exact DoesT_pure (r_indexSlice (b := cb) (o := 0) (len := n) (cap := cc) (i := a) (o' := 0 + a * 8) e15 e17 rfl Try.underlying81 siz87 (by omega) (by omega)) rfl
  refine qD (fun S s' w' hi hN X U V H => ?_) ?_
  ·replace X := X.mono (M' := none1) (fun y _ h => by
     obtain ⟨j, hj, h⟩ := h
     exact h.elim)
   have e18 : s' 18 = (.pointer (some ⟨cb, 0 + a * 8, none⟩)) := (H 9 rfl).2 18 (fun _ _ v _ => v = (.pointer (some ⟨cb, 0 + a * 8, none⟩))) rfl (by rw [hFs1]; rfl)
   exact DoesT_pure (r_loadAgg (vs := [(I6 5), (I6 0), (I6 0), (I6 0), (I6 0), (.slice none 0 0), (P6 qb 0), (.bool ng)]) e18 agg87 siz87 rfl (hcl.ext (Ext.trans (Ns.ext) (Ext.trans X0 X)))) rfl
  refine DagStepsS.cons (StabS.chg (U := none1) (fun v w w' x h => alF_ext _ _ _ v w w' x h) (fun p y hp hw h => by
     exact h.elim)) (LocS.const) (fun S s' w' hi hN X U V H => Or.inl ⟨Guarded_none rfl, ?_⟩) ?_
  ·replace X := X.mono (M' := none1) (fun y _ h => by
     obtain ⟨j, hj, h⟩ := h
     exact h.elim)
   exact DoesT_alloc (c := #[(I6 0), (I6 0), (I6 0), (I6 0), (I6 0), (.slice none 0 0), (.pointer none), (.bool false)]) zer87 rfl (by have := X0.size; have := X.size; omega)
  refine DagStepsS.tail ?_
  exact DagStepsS.nil
 ·intro s' wd1 w1 X0 X1 U H
  replace X1 := X1.mono (M' := none1) (fun y _ h => by
    obtain ⟨j, hj, h⟩ := h
    exact h.elim)
  have e19 : s' 19 = (.agg #[(.int .i64 5), (.int .i64 0), (.int .i64 0), (.int .i64 0), (.int .i64 0), (.slice none 0 0), (.pointer (some ⟨qb, 0, none⟩)), (.bool ng)]) := H 10 rfl 19 (fun _ _ v _ => v = (.agg #[(.int .i64 5), (.int .i64 0), (.int .i64 0), (.int .i64 0), (.int .i64 0), (.slice none 0 0), (.pointer (some ⟨qb, 0, none⟩)), (.bool ng)])) rfl (by rw [hFs1]; rfl)
  obtain ⟨b5, e5, B5, g5⟩ := (show ((fun _ _ => alF 87 #[(.int .i64 0), (.int .i64 0), (.int .i64 0), (.int .i64 0), (.int .i64 0), (.slice none 0 0), (.pointer none), (.bool false)] ws.heap.size) : FctS) (allS [true, true, true, true, true, true, true, true, true, true, true, true, false]) s' (s' 5) w1 from H 11 rfl 5 (fun _ _ => alF 87 #[(.int .i64 0), (.int .i64 0), (.int .i64 0), (.int .i64 0), (.int .i64 0), (.slice none 0 0), (.pointer none), (.bool false)] ws.heap.size) rfl (by rw [hFs1]; rfl))
  obtain ⟨j1, rfl⟩ := Fits.out (σ := s') (l := [(0, (.pointer (some ⟨rb, 0, none⟩))), (3, (.pointer (some ⟨bs, 0, none⟩))), (19, (.agg #[(.int .i64 5), (.int .i64 0), (.int .i64 0), (.int .i64 0), (.int .i64 0), (.slice none 0 0), (.pointer (some ⟨qb, 0, none⟩)), (.bool ng)])), (5, (.pointer (some ⟨b5, 0, none⟩)))]) ⟨U 0 rfl, U 3 rfl, e19, e5, trivial⟩
  clear U H
  replace hblk := (X0.trans X1).keep hblk
  replace hbeg := (X0.trans X1).keep hbeg
  replace hmap := (X0.trans X1).keepM hmap
  replace hPb := (X0.trans X1).keep hPb
  replace Bs := (X0.trans X1).keep Bs
  replace X1 := X0.trans X1
  replace E := E.ext X1
  replace E1 := E1.ext X1
  refine s_storeAgg (b := b5) (o := 0) (c' := #[(I6 5), (I6 0), (I6 0), (I6 0), (I6 0), (.slice none 0 0), (P6 qb 0), (.bool ng)]) rfl rfl (by simp [Value.oneCell']) siz87 rfl B5 (by first | (simp; done) | exact Nat.le_of_ble_eq_true rfl) rfl ?_
  intro w2 S2
  replace hblk := S2.keep (by omega) hblk
  replace hbeg := S2.keep (by omega) hbeg
  replace hmap := S2.keepM (by omega) hmap
  replace hPb := S2.keep (by omega) hPb
  replace Bs := S2.keep (by omega) Bs
  replace E := S2.step E (by first | exact Or.inl (by omega) | exact Or.inr rfl | exact Or.inr (by assumption) | exact Or.inr (by simp) | exact Or.inr (by omega) | exact Or.inr (by dsimp only; omega))
  replace E1 := S2.step E1 (Or.inl (by omega))
  replace B5 := S2.blk
  refine WpL_nil (thn_normal (Wp_seq_region ?_))
  refine qV (r_loadAgg (vs := [(I6 (a : Int)), (I6 (p : Int)), (I6 (d : Int))]) rfl agg77 siz77 rfl (Bs.cells rfl)) ?_
  refine s_allocStore (v := (.agg #[(I6 (a : Int)), (I6 (p : Int)), (I6 (d : Int))])) (c := #[(I6 (a : Int)), (I6 (p : Int)), (I6 (d : Int))]) (n := 3) (by decide) zer77 rfl siz77 rfl rfl rfl (by simp [Value.oneCell']) ?_
  intro bn wn Nn
  have Fn := Nn.ge E
  have Fn_E1 := Nn.ge E1
  have On_rb := Nn.lt hblk
  have On_bb := Nn.lt hbeg
  have On_mb := Nn.ltM hmap
  have On_pb := Nn.lt hPb
  have On_bs := Nn.lt Bs
  have On_b5 := Nn.lt B5
  replace hblk := Nn.keep hblk
  replace hbeg := Nn.keep hbeg
  replace hmap := Nn.keepM hmap
  replace hPb := Nn.keep hPb
  replace Bs := Nn.keep Bs
  replace B5 := Nn.keep B5
  replace E := E.ext Nn.ext
  have Bn := Nn.blk
  replace E1 := E1.ext Nn.ext
  refine WpL_nil (Wp_seq_region ?_)
  refine qF bn 0 0 rfl Try.underlying77 rfl siz3 rfl ?_
  refine qV (r_load (v := (I6 (a : Int))) rfl flat3 (Bn.cell rfl)) ?_
  refine qV (r_add (k := .i64) (a := (a : Int)) (b := 1) (c := ((a + 1 : Nat) : Int)) rfl rfl ((wI64 (by omega)).trans (by omega))) ?_
  refine qF bn 0 0 rfl Try.underlying77 rfl siz3 rfl ?_
  refine s_store (b := bn) (o := 0) (c' := #[(I6 ((a + 1 : Nat) : Int)), (I6 (p : Int)), (I6 (d : Int))]) (v := (I6 ((a + 1 : Nat) : Int))) rfl rfl rfl siz3 Bn (by simp) rfl ?_
  intro w3 S3
  replace hblk := S3.keep (by omega) hblk
  replace hbeg := S3.keep (by omega) hbeg
  replace hmap := S3.keepM (by omega) hmap
  replace hPb := S3.keep (by omega) hPb
  replace Bs := S3.keep (by omega) Bs
  replace B5 := S3.keep (by omega) B5
  replace E := S3.step E (by first | exact Or.inl (by omega) | exact Or.inr rfl | exact Or.inr (by assumption) | exact Or.inr (by simp) | exact Or.inr (by omega) | exact Or.inr (by dsimp only; omega))
  replace E1 := S3.step E1 (Or.inl (by omega))
  replace Bn := S3.blk
  refine WpL_nil (Wp_seq (Wp_seq_region ?_))
  refine qF b5 0 0 rfl Try.underlying87 rfl siz3 rfl ?_
  refine qV (r_load (v := (I6 5)) rfl flat3 (B5.cell rfl)) ?_
  refine WpL_nil (Wp_block (Wp_seq_region ?_))
  refine qV (r_eql (k := .i64) (a := 5) (b := 0) rfl rfl) ?_
  refine qA (.bool false) rfl ?_
  refine WpL_nil ?_
  refine Wp_cond_false rfl ?_
  refine Wp_seq_region ?_
  refine qV (r_eql (k := .i64) (a := 5) (b := 1) rfl rfl) ?_
  refine qA (.bool false) rfl ?_
  refine WpL_nil ?_
  refine Wp_cond_false rfl ?_
  refine Wp_seq_region ?_
  refine qV (r_eql (k := .i64) (a := 5) (b := 2) rfl rfl) ?_
  refine qA (.bool false) rfl ?_
  refine WpL_nil ?_
  refine Wp_cond_false rfl ?_
  refine Wp_seq_region ?_
  refine qV (r_eql (k := .i64) (a := 5) (b := 3) rfl rfl) ?_
  refine qA (.bool false) rfl ?_
  refine WpL_nil ?_
  refine Wp_cond_false rfl ?_
  refine Wp_seq_region ?_
  refine qV (r_eql (k := .i64) (a := 5) (b := 4) rfl rfl) ?_
  refine qA (.bool false) rfl ?_
  refine WpL_nil ?_
  refine Wp_cond_false rfl ?_
  refine Wp_seq_region ?_
  refine qV (r_eql (k := .i64) (a := 5) (b := 5) rfl rfl) ?_
  refine qA (.bool true) rfl ?_
  refine WpL_nil ?_
  refine Wp_cond_true rfl ?_
  obtain ⟨z9, hz9⟩ : ∃ z, z = (w3).heap.size := ⟨_, rfl⟩
  have hz9b : b5 < z9 ∧ bn < z9 ∧ bs < z9 ∧ w0.heap.size ≤ z9 := ⟨by rw [hz9]; exact B5.lt, by rw [hz9]; exact Bn.lt, by rw [hz9]; exact Bs.lt, by rw [hz9]; exact E.size⟩
  have hpw := (hC.fl pb hFpb).1
  have hz_4 : w0.heap.size ≤ w3.heap.size := E.size
  have lz_4_rb : rb < w3.heap.size := hblk.lt
  have lz_4_bb : bb < w3.heap.size := hbeg.lt
  have lz_4_mb : mb < w3.heap.size := hmap.lt
  have lz_4_pb : pb < w3.heap.size := hPb.lt
  have lz_4_bs : bs < w3.heap.size := Bs.lt
  have lz_4_b5 : b5 < w3.heap.size := B5.lt
  have lz_4_bn : bn < w3.heap.size := Bn.lt
  refine Wp_seq ?_
  obtain ⟨Fs4, hFs4⟩ : ∃ Fs : List FctS, Fs = [(fun _ _ v _ => v = (P6 b5 6)), (fun _ _ v _ => v = (P6 qb 0)), (fun _ _ v _ => v = (P6 rb 0)), (fun _ _ v _ => v = (P6 rb 0)), (fun _ _ v _ => v = (P6 rb 1)), (fun _ _ v _ => v = (.slice ta tn tc)), (fun S _ v w => S 10 = false → (stF z9 qb ta tn tc r') v w), (fun _ _ v _ => v = (P6 bs 1)), (fun _ _ v _ => v = (I6 (p : Int))), (fun _ _ v _ => v = (.agg #[(I6 0), (I6 (p : Int)), (I6 0)])), (fun _ _ v _ => v = (.bool o'.isSome)), (fun _ _ v _ => v = (P6 b5 7)), (fun _ _ v _ => v = (.bool ng)), (fun _ _ v _ => v = (.bool (o'.isSome == ng)))] := ⟨_, rfl⟩
  refine Wp_dagS (MsL [(10, (fun q => z9 ≤ q))]) [true, true, true, true, true, true, true, true, true, true, true, true, true, true] [] [143, 144, 145, 146, 147, 148, 149, 150, 151, 152, 153, 154, 155, 156] [[], [0], [], [2], [3], [4], [1, 5], [], [7], [8], [6, 9], [], [11], [10, 12]] [[], [0], [], [2], [3, 2], [4, 3, 2], [1, 0, 5, 4, 3, 2], [], [7], [8, 7], [6, 1, 0, 5, 4, 3, 2, 9, 8, 7], [], [11], [10, 6, 1, 0, 5, 4, 3, 2, 9, 8, 7, 12, 11]] Fs4 hFs4 (by kernel_rfl) mixed (by kernel_rfl) (by kernel_rfl) (by kernel_rfl) (by kernel_rfl) ?_ ?_
  ·intro wd X0
   refine qD (fun S s' w' hi hN X U V H => ?_) ?_
   ·replace X := X.mono (M' := none1) (fun y _ h => by
      obtain ⟨j, hj, h⟩ := h
      rcases MsL_or h with ⟨rfl, h0⟩ | h0
      ·exact Bool.noConfusion (hj.symm.trans (hN 10 rfl))
      exact h0.elim)
    exact DoesT_pure (r_fieldAddr (b := b5) (o := 0) (o' := 6) (U 5 rfl) Try.underlying87 rfl siz56 rfl) rfl
   refine qD (fun S s' w' hi hN X U V H => ?_) ?_
   ·replace X := X.mono (M' := none1) (fun y _ h => by
      obtain ⟨j, hj, h⟩ := h
      rcases MsL_or h with ⟨rfl, h0⟩ | h0
      ·exact Bool.noConfusion (hj.symm.trans (hN 10 rfl))
      exact h0.elim)
    have e143 : s' 143 = (.pointer (some ⟨b5, 6, none⟩)) := (H 0 rfl).2 143 (fun _ _ v _ => v = (.pointer (some ⟨b5, 6, none⟩))) rfl (by rw [hFs4]; rfl)
    exact DoesT_pure (r_load (v := (P6 qb 0)) e143 flat56 (((X0.trans X).keep B5).cell rfl)) rfl
   refine qD (fun S s' w' hi hN X U V H => ?_) ?_
   ·replace X := X.mono (M' := none1) (fun y _ h => by
      obtain ⟨j, hj, h⟩ := h
      rcases MsL_or h with ⟨rfl, h0⟩ | h0
      ·exact Bool.noConfusion (hj.symm.trans (hN 10 rfl))
      exact h0.elim)
    exact DoesT_pure (r_move (v := (P6 rb 0)) (U 0 rfl)) rfl
   refine qD (fun S s' w' hi hN X U V H => ?_) ?_
   ·replace X := X.mono (M' := none1) (fun y _ h => by
      obtain ⟨j, hj, h⟩ := h
      rcases MsL_or h with ⟨rfl, h0⟩ | h0
      ·exact Bool.noConfusion (hj.symm.trans (hN 10 rfl))
      exact h0.elim)
    have e145 : s' 145 = (.pointer (some ⟨rb, 0, none⟩)) := (H 2 rfl).2 145 (fun _ _ v _ => v = (.pointer (some ⟨rb, 0, none⟩))) rfl (by rw [hFs4]; rfl)
    exact DoesT_pure (r_nilCheck (a := ⟨rb, 0, none⟩) e145) rfl
   refine qD (fun S s' w' hi hN X U V H => ?_) ?_
   ·replace X := X.mono (M' := none1) (fun y _ h => by
      obtain ⟨j, hj, h⟩ := h
      rcases MsL_or h with ⟨rfl, h0⟩ | h0
      ·exact Bool.noConfusion (hj.symm.trans (hN 10 rfl))
      exact h0.elim)
    have e146 : s' 146 = (.pointer (some ⟨rb, 0, none⟩)) := (H 3 rfl).2 146 (fun _ _ v _ => v = (.pointer (some ⟨rb, 0, none⟩))) rfl (by rw [hFs4]; rfl)
    exact DoesT_pure (r_fieldAddr (b := rb) (o := 0) (o' := 1) e146 Try.underlying80 rfl siz22 rfl) rfl
   refine qD (fun S s' w' hi hN X U V H => ?_) ?_
   ·replace X := X.mono (M' := none1) (fun y _ h => by
      obtain ⟨j, hj, h⟩ := h
      rcases MsL_or h with ⟨rfl, h0⟩ | h0
      ·exact Bool.noConfusion (hj.symm.trans (hN 10 rfl))
      exact h0.elim)
    have e147 : s' 147 = (.pointer (some ⟨rb, 1, none⟩)) := (H 4 rfl).2 147 (fun _ _ v _ => v = (.pointer (some ⟨rb, 1, none⟩))) rfl (by rw [hFs4]; rfl)
    exact DoesT_pure (r_load (v := (.slice ta tn tc)) e147 flat22 (((Ext.trans X0 X).keep hblk).cell rfl)) rfl
   refine DagStepsS.cons (StabS.till (U := none1) (stF_ext) (fun p y hp hw hpc h => by
      rcases MsL_or h with ⟨rfl, h0⟩ | h0
      ·exact absurd rfl hpc
      exact h0.elim)) (LocS.const) (fun S s' w' hi hN X U V H => Or.inl ⟨Guarded_none rfl, ?_⟩) ?_
   ·replace X := X.mono (M' := none1) (fun y _ h => by
      obtain ⟨j, hj, h⟩ := h
      rcases MsL_or h with ⟨rfl, h0⟩ | h0
      ·exact Bool.noConfusion (hj.symm.trans (hN 10 rfl))
      exact h0.elim)
    have e144 : s' 144 = (.pointer (some ⟨qb, 0, none⟩)) := (H 1 rfl).2 144 (fun _ _ v _ => v = (.pointer (some ⟨qb, 0, none⟩))) rfl (by rw [hFs4]; rfl)
    have e148 : s' 148 = (.slice ta tn tc) := (H 5 rfl).2 148 (fun _ _ v _ => v = (.slice ta tn tc)) rfl (by rw [hFs4]; rfl)
    exact DoesT_callE (r_callF (vs := [(P6 qb 0), (.slice ta tn tc)]) Try.func39 nm39 bd39 (lst2 e144 e148)) (start_t F _ qb r' ta tn tc z9 ((hsub r' ng rfl).chg (Ext.trans E1 (X0.trans X)) (fun _ _ f => f)) (by have := X0.size; have := X.size; omega) |>.mono (fun v w h => ⟨fun _ => h.1, h.2⟩))
   refine qD (fun S s' w' hi hN X U V H => ?_) ?_
   ·replace X := X.mono (M' := none1) (fun y _ h => by
      obtain ⟨j, hj, h⟩ := h
      rcases MsL_or h with ⟨rfl, h0⟩ | h0
      ·exact Bool.noConfusion (hj.symm.trans (hN 10 rfl))
      exact h0.elim)
    exact DoesT_pure (r_fieldAddr (b := bs) (o := 0) (o' := 1) (U 3 rfl) Try.underlying77 rfl siz3 rfl) rfl
   refine qD (fun S s' w' hi hN X U V H => ?_) ?_
   ·replace X := X.mono (M' := none1) (fun y _ h => by
      obtain ⟨j, hj, h⟩ := h
      rcases MsL_or h with ⟨rfl, h0⟩ | h0
      ·exact Bool.noConfusion (hj.symm.trans (hN 10 rfl))
      exact h0.elim)
    have e150 : s' 150 = (.pointer (some ⟨bs, 1, none⟩)) := (H 7 rfl).2 150 (fun _ _ v _ => v = (.pointer (some ⟨bs, 1, none⟩))) rfl (by rw [hFs4]; rfl)
    exact DoesT_pure (r_load (v := (I6 (p : Int))) e150 flat3 (((X0.trans X).keep Bs).cell rfl)) rfl
   refine qD (fun S s' w' hi hN X U V H => ?_) ?_
   ·replace X := X.mono (M' := none1) (fun y _ h => by
      obtain ⟨j, hj, h⟩ := h
      rcases MsL_or h with ⟨rfl, h0⟩ | h0
      ·exact Bool.noConfusion (hj.symm.trans (hN 10 rfl))
      exact h0.elim)
    have e151 : s' 151 = (.int .i64 ((p : Nat) : Int)) := (H 8 rfl).2 151 (fun _ _ v _ => v = (.int .i64 ((p : Nat) : Int))) rfl (by rw [hFs4]; rfl)
    exact DoesT_pure (r_build (ps := [(1, (I6 (p : Int)))]) (v := (.agg #[(I6 0), (I6 (p : Int)), (I6 0)])) (bld1 e151) (by kernel_rfl)) rfl
   refine qD (fun S s' w' hi hN X U V H => ?_) ?_
   ·replace X := X.mono (M' := none1) (fun y _ h => by
      obtain ⟨j, hj, h⟩ := h
      rcases MsL_or h with ⟨rfl, h0⟩ | h0
      ·exact Bool.noConfusion (hj.symm.trans hi)
      exact h0.elim)
    obtain ⟨r149, m149, b149, e149, n149, d149, A149⟩ := (show (stF z9 qb ta tn tc r') (s' 149) w' from ((H 6 rfl).2 149 (fun S _ v w => S 10 = false → (stF z9 qb ta tn tc r') v w) rfl (by rw [hFs4]; rfl)) hi)
    have e152 : s' 152 = (.agg #[(.int .i64 0), (.int .i64 ((p : Nat) : Int)), (.int .i64 0)]) := (H 9 rfl).2 152 (fun _ _ v _ => v = (.agg #[(.int .i64 0), (.int .i64 ((p : Nat) : Int)), (.int .i64 0)])) rfl (by rw [hFs4]; rfl)
    exact DoesT_enter (r_callF (vs := [(P6 r149 0), (.agg #[(I6 0), (I6 (p : Int)), (I6 0)])]) Try.func40 nm40 bd40 (lst2 e149 e152)) (look_run ih0 hC (hsub r' ng rfl) (Ext.trans E1 (X0.trans X)) (by omega) n149 d149 A149 hp |>.mono (fun u w h => ⟨h.1, h.2.mono (fun q _ h => .inl ⟨rfl, h⟩)⟩))
   refine qD (fun S s' w' hi hN X U V H => ?_) ?_
   ·replace X := X.mono (M' := (fun y => (fun q => z9 ≤ q) y)) (fun y _ h => by
      obtain ⟨j, hj, h⟩ := h
      rcases MsL_or h with ⟨rfl, h0⟩ | h0
      ·exact h0
      exact h0.elim)
    exact DoesT_pure (r_fieldAddr (b := b5) (o := 0) (o' := 7) (U 5 rfl) Try.underlying87 rfl siz4 rfl) rfl
   refine qD (fun S s' w' hi hN X U V H => ?_) ?_
   ·replace X := X.mono (M' := (fun y => (fun q => z9 ≤ q) y)) (fun y _ h => by
      obtain ⟨j, hj, h⟩ := h
      rcases MsL_or h with ⟨rfl, h0⟩ | h0
      ·exact h0
      exact h0.elim)
    have e154 : s' 154 = (.pointer (some ⟨b5, 7, none⟩)) := (H 11 rfl).2 154 (fun _ _ v _ => v = (.pointer (some ⟨b5, 7, none⟩))) rfl (by rw [hFs4]; rfl)
    exact DoesT_pure (r_load (v := (.bool ng)) e154 flat4 ((Chg.keep X (fun h => by dsimp only at h; omega) (X0.keep B5)).cell rfl)) rfl
   refine qD (fun S s' w' hi hN X U V H => ?_) ?_
   ·replace X := X.mono (M' := (fun y => (fun q => z9 ≤ q) y)) (fun y _ h => by
      obtain ⟨j, hj, h⟩ := h
      rcases MsL_or h with ⟨rfl, h0⟩ | h0
      ·exact h0
      exact h0.elim)
    have e153 : s' 153 = (.bool o'.isSome) := (H 10 rfl).2 153 (fun _ _ v _ => v = (.bool o'.isSome)) rfl (by rw [hFs4]; rfl)
    have e155 : s' 155 = (.bool ng) := (H 12 rfl).2 155 (fun _ _ v _ => v = (.bool ng)) rfl (by rw [hFs4]; rfl)
    exact DoesT_pure (r_eqlB (p := o'.isSome) (q := ng) Try.underlying4 e153 e155) rfl
   exact DagStepsS.nil
  ·intro s' wd4 w4 X0 X4 U H
   replace X4 := X4.mono (M' := (fun y => (fun q => z9 ≤ q) y)) (fun y _ h => by
     obtain ⟨j, hj, h⟩ := h
     rcases MsL_or h with ⟨rfl, h0⟩ | h0
     ·exact h0
     exact h0.elim)
   have e156 : s' 156 = (.bool (o'.isSome == ng)) := H 13 rfl 156 (fun _ _ v _ => v = (.bool (o'.isSome == ng))) rfl (by rw [hFs4]; rfl)
   obtain ⟨j4, rfl⟩ := Fits.out (σ := s') (l := [(0, (.pointer (some ⟨rb, 0, none⟩))), (6, (.pointer (some ⟨bn, 0, none⟩))), (156, (.bool (o'.isSome == ng)))]) ⟨U 0 rfl, U 6 rfl, e156, trivial⟩
   clear U H
   replace hblk := Chg.keep X4 (fun h => by dsimp only at h; omega) (X0.keep hblk)
   replace hbeg := Chg.keep X4 (fun h => by dsimp only at h; omega) (X0.keep hbeg)
   replace hmap := Chg.keepM X4 (fun h => by dsimp only at h; omega) (X0.keepM hmap)
   replace hPb := Chg.keep X4 (fun h => by dsimp only at h; omega) (X0.keep hPb)
   replace Bs := Chg.keep X4 (fun h => by dsimp only at h; omega) (X0.keep Bs)
   replace B5 := Chg.keep X4 (fun h => by dsimp only at h; omega) (X0.keep B5)
   replace Bn := Chg.keep X4 (fun h => by dsimp only at h; omega) (X0.keep Bn)
   replace E := (E.ext X0).step X4 (fun q hq h => by dsimp only at h; omega)
   refine WpL_nil (thn_normal ?_)
   have hc5 : ((o'.isSome == ng)) = false := by simpa using ho
   refine Wp_cond_false (congrArg Value.bool hc5) ?_
   refine Wp_skip (inB_normal (thn_normal (Wp_seq_region ?_)))
   refine qM (P6 rb 0) rfl ?_
   refine qV (r_loadAgg (vs := [(I6 ((a + 1 : Nat) : Int)), (I6 (p : Int)), (I6 (d : Int))]) rfl agg77 siz77 rfl (Bn.cells rfl)) ?_
   refine WpL_enter rfl rfl (by decide) (r_callF (vs := [(P6 rb 0), (.agg #[(I6 ((a + 1 : Nat) : Int)), (I6 (p : Int)), (I6 (d : Int))])]) Try.func40 nm40 bd40 rfl) (ih r rfl F _ rb pb mb bb _ _ _ es gf gt (hC.mod E) ⟨hblk, hmap, hbeg, hgl⟩ hFl hp) ?_
   rintro _ w19 ⟨⟨rfl, hO⟩, C19⟩
   replace hPb := C19.keep (fun h => by rcases h with h | h | h <;> omega) hPb
   replace Bs := C19.keep (fun h => by rcases h with h | h | h <;> omega) Bs
   replace B5 := C19.keep (fun h => by rcases h with h | h | h <;> omega) B5
   replace Bn := C19.keep (fun h => by rcases h with h | h | h <;> omega) Bn
   replace E := E.step C19 (fun _ _ h => h)
   refine qA (.bool o.isSome) rfl ?_
   refine WpL_nil (Wp_ret ?_)
   refine fin_tmp Try.results60 (v := (.bool o.isSome)) rfl ?_
   exact ⟨⟨rfl, hO⟩, E⟩
theorem run_all {text : List Int} {code : List Ins} {a p d : Nat} {B : List Int} {G : Grp} {o : Option (Grp × Nat)} (h : Res text code a p d B G o) : RunC fRun text code a p d B G o := by
  induction h with
  | setN hc hs => exact run_of_try (.setN hc hs) (try_setN hc hs)
  | setY hc hs h ih => exact run_of_try (.setY hc hs h) (try_set hc hs ih)
  | splitY hc h ih => exact run_of_try (.splitY hc h) (try_splitY hc ih)
  | splitN hc h h2 ih1 ih2 => exact run_of_try (.splitN hc h h2) (try_splitN hc ih1 ih2)
  | jump hc h ih => exact run_of_try (.jump hc h) (try_jump hc ih)
  | opn hc ht h ih => exact run_of_try (.opn hc ht h) (try_opn hc ht ih)
  | cls hc hn hx h ih => exact run_of_try (.cls hc hn hx h) (try_cls hc hn hx ih)
  | lookN hc h ho ih => exact run_of_try (.lookN hc h ho) (try_lookN hc ih ho)
  | lookY hc h ho h2 ih1 ih2 => exact run_of_try (.lookY hc h ho h2) (try_lookY hc ih1 ho ih2)
  | ent hc h1 h2 h ih => exact run_of_try (.ent hc h1 h2 h) (try_ent hc h1 h2 ih)
  | chkN hc hd => exact run_of_try (.chkN hc hd) (try_chkN hc hd)
  | chkY hc hd h ih => exact run_of_try (.chkY hc hd h) (try_chkY hc hd ih)
  | fin hc => exact run_of_try (.fin hc) (try_fin hc)
end Go.Proofs
namespace Go.Proofs
open Go Go.Eng Go.Sort
set_option maxRecDepth 100000
/-- The first match that begins at a position or behind it: where it begins and ends, and its groups. -/
def fromO (text : List Int) (r : Re) (i : Nat) : Option (Nat × Nat × Grp) :=
  if i ≤ text.length then
    match (crsOf text r i G0).head? with
    | some q => some (i, q.1, q.2)
    | none => fromO text r (i + 1)
  else none
termination_by text.length + 1 - i
abbrev fndV (f t : Int) (G : Grp) : List Value := [.int .i64 f, .int .i64 t] ++ grpV G
def fndO : Option (Nat × Nat × Grp) → List Value
  | some q => fndV (q.1 : Int) (q.2.1 : Int) q.2.2
  | none => fndV 0 0 (List.replicate 10 (0, 0))
theorem fndO_len {text : List Int} {r : Re} : ∀ (n i : Nat), text.length + 1 - i ≤ n → i ≤ text.length + 1 → (fndO (fromO text r i)).length = 22
  | 0, i, h, hi => by
    have : ¬ i ≤ text.length := by omega
    unfold fromO
    rw [if_neg this]
    rfl
  | n + 1, i, h, hi => by
    unfold fromO
    by_cases h1 : i ≤ text.length
    · rw [if_pos h1]
      cases hq : (crsOf text r i G0).head? with
      | none => exact fndO_len n (i + 1) (by omega) (by omega)
      | some q =>
        have := (crsOf_ok text r i G0 h1 q (List.mem_of_mem_head? (by rw [hq]; rfl))).2.2
        simp only [fndO, fndV, List.length_append, grpV_len, List.length_cons, List.length_nil, this]
        rfl
    · rw [if_neg h1]; rfl
theorem find_run {text : List Int} {r : Re} {i : Nat} {B : List Int} {o : Option Crs} (hres : Res text (progOf r) 0 i 0 B G0 (o.map fun q => (q.2, q.1))) (hil : i ≤ text.length) {F : Nat → Prop} {w0 : World} {rb pb mb bb : Nat} {ta : Option Addr} {tn tc : Nat} (hC : Ctx F w0 rb pb mb bb ta tn tc text r) (hA : RunAt w0 rb pb mb bb ta tn tc B [] 0 0 G0) :
  Ret Try.prog fRun #[.pointer (some ⟨rb, 0, none⟩), .agg #[iV 0, iV i, iV 0]] w0 fun v w => (v = .bool o.isSome ∧ ∃ es' B' gt' G', RunAt w rb pb mb bb ta tn tc B' es' 0 gt' G' ∧ ∀ q, o = some q → G' = q.2 ∧ gt' = (q.1 : Int)) ∧ Chg (RMod rb mb bb) w0 w := by
 refine (run_all hres r rfl F w0 rb pb mb bb ta tn tc [] 0 0 hC hA (Fails.nil _ _ _) hil).mono ?_
 rintro v w ⟨⟨rfl, es', B', gt', G', h1, _, _, _, h2⟩, c⟩
 refine ⟨⟨by cases o <;> rfl, es', B', gt', G', h1, fun q hq => ?_⟩, c⟩
 subst hq
 exact h2 (q.2, q.1) rfl
theorem fnd_cells {w : World} {rb pb mb bb : Nat} {ta : Option Addr} {tn tc n : Nat} {gf gt : Int} {G : Grp} {T : Nat} (h : Blk w rb (runV pb mb bb ta tn tc n gf gt G).toArray T) : CellsAt w rb 4 (fndV gf gt G) := by
 intro j u hu
 refine h.cell ?_
 rw [List.getElem?_toArray, ← hu]
 show ([Value.pointer (some ⟨pb, 0, none⟩), .slice ta tn tc, .map (some mb), .slice (some ⟨bb, 0, none⟩) n n] ++ fndV gf gt G)[4 + j]? = _
 rw [List.getElem?_append_right (by simp)]
 congr 1
 simp
theorem fnd_one (gf gt : Int) (G : Grp) : ∀ v ∈ fndV gf gt G, v.oneCell' = true := by
 intro v hv
 simp only [fndV, grpV, List.mem_append, List.mem_cons, List.not_mem_nil, or_false, List.mem_flatMap] at hv
 rcases hv with (rfl | rfl) | ⟨p, _, rfl | rfl⟩ <;> rfl
theorem fnd_len (gf gt : Int) {G : Grp} (h : G.length = 10) : (fndV gf gt G).length = 22 := by
 simp only [fndV, List.length_append, grpV_len, List.length_cons, List.length_nil, h]
set_option maxHeartbeats 4000000 in
theorem from_c (F : Nat → Prop) (w0 : World) (pb : Nat) (r : Re) (ta : Option Addr) (tn tc pos : Nat) (text : List Int) (hPr : ProgAt F w0 pb r) (hfl : ∀ y, F y → y < w0.heap.size) (htx : IntsAt w0 (.slice ta tn tc) text) (htf : text = [] ∨ ∃ b, (Value.slice ta tn tc).ownBlock = some b ∧ F b) (htl : text.length ≤ 1000)
  (hw : wfC r) (hsz : r.size < 1000) (hpos : pos ≤ text.length + 1) :
  Ret Try.prog 21 #[.pointer (some ⟨pb, 0, none⟩), .slice ta tn tc, iV pos] w0 fun v w => v = .tuple #[.agg (fndO (fromO text r pos)).toArray, .bool (fromO text r pos).isSome] ∧ Ext w0 w := by
 have hTn : tn = text.length := by have h9 := (SlAt.cap htx).2; rw [List.length_map] at h9; exact h9.symm
 have hfrag := frag_ok text r hw
 refine Ret_of Try.func21 rfl Try.ntmps21 (Nat.le_of_ble_eq_true rfl) ?_
 have E : Chg none1 w0 w0 := Chg.refl _ _
 refine Wp_seq_region ?_
 refine s_alloc (by decide) zer33 rfl ?_
 intro bf wf Nf
 have Ff := Nf.ge E
 replace E := E.ext Nf.ext
 have Bf := Nf.blk
 refine qA (.bool false) rfl ?_
 refine WpL_nil (Wp_seq (Wp_block ?_))
 refine Wp_loop (fun nn_ σ W1 => ∃ (i : Nat), (∃ jj_, σ = upds jj_ [(0, (P6 pb 0)), (1, (.slice ta tn tc)), (6, (P6 bf 0)), (2, (I6 (i : Int)))]) ∧ Chg none1 w0 W1 ∧ Blk W1 bf (Q22 0 0 0 0 0 0 0 0 0 0 0 0 0 0 0 0 0 0 0 0 0 0) 33 ∧ (i ≤ text.length + 1) ∧ (fromO text r pos = fromO text r i) ∧ nn_ = text.length + 1 - i) (n := text.length + 1 - pos) ?_ ?_
 ·exact ⟨pos, Fits.out ⟨rfl, rfl, rfl, rfl, trivial⟩, E, Bf, hpos, rfl, rfl⟩
 ·clear E Bf
  rintro _ _ W1 ⟨i, ⟨j1, rfl⟩, E, Bf, hi, hrel, rfl⟩
  refine Wp_seq (Wp_seq_region ?_)
  refine qM (I6 (i : Int)) rfl ?_
  refine qM (.slice ta tn tc) rfl ?_
  refine qV (r_lenSlice (ad := ta) (n := tn) (cap := tc) Try.underlying22 rfl) ?_
  refine qV (r_leq (k := .i64) (a := (i : Int)) (b := (tn : Int)) rfl rfl) ?_
  refine WpL_nil ?_
  refine Wp_cond (b := decide (((i : Int) : Int) ≤ (tn : Int))) rfl (fun hlt => ?_) (fun hlt => ?_)
  ·have khlt := hlt
   replace hlt := of_decide_eq_true hlt
   have hil : i ≤ text.length := by omega
   have hres := prog_res hfrag (by omega) (B := List.replicate (tempsOf r) 0) (G := G0) hil (by simp)
   obtain ⟨o, ho⟩ : ∃ o, o = (crsOf text r i G0).head? := ⟨_, rfl⟩
   rw [← ho] at hres
   obtain ⟨z, hz⟩ : ∃ z, z = (W1).heap.size := ⟨_, rfl⟩
   have hzf : bf < z ∧ w0.heap.size ≤ z := ⟨by rw [hz]; exact Bf.lt, by rw [hz]; exact E.size⟩
   refine Wp_skip (thn_normal (Wp_seq (Wp_block (Wp_seq_region ?_))))
   refine qM (P6 pb 0) rfl ?_
   refine qM (.slice ta tn tc) rfl ?_
   refine WpL_enter rfl rfl (by decide) (r_callF (vs := [(P6 pb 0), (.slice ta tn tc)]) Try.func39 nm39 bd39 rfl) (start_t F _ pb r ta tn tc z (hPr.chg E (fun _ _ f => f)) (by omega)) ?_
   rintro _ w19 ⟨⟨rb, mb, bb, rfl, hn, hd, hA⟩, X19⟩
   replace Bf := X19.keep Bf
   replace E := E.ext X19
   refine qA (P6 rb 0) rfl ?_
   refine WpL_nil (Wp_seq_region ?_)
   refine qM (P6 rb 0) rfl ?_
   refine qM (I6 (i : Int)) rfl ?_
   refine qV (r_build (ps := [(1, (I6 (i : Int)))]) (v := (.agg #[(I6 0), (I6 (i : Int)), (I6 0)])) rfl (by kernel_rfl)) ?_
   refine WpL_enter rfl rfl (by decide) (r_callF (vs := [(P6 rb 0), (.agg #[(I6 0), (I6 (i : Int)), (I6 0)])]) Try.func40 nm40 bd40 rfl) (find_run hres hil (F := F) ⟨hPr.chg E (fun _ _ f => f), (fun q hq => by have := hfl q hq; exact ⟨Nat.lt_of_lt_of_le this E.size, by omega, by omega, by omega⟩), htx.ext E, htf, htl, hd.1, hd.2.1, hd.2.2⟩ hA) ?_
   rintro _ w29 ⟨⟨rfl, es', B', gt', G', hA', hq'⟩, C29⟩
   replace Bf := C29.keep (fun h => by rcases h with h | h | h <;> omega) Bf
   replace E := E.step C29 (fun q hq hm => absurd hq (by rcases hm with h | h | h <;> omega))
   refine WpL_nil ?_
   refine Wp_cond (b := o.isSome) rfl (fun hs => ?_) (fun hs => ?_)
   ·have khs := hs
    obtain ⟨q, hq⟩ := Option.isSome_iff_exists.1 hs
    obtain ⟨rfl, rfl⟩ := hq' q hq
    have hblk := hA'.blk
    have hgl := hA'.gl
    have hfr : fromO text r pos = some (i, q.1, q.2) := by rw [hrel, fromO, if_pos hil, ← ho, hq]
    refine Wp_seq_region ?_
    refine qM (P6 rb 0) rfl ?_
    refine qM (I6 (i : Int)) rfl ?_
    refine qV (r_nilCheck (a := ⟨rb, 0, none⟩) rfl) ?_
    refine qF rb 0 4 rfl Try.underlying80 rfl siz33 rfl ?_
    refine qF rb 4 4 rfl Try.underlying33 rfl siz3 rfl ?_
    refine s_store (b := rb) (o := 4) (c' := (runV pb mb bb ta tn tc B'.length (i : Int) (q.1 : Int) q.2).toArray) (v := (I6 (i : Int))) rfl rfl rfl siz3 hblk (by simp [runV]) (rfl) ?_
    intro w4 S4
    replace Bf := S4.keep (by omega) Bf
    replace E := S4.step E (by first | exact Or.inl (by omega) | exact Or.inr rfl | exact Or.inr (by assumption) | exact Or.inr (by simp) | exact Or.inr (by omega) | exact Or.inr (by dsimp only; omega))
    replace hblk := S4.blk
    refine WpL_nil (Wp_seq_region ?_)
    refine qM (P6 rb 0) rfl ?_
    refine qV (r_nilCheck (a := ⟨rb, 0, none⟩) rfl) ?_
    refine qF rb 0 4 rfl Try.underlying80 rfl siz33 rfl ?_
    refine qV (r_loadAgg (vs := (fndV (i : Int) (q.1 : Int) q.2)) rfl agg33 siz33 (fnd_len _ _ hgl) (fnd_cells hblk)) ?_
    refine s_storeAgg (b := bf) (o := 0) (n := 22) (c' := (fndV (i : Int) (q.1 : Int) q.2).toArray) (vs := ((fndV (i : Int) (q.1 : Int) q.2).toArray)) rfl rfl (fnd_one _ _ _) siz33 (by show (fndV (i : Int) (q.1 : Int) q.2).toArray.size = 22; rw [List.size_toArray]; exact fnd_len (i : Int) (q.1 : Int) hgl) Bf (by simp) (by simp) ?_
    intro w5 S5
    replace hblk := S5.keep (by omega) hblk
    replace E := S5.step E (by first | exact Or.inl (by omega) | exact Or.inr rfl | exact Or.inr (by assumption) | exact Or.inr (by simp) | exact Or.inr (by omega) | exact Or.inr (by dsimp only; omega))
    replace Bf := S5.blk
    refine qA (.bool true) rfl ?_
    refine WpL_nil (Wp_ret (inB_ret (thn_ret (thn_ret (inB_ret (thn_ret ?_))))))
    refine fin_agg_tmp Try.results21 (vs := fndV (i : Int) (q.1 : Int) q.2) (b := bf) (v' := (.bool true)) rfl agg33 siz33 (fnd_len _ _ hgl) (Bf.cells (by simp)) rfl ?_
    exact ⟨by rw [hfr]; rfl, E⟩
   ·have khs := hs
    have hno : o = none := by simpa using hs
    refine Wp_skip (inB_normal (thn_normal (Wp_region ?_)))
    refine qM (I6 (i : Int)) rfl ?_
    refine qV (r_add (k := .i64) (a := (i : Int)) (b := 1) (c := (i : Int) + 1) rfl rfl (wI64 (by omega))) ?_
    refine qA (I6 ((i : Int) + 1)) rfl ?_
    refine WpL_nil (thn_normal ?_)
    exact ⟨text.length + 1 - (i + 1), by omega, i + 1, Fits.out ⟨rfl, rfl, rfl, rfl, trivial⟩, E, Bf, (by omega), (by rw [hrel, fromO, if_pos hil, ← ho, hno]), rfl⟩
  ·have khlt := hlt
   replace hlt := of_decide_eq_false hlt
   have hfr : fromO text r pos = none := by rw [hrel, fromO, if_neg (by omega)]
   refine Wp_exit (thn_exit (thn_exit (inB_here (thn_normal (Wp_seq_region ?_)))))
   refine qV (r_build (ps := []) (v := (.agg (Q22 0 0 0 0 0 0 0 0 0 0 0 0 0 0 0 0 0 0 0 0 0 0))) rfl (by kernel_rfl)) ?_
   refine s_storeAgg (b := bf) (o := 0) (c' := (Q22 0 0 0 0 0 0 0 0 0 0 0 0 0 0 0 0 0 0 0 0 0 0)) rfl rfl (by simp [Value.oneCell']) siz33 rfl Bf (by first | (simp; done) | exact Nat.le_of_ble_eq_true rfl) rfl ?_
   intro w6 S6
   replace E := S6.step E (by first | exact Or.inl (by omega) | exact Or.inr rfl | exact Or.inr (by assumption) | exact Or.inr (by simp) | exact Or.inr (by omega) | exact Or.inr (by dsimp only; omega))
   replace Bf := S6.blk
   refine qA (.bool false) rfl ?_
   refine WpL_nil (Wp_ret ?_)
   refine fin_agg_tmp Try.results21 (vs := [(.int .i64 0), (.int .i64 0), (.int .i64 0), (.int .i64 0), (.int .i64 0), (.int .i64 0), (.int .i64 0), (.int .i64 0), (.int .i64 0), (.int .i64 0), (.int .i64 0), (.int .i64 0), (.int .i64 0), (.int .i64 0), (.int .i64 0), (.int .i64 0), (.int .i64 0), (.int .i64 0), (.int .i64 0), (.int .i64 0), (.int .i64 0), (.int .i64 0)]) (b := bf) (v' := (.bool false)) rfl agg33 siz33 rfl (Bf.cells rfl) rfl ?_
   exact ⟨by rw [hfr]; rfl, E⟩
end Go.Proofs
namespace Go.Proofs
open Go Go.Eng Go.Sort
set_option maxRecDepth 100000
theorem walk_p (Q : Re → Prop) (hQ : ∀ t, Q t → ∀ (k : Nat) (x : Re), t.args[k]? = some x → Q x) {S : Type} (F : S → Re → Bool × S) (Inv : S → World → Prop) (M : Nat → Prop) (bd : Nat) (fv : Value) (wb : World)
    (hM : ∀ b, M b → wb.heap.size ≤ b ∧ b < bd) (hst : ∀ s w w', Inv s w → Ext w w' → Inv s w')
    (hf : ∀ s w t vs, bd ≤ w.heap.size → Ext wb w → Inv s w → ReAt wb t vs → Q t → CallV Try.prog fv #[.agg vs.toArray] w fun v w' => v = .bool (F s t).1 ∧ Chg M w w' ∧ Inv (F s t).2 w') :
    ∀ n t, t.size ≤ n → ∀ s w0 vs, bd ≤ w0.heap.size → Ext wb w0 → Inv s w0 → ReAt wb t vs → Q t →
      Ret Try.prog 46 #[.agg vs.toArray, fv] w0 fun v w' => v = .bool (walkF F t s).1 ∧ Chg M w0 w' ∧ Inv (walkF F t s).2 w' := by
  have toExt : ∀ {w w' : World}, Ext wb w → Chg M w w' → Ext wb w' := fun e c => Chg.step e c fun x hx hm => by have := (hM x hm).1; omega
  intro n
  induction n with
  | zero => intro t ht; have := t.size_pos; omega
  | succ n ih =>
  intro t hn s w0 vs hbd hE hI ht hq
  obtain ⟨sa, sc, aa, ac, rfl, hset, hlen, hargs⟩ := ht.form
  rw [walkF_eq]
  refine Ret_of Try.func46 rfl Try.ntmps46 (Nat.le_of_ble_eq_true rfl) ?_
  have E : Chg M w0 w0 := Chg.refl _ _
  refine Wp_seq_region ?_
  refine s_box (v := (.agg (R6 t sa sc aa ac))) (c := (R6 t sa sc aa ac)) (by decide) rfl rfl ?_
  intro b1 w1 N1
  have F1 := N1.ge E
  replace hI := hst _ _ _ hI N1.ext
  replace E := E.ext N1.ext
  have B1 := N1.blk
  refine qA (.bool false) rfl ?_
  refine WpL_nil (Wp_seq (Wp_seq_region ?_))
  refine qM fv rfl ?_
  refine qV (r_loadAgg (vs := [(I6 t.kind), (.slice sa t.set.length sc), (.slice aa t.args.length ac), (I6 t.mn), (I6 t.mx), (.bool t.neg)]) rfl agg27 siz27 rfl (B1.cells rfl)) ?_
  refine WpL_callV (fv := fv) (vs := [(.agg (R6 t sa sc aa ac))]) (by decide) rfl rfl (hf s _ t _ (by have := N1.size; omega) (hE.trans N1.ext) hI ht hq) ?_
  rintro _ w2 ⟨rfl, C2, hI⟩
  replace B1 := C2.keep (fun h => by have := (hM _ h).2; omega) B1
  replace E := E.trans C2
  have hE2 : Ext wb w2 := toExt hE E
  have z2 : bd ≤ w2.heap.size := by have := C2.size; have := N1.size; omega
  refine qV (r_not (b := (F s t).1) rfl) ?_
  refine WpL_nil ?_
  refine Wp_cond (b := !((F s t).1)) rfl (fun h => ?_) (fun h => ?_)
  · have kh := h
    replace h := by simpa using h
    refine Wp_seq_region ?_
    refine qA (.bool false) rfl ?_
    refine WpL_nil (Wp_ret (thn_ret ?_))
    refine fin_tmp Try.results46 (v := (.bool false)) rfl ?_
    exact ⟨by rw [if_neg (by simp [h])], E, by rw [if_neg (by simp [h])]; exact hI⟩
  · have kh := h
    replace h := by simpa using h
    rw [if_pos (by simpa using h)]
    generalize (F s t).2 = s1 at hI ⊢
    refine Wp_skip (thn_normal (Wp_seq (Wp_seq_region ?_)))
    refine qF b1 0 2 rfl Try.underlying27 rfl siz25 rfl ?_
    refine qV (r_load (v := (.slice aa t.args.length ac)) rfl flat25 (B1.cell rfl)) ?_
    refine qV (r_lenSlice (ad := aa) (n := t.args.length) (cap := ac) Try.underlying25 rfl) ?_
    refine qM (I6 0) rfl ?_
    refine WpL_nil (Wp_block ?_)
    refine Wp_loop (fun nn_ σ W3 => ∃ (k : Nat) (s' : S), (∃ jj_, σ = upds jj_ [(1, fv), (12, (.slice aa t.args.length ac)), (13, (I6 (t.args.length : Int))), (14, (I6 (k : Int)))]) ∧ Chg M w0 W3 ∧ Blk W3 b1 (R6 t sa sc aa ac) 27 ∧ (k ≤ t.args.length) ∧ (bd ≤ W3.heap.size) ∧ (Inv s' W3) ∧ (walkFs F t.args s1 = walkFs F (t.args.drop k) s') ∧ nn_ = t.args.length - k) (n := t.args.length - 0) ?_ ?_
    · exact ⟨0, s1, Fits.out ⟨rfl, rfl, rfl, rfl, trivial⟩, E, B1, Nat.zero_le _, z2, hI, rfl, rfl⟩
    · clear E B1
      rintro _ _ W3 ⟨k, s', ⟨j3, rfl⟩, E, B1, hk, hz, hI, hrel, rfl⟩
      refine Wp_seq_region ?_
      refine qV (r_lss (k := .i64) (a := (k : Int)) (b := (t.args.length : Int)) rfl rfl) ?_
      refine WpL_nil (Wp_seq ?_)
      refine Wp_cond (b := decide (((k : Int) : Int) < (t.args.length : Int))) rfl (fun hlt => ?_) (fun hlt => ?_)
      · have khlt := hlt
        replace hlt := of_decide_eq_true hlt
        have hlt' : k < t.args.length := by omega
        obtain ⟨x, hx⟩ : ∃ x, t.args[k]? = some x := ⟨_, List.getElem?_eq_getElem hlt'⟩
        obtain ⟨b, o, rfl, hres⟩ : ∃ b o, aa = some ⟨b, o, none⟩ ∧ ResAt wb b o t.args := by
          rcases hargs with h | h
          · rw [h] at hlt'; simp at hlt'
          · exact h
        obtain ⟨us, hus, hxt⟩ := hres.get hx
        have hEW : Ext wb _ := toExt hE E
        refine Wp_skip (thn_normal (Wp_seq (Wp_block (Wp_seq_region ?_))))
        refine qV (r_indexSlice (b := b) (o := o) (len := t.args.length) (cap := ac) (i := k) (o' := o + k * 6) rfl rfl rfl Try.underlying25 siz27 (by omega) (by omega)) ?_
        refine qV (r_loadAgg (vs := us) rfl agg27 siz27 hxt.len (hus.ext hEW)) ?_
        have hsz := Re.size_arg hx
        refine s_allocStore (v := (.agg us.toArray)) (c := us.toArray) (n := 6) (by decide) zer27 rfl siz27 rfl rfl (by simpa using hxt.len) (by simpa using ReAt.one hxt) ?_
        intro b5 w5 N5
        have F5 := N5.ge E
        have O5_b1 := N5.lt B1
        replace B1 := N5.keep B1
        replace hI := hst _ _ _ hI N5.ext
        replace E := E.ext N5.ext
        have B5 := N5.blk
        refine WpL_nil (Wp_seq_region ?_)
        refine qV (r_loadAgg (vs := us) rfl agg27 siz27 hxt.len (B5.cells (by simp))) ?_
        refine qM fv rfl ?_
        refine WpL_enter rfl rfl (by decide) (r_callF (vs := [(.agg us.toArray), fv]) Try.func46 nm46 bd46 rfl) (ih x (by omega) s' _ us (by have := N5.size; omega) (toExt hE E) hI hxt (hQ t hq k x hx)) ?_
        rintro _ w9 ⟨rfl, C9, hI⟩
        replace B1 := C9.keep (fun h => by have := (hM _ h).2; omega) B1
        replace B5 := C9.keep (fun h => by have := (hM _ h).2; omega) B5
        replace E := E.trans C9
        have hdr : t.args.drop k = x :: t.args.drop (k + 1) := by rw [List.drop_eq_getElem_cons hlt']; rw [List.getElem?_eq_getElem hlt'] at hx; cases hx; rfl
        rw [hdr, walkFs_cons] at hrel
        refine qV (r_not (b := (walkF F x s').1) rfl) ?_
        refine WpL_nil ?_
        refine Wp_cond (b := !((walkF F x s').1)) rfl (fun h2 => ?_) (fun h2 => ?_)
        · have kh2 := h2
          replace h2 := by simpa using h2
          refine Wp_seq_region ?_
          refine qA (.bool false) rfl ?_
          refine WpL_nil (Wp_ret (inB_ret (thn_ret (thn_ret (inB_ret (thn_ret ?_))))))
          refine fin_tmp Try.results46 (v := (.bool false)) rfl ?_
          exact ⟨by rw [hrel, if_neg (by simp [h2])], E, by rw [hrel, if_neg (by simp [h2])]; exact hI⟩
        · have kh2 := h2
          replace h2 := by simpa using h2
          rw [if_pos (by simpa using h2)] at hrel
          refine Wp_skip (inB_normal (thn_normal (Wp_region ?_)))
          refine qV (r_add (k := .i64) (a := (k : Int)) (b := 1) (c := (k : Int) + 1) rfl rfl (wI64 (by omega))) ?_
          refine qM (I6 ((k : Int) + 1)) rfl ?_
          refine WpL_nil (thn_normal ?_)
          exact ⟨t.args.length - (k + 1), by omega, k + 1, (walkF F x s').2, Fits.out ⟨rfl, rfl, rfl, rfl, trivial⟩, E, B1, (by omega), (by have := C9.size; have := N5.size; omega), hI, hrel, rfl⟩
      · have khlt := hlt
        replace hlt := of_decide_eq_false hlt
        have hkk : k = t.args.length := by omega
        rw [hkk, List.drop_length] at hrel
        refine Wp_exit (thn_exit (thn_exit (inB_here (thn_normal (Wp_seq_region ?_)))))
        refine qA (.bool true) rfl ?_
        refine WpL_nil (Wp_ret ?_)
        refine fin_tmp Try.results46 (v := (.bool true)) rfl ?_
        exact ⟨by rw [hrel]; rfl, E, by rw [hrel]; exact hI⟩
def lookF : Unit → Re → Bool × Unit := fun _ t => (!decide (t.kind = 10) || !usesB [9] (t.args.headD (.mk 0 [] [] 0 0 false)), ())
def lookB (t : Re) : Bool := !(walkF lookF t ()).1
theorem look1n_c (w0 : World) (t : Re) (vs : List Value) (ht : ReAt w0 t vs) (hk : t.kind ≠ 10) :
  Ret Try.prog 49 #[.agg vs.toArray] w0 fun r w => r = .bool true ∧ Ext w0 w := by
 obtain ⟨sa, sc, aa, ac, rfl, _, _, hargs⟩ := ht.form
 refine Ret_of Try.func49 rfl Try.ntmps49 (Nat.le_of_ble_eq_true rfl) ?_
 have E : Chg none1 w0 w0 := Chg.refl _ _
 refine Wp_seq_region ?_
 refine s_box (v := (.agg (R6 t sa sc aa ac))) (c := (R6 t sa sc aa ac)) (by decide) rfl rfl ?_
 intro b1 w1 N1
 have F1 := N1.ge E
 replace E := E.ext N1.ext
 have B1 := N1.blk
 refine qA (.bool false) rfl ?_
 refine WpL_nil (Wp_seq_region ?_)
 refine qF b1 0 0 rfl Try.underlying27 rfl siz3 rfl ?_
 refine qV (r_load (v := (I6 t.kind)) rfl flat3 (B1.cell rfl)) ?_
 refine qV (r_neq (k := .i64) (a := t.kind) (b := 10) rfl rfl) ?_
 refine qM (.bool (decide ((t.kind : Int) ≠ 10))) rfl ?_
 have hg2 : (decide ((t.kind : Int) ≠ 10)) = true := decide_eq_true hk
 refine WpL_guard_no (oj := _) rfl rfl (by decide) (v := .bool true) (congrArg Value.bool hg2) (Or.inl rfl) ?_
 refine WpL_guard_no (oj := _) rfl rfl (by decide) (v := .bool true) (congrArg Value.bool hg2) (Or.inl rfl) ?_
 refine WpL_guard_no (oj := _) rfl rfl (by decide) (v := .bool true) (congrArg Value.bool hg2) (Or.inl rfl) ?_
 refine WpL_guard_no (oj := _) rfl rfl (by decide) (v := .bool true) (congrArg Value.bool hg2) (Or.inl rfl) ?_
 refine WpL_guard_no (oj := _) rfl rfl (by decide) (v := .bool true) (congrArg Value.bool hg2) (Or.inl rfl) ?_
 refine WpL_guard_no (oj := _) rfl rfl (by decide) (v := .bool true) (congrArg Value.bool hg2) (Or.inl rfl) ?_
 refine WpL_guard_no (oj := _) rfl rfl (by decide) (v := .bool true) (congrArg Value.bool hg2) (Or.inl rfl) ?_
 refine qV (r_pick (b := decide ((t.kind : Int) ≠ 10)) (v := (.bool true)) rfl (by rw [hg2]; rfl)) ?_
 refine qA (.bool true) rfl ?_
 refine WpL_nil (Wp_ret ?_)
 refine fin_tmp Try.results49 (v := (.bool true)) rfl ?_
 exact ⟨rfl, E⟩
theorem look1y_c (w0 : World) (t y : Re) (vs : List Value) (ht : ReAt w0 t vs) (hk : t.kind = 10) (hy : t.args = [y]) :
  Ret Try.prog 49 #[.agg vs.toArray] w0 fun r w => r = .bool (!usesB [9] y) ∧ Ext w0 w := by
 obtain ⟨sa, sc, aa, ac, rfl, _, _, hargs⟩ := ht.form
 have hal : t.args.length = 1 := by rw [hy]; rfl
 rw [hy] at hargs
 obtain ⟨b, o, rfl, hres⟩ := res_block (i := 0) hargs (by simp)
 obtain ⟨us, hus, hyt⟩ := hres.get (i := 0) (t := y) rfl
 refine Ret_of Try.func49 rfl Try.ntmps49 (Nat.le_of_ble_eq_true rfl) ?_
 have E : Chg none1 w0 w0 := Chg.refl _ _
 refine Wp_seq_region ?_
 refine s_box (v := (.agg (R6 t sa sc (some ⟨b, o, none⟩) ac))) (c := (R6 t sa sc (some ⟨b, o, none⟩) ac)) (by decide) rfl rfl ?_
 intro b1 w1 N1
 have F1 := N1.ge E
 replace E := E.ext N1.ext
 have B1 := N1.blk
 refine qA (.bool false) rfl ?_
 refine WpL_nil (Wp_seq_region ?_)
 refine qF b1 0 0 rfl Try.underlying27 rfl siz3 rfl ?_
 refine qV (r_load (v := (I6 t.kind)) rfl flat3 (B1.cell rfl)) ?_
 refine qV (r_neq (k := .i64) (a := t.kind) (b := 10) rfl rfl) ?_
 refine qM (.bool (decide ((t.kind : Int) ≠ 10))) rfl ?_
 have hg2 : (decide ((t.kind : Int) ≠ 10)) = false := decide_eq_false (fun h => h hk)
 refine WpL_guard_yes (oj := _) rfl rfl (by decide) (congrArg Value.bool hg2) ?_
 refine qF b1 0 2 rfl Try.underlying27 rfl siz25 rfl ?_
 refine WpL_guard_yes (oj := _) rfl rfl (by decide) (congrArg Value.bool hg2) ?_
 refine qV (r_load (v := (.slice (some ⟨b, o, none⟩) t.args.length ac)) rfl flat25 (B1.cell rfl)) ?_
 refine WpL_guard_yes (oj := _) rfl rfl (by decide) (congrArg Value.bool hg2) ?_
 refine qV (r_indexSlice (b := b) (o := o) (len := t.args.length) (cap := ac) (i := 0) (o' := o + 0 * 6) rfl rfl rfl Try.underlying25 siz27 (by omega) (by omega)) ?_
 refine WpL_guard_yes (oj := _) rfl rfl (by decide) (congrArg Value.bool hg2) ?_
 refine qV (r_loadAgg (vs := us) rfl agg27 siz27 hyt.len (hus.ext E)) ?_
 refine WpL_guard_yes (oj := _) rfl rfl (by decide) (congrArg Value.bool hg2) ?_
 refine s_buildSlice (ps := [(0, (I6 9))]) (c := #[(I6 9)]) (by decide) rfl Try.underlying22 siz3 zer3 (by decide) (by decide) (by kernel_rfl) ?_
 intro bk wk Nk
 have Fk := Nk.ge E
 have Ok_b1 := Nk.lt B1
 replace B1 := Nk.keep B1
 replace E := E.ext Nk.ext
 have Bk := Nk.blk
 refine WpL_guard_yes (oj := _) rfl rfl (by decide) (congrArg Value.bool hg2) ?_
 refine WpL_enter rfl rfl (by decide) (r_callF (vs := [(.agg us.toArray), (.slice (some ⟨bk, 0, none⟩) 1 1)]) Try.func30 nm30 bd30 rfl) ((uses_c _ y us [9] _ (ReAt.ext E y hyt) (ints_of_blk [9] Bk (by simp) (by simp)))) ?_
 rintro _ w9 ⟨rfl, X9⟩
 replace B1 := X9.keep B1
 replace Bk := X9.keep Bk
 replace E := E.ext X9
 refine WpL_guard_yes (oj := _) rfl rfl (by decide) (congrArg Value.bool hg2) ?_
 refine qV (r_not (b := usesB [9] y) rfl) ?_
 refine qV (r_pick (b := decide ((t.kind : Int) ≠ 10)) (v := (.bool (!(usesB [9] y)))) rfl (by rw [hg2]; rfl)) ?_
 refine qA (.bool (!(usesB [9] y))) rfl ?_
 refine WpL_nil (Wp_ret ?_)
 refine fin_tmp Try.results49 (v := (.bool (!(usesB [9] y)))) rfl ?_
 exact ⟨rfl, E⟩
theorem look1_c (w0 : World) (t : Re) (vs : List Value) (ht : ReAt w0 t vs) (hok : okRe t) :
  Ret Try.prog 49 #[.agg vs.toArray] w0 fun r w => r = .bool (lookF () t).1 ∧ Ext w0 w := by
 by_cases hk : t.kind = 10
 ·obtain ⟨y, hy⟩ := List.length_eq_one_iff.1 ((node_inv (okRe_node hok)).one (by omega))
  refine (look1y_c w0 t y vs ht hk hy).mono fun r w h => ⟨by rw [h.1]; simp [lookF, hk, hy], h.2⟩
 ·exact (look1n_c w0 t vs ht hk).mono fun r w h => ⟨by rw [h.1]; simp [lookF, hk], h.2⟩
theorem look_c (w0 : World) (t : Re) (vs : List Value) (ht : ReAt w0 t vs) (hok : okRe t) :
  Ret Try.prog 31 #[.agg vs.toArray] w0 fun r w => r = .bool (lookB t) ∧ Ext w0 w := by
 have ht0 := ht
 obtain ⟨sa, sc, aa, ac, rfl, _, _, _⟩ := ht.form
 refine Ret_of Try.func31 rfl Try.ntmps31 (Nat.le_of_ble_eq_true rfl) ?_
 have E : Chg none1 w0 w0 := Chg.refl _ _
 refine Wp_seq_region ?_
 refine s_box (v := (.agg (R6 t sa sc aa ac))) (c := (R6 t sa sc aa ac)) (by decide) rfl rfl ?_
 intro bx wx Nx
 have Fx := Nx.ge E
 replace E := E.ext Nx.ext
 have Bx := Nx.blk
 refine qA (.bool false) rfl ?_
 refine WpL_nil (Wp_seq_region ?_)
 refine qV (r_loadAgg (vs := [(I6 t.kind), (.slice sa t.set.length sc), (.slice aa t.args.length ac), (I6 t.mn), (I6 t.mx), (.bool t.neg)]) rfl agg27 siz27 rfl (Bx.cells rfl)) ?_
 have hf : ∀ (s : Unit) (w : World) (t : Re) (vs : List Value), wx.heap.size ≤ w.heap.size → Ext wx w → True → ReAt wx t vs → okRe t → CallV Try.prog (.func (.func 49) #[] #[]) #[.agg vs.toArray] w fun r w' => r = .bool (lookF s t).1 ∧ Chg none1 w w' ∧ True := fun s w t vs _ hE _ ht hok => CallV.mk (first := #[]) (cap := #[]) Try.func49 nm49 bd49 rfl ((look1_c w t vs (ReAt.ext hE t ht) hok).mono fun r w' h => ⟨h.1, h.2, trivial⟩)
 refine WpL_enter rfl rfl (by decide) (r_callF (vs := [(.agg (R6 t sa sc aa ac)), (.func (.func 49) #[] #[])]) Try.func46 nm46 bd46 rfl) ((walk_p okRe (fun t h k x hx => okRes_get (okRe_args h) hx) lookF (fun _ _ => True) none1 wx.heap.size _ wx (fun b hb => hb.elim) (fun s w w' hI e => trivial) hf t.size t (Nat.le_refl _) () _ _ (Nat.le_refl _) (Ext.refl _) trivial (ReAt.ext E t ht0) hok).mono (R' := fun r w => r = .bool (walkF lookF t ()).1 ∧ Ext wx w) (fun r w h => ⟨h.1, h.2.1⟩)) ?_
 rintro _ w9 ⟨rfl, X9⟩
 replace Bx := X9.keep Bx
 replace E := E.ext X9
 refine qV (r_not (b := (walkF lookF t ()).1) rfl) ?_
 refine qA (.bool (!((walkF lookF t ()).1))) rfl ?_
 refine WpL_nil (Wp_ret ?_)
 refine fin_tmp Try.results31 (v := (.bool (!((walkF lookF t ()).1)))) rfl ?_
 exact ⟨rfl, E⟩
/-- What Check answers. -/
def capE (t : Re) : Int := if fitsE t 40 ≠ 0 then fitsE t 40 else if usesB [7, 8] t = true ∨ lookB t = true then 3 else if 400 ≤ lenQ t then 2 else 0
set_option maxHeartbeats 1000000 in
theorem ccheck_c (w0 : World) (t : Re) (vs : List Value) (ht : ReAt w0 t vs) :
  Ret Try.prog 14 #[.agg vs.toArray] w0 fun v w => v = .int .i64 (capE t) ∧ Ext w0 w := by
 have ht0 := ht
 obtain ⟨sa, sc, aa, ac, rfl, hset, hlen, hargs⟩ := ht.form
 refine Ret_of Try.func14 rfl Try.ntmps14 (Nat.le_of_ble_eq_true rfl) ?_
 have E : Chg none1 w0 w0 := Chg.refl _ _
 refine Wp_seq_region ?_
 refine s_box (v := (.agg (R6 t sa sc aa ac))) (c := (R6 t sa sc aa ac)) (by decide) rfl rfl ?_
 intro b1 w1 N1
 have F1 := N1.ge E
 replace E := E.ext N1.ext
 have B1 := N1.blk
 refine qA (I6 0) rfl ?_
 refine WpL_nil (Wp_seq (Wp_seq_region ?_))
 refine qV (r_loadAgg (vs := [(I6 t.kind), (.slice sa t.set.length sc), (.slice aa t.args.length ac), (I6 t.mn), (I6 t.mx), (.bool t.neg)]) rfl agg27 siz27 rfl (B1.cells rfl)) ?_
 refine WpL_enter rfl rfl (by decide) (r_callF (vs := [(.agg (R6 t sa sc aa ac))]) Try.func29 nm29 bd29 rfl) (check_c _ t _ (ReAt.ext E t ht0)) ?_
 rintro _ w9 ⟨rfl, X9⟩
 replace B1 := X9.keep B1
 replace E := E.ext X9
 refine qA (I6 (fitsE t 40)) rfl ?_
 refine WpL_nil (Wp_seq_region ?_)
 refine qM (I6 (fitsE t 40)) rfl ?_
 refine qV (r_neq (k := .i64) (a := fitsE t 40) (b := 0) rfl rfl) ?_
 refine WpL_nil ?_
 refine Wp_cond (b := decide ((fitsE t 40 : Int) ≠ 0)) rfl (fun h1 => ?_) (fun h1 => ?_)
 ·have kh1 := h1
  replace h1 := of_decide_eq_true h1
  refine Wp_seq_region ?_
  refine qM (I6 (fitsE t 40)) rfl ?_
  refine qA (I6 (fitsE t 40)) rfl ?_
  refine WpL_nil (Wp_ret (thn_ret ?_))
  refine fin_tmp Try.results14 (v := (.int .i64 (fitsE t 40))) rfl ?_
  exact ⟨int_eq (by unfold capE; rw [if_pos h1]), E⟩
 ·have kh1 := h1
  replace h1 := of_decide_eq_false h1
  obtain ⟨hok, hsz⟩ := (fitsE_zero (t := t) (most := 40) (by decide) (by decide)).1 (by omega)
  refine Wp_skip (thn_normal (Wp_seq (Wp_seq_region ?_)))
  refine qV (r_loadAgg (vs := [(I6 t.kind), (.slice sa t.set.length sc), (.slice aa t.args.length ac), (I6 t.mn), (I6 t.mx), (.bool t.neg)]) rfl agg27 siz27 rfl (B1.cells rfl)) ?_
  refine s_buildSlice (ps := [(0, (I6 7)), (1, (I6 8))]) (c := #[(I6 7), (I6 8)]) (by decide) rfl Try.underlying22 siz3 zer3 (by decide) (by decide) (by kernel_rfl) ?_
  intro bk wk Nk
  have Fk := Nk.ge E
  have Ok_b1 := Nk.lt B1
  replace B1 := Nk.keep B1
  replace E := E.ext Nk.ext
  have Bk := Nk.blk
  refine WpL_enter rfl rfl (by decide) (r_callF (vs := [(.agg (R6 t sa sc aa ac)), (.slice (some ⟨bk, 0, none⟩) 2 2)]) Try.func30 nm30 bd30 rfl) ((uses_c _ t _ [7, 8] _ (ReAt.ext E t ht0) (ints_of_blk [7, 8] Bk (by simp) (by simp)))) ?_
  rintro _ w19 ⟨rfl, X19⟩
  replace B1 := X19.keep B1
  replace Bk := X19.keep Bk
  replace E := E.ext X19
  refine qM (.bool (usesB [7, 8] t)) rfl ?_
  rcases Bool.eq_false_or_eq_true (usesB [7, 8] t) with hu | hu
  ·have khu := hu
   refine WpL_guard_no (oj := _) rfl rfl (by decide) (v := .bool true) (congrArg Value.bool hu) (Or.inl rfl) ?_
   refine WpL_guard_no (oj := _) rfl rfl (by decide) (v := .bool true) (congrArg Value.bool hu) (Or.inl rfl) ?_
   refine qV (r_pick (b := usesB [7, 8] t) (v := (.bool true)) rfl (by rw [hu]; rfl)) ?_
   refine WpL_nil ?_
   refine Wp_cond_true rfl ?_
   refine Wp_seq_region ?_
   refine qA (I6 3) rfl ?_
   refine WpL_nil (Wp_ret (thn_ret ?_))
   refine fin_tmp Try.results14 (v := (.int .i64 3)) rfl ?_
   exact ⟨int_eq (by unfold capE; rw [if_neg h1, if_pos (.inl hu)]), E⟩
  ·have khu := hu
   refine WpL_guard_yes (oj := _) rfl rfl (by decide) (congrArg Value.bool hu) ?_
   refine qV (r_loadAgg (vs := [(I6 t.kind), (.slice sa t.set.length sc), (.slice aa t.args.length ac), (I6 t.mn), (I6 t.mx), (.bool t.neg)]) rfl agg27 siz27 rfl (B1.cells rfl)) ?_
   refine WpL_guard_yes (oj := _) rfl rfl (by decide) (congrArg Value.bool hu) ?_
   refine WpL_enter rfl rfl (by decide) (r_callF (vs := [(.agg (R6 t sa sc aa ac))]) Try.func31 nm31 bd31 rfl) (look_c _ t _ (ReAt.ext E t ht0) hok) ?_
   rintro _ w29 ⟨rfl, X29⟩
   replace B1 := X29.keep B1
   replace Bk := X29.keep Bk
   replace E := E.ext X29
   refine qV (r_pick (b := usesB [7, 8] t) (v := (.bool (lookB t))) rfl (by rw [hu]; rfl)) ?_
   refine WpL_nil ?_
   refine Wp_cond (b := lookB t) rfl (fun hl => ?_) (fun hl => ?_)
   ·have khl := hl
    refine Wp_seq_region ?_
    refine qA (I6 3) rfl ?_
    refine WpL_nil (Wp_ret (thn_ret ?_))
    refine fin_tmp Try.results14 (v := (.int .i64 3)) rfl ?_
    exact ⟨int_eq (by unfold capE; rw [if_neg h1, if_pos (.inr hl)]), E⟩
   ·have khl := hl
    refine Wp_skip (thn_normal (Wp_seq (Wp_seq_region ?_)))
    refine qV (r_loadAgg (vs := [(I6 t.kind), (.slice sa t.set.length sc), (.slice aa t.args.length ac), (I6 t.mn), (I6 t.mx), (.bool t.neg)]) rfl agg27 siz27 rfl (B1.cells rfl)) ?_
    refine WpL_enter rfl rfl (by decide) (r_callF (vs := [(.agg (R6 t sa sc aa ac))]) Try.func32 nm32 bd32 rfl) (length_c _ t.size t (Nat.le_refl _) hok (by omega) _ _ (ReAt.ext E t ht0) (Ext.refl _)) ?_
    rintro _ w39 ⟨rfl, X39⟩
    replace B1 := X39.keep B1
    replace Bk := X39.keep Bk
    replace E := E.ext X39
    refine qV (r_geq (k := .i64) (a := ((lenQ t : Nat) : Int)) (b := 400) rfl rfl) ?_
    refine WpL_nil ?_
    refine Wp_cond (b := decide ((400 : Int) ≤ ((lenQ t : Nat) : Int))) rfl (fun hn => ?_) (fun hn => ?_)
    ·have khn := hn
     replace hn := of_decide_eq_true hn
     refine Wp_seq_region ?_
     refine qA (I6 2) rfl ?_
     refine WpL_nil (Wp_ret (thn_ret ?_))
     refine fin_tmp Try.results14 (v := (.int .i64 2)) rfl ?_
     exact ⟨int_eq (by unfold capE; rw [if_neg h1, if_neg (by simp [hu, hl]), if_pos (by omega)]), E⟩
    ·have khn := hn
     replace hn := of_decide_eq_false hn
     refine Wp_skip (thn_normal (Wp_seq_region ?_))
     refine qA (I6 0) rfl ?_
     refine WpL_nil (Wp_ret ?_)
     refine fin_tmp Try.results14 (v := (.int .i64 0)) rfl ?_
     exact ⟨int_eq (by unfold capE; rw [if_neg h1, if_neg (by simp [hu, hl]), if_neg (by omega)]), E⟩
/-- What check answers. -/
def capP (t : Re) (text : List Int) : Int := if capE t ≠ 0 then capE t else if 60 < text.length then 2 else if text.any (fun r => !runeB r) = true then 1 else 0
theorem capchk_c (w0 : World) (t : Re) (vs : List Value) (v : Value) (text : List Int) (ht : ReAt w0 t vs) (htx : IntsAt w0 v text) :
  Ret Try.prog 20 #[.agg vs.toArray, v] w0 fun r w => r = .int .i64 (capP t text) ∧ Ext w0 w := by
 have ht0 := ht
 obtain ⟨sa, sc, aa, ac, rfl, hset, hlen, hargs⟩ := ht.form
 obtain ⟨ta, tc, rfl⟩ := SlAt.form htx
 simp only [List.length_map] at htx ⊢
 refine Ret_of Try.func20 rfl Try.ntmps20 (Nat.le_of_ble_eq_true rfl) ?_
 have E : Chg none1 w0 w0 := Chg.refl _ _
 refine Wp_seq_region ?_
 refine s_box (v := (.agg (R6 t sa sc aa ac))) (c := (R6 t sa sc aa ac)) (by decide) rfl rfl ?_
 intro b1 w1 N1
 have F1 := N1.ge E
 replace E := E.ext N1.ext
 have B1 := N1.blk
 refine qA (I6 0) rfl ?_
 refine WpL_nil (Wp_seq (Wp_seq_region ?_))
 refine qV (r_loadAgg (vs := [(I6 t.kind), (.slice sa t.set.length sc), (.slice aa t.args.length ac), (I6 t.mn), (I6 t.mx), (.bool t.neg)]) rfl agg27 siz27 rfl (B1.cells rfl)) ?_
 refine WpL_enter rfl rfl (by decide) (r_callF (vs := [(.agg (R6 t sa sc aa ac))]) Try.func14 nm14 bd14 rfl) (ccheck_c _ t _ (ReAt.ext E t ht0)) ?_
 rintro _ w9 ⟨rfl, X9⟩
 replace B1 := X9.keep B1
 replace E := E.ext X9
 refine qA (I6 (capE t)) rfl ?_
 refine WpL_nil (Wp_seq_region ?_)
 refine qM (I6 (capE t)) rfl ?_
 refine qV (r_neq (k := .i64) (a := capE t) (b := 0) rfl rfl) ?_
 refine WpL_nil ?_
 refine Wp_cond (b := decide ((capE t : Int) ≠ 0)) rfl (fun h1 => ?_) (fun h1 => ?_)
 ·have kh1 := h1
  replace h1 := of_decide_eq_true h1
  refine Wp_seq_region ?_
  refine qM (I6 (capE t)) rfl ?_
  refine qA (I6 (capE t)) rfl ?_
  refine WpL_nil (Wp_ret (thn_ret ?_))
  refine fin_tmp Try.results20 (v := (.int .i64 (capE t))) rfl ?_
  exact ⟨int_eq (by unfold capP; rw [if_pos h1]), E⟩
 ·have kh1 := h1
  replace h1 := of_decide_eq_false h1
  refine Wp_skip (thn_normal (Wp_seq (Wp_seq_region ?_)))
  refine qM (.slice ta text.length tc) rfl ?_
  refine qV (r_lenSlice (ad := ta) (n := text.length) (cap := tc) Try.underlying22 rfl) ?_
  refine qV (r_gtr (k := .i64) (a := (text.length : Int)) (b := 60) rfl rfl) ?_
  refine WpL_nil ?_
  refine Wp_cond (b := decide ((60 : Int) < (text.length : Int))) rfl (fun h2 => ?_) (fun h2 => ?_)
  ·have kh2 := h2
   replace h2 := of_decide_eq_true h2
   refine Wp_seq_region ?_
   refine qA (I6 2) rfl ?_
   refine WpL_nil (Wp_ret (thn_ret ?_))
   refine fin_tmp Try.results20 (v := (.int .i64 2)) rfl ?_
   exact ⟨int_eq (by unfold capP; rw [if_neg h1, if_pos (by omega)]), E⟩
  ·have kh2 := h2
   replace h2 := of_decide_eq_false h2
   refine Wp_skip (thn_normal (Wp_seq (Wp_seq_region ?_)))
   refine qM (.slice ta text.length tc) rfl ?_
   refine WpL_enter rfl rfl (by decide) (r_callF (vs := [(.slice ta text.length tc)]) Try.func38 nm38 bd38 rfl) (runes_c _ _ text (htx.ext E)) ?_
   rintro _ w19 ⟨rfl, X19⟩
   replace B1 := X19.keep B1
   replace E := E.ext X19
   refine qV (r_not (b := !(text.any fun r => !runeB r)) rfl) ?_
   refine WpL_nil ?_
   refine Wp_cond (b := !(!(text.any fun r => !runeB r))) rfl (fun h3 => ?_) (fun h3 => ?_)
   ·have kh3 := h3
    replace h3 := by simpa using h3
    replace h3 := by simpa using h3
    refine Wp_seq_region ?_
    refine qA (I6 1) rfl ?_
    refine WpL_nil (Wp_ret (thn_ret ?_))
    refine fin_tmp Try.results20 (v := (.int .i64 1)) rfl ?_
    exact ⟨int_eq (by unfold capP; rw [if_neg h1, if_neg (by omega), if_pos (by simpa using h3)]), E⟩
   ·have kh3 := h3
    replace h3 := by simpa using h3
    replace h3 := by simpa using h3
    refine Wp_skip (thn_normal (Wp_seq_region ?_))
    refine qA (I6 0) rfl ?_
    refine WpL_nil (Wp_ret ?_)
    refine fin_tmp Try.results20 (v := (.int .i64 0)) rfl ?_
    exact ⟨int_eq (by unfold capP; rw [if_neg h1, if_neg (by omega), if_neg (by simpa using h3)]), E⟩
mutual
theorem wf_of : ∀ t : Re, okRe t → usesB [7, 8] t = false → wfC t
  | .mk k set args mn mx ng, hok, hu => by
    have hk := kinds_of hok hu
    have ha := wfs_of args (okRe_args hok) (by simp only [usesB, Bool.or_eq_false_iff] at hu; exact hu.2)
    simp only [wfC]
    unfold wfK
    rcases hk with h | h | h | h | ⟨h, h2⟩ | ⟨h, y, rfl⟩ | ⟨h, ⟨y, rfl⟩, _⟩ | ⟨h, ⟨y, rfl⟩, q, h3, h4⟩ | ⟨h, y, rfl⟩
    all_goals refine ⟨?_, fun h9 => ?_, ha⟩
    all_goals try simp only [List.length_cons, List.length_nil]
    all_goals omega
theorem wfs_of : ∀ ts : List Re, okRes ts → usesBs [7, 8] ts = false → wfCs ts
  | [], _, _ => by simp only [wfCs]
  | t :: ts, hok, hu => by
    simp only [okRes] at hok
    simp only [usesBs, Bool.or_eq_false_iff] at hu
    simp only [wfCs]
    exact ⟨wf_of t hok.1 hu.1, wfs_of ts hok.2 hu.2⟩
end
structure CapOk (t : Re) : Prop where
 ok : okRe t
 sz : t.size ≤ 40
 us : usesB [7, 8] t = false
 ln : lenQ t < 400
theorem capE_zero {t : Re} (h : capE t = 0) : CapOk t := by
 unfold capE at h
 by_cases h1 : fitsE t 40 = 0
 ·rw [if_neg (by omega)] at h
  obtain ⟨hok, hsz⟩ := (fitsE_zero (t := t) (most := 40) (by decide) (by decide)).1 h1
  split at h
  ·cases h
  ·rename_i hu
   split at h
   ·cases h
   ·exact ⟨hok, by omega, by cases hq : usesB [7, 8] t with | false => rfl | true => exact absurd (.inl hq) hu, by omega⟩
 ·rw [if_pos h1] at h; exact absurd h h1
theorem capP_zero {t : Re} {text : List Int} (h : capP t text = 0) : CapOk t ∧ text.length ≤ 60 := by
 unfold capP at h
 by_cases h1 : capE t = 0
 ·rw [if_neg (by omega)] at h
  split at h
  ·cases h
  ·exact ⟨capE_zero h1, by omega⟩
 ·rw [if_pos h1] at h; exact absurd h h1
end Go.Proofs
namespace Go.Proofs
open Go Go.Eng
set_option maxRecDepth 100000
theorem gspan_c (s : Int × Int) (w0 : World) :
  Ret Try.prog 69 #[.agg #[.int .i64 s.1, .int .i64 s.2]] w0 fun v w => v = .bool (validB s) ∧ Ext w0 w := by
 refine Ret_of Try.func69 rfl Try.ntmps69 (Nat.le_of_ble_eq_true rfl) ?_
 have E : Chg none1 w0 w0 := Chg.refl _ _
 refine Wp_seq_region ?_
 refine s_box (v := (.agg #[(I6 s.1), (I6 s.2)])) (c := #[(I6 s.1), (I6 s.2)]) (by decide) rfl rfl ?_
 intro b1 w1 N1
 have F1 := N1.ge E
 replace E := E.ext N1.ext
 have B1 := N1.blk
 refine qA (.bool false) rfl ?_
 refine WpL_nil (Wp_seq_region ?_)
 refine qF b1 0 0 rfl Try.underlying71 rfl siz3 rfl ?_
 refine qV (r_load (v := (I6 s.1)) rfl flat3 (B1.cell rfl)) ?_
 obtain ⟨e2, he2⟩ : ∃ e, (decide ((0 : Int) ≤ s.1)) = e := ⟨_, rfl⟩
 refine qV ((r_leq (k := .i64) (a := 0) (b := s.1) rfl rfl).trans (by rw [he2]; try rfl)) ?_
 refine qM (.bool e2) rfl ?_
 refine qG (.bool e2) (yU e2 (P6 b1 0)) (by cases e2 <;> first | exact gA | exact gB | exact .inl ⟨rfl, r_fieldAddr (b := b1) (o := 0) (o' := 0) rfl Try.underlying71 rfl siz3 rfl⟩) ?_
 refine qG (.bool e2) (yU e2 (I6 s.1)) (by cases e2 <;> first | exact gA | exact gB | exact .inl ⟨rfl, r_load (v := (I6 s.1)) rfl flat3 (B1.cell rfl)⟩) ?_
 refine qG (.bool e2) (yU e2 (P6 b1 1)) (by cases e2 <;> first | exact gA | exact gB | exact .inl ⟨rfl, r_fieldAddr (b := b1) (o := 0) (o' := 1) rfl Try.underlying71 rfl siz3 rfl⟩) ?_
 refine qG (.bool e2) (yU e2 (I6 s.2)) (by cases e2 <;> first | exact gA | exact gB | exact .inl ⟨rfl, r_load (v := (I6 s.2)) rfl flat3 (B1.cell rfl)⟩) ?_
 obtain ⟨e3, he3⟩ : ∃ e, (decide ((s.1 : Int) ≤ s.2)) = e := ⟨_, rfl⟩
 refine qG (.bool e2) (yU e2 (.bool e3)) (by cases e2 <;> first | exact gA | exact gB | exact .inl ⟨rfl, (r_leq (k := .i64) (a := s.1) (b := s.2) rfl rfl).trans (by rw [he3]; try rfl)⟩) ?_
 obtain ⟨e4, he4⟩ : ∃ e, (e2 && e3) = e := ⟨_, rfl⟩
 refine qV (r_pick (b := e2) (v := .bool e4) rfl (by rw [← he4]; cases e2 <;> rfl)) ?_
 refine qM (.bool e4) rfl ?_
 refine qG (.bool e4) (yU e4 (P6 b1 1)) (by cases e4 <;> first | exact gA | exact gB | exact .inl ⟨rfl, r_fieldAddr (b := b1) (o := 0) (o' := 1) rfl Try.underlying71 rfl siz3 rfl⟩) ?_
 refine qG (.bool e4) (yU e4 (I6 s.2)) (by cases e4 <;> first | exact gA | exact gB | exact .inl ⟨rfl, r_load (v := (I6 s.2)) rfl flat3 (B1.cell rfl)⟩) ?_
 obtain ⟨e5, he5⟩ : ∃ e, (decide ((s.2 : Int) ≤ 1114111)) = e := ⟨_, rfl⟩
 refine qG (.bool e4) (yU e4 (.bool e5)) (by cases e4 <;> first | exact gA | exact gB | exact .inl ⟨rfl, (r_leq (k := .i64) (a := s.2) (b := 1114111) rfl rfl).trans (by rw [he5]; try rfl)⟩) ?_
 obtain ⟨e6, he6⟩ : ∃ e, (e4 && e5) = e := ⟨_, rfl⟩
 refine qV (r_pick (b := e4) (v := .bool e6) rfl (by rw [← he6]; cases e4 <;> rfl)) ?_
 refine qA (.bool e6) rfl ?_
 refine WpL_nil ?_
 subst he6
 subst he5
 subst he4
 subst he3
 subst he2
 refine Wp_ret ?_
 refine fin_tmp Try.results69 (v := (.bool (((decide ((0 : Int) ≤ s.1)) && (decide ((s.1 : Int) ≤ s.2))) && (decide ((s.2 : Int) ≤ 1114111))))) rfl ?_
 exact ⟨bool_eq (by unfold validB; rfl), E⟩
theorem first_c : ∀ (l : List (Int × Int)), checkL none l = checkL (some (-2)) (l.drop 0)
  | [] => rfl
  | s :: r => by
    simp only [List.drop]
    rw [checkL_cons, checkL_cons]
    by_cases hv : validB s = false
    · rw [if_pos hv, if_pos hv]
    · rw [if_neg hv, if_neg hv]
      have : ¬ s.1 < 0 := by simp [validB] at hv; omega
      simp [this]
theorem cset_c (w0 : World) (v : Value) (l : List (Int × Int)) (hs : SpansAt w0 v l) :
  Ret Try.prog 63 #[v] w0 fun v w => v = .int .i64 (checkE l) ∧ Ext w0 w := by
 obtain ⟨a, c, rfl⟩ := SlAt.form hs
 simp only [List.length_map] at hs ⊢
 refine Ret_of Try.func63 rfl Try.ntmps63 (Nat.le_of_ble_eq_true rfl) ?_
 have E : Chg none1 w0 w0 := Chg.refl _ _
 refine Wp_seq_region ?_
 refine qA (I6 0) rfl ?_
 refine WpL_nil (Wp_seq (Wp_seq_region ?_))
 refine qM (.slice a l.length c) rfl ?_
 refine qV (r_lenSlice (ad := a) (n := l.length) (cap := c) Try.underlying24 rfl) ?_
 refine qV (r_gtr (k := .i64) (a := (l.length : Int)) (b := 16) rfl rfl) ?_
 refine WpL_nil ?_
 refine Wp_cond (b := decide ((16 : Int) < (l.length : Int))) rfl (fun h16 => ?_) (fun h16 => ?_)
 ·have kh16 := h16
  replace h16 := of_decide_eq_true h16
  refine Wp_seq_region ?_
  refine qA (I6 2) rfl ?_
  refine WpL_nil (Wp_ret (thn_ret ?_))
  refine fin_tmp Try.results63 (v := (.int .i64 2)) rfl ?_
  exact ⟨int_eq (by unfold checkE; rw [if_pos (by omega)]), E⟩
 ·have kh16 := h16
  replace h16 := of_decide_eq_false h16
  have hE16 : checkE l = checkL none l := by unfold checkE; rw [if_neg (by omega)]
  rw [hE16]
  refine Wp_skip (thn_normal (Wp_seq_region ?_))
  refine qA (I6 (-2)) rfl ?_
  refine WpL_nil (Wp_seq (Wp_seq_region ?_))
  refine qM (.slice a l.length c) rfl ?_
  refine qV (r_lenSlice (ad := a) (n := l.length) (cap := c) Try.underlying24 rfl) ?_
  refine qM (I6 0) rfl ?_
  refine WpL_nil (Wp_block ?_)
  refine Wp_loop (fun nn_ σ W2 => ∃ (k : Nat) (p : Int), (∃ jj_, σ = upds jj_ [(9, (.slice a l.length c)), (10, (I6 (l.length : Int))), (11, (I6 (k : Int))), (3, (I6 p))]) ∧ Chg none1 w0 W2 ∧ (k ≤ l.length) ∧ (-2 ≤ p ∧ p ≤ 1114111 ∧ (checkL none l = checkL (some p) (l.drop k))) ∧ nn_ = l.length - k) (n := l.length - 0) ?_ ?_
  ·exact ⟨0, -2, Fits.out ⟨rfl, rfl, rfl, rfl, trivial⟩, E, Nat.zero_le _, ⟨by omega, by omega, first_c l⟩, rfl⟩
  ·clear E
   rintro _ _ W2 ⟨k, p, ⟨j2, rfl⟩, E, hk, hp, rfl⟩
   refine Wp_seq_region ?_
   refine qV (r_lss (k := .i64) (a := (k : Int)) (b := (l.length : Int)) rfl rfl) ?_
   refine WpL_nil (Wp_seq ?_)
   refine Wp_cond (b := decide (((k : Int) : Int) < (l.length : Int))) rfl (fun hlt => ?_) (fun hlt => ?_)
   ·have khlt := hlt
    replace hlt := of_decide_eq_true hlt
    obtain ⟨s, hx⟩ := get_of_lt (l := l) (i := k) (by omega)
    obtain ⟨b, o, rfl, hcl⟩ := spans_cells hs (by omega)
    have hd := drop_cons hx
    refine Wp_skip (thn_normal (Wp_seq (Wp_block (Wp_seq_region ?_))))
    refine qV (r_indexSlice (b := b) (o := o) (len := l.length) (cap := c) (i := k) (o' := o + k * 2) rfl rfl rfl Try.underlying24 siz71 (by omega) (by omega)) ?_
    refine qV (r_loadAgg (vs := [(I6 s.1), (I6 s.2)]) rfl agg71 siz71 rfl ((hcl k s hx).ext E)) ?_
    refine s_allocStore (v := (.agg #[(I6 s.1), (I6 s.2)])) (c := #[(I6 s.1), (I6 s.2)]) (n := 2) (by decide) zer71 rfl siz71 rfl rfl rfl (by simp [Value.oneCell']) ?_
    intro b4 w4 N4
    have F4 := N4.ge E
    replace E := E.ext N4.ext
    have B4 := N4.blk
    refine WpL_nil (Wp_seq (Wp_seq_region ?_))
    refine qV (r_loadAgg (vs := [(I6 s.1), (I6 s.2)]) rfl agg71 siz71 rfl (B4.cells rfl)) ?_
    refine WpL_enter rfl rfl (by decide) (r_callF (vs := [(.agg #[(I6 s.1), (I6 s.2)])]) Try.func69 nm69 bd69 rfl) (gspan_c s _) ?_
    rintro _ w9 ⟨rfl, X9⟩
    replace B4 := X9.keep B4
    replace E := E.ext X9
    refine qV (r_not (b := validB s) rfl) ?_
    refine WpL_nil ?_
    refine Wp_cond (b := !(validB s)) rfl (fun hv => ?_) (fun hv => ?_)
    ·have khv := hv
     replace hv := by simpa using hv
     refine Wp_seq_region ?_
     refine qA (I6 1) rfl ?_
     refine WpL_nil (Wp_ret (thn_ret (inB_ret (thn_ret (thn_ret (inB_ret (thn_ret ?_)))))))
     refine fin_tmp Try.results63 (v := (.int .i64 1)) rfl ?_
     exact ⟨int_eq (by rw [hp.2.2, hd, checkL_cons, if_pos hv]), E⟩
    ·have khv := hv
     replace hv := by simpa using hv
     have hv2 : 0 ≤ s.1 ∧ s.1 ≤ s.2 ∧ s.2 ≤ 1114111 := by simp [validB] at hv; omega
     refine Wp_skip (thn_normal (Wp_seq (Wp_seq_region ?_)))
     refine qF b4 0 0 rfl Try.underlying71 rfl siz3 rfl ?_
     refine qV (r_load (v := (I6 s.1)) rfl flat3 (B4.cell rfl)) ?_
     refine qM (I6 p) rfl ?_
     refine qV (r_add (k := .i64) (a := p) (b := 2) (c := p + 2) rfl rfl (wI64 (by omega))) ?_
     refine qV (r_lss (k := .i64) (a := s.1) (b := p + 2) rfl rfl) ?_
     refine WpL_nil ?_
     refine Wp_cond (b := decide ((s.1 : Int) < p + 2)) rfl (fun ho => ?_) (fun ho => ?_)
     ·have kho := ho
      replace ho := of_decide_eq_true ho
      refine Wp_seq_region ?_
      refine qA (I6 3) rfl ?_
      refine WpL_nil (Wp_ret (thn_ret (inB_ret (thn_ret (thn_ret (inB_ret (thn_ret ?_)))))))
      refine fin_tmp Try.results63 (v := (.int .i64 3)) rfl ?_
      exact ⟨int_eq (by rw [hp.2.2, hd, checkL_cons, if_neg (by simp [hv]), if_pos (by simpa using ho)]), E⟩
     ·have kho := ho
      replace ho := of_decide_eq_false ho
      refine Wp_skip (thn_normal (Wp_region ?_))
      refine qF b4 0 1 rfl Try.underlying71 rfl siz3 rfl ?_
      refine qV (r_load (v := (I6 s.2)) rfl flat3 (B4.cell rfl)) ?_
      refine qA (I6 s.2) rfl ?_
      refine WpL_nil (inB_normal (thn_normal (Wp_region ?_)))
      refine qV (r_add (k := .i64) (a := (k : Int)) (b := 1) (c := (k : Int) + 1) rfl rfl (wI64 (by omega))) ?_
      refine qM (I6 ((k : Int) + 1)) rfl ?_
      refine WpL_nil (thn_normal ?_)
      exact ⟨l.length - (k + 1), by omega, k + 1, s.2, Fits.out ⟨rfl, rfl, rfl, rfl, trivial⟩, E, (by omega), ⟨by omega, by omega, by rw [hp.2.2, hd, checkL_cons, if_neg (by simp [hv]), if_neg (by simpa using ho)]⟩, rfl⟩
   ·have khlt := hlt
    replace hlt := of_decide_eq_false hlt
    have hkl : l.drop k = [] := List.drop_eq_nil_of_le (by omega)
    refine Wp_exit (thn_exit (thn_exit (inB_here (thn_normal (Wp_seq_region ?_)))))
    refine qA (I6 0) rfl ?_
    refine WpL_nil (Wp_ret ?_)
    refine fin_tmp Try.results63 (v := (.int .i64 0)) rfl ?_
    exact ⟨int_eq (by rw [hp.2.2, hkl]; rfl), E⟩
theorem inset_c (w0 : World) (v : Value) (l : List (Int × Int)) (r : Int) (hs : SpansAt w0 v l) :
  Ret Try.prog 50 #[v, .int .i64 r] w0 fun v w => v = .bool (inS l r) ∧ Ext w0 w := by
 obtain ⟨a, c, rfl⟩ := SlAt.form hs
 have hle : l.length ≤ 9223372036854775807 := by simpa using SlAt.le hs
 simp only [List.length_map] at hs ⊢
 refine Ret_of Try.func50 rfl Try.ntmps50 (Nat.le_of_ble_eq_true rfl) ?_
 have E : Chg none1 w0 w0 := Chg.refl _ _
 refine Wp_seq_region ?_
 refine qA (.bool false) rfl ?_
 refine WpL_nil (Wp_seq (Wp_seq_region ?_))
 refine qM (.slice a l.length c) rfl ?_
 refine qV (r_lenSlice (ad := a) (n := l.length) (cap := c) Try.underlying24 rfl) ?_
 refine qM (I6 0) rfl ?_
 refine WpL_nil (Wp_block ?_)
 refine Wp_loop (fun nn_ σ W1 => ∃ (k : Nat), (∃ jj_, σ = upds jj_ [(1, (I6 r)), (7, (.slice a l.length c)), (8, (I6 (l.length : Int))), (9, (I6 (k : Int)))]) ∧ Chg none1 w0 W1 ∧ (k ≤ l.length) ∧ (inS l r = inS (l.drop k) r) ∧ nn_ = l.length - k) (n := l.length - 0) ?_ ?_
 ·exact ⟨0, Fits.out ⟨rfl, rfl, rfl, rfl, trivial⟩, E, Nat.zero_le _, rfl, rfl⟩
 ·clear E
  rintro _ _ W1 ⟨k, ⟨j1, rfl⟩, E, hk, hp, rfl⟩
  refine Wp_seq_region ?_
  refine qV (r_lss (k := .i64) (a := (k : Int)) (b := (l.length : Int)) rfl rfl) ?_
  refine WpL_nil (Wp_seq ?_)
  refine Wp_cond (b := decide (((k : Int) : Int) < (l.length : Int))) rfl (fun hlt => ?_) (fun hlt => ?_)
  ·have khlt := hlt
   replace hlt := of_decide_eq_true hlt
   obtain ⟨s, hx⟩ := get_of_lt (l := l) (i := k) (by omega)
   obtain ⟨b, o, rfl, hcl⟩ := spans_cells hs (by omega)
   have hd := drop_cons hx
   refine Wp_skip (thn_normal (Wp_seq (Wp_block (Wp_seq_region ?_))))
   refine qV (r_indexSlice (b := b) (o := o) (len := l.length) (cap := c) (i := k) (o' := o + k * 2) rfl rfl rfl Try.underlying24 siz71 (by omega) (by omega)) ?_
   refine qV (r_loadAgg (vs := [(I6 s.1), (I6 s.2)]) rfl agg71 siz71 rfl ((hcl k s hx).ext E)) ?_
   refine s_allocStore (v := (.agg #[(I6 s.1), (I6 s.2)])) (c := #[(I6 s.1), (I6 s.2)]) (n := 2) (by decide) zer71 rfl siz71 rfl rfl rfl (by simp [Value.oneCell']) ?_
   intro b3 w3 N3
   have F3 := N3.ge E
   replace E := E.ext N3.ext
   have B3 := N3.blk
   refine WpL_nil (Wp_seq_region ?_)
   refine qF b3 0 0 rfl Try.underlying71 rfl siz3 rfl ?_
   refine qV (r_load (v := (I6 s.1)) rfl flat3 (B3.cell rfl)) ?_
   refine qM (I6 r) rfl ?_
   obtain ⟨e4, he4⟩ : ∃ e, (decide ((s.1 : Int) ≤ r)) = e := ⟨_, rfl⟩
   refine qV ((r_leq (k := .i64) (a := s.1) (b := r) rfl rfl).trans (by rw [he4]; try rfl)) ?_
   refine qM (.bool e4) rfl ?_
   refine qG (.bool e4) (yU e4 (I6 r)) (by cases e4 <;> first | exact gA | exact gB | exact .inl ⟨rfl, r_move (v := (I6 r)) rfl⟩) ?_
   refine qG (.bool e4) (yU e4 (P6 b3 1)) (by cases e4 <;> first | exact gA | exact gB | exact .inl ⟨rfl, r_fieldAddr (b := b3) (o := 0) (o' := 1) rfl Try.underlying71 rfl siz3 rfl⟩) ?_
   refine qG (.bool e4) (yU e4 (I6 s.2)) (by cases e4 <;> first | exact gA | exact gB | exact .inl ⟨rfl, r_load (v := (I6 s.2)) rfl flat3 (B3.cell rfl)⟩) ?_
   obtain ⟨e5, he5⟩ : ∃ e, (decide ((r : Int) ≤ s.2)) = e := ⟨_, rfl⟩
   refine qG (.bool e4) (yU e4 (.bool e5)) (by cases e4 <;> first | exact gA | exact gB | exact .inl ⟨rfl, (r_leq (k := .i64) (a := r) (b := s.2) rfl rfl).trans (by rw [he5]; try rfl)⟩) ?_
   obtain ⟨e6, he6⟩ : ∃ e, (e4 && e5) = e := ⟨_, rfl⟩
   refine qV (r_pick (b := e4) (v := .bool e6) rfl (by rw [← he6]; cases e4 <;> rfl)) ?_
   refine WpL_nil ?_
   subst he6
   subst he5
   subst he4
   refine Wp_cond (b := ((decide ((s.1 : Int) ≤ r)) && (decide ((r : Int) ≤ s.2)))) rfl (fun hv => ?_) (fun hv => ?_)
   ·have khv := hv
    refine Wp_seq_region ?_
    refine qA (.bool true) rfl ?_
    refine WpL_nil (Wp_ret (inB_ret (thn_ret (thn_ret (inB_ret (thn_ret ?_))))))
    refine fin_tmp Try.results50 (v := (.bool true)) rfl ?_
    exact ⟨bool_eq (by rw [hp, hd]; unfold inS; rw [List.any_cons, hv]; rfl), E⟩
   ·have khv := hv
    refine Wp_skip (inB_normal (thn_normal (Wp_region ?_)))
    refine qV (r_add (k := .i64) (a := (k : Int)) (b := 1) (c := (k : Int) + 1) rfl rfl (wI64 (by omega))) ?_
    refine qM (I6 ((k : Int) + 1)) rfl ?_
    refine WpL_nil (thn_normal ?_)
    exact ⟨l.length - (k + 1), by omega, k + 1, Fits.out ⟨rfl, rfl, rfl, rfl, trivial⟩, E, (by omega), (by rw [hp, hd]; unfold inS; rw [List.any_cons, hv]; rfl), rfl⟩
  ·have khlt := hlt
   replace hlt := of_decide_eq_false hlt
   have hkl : l.drop k = [] := List.drop_eq_nil_of_le (by omega)
   refine Wp_exit (thn_exit (thn_exit (inB_here (thn_normal (Wp_seq_region ?_)))))
   refine qA (.bool false) rfl ?_
   refine WpL_nil (Wp_ret ?_)
   refine fin_tmp Try.results50 (v := (.bool false)) rfl ?_
   exact ⟨bool_eq (by rw [hp, hkl]; rfl), E⟩
end Go.Proofs
