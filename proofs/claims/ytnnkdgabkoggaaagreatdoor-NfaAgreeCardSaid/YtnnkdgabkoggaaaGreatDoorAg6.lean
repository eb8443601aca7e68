/- Contracts and plain lemmas, part 6. -/
import Derived.Tactics
import Derived.Deep.Quiet
import Derived.Laws.AppendOwn
import Derived.KernelRfl
import Derived.Laws.Entries
import Derived.Laws.Build
import Derived.Below
import Derived.RowKit3
import Derived.StillTail
import Derived.Sort.Grow
import Derived.Deep.Draws
import Derived.Test.YtnnkdgabkoggaaaGreatDoorChecked
import Derived.Laws.StructEq
import Derived.MapKept
import Derived.Laws.BytesArg
import Derived.Defers
import Derived.Recover
import Derived.Shelf.SlSortCmp.WholeK
import Derived.Shelf.Sort.Plain
import Derived.Shelf.Slices.CompactI
import Derived.Test.YtnnkdgabkoggaaaGreatDoorProg
import Derived.Shelf.Small.Bits
import Derived.DeepKeys3
import Derived.Test.YtnnkdgabkoggaaaGreatDoorAg5
set_option maxHeartbeats 16000000
set_option maxRecDepth 100000
namespace Go.Proofs
open Go Go.Eng Go.Sort
def edO (a b : Ed) : Int := orL [cmpI a.1 b.1,cmpI a.2.1 b.2.1,cmpL cmpSp a.2.2 b.2.2]
theorem sy_ed (a b : Ed) : Sy (edO a b) (edO b a) := by
 simp only [edO,orL_cons,orL_nil]
 exact (sy_cmp _ _).lex ((sy_cmp _ _).lex ((sy_list sy_sp _ _).lex sy_zero))
theorem tr_ed (a b c : Ed) : Tr3 (edO a b) (edO b c) (edO a c) := by
 simp only [edO,orL_cons,orL_nil]
 exact (tr_cmp _ _ _).lex ((tr_cmp _ _ _).lex ((tr_list tr_sp _ _ _).lex tr_zero))
def ints3F (a b c : Int) : Fct := fun v w => ∃ bb,v = .slice (some ⟨bb,0,none⟩) 3 3 ∧ IntsAt w v [a,b,c]
theorem ints3F_ext (a b c : Int) : Stable (ints3F a b c) := by
 rintro v w w' x ⟨bb,h1,h2⟩
 exact ⟨bb,h1,h2.ext x⟩
theorem Does_ints3 {N : Nat} {σ : Env} {w : World} {dst : Option Tmp} {ty : TypeId} {pos : String} {af : Array Edge} {g : Option (Nat × Bool)} {x1 x2 x3 : Operand} {a b c : Int} (h1 : ev σ x1 = .int .i64 a) (h2 : ev σ x2 = .int .i64 b) (h3 : ev σ x3 = .int .i64 c) :
  Does Tryz.prog N ⟨dst,.buildSlice 22 3 #[(0,x1),(1,x2),(2,x3)],ty,pos,af,g⟩ (ints3F a b c) σ w := by
 have hn := New.mk' w #[.int .i64 a,.int .i64 b,.int .i64 c] 3
 refine Does_val (run_buildSlice (parts := [(0,x1),(1,x2),(2,x3)]) (ps := [(0,.int .i64 a),(1,.int .i64 b),(2,.int .i64 c)]) (by simp only [List.map,h1,h2,h3]) Tryz.underlying22 siz3 zer3 (by decide) (by decide) (by kernel_rfl)) hn.ext ?_
 exact ⟨_,rfl,ints_of_blk [a,b,c] hn.blk (by simp) (by simp)⟩
theorem edges2_c (w0 : World) (x y : Ed) (ua ua2 : Option Addr) (uc uc2 : Nat) (h1 : SpansAt w0 (.slice ua x.2.2.length uc) x.2.2) (h2 : SpansAt w0 (.slice ua2 y.2.2.length uc2) y.2.2) :
  Ret Tryz.prog 40 #[.agg #[.int .i64 x.1,.int .i64 x.2.1,.slice ua x.2.2.length uc],.agg #[.int .i64 y.1,.int .i64 y.2.1,.slice ua2 y.2.2.length uc2]] w0 fun v w => v = .int .i64 (edO x y) ∧ Ext w0 w := by
 refine Ret_of Tryz.func40 rfl Tryz.ntmps40 (Nat.le_of_ble_eq_true rfl) ?_
 have E : Chg none1 w0 w0 := Chg.refl _ _
 refine Wp_seq_region ?_
 refine s_box (v := (.agg #[(I6 x.1),(I6 x.2.1),(.slice ua x.2.2.length uc)])) (c := #[(I6 x.1),(I6 x.2.1),(.slice ua x.2.2.length uc)]) (by decide) rfl rfl ?_
 intro b1 w1 N1
 have F1 := N1.ge E
 replace E := E.ext N1.ext
 have B1 := N1.blk
 refine s_box (v := (.agg #[(I6 y.1),(I6 y.2.1),(.slice ua2 y.2.2.length uc2)])) (c := #[(I6 y.1),(I6 y.2.1),(.slice ua2 y.2.2.length uc2)]) (by decide) rfl rfl ?_
 intro b2 w2 N2
 have F2 := N2.ge E
 have O2_b1 := N2.lt B1
 replace B1 := N2.keep B1
 replace E := E.ext N2.ext
 have B2 := N2.blk
 refine qA (I6 0) rfl ?_
 refine WpL_nil (Wp_seq ?_)
 obtain ⟨Fs3,hFs3⟩ : ∃ Fs : List Fact,Fs = [.eq (P6 b1 0),.eq (I6 x.1),.eq (P6 b2 0),.eq (I6 y.1),.eq (I6 (cmpI x.1 y.1)),.eq (P6 b1 1),.eq (I6 x.2.1),.eq (P6 b2 1),.eq (I6 y.2.1),.eq (I6 (cmpI x.2.1 y.2.1)),.eq (P6 b1 2),.eq (.slice ua x.2.2.length uc),.eq (P6 b2 2),.eq (.slice ua2 y.2.2.length uc2),.eq (I6 (cmpL cmpSp x.2.2 y.2.2)),.gen (ints3F (cmpI x.1 y.1) (cmpI x.2.1 y.2.1) (cmpL cmpSp x.2.2 y.2.2)) (ints3F_ext _ _ _),.eq (I6 (orL [cmpI x.1 y.1,cmpI x.2.1 y.2.1,cmpL cmpSp x.2.2 y.2.2])),.eq (I6 (orL [cmpI x.1 y.1,cmpI x.2.1 y.2.1,cmpL cmpSp x.2.2 y.2.2]))] := ⟨_,rfl⟩
 refine Wp_dag [5,6,7,8,9,10,11,12,13,14,15,16,17,18,19,20,21,4] [[],[0],[],[2],[1,3],[],[5],[],[7],[4,6,8],[],[10],[],[12],[9,11,13],[4,9,14],[14,15],[0,1,2,3,4,5,6,7,8,9,10,11,12,13,14,15,16]] Fs3 hFs3 mixed (by kernel_rfl) (by kernel_rfl) ?_ ?_
 ·intro wd X0
  refine DagSteps.cons (fun s' w' X U H => Or.inl ⟨?_,?_⟩) ?_
  ·exact Guarded_none rfl
  ·exact Does_val (r_fieldAddr (b := b1) (o := 0) (o' := 0) (U 2 rfl) Tryz.underlying74 rfl siz3 rfl) (Ext.refl _) rfl
  refine DagSteps.cons (fun s' w' X U H => Or.inl ⟨?_,?_⟩) ?_
  ·exact Guarded_none rfl
  ·have e5 : s' 5 = (.pointer (some ⟨b1,0,none⟩)) := H 0 rfl 5 (.eq (.pointer (some ⟨b1,0,none⟩))) rfl (by rw [hFs3]; rfl)
   exact Does_val (r_load (v := (I6 x.1)) e5 flat3 (((X0.trans X).keep B1).cell rfl)) (Ext.refl _) rfl
  refine DagSteps.cons (fun s' w' X U H => Or.inl ⟨?_,?_⟩) ?_
  ·exact Guarded_none rfl
  ·exact Does_val (r_fieldAddr (b := b2) (o := 0) (o' := 0) (U 3 rfl) Tryz.underlying74 rfl siz3 rfl) (Ext.refl _) rfl
  refine DagSteps.cons (fun s' w' X U H => Or.inl ⟨?_,?_⟩) ?_
  ·exact Guarded_none rfl
  ·have e7 : s' 7 = (.pointer (some ⟨b2,0,none⟩)) := H 2 rfl 7 (.eq (.pointer (some ⟨b2,0,none⟩))) rfl (by rw [hFs3]; rfl)
   exact Does_val (r_load (v := (I6 y.1)) e7 flat3 (((X0.trans X).keep B2).cell rfl)) (Ext.refl _) rfl
  refine DagSteps.cons (fun s' w' X U H => Or.inl ⟨?_,?_⟩) ?_
  ·exact Guarded_none rfl
  ·have e6 : s' 6 = (.int .i64 x.1) := H 1 rfl 6 (.eq (.int .i64 x.1)) rfl (by rw [hFs3]; rfl)
   have e8 : s' 8 = (.int .i64 y.1) := H 3 rfl 8 (.eq (.int .i64 y.1)) rfl (by rw [hFs3]; rfl)
   exact Does_enter (r_callF (vs := [(I6 x.1),(I6 y.1)]) Tryz.func75 kQ kQ (lst2 e6 e8)) (compare_c _ _ _)
  refine DagSteps.cons (fun s' w' X U H => Or.inl ⟨?_,?_⟩) ?_
  ·exact Guarded_none rfl
  ·exact Does_val (r_fieldAddr (b := b1) (o := 0) (o' := 1) (U 2 rfl) Tryz.underlying74 rfl siz3 rfl) (Ext.refl _) rfl
  refine DagSteps.cons (fun s' w' X U H => Or.inl ⟨?_,?_⟩) ?_
  ·exact Guarded_none rfl
  ·have e10 : s' 10 = (.pointer (some ⟨b1,1,none⟩)) := H 5 rfl 10 (.eq (.pointer (some ⟨b1,1,none⟩))) rfl (by rw [hFs3]; rfl)
   exact Does_val (r_load (v := (I6 x.2.1)) e10 flat3 (((X0.trans X).keep B1).cell rfl)) (Ext.refl _) rfl
  refine DagSteps.cons (fun s' w' X U H => Or.inl ⟨?_,?_⟩) ?_
  ·exact Guarded_none rfl
  ·exact Does_val (r_fieldAddr (b := b2) (o := 0) (o' := 1) (U 3 rfl) Tryz.underlying74 rfl siz3 rfl) (Ext.refl _) rfl
  refine DagSteps.cons (fun s' w' X U H => Or.inl ⟨?_,?_⟩) ?_
  ·exact Guarded_none rfl
  ·have e12 : s' 12 = (.pointer (some ⟨b2,1,none⟩)) := H 7 rfl 12 (.eq (.pointer (some ⟨b2,1,none⟩))) rfl (by rw [hFs3]; rfl)
   exact Does_val (r_load (v := (I6 y.2.1)) e12 flat3 (((X0.trans X).keep B2).cell rfl)) (Ext.refl _) rfl
  refine DagSteps.cons (fun s' w' X U H => Or.inl ⟨?_,?_⟩) ?_
  ·exact Guarded_none rfl
  ·have e11 : s' 11 = (.int .i64 x.2.1) := H 6 rfl 11 (.eq (.int .i64 x.2.1)) rfl (by rw [hFs3]; rfl)
   have e13 : s' 13 = (.int .i64 y.2.1) := H 8 rfl 13 (.eq (.int .i64 y.2.1)) rfl (by rw [hFs3]; rfl)
   exact Does_enter (r_callF (vs := [(I6 x.2.1),(I6 y.2.1)]) Tryz.func75 kQ kQ (lst2 e11 e13)) (compare_c _ _ _)
  refine DagSteps.cons (fun s' w' X U H => Or.inl ⟨?_,?_⟩) ?_
  ·exact Guarded_none rfl
  ·exact Does_val (r_fieldAddr (b := b1) (o := 0) (o' := 2) (U 2 rfl) Tryz.underlying74 rfl siz24 rfl) (Ext.refl _) rfl
  refine DagSteps.cons (fun s' w' X U H => Or.inl ⟨?_,?_⟩) ?_
  ·exact Guarded_none rfl
  ·have e15 : s' 15 = (.pointer (some ⟨b1,2,none⟩)) := H 10 rfl 15 (.eq (.pointer (some ⟨b1,2,none⟩))) rfl (by rw [hFs3]; rfl)
   exact Does_val (r_load (v := (.slice ua x.2.2.length uc)) e15 flat24 (((X0.trans X).keep B1).cell rfl)) (Ext.refl _) rfl
  refine DagSteps.cons (fun s' w' X U H => Or.inl ⟨?_,?_⟩) ?_
  ·exact Guarded_none rfl
  ·exact Does_val (r_fieldAddr (b := b2) (o := 0) (o' := 2) (U 3 rfl) Tryz.underlying74 rfl siz24 rfl) (Ext.refl _) rfl
  refine DagSteps.cons (fun s' w' X U H => Or.inl ⟨?_,?_⟩) ?_
  ·exact Guarded_none rfl
  ·have e17 : s' 17 = (.pointer (some ⟨b2,2,none⟩)) := H 12 rfl 17 (.eq (.pointer (some ⟨b2,2,none⟩))) rfl (by rw [hFs3]; rfl)
   exact Does_val (r_load (v := (.slice ua2 y.2.2.length uc2)) e17 flat24 (((X0.trans X).keep B2).cell rfl)) (Ext.refl _) rfl
  refine DagSteps.cons (fun s' w' X U H => Or.inl ⟨?_,?_⟩) ?_
  ·exact Guarded_none rfl
  ·have e16 : s' 16 = (.slice ua x.2.2.length uc) := H 11 rfl 16 (.eq (.slice ua x.2.2.length uc)) rfl (by rw [hFs3]; rfl)
   have e18 : s' 18 = (.slice ua2 y.2.2.length uc2) := H 13 rfl 18 (.eq (.slice ua2 y.2.2.length uc2)) rfl (by rw [hFs3]; rfl)
   exact Does_enter (r_callF (vs := [(.slice ua x.2.2.length uc),(.slice ua2 y.2.2.length uc2)]) Tryz.func76 kQ kQ (lst2 e16 e18)) (spord_c _ _ _ _ _ (h1.ext (Ext.trans E (X0.trans X))) (h2.ext (Ext.trans E (X0.trans X))))
  refine DagSteps.cons (fun s' w' X U H => Or.inl ⟨?_,?_⟩) ?_
  ·exact Guarded_none rfl
  ·have e9 : s' 9 = (.int .i64 (cmpI x.1 y.1)) := H 4 rfl 9 (.eq (.int .i64 (cmpI x.1 y.1))) rfl (by rw [hFs3]; rfl)
   have e14 : s' 14 = (.int .i64 (cmpI x.2.1 y.2.1)) := H 9 rfl 14 (.eq (.int .i64 (cmpI x.2.1 y.2.1))) rfl (by rw [hFs3]; rfl)
   have e19 : s' 19 = (.int .i64 (cmpL cmpSp x.2.2 y.2.2)) := H 14 rfl 19 (.eq (.int .i64 (cmpL cmpSp x.2.2 y.2.2))) rfl (by rw [hFs3]; rfl)
   exact Does_ints3 e9 e14 e19
  refine DagSteps.cons (fun s' w' X U H => Or.inl ⟨?_,?_⟩) ?_
  ·exact Guarded_none rfl
  ·obtain ⟨b20,e20,i20⟩ := H 15 rfl 20 (.gen (ints3F (cmpI x.1 y.1) (cmpI x.2.1 y.2.1) (cmpL cmpSp x.2.2 y.2.2)) (ints3F_ext _ _ _)) rfl (by rw [hFs3]; rfl)
   exact Does_enter (r_callF (vs := [(.slice (some ⟨b20,0,none⟩) 3 3)]) Tryz.func74 kQ kQ (lst1 e20)) (sor_c _ _ _ (e20 ▸ i20))
  refine DagSteps.cons (fun s' w' X U H => Or.inl ⟨?_,?_⟩) ?_
  ·exact Guarded_none rfl
  ·have e21 : s' 21 = (.int .i64 (orL [cmpI x.1 y.1,cmpI x.2.1 y.2.1,cmpL cmpSp x.2.2 y.2.2])) := H 16 rfl 21 (.eq (.int .i64 (orL [cmpI x.1 y.1,cmpI x.2.1 y.2.1,cmpL cmpSp x.2.2 y.2.2]))) rfl (by rw [hFs3]; rfl)
   exact Does_val (r_assign (v := (I6 (orL [cmpI x.1 y.1,cmpI x.2.1 y.2.1,cmpL cmpSp x.2.2 y.2.2]))) e21) (Ext.refl _) rfl
  exact DagSteps.nil
 ·intro s' w3 X3 U H
  obtain ⟨j3,rfl⟩ := Fits.out (σ := s') (l := [(4,(.int .i64 (orL [cmpI x.1 y.1,cmpI x.2.1 y.2.1,cmpL cmpSp x.2.2 y.2.2])))]) ⟨(show s' 4 = (.int .i64 (orL [cmpI x.1 y.1,cmpI x.2.1 y.2.1,cmpL cmpSp x.2.2 y.2.2])) from H 17 4 (.eq (.int .i64 (orL [cmpI x.1 y.1,cmpI x.2.1 y.2.1,cmpL cmpSp x.2.2 y.2.2]))) rfl (by rw [hFs3]; rfl)),trivial⟩
  clear U H
  replace B1 := X3.keep B1
  replace B2 := X3.keep B2
  replace E := E.ext X3
  refine thn_normal (Wp_ret ?_)
  refine fin_tmp Tryz.results40 (v := (.int .i64 (orL [cmpI x.1 y.1,cmpI x.2.1 y.2.1,cmpL cmpSp x.2.2 y.2.2]))) rfl ?_
  exact ⟨rfl,E⟩
theorem flatK_list {α : Type} [Inhabited α] (enc : α → List Value) (k : Nat) (hk : 0 < k) (he : ∀ x,(enc x).length = k) (d : List α) : (flatK enc k d.toArray).toList = (d.map enc).flatten := by
 have hrl : (d.map enc).flatten.length = d.length * k := by
  have := rows_len (k := k) (rows := d.map enc) (fun r hr => by obtain ⟨x,_,rfl⟩ := List.mem_map.1 hr; exact he x)
  rwa [List.length_map] at this
 apply List.ext_getElem?
 intro t
 by_cases ht : t < d.length * k
 ·have hi : t / k < d.length := Nat.div_lt_of_lt_mul (by rw [Nat.mul_comm]; exact ht)
  have hj : t % k < k := Nat.mod_lt _ hk
  have hx : (d.map enc)[t / k]? = some (enc d[t / k]) := by rw [List.getElem?_map,List.getElem?_eq_getElem hi]; rfl
  have hu : (enc d[t / k])[t % k]? = some ((enc d[t / k])[t % k]'(by rw [he]; exact hj)) := List.getElem?_eq_getElem _
  have h1 := rows_cells (k := k) (rows := d.map enc) (rest := []) (fun r hr => by obtain ⟨x,_,rfl⟩ := List.mem_map.1 hr; exact he x) hx _ _ hu
  rw [List.append_nil,Nat.div_add_mod'] at h1
  rw [h1]
  have h2 := get_flatK enc k d.toArray t (by simpa using ht)
  have h3 : t < (flatK enc k d.toArray).size := by rw [size_flatK]; simpa using ht
  rw [getElem!_pos _ t h3] at h2
  rw [Array.getElem?_toList,Array.getElem?_eq_getElem h3,h2]
  have h4 : d.toArray[t / k]! = d[t / k] := by rw [getElem!_pos d.toArray _ (by simpa using hi)]; simp
  rw [h4,getElem!_pos _ _ (by rw [he]; exact hj)]
 ·rw [List.getElem?_eq_none (by rw [Array.length_toList,size_flatK]; simpa using ht),List.getElem?_eq_none (by omega)]
theorem own_holdsK {α : Type} [Inhabited α] (enc : α → List Value) (k : Nat) (hk : 0 < k) (he : ∀ x,(enc x).length = k) {w : World} {base e g n c : Nat} {d : List α} (h : w.ownsRow base e k (.slice (some ⟨g,0,none⟩) n c) n (d.map enc).flatten) (hn : d.length = n) : HoldsK enc k w g 0 d.toArray := by
 intro j hj
 rw [size_flatK] at hj
 have hfl := flatK_list enc k hk he d
 have hj2 : j < (flatK enc k d.toArray).size := by rw [size_flatK]; exact hj
 rw [getElem!_pos _ j hj2]
 have hx : (d.map enc).flatten[j]? = some (flatK enc k d.toArray)[j] := by rw [← hfl,Array.getElem?_toList,Array.getElem?_eq_getElem hj2]
 have h1 := h.cells (g := g) rfl j _ hx
 rw [Addr.add_lit] at h1
 refine ⟨h1,?_⟩
 rcases h.2 with ⟨h1,_⟩ | ⟨g',cap,cur,hv,_,hg,_⟩
 ·simp at h1
 ·simp only [Value.slice.injEq] at hv
  obtain ⟨hv,_⟩ := hv
  simp only [Option.some.injEq,Addr.mk.injEq,and_true] at hv
  subst hv
  simp [World.frozen?,hg]
theorem own_sorted {α : Type} [Inhabited α] (enc : α → List Value) (k : Nat) (hk : 0 < k) (he : ∀ x,(enc x).length = k) {w : World} {base e g n c m : Nat} {os : Array Obj} {d : List α} {xs : List Value} (h : w.ownsRow base e k (.slice (some ⟨g,0,none⟩) n c) n xs) (hn : d.length = n) : (sortWorldK enc k w g 0 m d.toArray os).ownsRow base e k (.slice (some ⟨g,0,none⟩) n c) n (d.map enc).flatten := by
 have hrl : (d.map enc).flatten.length = d.length * k := by
  have := rows_len (k := k) (rows := d.map enc) (fun r hr => by obtain ⟨x,_,rfl⟩ := List.mem_map.1 hr; exact he x)
  rwa [List.length_map] at this
 rcases h.2 with ⟨h1,_⟩ | ⟨g',cap,cur,hv,hbg,hg,hnc,hcm,hcs,htake⟩
 ·simp at h1
 ·simp only [Value.slice.injEq,true_and] at hv
  obtain ⟨hv,rfl⟩ := hv
  simp only [Option.some.injEq,Addr.mk.injEq,and_true] at hv
  subst hv
  have hgl : g < w.heap.size := (Array.getElem?_eq_some_iff.1 hg).1
  refine ⟨by rw [hrl,hn],.inr ⟨g,c,putCells id 0 (flatK enc k d.toArray) cur,rfl,hbg,?_,hnc,hcm,by simp [putCells,hcs],?_⟩⟩
  ·unfold sortWorldK grow putRowK putRow mapBlock Sort.ahead
   dsimp only
   rw [Array.getElem?_append_left (by simpa using hgl),Array.getElem?_modify,if_pos rfl,hg]
   rfl
  ·have hle : n * k ≤ c * k := Nat.mul_le_mul_right k hnc
   apply List.ext_getElem?
   intro t
   by_cases ht : t < n * k
   ·rw [List.getElem?_take,if_pos ht,Array.getElem?_toList]
    have h3 : t < (flatK enc k d.toArray).size := by rw [size_flatK]; simpa [hn] using ht
    rw [← flatK_list enc k hk he d,Array.getElem?_toList,Array.getElem?_eq_getElem h3]
    simp only [putCells,Array.getElem?_mapIdx]
    rw [Array.getElem?_eq_getElem (show t < cur.size by rw [hcs]; omega)]
    simp only [Option.map_some,Nat.zero_le,true_and,Nat.zero_add,Nat.sub_zero,id]
    rw [if_pos h3,getElem!_pos _ t h3]
   ·rw [List.getElem?_eq_none (by rw [List.length_take]; omega),List.getElem?_eq_none (by rw [hrl,hn]; omega)]
theorem sortWR_chg {α : Type} [Inhabited α] (enc : α → List Value) (k : Nat) (w : World) (g off m : Nat) (dk : Array α) (os : Array Obj) : Chg (fun x => x = g) w (sortWorldK enc k w g off m dk os) := by
 refine ⟨rfl,rfl,rfl,Nat.le_add_right _ _,?_,fun b hb hne => ?_⟩
 ·simp [sortWorldK,grow,putRowK,putRow,mapBlock,ahead]
 ·simp only [sortWorldK,grow,putRowK,putRow,mapBlock,ahead]
  rw [Array.getElem?_append_left (by simpa using hb),Array.getElem?_modify,if_neg (fun h => hne h.symm)]; rfl
theorem enters_calleeR {P : Program} {f : FuncId} {fn : Func} (hf : P.funcs[f]? = some fn) (hn : (fn.name == "runtime.NumGoroutine") = false) (hb : fn.body.isNone = false) : ∀ args w, (callFunc f args).run P w = .ok (.enter f args) w := fun args w => run_callF (vs := args) (w := w) hf hn hb
structure ERow (F : Nat → Prop) (w : World) where
 e : Ed
 vs : List Value
 h : EdF F w e vs
instance {F : Nat → Prop} {w : World} : Inhabited (ERow F w) := ⟨⟨(0,0,[]),edRow (0,0,[]) (.slice none 0 0),⟨_,rfl,SlAt.nil _ _ _ _,.inl rfl⟩⟩⟩
def encE {F : Nat → Prop} {w : World} (r : ERow F w) : List Value := r.vs
def cfE {F : Nat → Prop} {w : World} (x y : ERow F w) : Int := edO x.e y.e
theorem ERow.len {F : Nat → Prop} {w : World} (x : ERow F w) : (encE x).length = 3 := by
 obtain ⟨u,h,_⟩ := x.h
 unfold encE
 rw [h]; rfl
theorem ERow.one {F : Nat → Prop} {w : World} (x : ERow F w) : ∀ u ∈ encE x,u.oneCell' = true := fun u hu => by
 obtain ⟨v,h,h2,_⟩ := x.h
 obtain ⟨a,c,rfl⟩ := SlAt.form h2
 unfold encE at hu
 rw [h] at hu
 simp [edRow] at hu
 rcases hu with rfl | rfl | rfl <;> rfl
theorem ERow.at {F : Nat → Prop} {w w' : World} {g : Nat} (x : ERow F w) (c : Chg (fun y => y = g) w w') (hg : ¬ F g) : ∃ ua uc,x.vs = [.int .i64 x.e.1,.int .i64 x.e.2.1,.slice ua x.e.2.2.length uc] ∧ SpansAt w' (.slice ua x.e.2.2.length uc) x.e.2.2 := by
 obtain ⟨u,h,h2,_⟩ := x.h.chg c (fun y hy h => hg (by have h' : y = g := h; rw [← h']; exact hy))
 obtain ⟨a,cc,rfl⟩ := SlAt.form h2
 rw [List.length_map] at h2 h
 exact ⟨a,cc,h,h2⟩
theorem erows_of {F : Nat → Prop} {w : World} : ∀ {ts : List Ed} {rows : List (List Value)},EdsF F w ts rows → ∃ d : List (ERow F w),d.map (·.e) = ts ∧ d.map encE = rows
  | [],rows,h => ⟨[],rfl,(List.eq_nil_of_length_eq_zero h.1).symm⟩
  | t :: ts,[],h => by have := h.1; simp at this
  | t :: ts,r :: rows,h => by
    obtain ⟨d,h1,h2⟩ := erows_of (ts := ts) (rows := rows) ⟨by have := h.1; simpa using this,fun i e row he hr => h.2 (i + 1) e row he hr⟩
    exact ⟨⟨t,r,h.2 0 t r rfl rfl⟩ :: d,by simp [h1],by simp [h2,encE]⟩
theorem cfE_lt {F : Nat → Prop} {w : World} (x y : ERow F w) : cfE x y < 0 ↔ edO x.e y.e < 0 := Iff.rfl
theorem swoE {F : Nat → Prop} {w : World} : SWO (ltOf (cfE (F := F) (w := w))) := by
 refine ⟨fun x => ?_,fun x y z => ?_,fun x y z => ?_⟩
 ·have := sy_ed x.e x.e
  unfold Sy at this
  simp only [ltOf,decide_eq_false_iff_not,cfE_lt]
  omega
 ·have a := sy_ed x.e y.e
  have b := sy_ed y.e z.e
  have c := sy_ed x.e z.e
  have h1 := tr_ed x.e y.e z.e
  have h2 := tr_ed z.e y.e x.e
  unfold Sy at a b c
  unfold Tr3 at h1 h2
  simp only [ltOf,decide_eq_true_eq,decide_eq_false_iff_not,cfE_lt]
  omega
 ·have a := sy_ed x.e y.e
  have b := sy_ed y.e z.e
  have c := sy_ed x.e z.e
  have h1 := tr_ed x.e y.e z.e
  have h2 := tr_ed z.e y.e x.e
  unfold Sy at a b c
  unfold Tr3 at h1 h2
  simp only [ltOf,decide_eq_true_eq,decide_eq_false_iff_not,cfE_lt]
  omega
theorem bitsLenE_c (w0 : World) (_ : 39 = 39 := rfl) : Ret Tryz.prog 60 #[.int .u64 0] w0 fun v w => v = .int .i64 (Lib.bitLen 0 : Nat) ∧ Ext w0 w :=
 (Any.bits_Len (SlLaysF0.n15.bits (P := Tryz.prog) (ρ := Tryz.sortEd_ren) { Tryz.sortEd with }) 0 w0 (by omega) (by omega)).mono fun _ _ ⟨he,hw⟩ => ⟨_,he,rfl,by rw [hw]; exact Ext.refl _⟩
theorem ins0E_c (w0 : World) (a : Option Addr) (c : Nat) (fv : Value) : Ret Tryz.prog 95 #[.slice a 0 c,.int .i64 0,.int .i64 0,fv] w0 fun v w => v = .tuple #[] ∧ Ext w0 w := by
 refine Ret_of Tryz.func95 rfl Tryz.ntmps95 (Nat.le_of_ble_eq_true rfl) ?_
 have E : Chg none1 w0 w0 := Chg.refl _ _
 refine Wp_seq_region ?_
 refine qM (I6 0) rfl ?_
 refine qV (r_add (k := .i64) (a := 0) (b := 1) (c := 1) rfl rfl (by decide)) ?_
 refine qA (I6 1) rfl ?_
 refine WpL_nil (Wp_block ?_)
 refine Wp_loop (fun nn_ σ W1 => (∃ jj_,σ = upds jj_ [(0,(.slice a 0 c)),(1,(I6 0)),(2,(I6 0)),(3,fv),(8,(I6 1))]) ∧ Chg none1 w0 W1 ∧ nn_ = (0 : Nat)) (n := (0 : Nat)) ?_ ?_
 ·exact ⟨Fits.out ⟨rfl,rfl,rfl,rfl,rfl,trivial⟩,E,rfl⟩
 ·clear E
  rintro _ _ W1 ⟨⟨j1,rfl⟩,E,rfl⟩
  refine Wp_seq (Wp_seq_region ?_)
  refine qM (I6 1) rfl ?_
  refine qM (I6 0) rfl ?_
  refine qV (r_lss (k := .i64) (a := 1) (b := 0) rfl rfl) ?_
  refine WpL_nil ?_
  refine Wp_cond_false rfl ?_
  refine Wp_exit (thn_exit (thn_exit (inB_here ?_)))
  refine fin_none Tryz.results95 ?_
  exact ⟨rfl,E⟩
theorem pdq0E_c (w0 : World) (a : Option Addr) (c : Nat) (n : Int) (fv : Value) : Ret Tryz.prog 73 #[.slice a 0 c,.int .i64 0,.int .i64 0,.int .i64 n,fv] w0 fun v w => v = .tuple #[] ∧ Ext w0 w := by
 refine Ret_of Tryz.func73 rfl Tryz.ntmps73 (Nat.le_of_ble_eq_true rfl) ?_
 have E : Chg none1 w0 w0 := Chg.refl _ _
 refine Wp_seq_region ?_
 refine qA (.bool true) rfl ?_
 refine WpL_nil (Wp_seq_region ?_)
 refine qA (.bool true) rfl ?_
 refine WpL_nil (Wp_block ?_)
 refine Wp_loop (fun nn_ σ W1 => (∃ jj_,σ = upds jj_ [(0,(.slice a 0 c)),(1,(I6 0)),(2,(I6 0)),(4,fv)]) ∧ Chg none1 w0 W1 ∧ nn_ = (0 : Nat)) (n := (0 : Nat)) ?_ ?_
 ·exact ⟨Fits.out ⟨rfl,rfl,rfl,rfl,trivial⟩,E,rfl⟩
 ·clear E
  rintro _ _ W1 ⟨⟨j1,rfl⟩,E,rfl⟩
  refine Wp_block (Wp_seq_region ?_)
  refine qM (I6 0) rfl ?_
  refine qM (I6 0) rfl ?_
  refine qV (r_sub (k := .i64) (a := 0) (b := 0) (c := 0) rfl rfl (by decide)) ?_
  refine qA (I6 0) rfl ?_
  refine WpL_nil (Wp_seq (Wp_seq_region ?_))
  refine qM (I6 0) rfl ?_
  refine qV (r_leq (k := .i64) (a := 0) (b := 12) rfl rfl) ?_
  refine WpL_nil ?_
  refine Wp_cond_true rfl ?_
  refine Wp_seq_region ?_
  refine qM (.slice a 0 c) rfl ?_
  refine qM (I6 0) rfl ?_
  refine qM (I6 0) rfl ?_
  refine qM fv rfl ?_
  refine WpL_enter rfl rfl (by decide) (r_callF (vs := [(.slice a 0 c),(I6 0),(I6 0),fv]) Tryz.func95 kQ kQ rfl) (ins0E_c _ a c fv) ?_
  rintro _ w9 ⟨rfl,X9⟩
  replace E := E.ext X9
  refine WpL_nil (Wp_ret (thn_ret (inB_ret (thn_ret (inB_ret ?_)))))
  refine fin_noneR Tryz.results73 ?_
  exact ⟨rfl,E⟩
theorem sort0E_c (w0 : World) (a : Option Addr) (c : Nat) (fv : Value) : Ret Tryz.prog 39 #[.slice a 0 c,fv] w0 fun v w => v = .tuple #[] ∧ Ext w0 w := by
 refine Ret_of Tryz.func39 rfl Tryz.ntmps39 (Nat.le_of_ble_eq_true rfl) ?_
 have E : Chg none1 w0 w0 := Chg.refl _ _
 refine Wp_seq_region ?_
 refine qM (.slice a 0 c) rfl ?_
 refine qV (r_lenSlice (ad := a) (n := 0) (cap := c) Tryz.underlying35 rfl) ?_
 refine qA (I6 0) rfl ?_
 refine WpL_nil (Wp_region ?_)
 refine qM (.slice a 0 c) rfl ?_
 refine qM (I6 0) rfl ?_
 refine qM (I6 0) rfl ?_
 refine qV (r_convInt (k := .i64) (k' := .u64) (n := 0) (c := 0) ⟨_,Tryz.underlying3⟩ Tryz.underlying115 rfl (wU64 (by omega))) ?_
 refine WpL_enter rfl rfl (by decide) (r_callF (vs := [(.int .u64 0)]) Tryz.func60 kQ kQ rfl) (bitsLenE_c _) ?_
 rintro _ w8 ⟨rfl,X8⟩
 replace E := E.ext X8
 refine qM fv rfl ?_
 refine WpL_enter rfl rfl (by decide) (r_callF (vs := [(.slice a 0 c),(I6 0),(I6 0),(I6 (Lib.bitLen 0 : Nat)),fv]) Tryz.func73 kQ kQ rfl) (pdq0E_c _ a c _ fv) ?_
 rintro _ w9 ⟨rfl,X9⟩
 replace E := E.ext X9
 refine WpL_nil ?_
 refine fin_none Tryz.results39 ?_
 exact ⟨rfl,E⟩
theorem sortEd_c (w0 : World) (F : Nat → Prop) (base : Nat) (v : Value) (ts : List Ed) (rows : List (List Value)) (h : w0.ownsRow base TEd 3 v ts.length rows.flatten) (hr : EdsF F w0 ts rows) (hF : ∀ b,v.ownBlock = some b → ¬ F b) (hl : ts.length ≤ 1000000) :
  Ret Tryz.prog 39 #[v,.func (.func 40) #[] #[]] w0 fun r w => r = .tuple #[] ∧ (∃ us qs,us.Perm ts ∧ us.Pairwise (fun x y => edO x y ≤ 0) ∧ w.ownsRow base TEd 3 v us.length qs.flatten ∧ EdsF F w us qs) ∧ Chg (fun x => v.ownBlock = some x) w0 w := by
 have eg := enters_calleeR Tryz.func40 kQ kQ
 rcases h.2 with ⟨rfl,h0⟩ | ⟨g,cap,cur,rfl,hbg,hg,hnc,hcm,hcs,htake⟩
 ·have hd : ts = [] := List.eq_nil_of_length_eq_zero h0
  subst hd
  exact (sort0E_c w0 none 0 (.func (.func 40) #[] #[])).mono fun v w' ⟨hv,hw⟩ => ⟨hv,⟨[],[],List.Perm.refl _,List.Pairwise.nil,World.ownsRow_nil _ _ _ _,rfl,fun i e row h => by simp at h⟩,Ext.chg hw⟩
 ·have hFg : ¬ F g := hF g rfl
  obtain ⟨d,hd1,hd2⟩ : ∃ d : List (ERow F w0),d.map (·.e) = ts ∧ d.map encE = rows := erows_of hr
  have hdl : d.length = ts.length := by rw [← hd1,List.length_map]
  have he : ∀ x : ERow F w0,(encE x).length = 3 := fun x => x.len
  have ht : ∀ w,(isAgg (Tryz.sortEd_ren.t 24)).run Tryz.prog w = .ok true w := fun w => aggB.run agg74 w
  have hs : ∀ w,(Go.sizeOf (Tryz.sortEd_ren.t 24)).run Tryz.prog w = .ok 3 w := fun w => siz74.run w
  have hH := own_holdsK encE 3 (by decide) he (d := d) (by rw [hd2]; exact h) hdl
  have hblk : g < w0.heap.size := (Array.getElem?_eq_some_iff.1 hg).1
  have hc : CmpLays Tryz.prog 40 #[] encE 3 cfE g 0 d.toArray.size w0 := fun m os dk _ x y => by
   have hch := sortWR_chg encE 3 w0 g 0 m dk os
   obtain ⟨ua,uc,h1,h2⟩ := x.at (hch.mono fun y _ h => h) hFg
   obtain ⟨ua2,uc2,h3,h4⟩ := y.at (hch.mono fun y _ h => h) hFg
   rw [show encE x = _ from h1,show encE y = _ from h3]
   refine Calls.mono (edges2_c _ x.e y.e ua ua2 uc uc2 h2 h4) ?_
   rintro e w' ⟨v,rfl,rfl,hx⟩
   obtain ⟨q,os',hw⟩ := Ext.grown hx
   exact ⟨rfl,q,os',hw⟩
  have hcon := AnyQ.slices_SortFunc Tryz.sortEd 3 ht hs encE he (fun x u hu => x.one u hu) cfE swoE 40 #[] g 0 cap d.toArray w0 eg hc hH hblk (by simp; omega)
  have hz : ts.length = d.toArray.size := by simp [hdl]
  rw [hz]
  refine Calls.mono hcon ?_
  rintro e w' ⟨rfl,d',n,os,hp,hso,rfl⟩
  have hsz : d'.size = d.length := by have := hp.1; simpa using this
  have hperm : d'.toList.Perm d := by
   have h3 := hp.2.2
   simp only [List.size_toArray] at h3
   rw [show d.length = d'.size from hsz.symm,Array.extract_size] at h3
   rw [hsz] at h3
   simpa using h3
  refine ⟨_,rfl,rfl,⟨d'.toList.map (·.e),d'.toList.map encE,by rw [← hd1]; exact hperm.map _,?_,?_,?_⟩,(sortWR_chg encE 3 w0 g 0 n d' os).mono fun x _ hx => by subst hx; rfl⟩
  ·rw [List.pairwise_map,List.pairwise_iff_getElem]
   intro i j hi hj hij
   have h4 := hso i j (Nat.zero_le _) hij (by simp at hj ⊢; omega)
   simp only [Array.length_toList] at hi hj
   rw [getElem!_pos d' i hi,getElem!_pos d' j hj] at h4
   have h5 : ¬ edO d'[j].e d'[i].e < 0 := of_decide_eq_false h4
   have h6 := sy_ed d'[i].e d'[j].e
   unfold Sy at h6
   simp only [Array.getElem_toList]
   omega
  ·have h7 := own_sorted encE 3 (by decide) he (m := n) (os := os) (d := d'.toList) h (by rw [Array.length_toList,hsz,hdl])
   rw [Array.toArray_toList] at h7
   rw [List.length_map,Array.length_toList,hsz,hdl,← hz]
   exact h7
  ·have hq : EdsF F w0 (d'.toList.map (·.e)) (d'.toList.map encE) := ⟨by simp,fun i e row h1 h2 => by
    rw [List.getElem?_map] at h1 h2
    obtain ⟨x,hx,rfl⟩ := Option.map_eq_some_iff.1 h1
    rw [hx] at h2
    cases h2
    exact x.h⟩
   exact hq.chg (sortWR_chg encE 3 w0 g 0 n d' os) fun y hy h => hFg (by have h' : y = g := h; rw [← h']; exact hy)
end Go.Proofs
namespace Go.Proofs
open Go Go.Eng
theorem WpL_val0 {P : Program} {N : Nat} {Q : Post} {σ : Env} {w : World} {K : Env → World → Prop} {ops : Array Oper} {rest : List Oper} {o : Oper} (hg : o.guard = none) (hd : o.dst = none) {v : Value} {w' : World}
  (hr : (execOp (ev σ) o).run P w = .ok (.value v) w') (k : WpL P N ops K Q rest σ w') : WpL P N ops K Q (o :: rest) σ w := by
 intro dz a ha he
 refine wpList_plain hg fun K' hK => ?_
 unfold Oper.wp
 rw [eval_env,he,hr]
 simp only [Oper.upon,hd]
 exact hK _ _ (k dz a ha he)
theorem s_clear {P : Program} {N : Nat} {Q : Post} {σ : Env} {w : World} {K : Env → World → Prop} {ops : Array Oper} {rest : List Oper} {ty : TypeId} {pos : String} {af : Array Edge} {t e : TypeId} {x : Operand} {b o m cc : Nat} {c c' : Array Value} {z : Value} (hu : P.underlying t = some (.slice e)) (hz : Zer P e z) (hx : ev σ x = .slice (some ⟨b,o,none⟩) m cc) (hm : 0 < m) (hB : Blk w b c e) (h1 : ∀ v ∈ (Builtin.zeroCells z.cells m).toList,v.oneCell' = true)
  (ho : o + m * z.cells.size ≤ c.size) (hc : (c.toList.take o ++ (Builtin.zeroCells z.cells m).toList ++ c.toList.drop (o + m * z.cells.size)).toArray = c')
  (k : ∀ w',Put w w' b c' e → WpL P N ops K Q rest σ w') : WpL P N ops K Q (⟨none,.call ⟨.builtin .clear,#[x],#[t]⟩,ty,pos,af,none⟩ :: rest) σ w := by
 subst hc
 have hl : (Builtin.zeroCells z.cells m).toList.length = m * z.cells.size := by simp [Builtin.zeroCells]
 have hst := run_storeCells_at P b o e (Builtin.zeroCells z.cells m).toList 0 c w hB (by rw [hl]; simpa using ho) h1
 simp only [Nat.add_zero,hl] at hst
 refine WpL_val0 (v := .tuple #[]) (w' := w.setRow b _) rfl rfl ?_ (k _ (Put.of_setRow hB _))
 obtain ⟨m',rfl⟩ : ∃ m',m = m' + 1 := ⟨m - 1,by omega⟩
 simp [execOp,resolve,invoke,builtin,Builtin.clear_,hx,run_underlying hu,hz.run,hst]
end Go.Proofs
namespace Go.Proofs
open Go Go.Eng Go.Sort
theorem orL_zero : ∀ {l : List Int},orL l = 0 ↔ ∀ x ∈ l,x = 0
  | [] => by simp [orL_nil]
  | x :: l => by
    rw [orL_cons]
    have ih := orL_zero (l := l)
    unfold lexI
    split
    · rename_i h
      simp [h]
    · rename_i h
      have hx : x = 0 := by omega
      rw [ih]
      simp [hx]
theorem edO_zero {a b : Ed} : edO a b = 0 ↔ a = b := by
 unfold edO
 rw [orL_zero]
 constructor
 ·intro h
  have h1 := cmpI_zero.1 (h _ List.mem_cons_self)
  have h2 := cmpI_zero.1 (h (cmpI a.2.1 b.2.1) (by simp))
  have h3 := (cmpL_zero fun a b => cmpSp_zero).1 (h (cmpL cmpSp a.2.2 b.2.2) (by simp))
  exact Prod.ext h1 (Prod.ext h2 h3)
 ·rintro rfl x hx
  simp at hx
  rcases hx with rfl | rfl | rfl
  ·exact cmpI_zero.2 rfl
  ·exact cmpI_zero.2 rfl
  ·exact (cmpL_zero fun a b => cmpSp_zero).2 rfl
/-- What is kept behind an element. -/
def kdE : Option Ed → List Ed → List Ed
  | _,[] => []
  | none,x :: l => x :: kdE (some x) l
  | some y,x :: l => if x = y then kdE (some x) l else x :: kdE (some x) l
theorem kdE_snoc : ∀ (l : List Ed) (p : Option Ed) (x : Ed),kdE p (l ++ [x]) = kdE p l ++ (match l.getLast?.or p with | some y => if x = y then [] else [x] | none => [x])
  | [],none,x => rfl
  | [],some y,x => by
    simp only [List.nil_append,kdE,List.getLast?_nil,Option.none_or]
  | z :: l,p,x => by
    have ih := kdE_snoc l (some z) x
    have hg : (z :: l).getLast?.or p = l.getLast?.or (some z) := by cases l <;> simp [List.getLast?_cons]
    rw [hg]
    cases p with
    | none => simp only [List.cons_append,kdE,ih]
    | some y =>
      simp only [List.cons_append,kdE]
      split
      · exact ih
      · rw [ih]; rfl
theorem kdE_take {l : List Ed} {j : Nat} {x y : Ed} (h0 : 0 < j) (hx : l[j]? = some x) (hy : l[j - 1]? = some y) : kdE none (l.take (j + 1)) = kdE none (l.take j) ++ (if x = y then [] else [x]) := by
 rw [List.take_add_one,hx,Option.toList_some,kdE_snoc]
 have hl := lt_of_get hx
 have : (l.take j).getLast? = some y := by rw [List.getLast?_take,if_neg (by omega),hy]; rfl
 rw [this]
 rfl
theorem kdE_len : ∀ (l : List Ed) (p : Option Ed),(kdE p l).length ≤ l.length
  | [],_ => by simp [kdE]
  | x :: l,none => by simp only [kdE,List.length_cons]; have := kdE_len l (some x); omega
  | x :: l,some y => by
    simp only [kdE]
    have := kdE_len l (some x)
    split <;> simp only [List.length_cons] <;> omega
theorem kdE_sorted : ∀ {l : List Ed} {y : Ed},(∀ x ∈ l,edO y x ≤ 0) → l.Pairwise (fun a b => edO a b ≤ 0) → (kdE (some y) l).Pairwise (fun a b => edO a b < 0) ∧ ∀ x,x ∈ kdE (some y) l ↔ x ∈ l ∧ edO y x < 0
  | [],y,_,_ => ⟨List.Pairwise.nil,fun x => by simp [kdE]⟩
  | z :: l,y,h,hp => by
    have hp2 := List.pairwise_cons.1 hp
    have ih := kdE_sorted (l := l) (y := z) hp2.1 hp2.2
    have hyz := h z List.mem_cons_self
    simp only [kdE]
    split
    · rename_i e
      subst e
      refine ⟨ih.1,fun x => ?_⟩
      rw [ih.2 x,List.mem_cons]
      have hz : edO z z = 0 := edO_zero.2 rfl
      constructor
      · exact fun ⟨h1,h2⟩ => ⟨.inr h1,h2⟩
      · rintro ⟨rfl | h1,h2⟩
        · omega
        · exact ⟨h1,h2⟩
    · rename_i e
      have hlt : edO y z < 0 := by
        have : edO y z ≠ 0 := fun h9 => e (edO_zero.1 h9).symm
        omega
      refine ⟨List.pairwise_cons.2 ⟨fun x hx => ((ih.2 x).1 hx).2,ih.1⟩,fun x => ?_⟩
      rw [List.mem_cons,ih.2 x,List.mem_cons]
      constructor
      · rintro (rfl | ⟨h1,h2⟩)
        · exact ⟨.inl rfl,hlt⟩
        · exact ⟨.inr h1,(tr_ed y z x).2.1 hlt (by omega)⟩
      · rintro ⟨rfl | h1,h2⟩
        · exact .inl rfl
        · by_cases h3 : edO z x < 0
          · exact .inr ⟨h1,h3⟩
          · have h4 := hp2.1 x h1
            exact .inl (edO_zero.1 (by omega)).symm
theorem kdE_strict {l : List Ed} (hp : l.Pairwise (fun a b => edO a b ≤ 0)) : (kdE none l).Pairwise (fun a b => edO a b < 0) ∧ ∀ x,x ∈ kdE none l ↔ x ∈ l := by
  cases l with
  | nil => exact ⟨List.Pairwise.nil,fun x => by simp [kdE]⟩
  | cons z l =>
    have hp2 := List.pairwise_cons.1 hp
    have ih := kdE_sorted (l := l) (y := z) hp2.1 hp2.2
    simp only [kdE]
    refine ⟨List.pairwise_cons.2 ⟨fun x hx => ((ih.2 x).1 hx).2,ih.1⟩,fun x => ?_⟩
    rw [List.mem_cons,ih.2 x,List.mem_cons]
    constructor
    · rintro (h | ⟨h,_⟩)
      · exact .inl h
      · exact .inr h
    · rintro (h | h)
      · exact .inl h
      · by_cases h3 : edO z x < 0
        · exact .inr ⟨h,h3⟩
        · have h4 := hp2.1 x h
          exact .inl (edO_zero.1 (by omega)).symm
theorem own_chgE {w w' : World} {base g n c : Nat} {rows : List (List Value)} {rest : List Value} (h : w.ownsRow base TEd 3 (.slice (some ⟨g,0,none⟩) n c) n rows.flatten) (hB : Blk w' g (rows.flatten ++ rest).toArray TEd) (hn : n ≤ c) (hc : c ≤ maxLen) (hz : (rows.flatten ++ rest).length = c * 3) : w'.ownsRow base TEd 3 (.slice (some ⟨g,0,none⟩) n c) n rows.flatten := by
 have h1 := h.1
 rcases h.2 with ⟨h2,_⟩ | ⟨g',cap,cur,hv,hbg,hg,hnc,hcm,hcs,htake⟩
 ·simp at h2
 ·simp only [Value.slice.injEq,Option.some.injEq,Addr.mk.injEq,and_true,true_and] at hv
  obtain ⟨rfl,_⟩ := hv
  exact ⟨h1,.inr ⟨g,c,_,rfl,hbg,hB,hn,hc,by rw [List.size_toArray,hz],by rw [List.toList_toArray,List.take_append_of_le_length (by omega),List.take_of_length_le (by omega)]⟩⟩
theorem zero_oneE {m : Nat} : ∀ v ∈ (Builtin.zeroCells (Value.cells (.agg #[(.int .i64 0),(.int .i64 0),(.slice none 0 0)])) m).toList,v.oneCell' = true := by
  intro v hv
  simp only [Builtin.zeroCells,Value.cells,Array.toList_map,List.mem_map] at hv
  obtain ⟨i,_,rfl⟩ := hv
  have h : i % 3 < 3 := Nat.mod_lt _ (by decide)
  show (#[(Value.int .i64 0),(.int .i64 0),(.slice none 0 0)][i % 3]!).oneCell' = true
  generalize i % 3 = q at h
  match q,h with
  | 0,_ => rfl
  | 1,_ => rfl
  | 2,_ => rfl
  | q + 3,h => omega
theorem drop_getE {α : Type} {l m : List α} {j : Nat} (h : l.drop j = m.drop j) {i : Nat} (hi : j ≤ i) : l[i]? = m[i]? := by
 have := congrArg (fun q => q[i - j]?) h
 simp only [List.getElem?_drop] at this
 rwa [show j + (i - j) = i from by omega] at this
theorem EdsF.get {F : Nat → Prop} {w : World} {es : List Ed} {rows : List (List Value)} (h : EdsF F w es rows) {i : Nat} {e : Ed} (he : es[i]? = some e) : ∃ r,rows[i]? = some r ∧ EdF F w e r := by
 obtain ⟨r,hr⟩ := get_of_lt (l := rows) (i := i) (by rw [h.1]; exact lt_of_get he)
 exact ⟨r,hr,h.2 i e r he hr⟩
theorem EdF.form {F : Nat → Prop} {w : World} {e : Ed} {r : List Value} (h : EdF F w e r) : ∃ ua uc,r = [.int .i64 e.1,.int .i64 e.2.1,.slice ua e.2.2.length uc] ∧ SpansAt w (.slice ua e.2.2.length uc) e.2.2 := by
 obtain ⟨u,h1,h2,_⟩ := h
 obtain ⟨a,c,rfl⟩ := SlAt.form h2
 rw [List.length_map] at h1 h2
 exact ⟨a,c,h1,h2⟩
theorem EdsF.three {F : Nat → Prop} {w : World} {es : List Ed} {rows : List (List Value)} (h : EdsF F w es rows) : ∀ r ∈ rows,r.length = 3 := fun r hr => by
 obtain ⟨i,hi⟩ := List.getElem?_of_mem hr
 obtain ⟨e,he⟩ := get_of_lt (l := es) (i := i) (by rw [← h.1]; exact lt_of_get hi)
 obtain ⟨ua,uc,rfl,_⟩ := (h.2 i e r he hi).form
 rfl
theorem EdsF.take {F : Nat → Prop} {w : World} {es : List Ed} {rows : List (List Value)} (h : EdsF F w es rows) (k : Nat) : EdsF F w (es.take k) (rows.take k) := ⟨by simp [h.1],fun i e r he hr => by
 rw [List.getElem?_take] at he hr
 split at he
 ·rename_i hk
  rw [if_pos hk] at hr
  exact h.2 i e r he hr
 ·cases he⟩
theorem cmpctE_c (w0 : World) (base : Nat) (F : Nat → Prop) (v fv : Value) (ts : List Ed) (rows : List (List Value)) (hown : w0.ownsRow base TEd 3 v ts.length rows.flatten) (hr : EdsF F w0 ts rows) (M : Nat → Prop) (hM : ∀ b,v.ownBlock = some b → M b) (hF : ∀ b,M b → ¬ F b) (hlen : ts.length ≤ 1000000)
  (hf : ∀ (w : World) (x y : Ed) (ua ua2 : Option Addr) (uc uc2 : Nat),SpansAt w (.slice ua x.2.2.length uc) x.2.2 → SpansAt w (.slice ua2 y.2.2.length uc2) y.2.2 → CallV Tryz.prog fv #[.agg #[.int .i64 x.1,.int .i64 x.2.1,.slice ua x.2.2.length uc],.agg #[.int .i64 y.1,.int .i64 y.2.1,.slice ua2 y.2.2.length uc2]] w fun r w' => r = .bool (decide (x = y)) ∧ Ext w w') :
  Ret Tryz.prog 41 #[v,fv] w0 fun r w => ∃ la lc rows',r = .slice la (kdE none ts).length lc ∧ w.ownsRow base TEd 3 r (kdE none ts).length rows'.flatten ∧ EdsF F w (kdE none ts) rows' ∧ (∀ b,r.ownBlock = some b → v.ownBlock = some b) ∧ Chg M w0 w := by
 have hown0 := hown
 obtain ⟨a,c,rfl⟩ := own_form hown
 refine Ret_of Tryz.func41 rfl Tryz.ntmps41 (Nat.le_of_ble_eq_true rfl) ?_
 have E : Chg M w0 w0 := Chg.refl _ _
 refine Wp_seq_region ?_
 refine qA (.slice none 0 0) rfl ?_
 refine WpL_nil (Wp_seq (Wp_seq_region ?_))
 refine qM (.slice a ts.length c) rfl ?_
 refine qV (r_lenSlice (ad := a) (n := ts.length) (cap := c) Tryz.underlying35 rfl) ?_
 refine qV (r_lss (k := .i64) (a := (ts.length : Int)) (b := 2) rfl rfl) ?_
 refine WpL_nil ?_
 refine Wp_cond (b := decide (((ts.length : Int) : Int) < 2)) rfl (fun h2 => ?_) (fun h2 => ?_)
 ·have kh2 := h2
  replace h2 := of_decide_eq_true h2
  have hsm : kdE none ts = ts := by match ts,h2 with | [],_ => rfl | [x],_ => rfl | x :: y :: l,h => simp at h; omega
  refine Wp_seq_region ?_
  refine qM (.slice a ts.length c) rfl ?_
  refine qA (.slice a ts.length c) rfl ?_
  refine WpL_nil (Wp_ret (thn_ret ?_))
  refine fin_tmp Tryz.results41 (v := (.slice a ts.length c)) rfl ?_
  rw [hsm]; exact ⟨a,c,rows,rfl,hown0,hr,fun b h => h,E⟩
 ·have kh2 := h2
  replace h2 := of_decide_eq_false h2
  rcases hown0.2 with ⟨_,hbad⟩ | ⟨g,cap,cur0,hv0,hgb,hgB,hcap1,hcap2,hcap3,hcap4⟩
  ·omega
  simp only [Value.slice.injEq] at hv0
  obtain ⟨rfl,_,rfl⟩ := hv0
  have hFg : ∀ y,F y → ¬ M y := fun y hy h => hF y h hy
  have hMg : M g := hM g rfl
  obtain ⟨rest,hrest⟩ : ∃ rest,rest = cur0.toList.drop (ts.length * 3) := ⟨_,rfl⟩
  have hgB2 : Blk w0 g (rows.flatten ++ rest).toArray TEd := by rw [hrest,← hcap4,List.take_append_drop]; exact hgB
  have hszz : (rows.flatten ++ rest).length = c * 3 := by rw [hrest,← hcap4,List.take_append_drop]; simpa using hcap3
  have hrl := hr.1
  have hr6 := hr.three
  have hrestl : rest.length = c * 3 - ts.length * 3 := by rw [List.length_append,rows_len hr6,hrl] at hszz; omega
  refine Wp_skip (thn_normal (Wp_seq (Wp_seq_region ?_)))
  refine qA (I6 1) rfl ?_
  refine WpL_nil (Wp_block ?_)
  refine Wp_loop (fun nn_ σ W2 => ∃ (k : Nat),(∃ jj_,σ = upds jj_ [(0,(.slice (some ⟨g,0,none⟩) ts.length c)),(1,fv),(5,(I6 (k : Int)))]) ∧ Chg M w0 W2 ∧ Blk W2 g ((rows.flatten ++ rest).toArray) TEd ∧ (1 ≤ k ∧ k ≤ ts.length) ∧ (kdE none (ts.take k) = ts.take k) ∧ nn_ = ts.length - k) (n := ts.length - 1) ?_ ?_
  ·exact ⟨1,Fits.out ⟨rfl,rfl,rfl,trivial⟩,E,hgB2,⟨by omega,by omega⟩,(by match ts,h2 with | [],h => simp at h | x :: l,_ => rfl),rfl⟩
  ·clear E hgB2
   rintro _ _ W2 ⟨k,⟨j2,rfl⟩,E,hgB2,hk,hkd,rfl⟩
   refine Wp_seq (Wp_seq_region ?_)
   refine qM (I6 (k : Int)) rfl ?_
   refine qM (.slice (some ⟨g,0,none⟩) ts.length c) rfl ?_
   refine qV (r_lenSlice (ad := some ⟨g,0,none⟩) (n := ts.length) (cap := c) Tryz.underlying35 rfl) ?_
   refine qV (r_lss (k := .i64) (a := (k : Int)) (b := (ts.length : Int)) rfl rfl) ?_
   refine WpL_nil ?_
   refine Wp_cond (b := decide (((k : Int) : Int) < (ts.length : Int))) rfl (fun hlt => ?_) (fun hlt => ?_)
   ·have khlt := hlt
    replace hlt := of_decide_eq_true hlt
    obtain ⟨x,hx⟩ := get_of_lt (l := ts) (i := k) (by omega)
    obtain ⟨y,hy⟩ := get_of_lt (l := ts) (i := k - 1) (by omega)
    obtain ⟨r,hrr,hrx⟩ := hr.get hx
    obtain ⟨s,hrs,hry⟩ := hr.get hy
    have hkt := kdE_take (by omega) hx hy
    have hcx := rows_at hgB2 hr6 hrr
    have hcy := rows_at hgB2 hr6 hrs
    obtain ⟨ua,uc,rfl,hux⟩ := (hrx.chg E hFg).form
    obtain ⟨ua2,uc2,rfl,huy⟩ := (hry.chg E hFg).form
    refine Wp_skip (thn_normal (Wp_seq (Wp_block (Wp_seq ?_))))
    obtain ⟨Fs4,hFs4⟩ : ∃ Fs : List Fact,Fs = [.eq fv,.eq (.slice (some ⟨g,0,none⟩) ts.length c),.eq (I6 (k : Int)),.eq (.pointer (some ⟨g,0 + k * 3,none⟩)),.eq (.agg #[(I6 x.1),(I6 x.2.1),(.slice ua x.2.2.length uc)]),.eq (.slice (some ⟨g,0,none⟩) ts.length c),.eq (I6 (k : Int)),.eq (I6 ((k : Int) - 1)),.eq (.pointer (some ⟨g,0 + (k - 1) * 3,none⟩)),.eq (.agg #[(I6 y.1),(I6 y.2.1),(.slice ua2 y.2.2.length uc2)]),.eq (.bool (decide (x = y)))] := ⟨_,rfl⟩
    refine Wp_dag [18,19,20,21,22,23,24,25,26,27,28] [[],[],[],[1,2],[3],[],[],[6],[5,7],[8],[0,4,9]] Fs4 hFs4 mixed (by kernel_rfl) (by kernel_rfl) ?_ ?_
    ·intro wd X0
     refine DagSteps.cons (fun s' w' X U H => Or.inl ⟨?_,?_⟩) ?_
     ·exact Guarded_none rfl
     ·exact Does_val (r_move (v := fv) (U 1 rfl)) (Ext.refl _) rfl
     refine DagSteps.cons (fun s' w' X U H => Or.inl ⟨?_,?_⟩) ?_
     ·exact Guarded_none rfl
     ·exact Does_val (r_move (v := (.slice (some ⟨g,0,none⟩) ts.length c)) (U 0 rfl)) (Ext.refl _) rfl
     refine DagSteps.cons (fun s' w' X U H => Or.inl ⟨?_,?_⟩) ?_
     ·exact Guarded_none rfl
     ·exact Does_val (r_move (v := (I6 (k : Int))) (U 5 rfl)) (Ext.refl _) rfl
     refine DagSteps.cons (fun s' w' X U H => Or.inl ⟨?_,?_⟩) ?_
     ·exact Guarded_none rfl
     ·have e19 : s' 19 = (.slice (some ⟨g,0,none⟩) ts.length c) := H 1 rfl 19 (.eq (.slice (some ⟨g,0,none⟩) ts.length c)) rfl (by rw [hFs4]; rfl)
      have e20 : s' 20 = (.int .i64 ((k : Nat) : Int)) := H 2 rfl 20 (.eq (.int .i64 ((k : Nat) : Int))) rfl (by rw [hFs4]; rfl)
      exact Does_val (r_indexSlice (b := g) (o := 0) (len := ts.length) (cap := c) (i := k) (o' := 0 + k * 3) e19 e20 rfl Tryz.underlying35 siz74 (by omega) (by omega)) (Ext.refl _) rfl
     refine DagSteps.cons (fun s' w' X U H => Or.inl ⟨?_,?_⟩) ?_
     ·exact Guarded_none rfl
     ·have e21 : s' 21 = (.pointer (some ⟨g,0 + k * 3,none⟩)) := H 3 rfl 21 (.eq (.pointer (some ⟨g,0 + k * 3,none⟩))) rfl (by rw [hFs4]; rfl)
      exact Does_val (r_loadAgg (vs := [(I6 x.1),(I6 x.2.1),(.slice ua x.2.2.length uc)]) e21 agg74 siz74 rfl (by rw [Nat.zero_add]; exact hcx.ext (X0.trans X))) (Ext.refl _) rfl
     refine DagSteps.cons (fun s' w' X U H => Or.inl ⟨?_,?_⟩) ?_
     ·exact Guarded_none rfl
     ·exact Does_val (r_move (v := (.slice (some ⟨g,0,none⟩) ts.length c)) (U 0 rfl)) (Ext.refl _) rfl
     refine DagSteps.cons (fun s' w' X U H => Or.inl ⟨?_,?_⟩) ?_
     ·exact Guarded_none rfl
     ·exact Does_val (r_move (v := (I6 (k : Int))) (U 5 rfl)) (Ext.refl _) rfl
     refine DagSteps.cons (fun s' w' X U H => Or.inl ⟨?_,?_⟩) ?_
     ·exact Guarded_none rfl
     ·have e24 : s' 24 = (.int .i64 ((k : Nat) : Int)) := H 6 rfl 24 (.eq (.int .i64 ((k : Nat) : Int))) rfl (by rw [hFs4]; rfl)
      exact Does_val (r_sub (k := .i64) (a := (k : Int)) (b := 1) (c := (k : Int) - 1) e24 rfl (wI64 (by omega))) (Ext.refl _) rfl
     refine DagSteps.cons (fun s' w' X U H => Or.inl ⟨?_,?_⟩) ?_
     ·exact Guarded_none rfl
     ·have e23 : s' 23 = (.slice (some ⟨g,0,none⟩) ts.length c) := H 5 rfl 23 (.eq (.slice (some ⟨g,0,none⟩) ts.length c)) rfl (by rw [hFs4]; rfl)
      have e25 : s' 25 = (.int .i64 (((k : Nat) : Int) - 1)) := H 7 rfl 25 (.eq (.int .i64 (((k : Nat) : Int) - 1))) rfl (by rw [hFs4]; rfl)
      exact Does_val (r_indexSlice (b := g) (o := 0) (len := ts.length) (cap := c) (i := k - 1) (o' := 0 + (k - 1) * 3) e23 e25 (by omega) Tryz.underlying35 siz74 (by omega) (by omega)) (Ext.refl _) rfl
     refine DagSteps.cons (fun s' w' X U H => Or.inl ⟨?_,?_⟩) ?_
     ·exact Guarded_none rfl
     ·have e26 : s' 26 = (.pointer (some ⟨g,0 + (k - 1) * 3,none⟩)) := H 8 rfl 26 (.eq (.pointer (some ⟨g,0 + (k - 1) * 3,none⟩))) rfl (by rw [hFs4]; rfl)
      exact Does_val (r_loadAgg (vs := [(I6 y.1),(I6 y.2.1),(.slice ua2 y.2.2.length uc2)]) e26 agg74 siz74 rfl (by rw [Nat.zero_add]; exact hcy.ext (X0.trans X))) (Ext.refl _) rfl
     refine DagSteps.cons (fun s' w' X U H => Or.inl ⟨?_,?_⟩) ?_
     ·exact Guarded_none rfl
     ·have e22 : s' 22 = (.agg #[(.int .i64 x.1),(.int .i64 x.2.1),(.slice ua x.2.2.length uc)]) := H 4 rfl 22 (.eq (.agg #[(.int .i64 x.1),(.int .i64 x.2.1),(.slice ua x.2.2.length uc)])) rfl (by rw [hFs4]; rfl)
      have e27 : s' 27 = (.agg #[(.int .i64 y.1),(.int .i64 y.2.1),(.slice ua2 y.2.2.length uc2)]) := H 9 rfl 27 (.eq (.agg #[(.int .i64 y.1),(.int .i64 y.2.1),(.slice ua2 y.2.2.length uc2)])) rfl (by rw [hFs4]; rfl)
      have e18 : s' 18 = fv := H 0 rfl 18 (.eq fv) rfl (by rw [hFs4]; rfl)
      exact Does_callV e18 (lst2 e22 e27) (hf _ x y ua ua2 uc uc2 (hux.ext (X0.trans X)) (huy.ext (X0.trans X)))
     exact DagSteps.nil
    ·intro s' w4 X4 U H
     obtain ⟨j4,rfl⟩ := Fits.out (σ := s') (l := [(0,(.slice (some ⟨g,0,none⟩) ts.length c)),(1,fv),(5,(.int .i64 ((k : Nat) : Int))),(28,(.bool (decide (x = y))))]) ⟨U 0 rfl,U 1 rfl,U 5 rfl,(show s' 28 = (.bool (decide (x = y))) from H 10 28 (.eq (.bool (decide (x = y)))) rfl (by rw [hFs4]; rfl)),trivial⟩
     clear U H
     replace hgB2 := X4.keep hgB2
     replace E := E.ext X4
     refine thn_normal ?_
     refine Wp_cond (b := decide (x = y)) rfl (fun hsm => ?_) (fun hsm => ?_)
     ·have khsm := hsm
      replace hsm := of_decide_eq_true hsm
      refine Wp_seq_region ?_
      refine qM (.slice (some ⟨g,0,none⟩) ts.length c) rfl ?_
      refine qM (I6 (k : Int)) rfl ?_
      obtain ⟨sl,hsl⟩ : ∃ a' : Option Addr,(if c = k then (some ⟨g,0,none⟩) else Option.map (fun q : Addr => q.add (k * 3)) (some ⟨g,0,none⟩)) = a' := ⟨_,rfl⟩
      refine qV (r_sliceLo (a := (some ⟨g,0,none⟩)) (len := ts.length) (cap := c) (lo := k) (l := (k : Int)) (n' := (ts.length - k)) (c' := (c - k)) Tryz.underlying35 siz74 rfl rfl (by omega) (by omega) hsl (by omega) (by omega)) ?_
      have hsl2 : sl = some ⟨g,k * 3,none⟩ := by rw [← hsl,if_neg (by omega)]; simp [Addr.add]; omega
      subst hsl2
      refine qA (.slice (some ⟨g,k * 3,none⟩) (ts.length - k) (c - k)) rfl ?_
      refine WpL_nil (Wp_seq (Wp_seq_region ?_))
      refine qA (I6 1) rfl ?_
      refine WpL_nil (Wp_block ?_)
      refine Wp_loop (fun nn_ σ W6 => ∃ (m : Nat) (i : Nat) (cur : List (List Value)),(∃ jj_,σ = upds jj_ [(0,(.slice (some ⟨g,0,none⟩) ts.length c)),(1,fv),(6,(.slice (some ⟨g,k * 3,none⟩) (ts.length - k) (c - k))),(7,(I6 (m : Int))),(5,(I6 (i : Int)))]) ∧ Chg M w0 W6 ∧ Blk W6 g ((cur.flatten ++ rest).toArray) TEd ∧ (1 ≤ m ∧ m ≤ ts.length - k) ∧ (i < k + m) ∧ (cur.length = ts.length) ∧ (∀ r ∈ cur,r.length = 3) ∧ (cur.drop (k + m - 1) = rows.drop (k + m - 1)) ∧ (EdsF F w0 (kdE none (ts.take (k + m))) (cur.take i)) ∧ (i = (kdE none (ts.take (k + m))).length) ∧ nn_ = ts.length - k - m) (n := ts.length - k - 1) ?_ ?_
      ·exact ⟨1,k,rows,Fits.out ⟨rfl,rfl,rfl,rfl,rfl,trivial⟩,E,hgB2,⟨by omega,by omega⟩,(by omega),hrl,hr6,rfl,(by rw [hkt,if_pos hsm,hkd]; simpa using hr.take k),(by rw [hkt,if_pos hsm,hkd]; simp; omega),rfl⟩
      ·clear E hgB2
       rintro _ _ W6 ⟨m,i,cur,⟨j6,rfl⟩,E,hgB2,hm,hij,hcl,hc6,hdr,hin,hil,rfl⟩
       refine Wp_seq (Wp_seq_region ?_)
       refine qM (I6 (m : Int)) rfl ?_
       refine qM (.slice (some ⟨g,k * 3,none⟩) (ts.length - k) (c - k)) rfl ?_
       refine qV (r_lenSlice (ad := some ⟨g,k * 3,none⟩) (n := ts.length - k) (cap := c - k) Tryz.underlying35 rfl) ?_
       refine qV (r_lss (k := .i64) (a := (m : Int)) (b := ((ts.length - k : Nat) : Int)) rfl rfl) ?_
       refine WpL_nil ?_
       refine Wp_cond (b := decide (((m : Int) : Int) < ((ts.length - k : Nat) : Int))) rfl (fun hlt2 => ?_) (fun hlt2 => ?_)
       ·have khlt2 := hlt2
        replace hlt2 := of_decide_eq_true hlt2
        obtain ⟨j,hj⟩ : ∃ j,j = k + m := ⟨_,rfl⟩
        obtain ⟨x,hx⟩ := get_of_lt (l := ts) (i := j) (by omega)
        obtain ⟨y,hy⟩ := get_of_lt (l := ts) (i := j - 1) (by omega)
        obtain ⟨r,hrr,hrx⟩ := hr.get hx
        obtain ⟨s,hrs,hry⟩ := hr.get hy
        have hkt := kdE_take (by omega) hx hy
        rw [← hj] at hdr hin hil hij
        have hcr : cur[j]? = some r := by rw [drop_getE hdr (by omega)]; exact hrr
        have hcs : cur[j - 1]? = some s := by rw [drop_getE hdr (Nat.le_refl _)]; exact hrs
        have hdr2 : cur.drop j = rows.drop j := by have := congrArg (List.drop 1) hdr; rw [List.drop_drop,List.drop_drop,show j - 1 + 1 = j by omega] at this; exact this
        have hcx := rows_at hgB2 hc6 hcr
        have hcy := rows_at hgB2 hc6 hcs
        have hrx0 := hrx
        obtain ⟨ua,uc,rfl,hux⟩ := (hrx.chg E hFg).form
        obtain ⟨ua2,uc2,rfl,huy⟩ := (hry.chg E hFg).form
        refine Wp_skip (thn_normal (Wp_seq (Wp_block (Wp_seq ?_))))
        obtain ⟨Fs8,hFs8⟩ : ∃ Fs : List Fact,Fs = [.eq fv,.eq (.slice (some ⟨g,k * 3,none⟩) (ts.length - k) (c - k)),.eq (I6 (m : Int)),.eq (.pointer (some ⟨g,k * 3 + m * 3,none⟩)),.eq (.agg #[(I6 x.1),(I6 x.2.1),(.slice ua x.2.2.length uc)]),.eq (.slice (some ⟨g,k * 3,none⟩) (ts.length - k) (c - k)),.eq (I6 (m : Int)),.eq (I6 ((m : Int) - 1)),.eq (.pointer (some ⟨g,k * 3 + (m - 1) * 3,none⟩)),.eq (.agg #[(I6 y.1),(I6 y.2.1),(.slice ua2 y.2.2.length uc2)]),.eq (.bool (decide (x = y))),.eq (.bool (!(decide (x = y))))] := ⟨_,rfl⟩
        refine Wp_dag [38,39,40,41,42,43,44,45,46,47,48,49] [[],[],[],[1,2],[3],[],[],[6],[5,7],[8],[0,4,9],[10]] Fs8 hFs8 mixed (by kernel_rfl) (by kernel_rfl) ?_ ?_
        ·intro wd X0
         refine DagSteps.cons (fun s' w' X U H => Or.inl ⟨?_,?_⟩) ?_
         ·exact Guarded_none rfl
         ·exact Does_val (r_move (v := fv) (U 1 rfl)) (Ext.refl _) rfl
         refine DagSteps.cons (fun s' w' X U H => Or.inl ⟨?_,?_⟩) ?_
         ·exact Guarded_none rfl
         ·exact Does_val (r_move (v := (.slice (some ⟨g,k * 3,none⟩) (ts.length - k) (c - k))) (U 6 rfl)) (Ext.refl _) rfl
         refine DagSteps.cons (fun s' w' X U H => Or.inl ⟨?_,?_⟩) ?_
         ·exact Guarded_none rfl
         ·exact Does_val (r_move (v := (I6 (m : Int))) (U 7 rfl)) (Ext.refl _) rfl
         refine DagSteps.cons (fun s' w' X U H => Or.inl ⟨?_,?_⟩) ?_
         ·exact Guarded_none rfl
         ·have e39 : s' 39 = (.slice (some ⟨g,k * 3,none⟩) (ts.length - k) (c - k)) := H 1 rfl 39 (.eq (.slice (some ⟨g,k * 3,none⟩) (ts.length - k) (c - k))) rfl (by rw [hFs8]; rfl)
          have e40 : s' 40 = (.int .i64 ((m : Nat) : Int)) := H 2 rfl 40 (.eq (.int .i64 ((m : Nat) : Int))) rfl (by rw [hFs8]; rfl)
          exact Does_val (r_indexSlice (b := g) (o := k * 3) (len := ts.length - k) (cap := c - k) (i := m) (o' := k * 3 + m * 3) e39 e40 rfl Tryz.underlying35 siz74 (by omega) (by omega)) (Ext.refl _) rfl
         refine DagSteps.cons (fun s' w' X U H => Or.inl ⟨?_,?_⟩) ?_
         ·exact Guarded_none rfl
         ·have e41 : s' 41 = (.pointer (some ⟨g,k * 3 + m * 3,none⟩)) := H 3 rfl 41 (.eq (.pointer (some ⟨g,k * 3 + m * 3,none⟩))) rfl (by rw [hFs8]; rfl)
          exact Does_val (r_loadAgg (vs := [(I6 x.1),(I6 x.2.1),(.slice ua x.2.2.length uc)]) e41 agg74 siz74 rfl (by rw [show k * 3 + m * 3 = j * 3 by omega]; exact hcx.ext (X0.trans X))) (Ext.refl _) rfl
         refine DagSteps.cons (fun s' w' X U H => Or.inl ⟨?_,?_⟩) ?_
         ·exact Guarded_none rfl
         ·exact Does_val (r_move (v := (.slice (some ⟨g,k * 3,none⟩) (ts.length - k) (c - k))) (U 6 rfl)) (Ext.refl _) rfl
         refine DagSteps.cons (fun s' w' X U H => Or.inl ⟨?_,?_⟩) ?_
         ·exact Guarded_none rfl
         ·exact Does_val (r_move (v := (I6 (m : Int))) (U 7 rfl)) (Ext.refl _) rfl
         refine DagSteps.cons (fun s' w' X U H => Or.inl ⟨?_,?_⟩) ?_
         ·exact Guarded_none rfl
         ·have e44 : s' 44 = (.int .i64 ((m : Nat) : Int)) := H 6 rfl 44 (.eq (.int .i64 ((m : Nat) : Int))) rfl (by rw [hFs8]; rfl)
          exact Does_val (r_sub (k := .i64) (a := (m : Int)) (b := 1) (c := (m : Int) - 1) e44 rfl (wI64 (by omega))) (Ext.refl _) rfl
         refine DagSteps.cons (fun s' w' X U H => Or.inl ⟨?_,?_⟩) ?_
         ·exact Guarded_none rfl
         ·have e43 : s' 43 = (.slice (some ⟨g,k * 3,none⟩) (ts.length - k) (c - k)) := H 5 rfl 43 (.eq (.slice (some ⟨g,k * 3,none⟩) (ts.length - k) (c - k))) rfl (by rw [hFs8]; rfl)
          have e45 : s' 45 = (.int .i64 (((m : Nat) : Int) - 1)) := H 7 rfl 45 (.eq (.int .i64 (((m : Nat) : Int) - 1))) rfl (by rw [hFs8]; rfl)
          exact Does_val (r_indexSlice (b := g) (o := k * 3) (len := ts.length - k) (cap := c - k) (i := m - 1) (o' := k * 3 + (m - 1) * 3) e43 e45 (by omega) Tryz.underlying35 siz74 (by omega) (by omega)) (Ext.refl _) rfl
         refine DagSteps.cons (fun s' w' X U H => Or.inl ⟨?_,?_⟩) ?_
         ·exact Guarded_none rfl
         ·have e46 : s' 46 = (.pointer (some ⟨g,k * 3 + (m - 1) * 3,none⟩)) := H 8 rfl 46 (.eq (.pointer (some ⟨g,k * 3 + (m - 1) * 3,none⟩))) rfl (by rw [hFs8]; rfl)
          exact Does_val (r_loadAgg (vs := [(I6 y.1),(I6 y.2.1),(.slice ua2 y.2.2.length uc2)]) e46 agg74 siz74 rfl (by rw [show k * 3 + (m - 1) * 3 = (j - 1) * 3 by omega]; exact hcy.ext (X0.trans X))) (Ext.refl _) rfl
         refine DagSteps.cons (fun s' w' X U H => Or.inl ⟨?_,?_⟩) ?_
         ·exact Guarded_none rfl
         ·have e42 : s' 42 = (.agg #[(.int .i64 x.1),(.int .i64 x.2.1),(.slice ua x.2.2.length uc)]) := H 4 rfl 42 (.eq (.agg #[(.int .i64 x.1),(.int .i64 x.2.1),(.slice ua x.2.2.length uc)])) rfl (by rw [hFs8]; rfl)
          have e47 : s' 47 = (.agg #[(.int .i64 y.1),(.int .i64 y.2.1),(.slice ua2 y.2.2.length uc2)]) := H 9 rfl 47 (.eq (.agg #[(.int .i64 y.1),(.int .i64 y.2.1),(.slice ua2 y.2.2.length uc2)])) rfl (by rw [hFs8]; rfl)
          have e38 : s' 38 = fv := H 0 rfl 38 (.eq fv) rfl (by rw [hFs8]; rfl)
          exact Does_callV e38 (lst2 e42 e47) (hf _ x y ua ua2 uc uc2 (hux.ext (X0.trans X)) (huy.ext (X0.trans X)))
         refine DagSteps.cons (fun s' w' X U H => Or.inl ⟨?_,?_⟩) ?_
         ·exact Guarded_none rfl
         ·have e48 : s' 48 = (.bool (decide (x = y))) := H 10 rfl 48 (.eq (.bool (decide (x = y)))) rfl (by rw [hFs8]; rfl)
          exact Does_val (r_not (b := decide (x = y)) e48) (Ext.refl _) rfl
         exact DagSteps.nil
        ·intro s' w8 X8 U H
         obtain ⟨j8,rfl⟩ := Fits.out (σ := s') (l := [(0,(.slice (some ⟨g,0,none⟩) ts.length c)),(1,fv),(5,(.int .i64 ((i : Nat) : Int))),(6,(.slice (some ⟨g,k * 3,none⟩) (ts.length - k) (c - k))),(7,(.int .i64 ((m : Nat) : Int))),(49,(.bool (!(decide (x = y)))))]) ⟨U 0 rfl,U 1 rfl,U 5 rfl,U 6 rfl,U 7 rfl,(show s' 49 = (.bool (!(decide (x = y)))) from H 11 49 (.eq (.bool (!(decide (x = y))))) rfl (by rw [hFs8]; rfl)),trivial⟩
         clear U H
         replace hgB2 := X8.keep hgB2
         replace hcx := hcx.ext X8
         replace E := E.ext X8
         refine thn_normal ?_
         refine Wp_cond (b := !(decide (x = y))) rfl (fun hne => ?_) (fun hne => ?_)
         ·have khne := hne
          replace hne := by simpa using hne
          have hsf : ¬ x = y := by simpa using hne
          refine Wp_seq_region ?_
          refine qM (.slice (some ⟨g,0,none⟩) ts.length c) rfl ?_
          refine qM (I6 (i : Int)) rfl ?_
          refine qM (.slice (some ⟨g,k * 3,none⟩) (ts.length - k) (c - k)) rfl ?_
          refine qM (I6 (m : Int)) rfl ?_
          refine qV (r_indexSlice (b := g) (o := k * 3) (len := ts.length - k) (cap := c - k) (i := m) (o' := k * 3 + m * 3) rfl rfl rfl Tryz.underlying35 siz74 (by omega) (by omega)) ?_
          refine qV (r_loadAgg (vs := [(I6 x.1),(I6 x.2.1),(.slice ua x.2.2.length uc)]) rfl agg74 siz74 rfl (by rw [show k * 3 + m * 3 = j * 3 by omega]; exact hcx)) ?_
          refine qV (r_indexSlice (b := g) (o := 0) (len := ts.length) (cap := c) (i := i) (o' := 0 + i * 3) rfl rfl rfl Tryz.underlying35 siz74 (by omega) (by omega)) ?_
          refine s_storeAgg (b := g) (o := 0 + i * 3) (n := 3) (c' := ((cur.set i [.int .i64 x.1,.int .i64 x.2.1,.slice ua x.2.2.length uc]).flatten ++ rest).toArray) (vs := #[(I6 x.1),(I6 x.2.1),(.slice ua x.2.2.length uc)]) rfl rfl (by simp [Value.oneCell']) siz74 (rfl) hgB2 (by have := rows_len hc6; simp only [List.size_toArray,List.length_append]; omega) (by rw [Nat.zero_add]; exact congrArg List.toArray (rows_set (k := 3) (v := [.int .i64 x.1,.int .i64 x.2.1,.slice ua x.2.2.length uc]) (rows := cur) (i := i) (rest := rest) rfl hc6 (by omega))) ?_
          intro w10 S10
          replace E := S10.step E (by first | exact Or.inl (by omega) | exact Or.inr rfl | exact Or.inr (by assumption) | exact Or.inr (by simp) | exact Or.inr (by omega) | exact Or.inr (by dsimp only; omega))
          replace hgB2 := S10.blk
          refine WpL_nil (Wp_region ?_)
          refine qM (I6 (i : Int)) rfl ?_
          refine qV (r_add (k := .i64) (a := (i : Int)) (b := 1) (c := (i : Int) + 1) rfl rfl (wI64 (by omega))) ?_
          refine qA (I6 ((i : Int) + 1)) rfl ?_
          refine WpL_nil (inB_normal (thn_normal (Wp_region ?_)))
          refine qM (I6 (m : Int)) rfl ?_
          refine qV (r_add (k := .i64) (a := (m : Int)) (b := 1) (c := (m : Int) + 1) rfl rfl (wI64 (by omega))) ?_
          refine qA (I6 ((m : Int) + 1)) rfl ?_
          refine WpL_nil (thn_normal ?_)
          exact ⟨ts.length - k - (m + 1),by omega,m + 1,i + 1,cur.set i [.int .i64 x.1,.int .i64 x.2.1,.slice ua x.2.2.length uc],Fits.out ⟨rfl,rfl,rfl,rfl,rfl,trivial⟩,E,hgB2,⟨by omega,by omega⟩,(by omega),(by simpa using hcl),(fun r hr => by rcases List.mem_or_eq_of_mem_set hr with h | h; exact hc6 r h; rw [h]; rfl),(by rw [show k + (m + 1) - 1 = j by omega,List.drop_set_of_lt (by omega)]; exact hdr2),(by rw [show k + (m + 1) = j + 1 by omega,hkt,if_neg hsf,List.take_add_one,List.take_set_of_le (Nat.le_refl _),List.getElem?_set_self (by omega)]; exact hin.snoc hrx0),(by rw [show k + (m + 1) = j + 1 by omega,hkt,if_neg hsf,List.length_append,← hil]; rfl),rfl⟩
         ·have khne := hne
          replace hne := by simpa using hne
          have hst : x = y := by simpa using hne
          refine Wp_skip (inB_normal (thn_normal (Wp_region ?_)))
          refine qM (I6 (m : Int)) rfl ?_
          refine qV (r_add (k := .i64) (a := (m : Int)) (b := 1) (c := (m : Int) + 1) rfl rfl (wI64 (by omega))) ?_
          refine qA (I6 ((m : Int) + 1)) rfl ?_
          refine WpL_nil (thn_normal ?_)
          exact ⟨ts.length - k - (m + 1),by omega,m + 1,i,cur,Fits.out ⟨rfl,rfl,rfl,rfl,rfl,trivial⟩,E,hgB2,⟨by omega,by omega⟩,(by omega),hcl,hc6,(by rw [show k + (m + 1) - 1 = j by omega]; exact hdr2),(by rw [show k + (m + 1) = j + 1 by omega,hkt,if_pos hst]; simpa using hin),(by rw [show k + (m + 1) = j + 1 by omega,hkt,if_pos hst]; simpa using hil),rfl⟩
       ·have khlt2 := hlt2
        replace hlt2 := of_decide_eq_false hlt2
        have hjj : k + m = ts.length := by omega
        rw [hjj,List.take_length] at hin hil
        have hil2 : i ≤ ts.length := by rw [hil]; exact kdE_len _ _
        refine Wp_exit (thn_exit (thn_exit (inB_here (thn_normal (Wp_seq_region ?_)))))
        refine qM (.slice (some ⟨g,0,none⟩) ts.length c) rfl ?_
        refine qM (I6 (i : Int)) rfl ?_
        obtain ⟨sk,hsk⟩ : ∃ a' : Option Addr,(if c = i then (some ⟨g,0,none⟩) else Option.map (fun q : Addr => q.add (i * 3)) (some ⟨g,0,none⟩)) = a' := ⟨_,rfl⟩
        refine qV (r_sliceLo (a := (some ⟨g,0,none⟩)) (len := ts.length) (cap := c) (lo := i) (l := (i : Int)) (n' := (ts.length - i)) (c' := (c - i)) Tryz.underlying35 siz74 rfl rfl (by omega) (by omega) hsk (by omega) (by omega)) ?_
        have hsk2 : sk = some ⟨g,i * 3,none⟩ := by rw [← hsk,if_neg (by omega)]; simp [Addr.add]; omega
        subst hsk2
        obtain ⟨cz,hcz⟩ : ∃ cz,cz = ((cur.flatten ++ rest).toArray.toList.take (i * 3) ++ (Builtin.zeroCells (Value.cells (.agg #[(.int .i64 0),(.int .i64 0),(.slice none 0 0)])) (ts.length - i)).toList ++ (cur.flatten ++ rest).toArray.toList.drop (i * 3 + (ts.length - i) * 3)).toArray := ⟨_,rfl⟩
        refine s_clear (b := g) (o := i * 3) (m := (ts.length - i)) (cc := (c - i)) (c' := cz) Tryz.underlying35 zer74 rfl (by omega) hgB2 zero_oneE (by show i * 3 + (ts.length - i) * 3 ≤ _; simp only [List.size_toArray,List.length_append,rows_len hc6,hcl]; omega) (hcz.symm) ?_
        intro w11 S11
        replace E := S11.step E (by first | exact Or.inl (by omega) | exact Or.inr rfl | exact Or.inr (by assumption) | exact Or.inr (by simp) | exact Or.inr (by omega) | exact Or.inr (by dsimp only; omega))
        replace hgB2 := S11.blk
        refine WpL_nil (Wp_seq_region ?_)
        refine qM (.slice (some ⟨g,0,none⟩) ts.length c) rfl ?_
        refine qM (I6 (i : Int)) rfl ?_
        obtain ⟨sm,hsm⟩ : ∃ a' : Option Addr,(if c = 0 then (some ⟨g,0,none⟩) else Option.map (fun q : Addr => q.add (0 * 3)) (some ⟨g,0,none⟩)) = a' := ⟨_,rfl⟩
        refine qV (r_sliceHi (a := (some ⟨g,0,none⟩)) (len := ts.length) (cap := c) (hi := i) (l := (i : Int)) Tryz.underlying35 siz74 rfl rfl (by omega) (by omega) hsm) ?_
        refine qA (.slice sm i c) rfl ?_
        refine WpL_nil (Wp_ret (inB_ret (thn_ret (thn_ret (inB_ret (thn_ret ?_))))))
        refine fin_tmp Tryz.results41 (v := (.slice sm i c)) rfl ?_
        have hsm2 : sm = some ⟨g,0,none⟩ := by rw [← hsm]; split <;> simp [Addr.add]
        subst hsm2
        have hfl : (cur.take i).flatten.length = i * 3 := by rw [rows_len (fun r hr => hc6 r (List.mem_of_mem_take hr))]; simp; omega
        have htk : (cur.flatten ++ rest).take (i * 3) = (cur.take i).flatten := by
         have : cur.flatten = (cur.take i).flatten ++ (cur.drop i).flatten := by rw [← List.flatten_append,List.take_append_drop]
         rw [this,List.append_assoc,List.take_append_of_le_length (by omega),List.take_of_length_le (by omega)]
        have hz : (Builtin.zeroCells (Value.cells (.agg #[(.int .i64 0),(.int .i64 0),(.slice none 0 0)])) (ts.length - i)).toList.length = (ts.length - i) * 3 := by simp [Builtin.zeroCells,Value.cells]
        have hcl6 : (cur.flatten ++ rest).length = c * 3 := by rw [List.length_append,rows_len hc6,hcl]; omega
        refine ⟨some ⟨g,0,none⟩,c,cur.take i,by rw [← hil],⟨by rw [hfl,← hil],.inr ⟨g,c,cz,by rw [← hil],hgb,hgB2,by omega,hcap2,?_,?_⟩⟩,hin.chg E hFg,fun b h => h,E⟩
        ·rw [hcz]
         simp only [List.size_toArray,List.length_append,List.length_take,List.length_drop,hz]
         simp only [List.length_append] at hcl6
         omega
        ·rw [hcz,← hil]
         show List.take (i * 3) (List.take (i * 3) (cur.flatten ++ rest) ++ _ ++ _) = _
         rw [htk,List.append_assoc,List.take_append_of_le_length (by omega),List.take_of_length_le (by omega)]
     ·have khsm := hsm
      replace hsm := of_decide_eq_false hsm
      refine Wp_skip (inB_normal (thn_normal (Wp_region ?_)))
      refine qM (I6 (k : Int)) rfl ?_
      refine qV (r_add (k := .i64) (a := (k : Int)) (b := 1) (c := (k : Int) + 1) rfl rfl (wI64 (by omega))) ?_
      refine qA (I6 ((k : Int) + 1)) rfl ?_
      refine WpL_nil (thn_normal ?_)
      exact ⟨ts.length - (k + 1),by omega,k + 1,Fits.out ⟨rfl,rfl,rfl,trivial⟩,E,hgB2,⟨by omega,by omega⟩,(by rw [hkt,if_neg hsm,hkd,List.take_add_one,hx]; rfl),rfl⟩
   ·have khlt := hlt
    replace hlt := of_decide_eq_false hlt
    have hkk : k = ts.length := by omega
    rw [hkk,List.take_length] at hkd
    refine Wp_exit (thn_exit (thn_exit (inB_here (thn_normal (Wp_seq_region ?_)))))
    refine qM (.slice (some ⟨g,0,none⟩) ts.length c) rfl ?_
    refine qA (.slice (some ⟨g,0,none⟩) ts.length c) rfl ?_
    refine WpL_nil (Wp_ret ?_)
    refine fin_tmp Tryz.results41 (v := (.slice (some ⟨g,0,none⟩) ts.length c)) rfl ?_
    rw [hkd]; exact ⟨some ⟨g,0,none⟩,c,rows,rfl,own_chgE hown0 hgB2 hcap1 hcap2 hszz,hr.chg E hFg,fun b h => h,E⟩
theorem bare1_c (w0 : World) (x y : Ed) (ua ua2 : Option Addr) (uc uc2 : Nat) (h1 : SpansAt w0 (.slice ua x.2.2.length uc) x.2.2) (h2 : SpansAt w0 (.slice ua2 y.2.2.length uc2) y.2.2) :
  Ret Tryz.prog 42 #[.agg #[.int .i64 x.1,.int .i64 x.2.1,.slice ua x.2.2.length uc],.agg #[.int .i64 y.1,.int .i64 y.2.1,.slice ua2 y.2.2.length uc2]] w0 fun v w => v = .bool (decide (x = y)) ∧ Ext w0 w := by
 refine Ret_of Tryz.func42 rfl Tryz.ntmps42 (Nat.le_of_ble_eq_true rfl) ?_
 have E : Chg none1 w0 w0 := Chg.refl _ _
 refine Wp_seq_region ?_
 refine s_box (v := (.agg #[(I6 x.1),(I6 x.2.1),(.slice ua x.2.2.length uc)])) (c := #[(I6 x.1),(I6 x.2.1),(.slice ua x.2.2.length uc)]) (by decide) rfl rfl ?_
 intro bp wp Np
 have Fp := Np.ge E
 replace E := E.ext Np.ext
 have Bp := Np.blk
 refine s_box (v := (.agg #[(I6 y.1),(I6 y.2.1),(.slice ua2 y.2.2.length uc2)])) (c := #[(I6 y.1),(I6 y.2.1),(.slice ua2 y.2.2.length uc2)]) (by decide) rfl rfl ?_
 intro bq wq Nq
 have Fq := Nq.ge E
 have Oq_bp := Nq.lt Bp
 replace Bp := Nq.keep Bp
 replace E := E.ext Nq.ext
 have Bq := Nq.blk
 refine qA (.bool false) rfl ?_
 refine WpL_nil (Wp_seq_region ?_)
 refine qV (r_loadAgg (vs := [(I6 x.1),(I6 x.2.1),(.slice ua x.2.2.length uc)]) rfl agg74 siz74 rfl (Bp.cells rfl)) ?_
 refine qV (r_loadAgg (vs := [(I6 y.1),(I6 y.2.1),(.slice ua2 y.2.2.length uc2)]) rfl agg74 siz74 rfl (Bq.cells rfl)) ?_
 refine WpL_enter rfl rfl (by decide) (r_callF (vs := [(.agg #[(I6 x.1),(I6 x.2.1),(.slice ua x.2.2.length uc)]),(.agg #[(I6 y.1),(I6 y.2.1),(.slice ua2 y.2.2.length uc2)])]) Tryz.func40 kQ kQ rfl) (edges2_c _ x y ua ua2 uc uc2 (h1.ext E) (h2.ext E)) ?_
 rintro _ w9 ⟨rfl,X9⟩
 replace Bp := X9.keep Bp
 replace Bq := X9.keep Bq
 replace E := E.ext X9
 refine qV (r_eql (k := .i64) (a := edO x y) (b := 0) rfl rfl) ?_
 refine qA (.bool (decide ((edO x y : Int) = 0))) rfl ?_
 refine WpL_nil (Wp_ret ?_)
 refine fin_tmp Tryz.results42 (v := (.bool (decide ((edO x y : Int) = 0)))) rfl ?_
 exact ⟨bool_eq (by rw [decide_eq_decide]; exact edO_zero),E⟩
theorem bare2_c (w0 : World) (a N g b : Nat) (M : List Bool) (hB : Blk w0 b #[.slice (some ⟨g,0,none⟩) N N] 77) (hg : Blk w0 g (M.map Value.bool).toArray 4) (hMl : M.length = N) (ha : a < N) :
  Ret Tryz.prog 43 #[.int .i64 ((a : Nat) : Int),.pointer (some ⟨b,0,none⟩)] w0 fun r w => r = .bool (M.getD a false) ∧ Ext w0 w := by
 obtain ⟨x,hx⟩ := get_of_lt (l := M) (i := a) (by omega)
 refine Ret_of Tryz.func43 rfl Tryz.ntmps43 (Nat.le_of_ble_eq_true rfl) ?_
 have E : Chg none1 w0 w0 := Chg.refl _ _
 refine Wp_seq_region ?_
 refine qA (.bool false) rfl ?_
 refine WpL_nil (Wp_seq_region ?_)
 refine qV (r_load (v := (.slice (some ⟨g,0,none⟩) N N)) rfl flat77 (hB.cell rfl)) ?_
 refine qM (I6 (a : Int)) rfl ?_
 refine qV (r_indexSlice (b := g) (o := 0) (len := N) (cap := N) (i := a) (o' := 0 + a) rfl rfl rfl Tryz.underlying77 siz4 (by omega) (by omega)) ?_
 refine qV (r_load (v := (.bool x)) rfl flat4 (by rw [Nat.zero_add]; exact hg.cell (by simp [hx]))) ?_
 refine qA (.bool x) rfl ?_
 refine WpL_nil (Wp_ret ?_)
 refine fin_tmp Tryz.results43 (v := (.bool x)) rfl ?_
 exact ⟨bool_eq (by rw [List.getD_eq_getElem?_getD,hx]; rfl),E⟩
--BEGIN
def BareS (n : Nf) (s : Int) (L : List Ed) : Prop := L.Pairwise (fun a b => edO a b < 0) ∧ ∀ x,x ∈ L ↔ ∃ e ∈ n.edges,cloP n.eps (fun t => t = s) e.1 ∧ x = (s,e.2.1,e.2.2)
theorem checkL_lo : ∀ (l : List (Int × Int)) (p : Option Int),checkL p l = 0 → ∀ s ∈ l,0 ≤ s.1 := by
  intro l
  induction l with
  | nil => simp
  | cons a l ih =>
    intro p h s hs
    rw [checkL_cons] at h
    by_cases h1 : validB a = false
    · rw [if_pos h1] at h; simp at h
    rw [if_neg h1] at h
    have h2 : checkL (some a.2) l = 0 := by
      split at h
      · split at h
        · simp at h
        · exact h
      · simpa using h
    replace h := h2
    rcases List.mem_cons.1 hs with rfl | hs
    · simp [validB] at h1
      omega
    · exact ih _ h s hs
theorem dropc {α : Type} {l : List α} {k : Nat} {x : α} (h : l[k]? = some x) : l.drop k = x :: l.drop (k + 1) := by
 have := lt_of_get h
 rw [List.drop_eq_getElem_cons this]
 rw [List.getElem?_eq_getElem this] at h
 rw [Option.some.inj h]
theorem take_snoc {α : Type} {l : List α} {k : Nat} {x : α} (h : l[k]? = some x) : l.take (k + 1) = l.take k ++ [x] := by rw [List.take_add_one,h]; rfl
theorem lt_unique : ∀ {p q : List Int},p.Pairwise (· < ·) → q.Pairwise (· < ·) → (∀ x,x ∈ p ↔ x ∈ q) → p = q
  | [],[],_,_,_ => rfl
  | [],y :: q,_,_,h => absurd ((h y).2 List.mem_cons_self) List.not_mem_nil
  | x :: p,[],_,_,h => absurd ((h x).1 List.mem_cons_self) List.not_mem_nil
  | x :: p,y :: q,hp,hq,h => by
    have h1 := List.pairwise_cons.1 hp
    have h2 := List.pairwise_cons.1 hq
    have e : x = y := by
      rcases List.mem_cons.1 ((h x).1 List.mem_cons_self) with h3 | h3
      · exact h3
      · rcases List.mem_cons.1 ((h y).2 List.mem_cons_self) with h4 | h4
        · exact h4.symm
        · have := h1.1 y h4; have := h2.1 x h3; omega
    subst e
    rw [lt_unique h1.2 h2.2 fun z => ?_]
    constructor
    · intro hz
      rcases List.mem_cons.1 ((h z).1 (List.mem_cons_of_mem _ hz)) with h3 | h3
      · subst h3; have := h1.1 z hz; omega
      · exact h3
    · intro hz
      rcases List.mem_cons.1 ((h z).2 (List.mem_cons_of_mem _ hz)) with h3 | h3
      · subst h3; have := h2.1 z hz; omega
      · exact h3
--BEGIN
/-- The automaton without steps for nothing, state by state. -/
inductive BareK (n : Nf) : Nat → List Int → List Ed → Prop
  | nil : BareK n 0 [] []
  | step {k : Nat} {es : List Int} {xs L : List Ed} {b : Bool} : BareK n k es xs → (b = true ↔ ∃ e ∈ n.ends,cloP n.eps (fun t => t = (k : Int)) e) → BareS n (k : Int) L → BareK n (k + 1) (es ++ if b then [(k : Int)] else []) (xs ++ L)
theorem BareK.len {n : Nf} : ∀ {k : Nat} {es : List Int} {xs : List Ed},BareK n k es xs → es.length ≤ k
  | 0,_,_,.nil => by simp
  | k + 1,_,_,.step (b := b) h1 _ _ => by
    have := h1.len
    cases b <;> simp <;> omega
theorem nd_len {α : Type} [DecidableEq α] : ∀ {l m : List α},l.Pairwise (fun a b => a ≠ b) → (∀ x ∈ l,x ∈ m) → l.length ≤ m.length
  | [],_,_,_ => by simp
  | x :: l,m,h,hs => by
    have h1 := List.pairwise_cons.1 h
    have hm := hs x List.mem_cons_self
    have := nd_len (m := m.erase x) h1.2 fun y hy => (List.mem_erase_of_ne (h1.1 y hy).symm).2 (hs y (List.mem_cons_of_mem _ hy))
    rw [List.length_erase_of_mem hm] at this
    have := List.length_pos_of_mem hm
    simp only [List.length_cons]; omega
theorem BareS.len {n : Nf} {s : Int} {L : List Ed} (h : BareS n s L) : L.length ≤ n.edges.length := by
 have := nd_len (l := L) (m := n.edges.map fun e => (s,e.2.1,e.2.2)) (h.1.imp fun {a b} hab e => by rw [e] at hab; have := edO_zero.2 (rfl : b = b); omega) fun x hx => by
  obtain ⟨e,he,_,h2⟩ := (h.2 x).1 hx
  exact List.mem_map.2 ⟨e,he,h2.symm⟩
 simpa using this
--BEGIN
theorem nZ_mem {l : List Nat} {x : Int} : x ∈ nZ l ↔ ∃ j ∈ l,x = ((j : Nat) : Int) := by
 unfold nZ
 rw [List.mem_map]
 exact ⟨fun ⟨j,h1,h2⟩ => ⟨j,h1,h2.symm⟩,fun ⟨j,h1,h2⟩ => ⟨j,h1,h2.symm⟩⟩
theorem rowE_mem {g : GS} {p : Pt} {s : Nat} {e : Ed} : e ∈ rowE g p s ↔ ∃ l j,(folG g p)[s]? = some l ∧ j ∈ l ∧ e = (((s : Nat) : Int),((j : Nat) : Int),g.sets.getD (j - 1) []) := by
  unfold rowE
  rw [List.mem_map,List.getD_eq_getElem?_getD]
  constructor
  · rintro ⟨t,h1,rfl⟩
    rw [upS_mem,nZ_mem] at h1
    obtain ⟨j,h2,rfl⟩ := h1
    cases hl : (folG g p)[s]? with
    | none => rw [hl] at h2; cases h2
    | some l => rw [hl] at h2; exact ⟨l,j,rfl,h2,rfl⟩
  · rintro ⟨l,j,h1,h2,rfl⟩
    refine ⟨((j : Nat) : Int),?_,rfl⟩
    rw [upS_mem,nZ_mem,h1]
    exact ⟨j,h2,rfl⟩
theorem edgU_mem {g : GS} {p : Pt} {e : Ed} : ∀ {m : Nat},e ∈ edgU g p m ↔ ∃ s,s < m ∧ e ∈ rowE g p s
  | 0 => ⟨fun h => (by cases h),fun ⟨s,h,_⟩ => absurd h (Nat.not_lt_zero _)⟩
  | m + 1 => by
    rw [edgU,List.mem_append,edgU_mem (m := m)]
    constructor
    · rintro (⟨s,h1,h2⟩ | h)
      · exact ⟨s,by omega,h2⟩
      · exact ⟨m,by omega,h⟩
    · rintro ⟨s,h1,h2⟩
      rcases Nat.lt_or_ge s m with h3 | h3
      · exact .inl ⟨s,h3,h2⟩
      · obtain rfl : s = m := (by omega); exact .inr h2
theorem edgG_mem {g : GS} {p : Pt} {e : Ed} : e ∈ edgG g p ↔ ∃ (s : Nat) (l : List Nat) (j : Nat),(folG g p)[s]? = some l ∧ j ∈ l ∧ e = (((s : Nat) : Int),((j : Nat) : Int),g.sets.getD (j - 1) []) := by
 unfold edgG
 rw [edgU_mem]
 constructor
 ·rintro ⟨s,_,h⟩; exact ⟨s,rowE_mem.1 h⟩
 ·rintro ⟨s,l,j,h1,h2⟩
  exact ⟨s,by have := lt_of_get h1; unfold folG at this; rwa [List.length_set] at this,rowE_mem.2 ⟨l,j,h1,h2⟩⟩
section
variable {c : Nat} {g : GS} {p : Pt}
theorem fol_row {s : Nat} (hs : 0 < s) {l : List Nat} (hl : (folG g p)[s]? = some l) : g.fol[s]? = some l := by unfold folG at hl; rwa [List.getElem?_set,if_neg (by omega)] at hl
theorem fol_first {l : List Nat} (hl : (folG g p)[0]? = some l) : l = p.fst := by
 unfold folG at hl
 rw [List.getElem?_set,if_pos rfl] at hl
 split at hl
 ·exact (Option.some.inj hl).symm
 ·cases hl
theorem set_sat {j : Nat} (hj : 0 < j ∧ j ≤ g.sets.length) (x : Int) : inS (g.sets.getD (j - 1) []) x = true ↔ satS g.sets x j := by
 obtain ⟨z,hz⟩ := get_of_lt (l := g.sets) (i := j - 1) (by omega)
 unfold satS
 rw [List.getD_eq_getElem?_getD,hz]
 exact ⟨fun h => ⟨z,by omega,rfl,h⟩,fun ⟨z',_,h1,h2⟩ => by cases h1; exact h2⟩
theorem ends_mem {e : Int} : e ∈ endsG p ↔ (p.nul = true ∧ e = 0) ∨ ∃ j ∈ p.lst,e = ((j : Nat) : Int) := by
 unfold endsG ends0
 rw [upS_mem,List.mem_append,nZ_mem]
 refine or_congr ?_ Iff.rfl
 split <;> rename_i hn <;> simp [hn]
variable (h : GSt1 c gs0 g p)
include h
theorem fol_zero : (folG g p)[0]? = some p.fst := by unfold folG; rw [List.getElem?_set,if_pos rfl,if_pos (by have := h.inv.1; omega)]
/-- Paths of the automaton from a position on. -/
theorem pth_wk {s u : Int} {w : List Int} (hp : Pth (nfG g p) s w u) : ∀ i : Nat,s = (i : Int) → 0 < i → ∃ r : Nat,u = (r : Int) ∧ 0 < r ∧ WkJ (satS g.sets) (folR g.fol) i w r := by
  induction hp with
  | nil s => exact fun i hi h0 => ⟨i,hi,h0,.nil i⟩
  | eps h1 => cases h1
  | @edge s t u x z w h1 hx _ ih =>
    intro i hi h0
    obtain ⟨s',l,j,h2,h3,h4⟩ := edgG_mem.1 h1
    simp only [Prod.mk.injEq] at h4
    obtain ⟨e1,e2,e3⟩ := h4
    obtain rfl : s' = i := by omega
    have hj := (fol_in h h2).2 j h3
    obtain ⟨r,h5,h6,h7⟩ := ih j e2 hj.1
    exact ⟨r,h5,h6,.cons ⟨l,fol_row h0 h2,h3⟩ ((set_sat hj x).1 (e3 ▸ hx)) h7⟩
theorem wk_pth {i r : Nat} {w : List Int} (hw : WkJ (satS g.sets) (folR g.fol) i w r) : 0 < i → Pth (nfG g p) (i : Int) w (r : Int) := by
  induction hw with
  | nil i => exact fun _ => .nil _
  | @cons i q r x w h1 h2 _ ih =>
    intro h0
    obtain ⟨l,h3,h4⟩ := h1
    have h5 : (folG g p)[i]? = some l := by unfold folG; rw [List.getElem?_set,if_neg (by omega)]; exact h3
    have hj := (fol_in h h5).2 q h4
    exact .edge (z := g.sets.getD (q - 1) []) (edgG_mem.2 ⟨i,l,q,h5,h4,rfl⟩) ((set_sat hj x).2 h2) (ih hj.1)
theorem glu_acc (w : List Int) : Acc (nfG g p) w ↔ LgJ (satS g.sets) (folR g.fol) p w := by
  have hlst : ∀ j ∈ p.lst,0 < j := fun j hj => (h.lst.2.1 j hj).1
  constructor
  · rintro ⟨e,he,hp⟩
    have he' := ends_mem.1 he
    have hp' : Pth (nfG g p) 0 w e := hp
    cases hp' with
    | nil =>
      rcases he' with ⟨h1,_⟩ | ⟨j,h1,h2⟩
      · exact .inl ⟨rfl,h1⟩
      · have := hlst j h1; omega
    | eps h1 => cases h1
    | @edge _ t _ x z v h1 hx h2 =>
      obtain ⟨s',l,j,h3,h4,h5⟩ := edgG_mem.1 h1
      simp only [Prod.mk.injEq] at h5
      obtain ⟨e1,e2,e3⟩ := h5
      obtain rfl : s' = 0 := by omega
      have hj := (fol_in h h3).2 j h4
      rw [fol_first h3] at h4
      obtain ⟨r,h5,h6,h7⟩ := pth_wk h h2 j e2 hj.1
      refine .inr ⟨x,v,j,r,rfl,h4,(set_sat hj x).1 (e3 ▸ hx),h7,?_⟩
      rcases he' with ⟨_,h8⟩ | ⟨j',h8,h9⟩
      · omega
      · obtain rfl : r = j' := by omega
        exact h8
  · rintro (⟨rfl,h1⟩ | ⟨x,v,q,r,rfl,h1,h2,h3,h4⟩)
    · exact ⟨0,ends_mem.2 (.inl ⟨h1,rfl⟩),.nil _⟩
    · have hj := h.fst.2.1 q h1
      refine ⟨(r : Int),ends_mem.2 (.inr ⟨r,h4,rfl⟩),?_⟩
      exact .edge (z := g.sets.getD (q - 1) []) (edgG_mem.2 ⟨0,p.fst,q,fol_zero h,h1,rfl⟩) ((set_sat hj x).2 h2) (wk_pth h h3 hj.1)
end
theorem glu_lang {t : Re} (hok : okRe t) (hu : usesB [7,8,10] t = false) {g : GS} {p : Pt} (e : gkO t gs0 = some (g,p)) (h : GSt1 t.size gs0 g p) (w : List Int) : Acc (nfG g p) w ↔ Lang t w :=
 (glu_acc h w).trans (gkO_lg t hok hu gs0 g p gi0 e (satS g.sets) (fun _ _ _ _ => Iff.rfl) w)
theorem BareK.mem {n : Nf} : ∀ {k : Nat} {es : List Int} {xs : List Ed},BareK n k es xs → (∀ s,s ∈ es ↔ ∃ i : Nat,s = (i : Int) ∧ i < k ∧ ∃ e ∈ n.ends,cloP n.eps (fun t => t = s) e) ∧ ∀ x,x ∈ xs ↔ ∃ i : Nat,x.1 = (i : Int) ∧ i < k ∧ ∃ e ∈ n.edges,cloP n.eps (fun t => t = x.1) e.1 ∧ x.2.1 = e.2.1 ∧ x.2.2 = e.2.2
  | 0,_,_,.nil => ⟨fun s => ⟨fun h => (by cases h),fun ⟨i,_,h,_⟩ => absurd h (Nat.not_lt_zero _)⟩,fun x => ⟨fun h => (by cases h),fun ⟨i,_,h,_⟩ => absurd h (Nat.not_lt_zero _)⟩⟩
  | k + 1,_,_,.step (b := b) (L := L) h1 h2 h3 => by
    obtain ⟨g1,g2⟩ := BareK.mem h1
    refine ⟨fun s => ?_,fun x => ?_⟩
    · rw [List.mem_append,g1]
      constructor
      · rintro (⟨i,h4,h5,h6⟩ | h)
        · exact ⟨i,h4,by omega,h6⟩
        · cases b with
          | false => cases h
          | true => exact ⟨k,List.mem_singleton.1 h,by omega,by rw [List.mem_singleton.1 h]; exact h2.1 rfl⟩
      · rintro ⟨i,h4,h5,h6⟩
        rcases Nat.lt_or_ge i k with h7 | h7
        · exact .inl ⟨i,h4,h7,h6⟩
        · obtain rfl : i = k := by omega
          subst h4
          rw [h2.2 h6]
          exact .inr (List.mem_singleton.2 rfl)
    · rw [List.mem_append,g2]
      constructor
      · rintro (⟨i,h4,h5,h6⟩ | h)
        · exact ⟨i,h4,by omega,h6⟩
        · obtain ⟨e,h4,h5,rfl⟩ := (h3.2 x).1 h
          exact ⟨k,rfl,by omega,e,h4,h5,rfl,rfl⟩
      · rintro ⟨i,h4,h5,e,h6,h7,h8,h9⟩
        rcases Nat.lt_or_ge i k with h10 | h10
        · exact .inl ⟨i,h4,h10,e,h6,h7,h8,h9⟩
        · obtain rfl : i = k := by omega
          refine .inr ((h3.2 x).2 ⟨e,h6,?_,?_⟩)
          · rw [← h4]; exact h7
          · rw [← h4,← h8,← h9]
/-- The automaton without steps for nothing accepts the same. -/
theorem bare_acc {n : Nf} (ok : OkN n) {N : Nat} (hN : n.states = (N : Int)) {m : Nf} (hs : m.start = n.start) (he : m.eps = []) (hb : BareK n N m.ends m.edges) (w : List Int) : Acc m w ↔ Acc n w := by
  obtain ⟨g1,g2⟩ := hb.mem
  have to : ∀ {s u : Int} {w : List Int},Pth m s w u → u ∈ m.ends → ∃ e ∈ n.ends,Pth n s w e := by
    intro s u w hp
    induction hp with
    | nil s =>
      intro hu
      obtain ⟨i,_,_,e,h1,a,h2,h3⟩ := (g1 s).1 hu
      exact ⟨e,h1,by have := h3.pth (n := n) (.nil e); rwa [h2] at this⟩
    | eps h1 => rw [he] at h1; cases h1
    | @edge s t u c z w h1 hc _ ih =>
      intro hu
      obtain ⟨e,h2,h3⟩ := ih hu
      obtain ⟨i,_,_,x,h4,⟨a,h5,h6⟩,h7,h8⟩ := (g2 _).1 h1
      simp only at h5 h6 h7 h8
      subst h5; subst h7; subst h8
      exact ⟨e,h2,h6.pth (.edge (z := x.2.2) h4 hc h3)⟩
  have rng : ∀ s,0 ≤ s ∧ s < n.states → ∃ i : Nat,s = (i : Int) ∧ i < N := fun s h => by
    obtain ⟨i,hi⟩ := Int.eq_ofNat_of_zero_le h.1
    exact ⟨i,hi,by omega⟩
  have from' : ∀ (w : List Int) {s e : Int},Pth n s w e → e ∈ n.ends → (0 ≤ s ∧ s < n.states) → ∃ u ∈ m.ends,Pth m s w u := by
    intro w
    induction w with
    | nil =>
      intro s e hp h1 h2
      obtain ⟨i,h3,h4⟩ := rng s h2
      exact ⟨s,(g1 s).2 ⟨i,h3,h4,e,h1,s,rfl,pth_nil hp rfl⟩,.nil s⟩
    | cons c w ih =>
      intro s e hp h1 h2
      obtain ⟨a,x,h3,h4,h5,h6,h7⟩ := pth_cons hp rfl
      obtain ⟨u,h8,h9⟩ := ih h7 h1 (ok.ed x h4).2.1
      obtain ⟨i,h10,h11⟩ := rng s h2
      exact ⟨u,h8,.edge (z := x.2.2) ((g2 (s,x.2.1,x.2.2)).2 ⟨i,h10,h11,x,h4,⟨s,rfl,by rw [h5]; exact h3⟩,rfl,rfl⟩) h6 h9⟩
  constructor
  · rintro ⟨u,h1,h2⟩
    rw [hs] at h2
    exact to h2 h1
  · rintro ⟨e,h1,h2⟩
    obtain ⟨u,h3,h4⟩ := from' w h2 h1 ok.s0
    exact ⟨u,h3,by rw [hs]; exact h4⟩
--END
--BEGIN
def SOk (f : GF) : Prop := ∀ g g' p,f g = some (g',p) → (∀ z ∈ g.sets,checkE z = 0) → ∀ z ∈ g'.sets,checkE z = 0
theorem catGs_so : ∀ (fs : List GF),(∀ f ∈ fs,SOk f) → ∀ (g g' : GS) (o p : Pt),catGs fs g o = some (g',p) → (∀ z ∈ g.sets,checkE z = 0) → ∀ z ∈ g'.sets,checkE z = 0
  | [],_,g,g',o,p,e,h => by
    simp only [catGs,Option.some.injEq,Prod.mk.injEq] at e
    obtain ⟨rfl,rfl⟩ := e; exact h
  | f :: fs,hf,g,g',o,p,e,h => by
    rw [catGs] at e
    obtain ⟨⟨g1,p1⟩,e1,e2⟩ := Option.bind_eq_some_iff.1 e
    have h1 := hf f List.mem_cons_self _ _ _ e1 h
    exact catGs_so fs (fun f' h' => hf f' (List.mem_cons_of_mem _ h')) _ _ _ _ e2 h1
theorem altGs_so : ∀ (fs : List GF),(∀ f ∈ fs,SOk f) → ∀ (g g' : GS) (o p : Pt),altGs fs g o = some (g',p) → (∀ z ∈ g.sets,checkE z = 0) → ∀ z ∈ g'.sets,checkE z = 0
  | [],_,g,g',o,p,e,h => by
    simp only [altGs,Option.some.injEq,Prod.mk.injEq] at e
    obtain ⟨rfl,rfl⟩ := e; exact h
  | f :: fs,hf,g,g',o,p,e,h => by
    rw [altGs] at e
    obtain ⟨⟨g1,p1⟩,e1,e2⟩ := Option.bind_eq_some_iff.1 e
    exact altGs_so fs (fun f' h' => hf f' (List.mem_cons_of_mem _ h')) _ _ _ _ e2 (hf f List.mem_cons_self _ _ _ e1 h)
theorem repGs_so {f : GF} (hf : SOk f) {mn : Int} {g : GS} (h : ∀ z ∈ g.sets,checkE z = 0) : ∀ (k : Nat) (g' : GS) (p : Pt),repGs f mn g k = some (g',p) → ∀ z ∈ g'.sets,checkE z = 0
  | 0,g',p,e => by
    simp only [repGs,Option.some.injEq,Prod.mk.injEq] at e
    obtain ⟨rfl,rfl⟩ := e; exact h
  | k + 1,g',p,e => by
    rw [repGs] at e
    obtain ⟨⟨g1,o⟩,e1,e2⟩ := Option.bind_eq_some_iff.1 e
    obtain ⟨⟨g2,q⟩,e3,e4⟩ := Option.bind_eq_some_iff.1 e2
    simp only [Option.some.injEq,Prod.mk.injEq] at e4
    obtain ⟨rfl,rfl⟩ := e4
    have h1 := hf _ _ _ e3 (repGs_so hf h k g1 o e1)
    exact h1
theorem gnode_so {k : Int} {z : List Sp} {mn mx : Int} {fs : List GF} (hz : k = 2 → checkE z = 0) (hf : ∀ f ∈ fs,SOk f) : SOk (gnode k z mn mx fs) := by
  intro g g' p e h
  unfold gnode at e
  split at e
  · simp only [Option.some.injEq,Prod.mk.injEq] at e
    obtain ⟨rfl,rfl⟩ := e; exact h
  split at e
  · rename_i hk
    unfold setK at e
    split at e
    · cases e
    · simp only [Option.some.injEq,Prod.mk.injEq] at e
      obtain ⟨rfl,rfl⟩ := e
      intro y hy
      rcases List.mem_append.1 hy with h1 | h1
      · exact h y h1
      · rw [List.mem_singleton.1 h1]; exact hz hk
  split at e
  · exact catGs_so fs hf _ _ _ _ e h
  split at e
  · exact altGs_so fs hf _ _ _ _ e h
  split at e
  · cases fs with
    | nil => cases e
    | cons f fs =>
      simp only at e
      obtain ⟨⟨g1,p1⟩,e1,e2⟩ := Option.bind_eq_some_iff.1 e
      simp only [Option.some.injEq,Prod.mk.injEq] at e2
      obtain ⟨rfl,rfl⟩ := e2
      have h1 := hf f List.mem_cons_self _ _ _ e1 h
      exact h1
  split at e
  · cases fs with
    | nil => cases e
    | cons f fs => exact repGs_so (hf f List.mem_cons_self) h _ _ _ e
  split at e
  · cases fs with
    | nil => cases e
    | cons f fs => exact hf f List.mem_cons_self _ _ _ e h
  · simp only [Option.some.injEq,Prod.mk.injEq] at e
    obtain ⟨rfl,rfl⟩ := e; exact h
mutual
theorem gkO_so : ∀ t : Re,okRe t → SOk (gkO t)
  | .mk k z a mn mx b,h => by
    rw [gkO]
    exact gnode_so (fun hk => node_chk (okRe_node h) hk) (gkL_so a (okRe_args h))
theorem gkL_so : ∀ l : List Re,okRes l → ∀ f ∈ gkL l,SOk f
  | [],_,f,hf => by cases hf
  | x :: l,h,f,hf => by
    rw [gkL] at hf
    simp only [okRes] at h
    rcases List.mem_cons.1 hf with rfl | h1
    · exact gkO_so x h.1
    · exact gkL_so l h.2 f h1
end
theorem inc_len {N : Nat} {l : List Int} (h : l.Pairwise (· < ·)) (hl : ∀ x ∈ l,0 ≤ x ∧ x < (N : Int)) : l.length ≤ N := by
 have := nd_len (l := l) (m := (List.range N).map Int.ofNat) (h.imp fun h => by omega) fun x hx => by
  have := hl x hx
  obtain ⟨a,rfl⟩ := Int.eq_ofNat_of_zero_le this.1
  exact List.mem_map.2 ⟨a,List.mem_range.2 (by omega),rfl⟩
 simpa using this
theorem glu_okN {t : Re} (hok : okRe t) {g : GS} {p : Pt} (e : gkO t gs0 = some (g,p)) (h : GSt1 t.size gs0 g p) (hl : (edgG g p).length ≤ 20000) : OkN (nfG g p) := by
 have hi := h.inv
 have hz : gs0.sets.length = 0 := rfl
 have hs := gkO_so t hok gs0 g p e (fun z hz => by cases hz)
 have hen : ∀ s ∈ endsG p,0 ≤ s ∧ s < ((g.sets.length + 1 : Nat) : Int) := fun s hs => by
  rcases ends_mem.1 hs with ⟨_,h1⟩ | ⟨j,h1,h2⟩
  ·omega
  ·have := h.lst.2.1 j h1; omega
 have hi2 := hi.2
 have hi1 := hi.1
 refine ⟨?_,?_,?_,Nat.zero_le _,hl,hen,fun q hq => (by cases hq),fun x hx => ?_⟩
 ·show ((g.sets.length + 1 : Nat) : Int) ≤ 500; omega
 ·show (0 : Int) ≤ 0 ∧ (0 : Int) < ((g.sets.length + 1 : Nat) : Int); omega
 ·have := inc_len (upS_inc _) hen
  show (endsG p).length ≤ 500
  have h9 : (endsG p).length ≤ g.sets.length + 1 := this
  omega
 ·obtain ⟨s,l,j,h1,h2,rfl⟩ := edgG_mem.1 hx
  have hj := (fol_in h h1).2 j h2
  have hsl := lt_of_get h1
  unfold folG at hsl
  rw [List.length_set] at hsl
  obtain ⟨z,hz⟩ := get_of_lt (l := g.sets) (i := j - 1) (by omega)
  refine ⟨?_,?_,?_⟩
  ·show 0 ≤ (s : Int) ∧ (s : Int) < ((g.sets.length + 1 : Nat) : Int); omega
  ·show 0 ≤ (j : Int) ∧ (j : Int) < ((g.sets.length + 1 : Nat) : Int); omega
  ·show checkE (g.sets.getD (j - 1) []) = 0
   rw [List.getD_eq_getElem?_getD,hz]
   exact hs z (List.mem_of_getElem? hz)
mutual
theorem look_of : ∀ t : Re,usesB [7,8,10] t = false → noLook t
  | .mk k z a mn mx b,h => by
    obtain ⟨h1,h2⟩ := usesB_arg h
    have h1' : ([7,8,10] : List Int).contains k = false := h1
    simp at h1'
    simp only [noLook]
    exact ⟨h1'.2.2,looks_of a h2⟩
theorem looks_of : ∀ l : List Re,(∀ y ∈ l,usesB [7,8,10] y = false) → noLooks l
  | [],_ => by simp only [noLooks]
  | x :: l,h => by
    simp only [noLooks]
    exact ⟨look_of x (h x List.mem_cons_self),looks_of l fun y hy => h y (List.mem_cons_of_mem _ hy)⟩
end
--END
--BEGIN
/-- Paths of k steps. -/
inductive PtN (P : Int → Int → Prop) (Y : Ed → Prop) : Nat → Int → List Int → Int → Prop
  | nil (s : Int) : PtN P Y 0 s [] s
  | eps {k : Nat} {s t u : Int} {w : List Int} : P s t → PtN P Y k t w u → PtN P Y (k + 1) s w u
  | edge {k : Nat} {e : Ed} {u c : Int} {w : List Int} : Y e → inS e.2.2 c = true → PtN P Y k e.2.1 w u → PtN P Y (k + 1) e.1 (c :: w) u
theorem PtN.app {P : Int → Int → Prop} {Y : Ed → Prop} {k m : Nat} {s t u : Int} {v w : List Int} (h : PtN P Y k s v t) (g : PtN P Y m t w u) : ∃ n,PtN P Y n s (v ++ w) u := by
  induction h with
  | nil => exact ⟨_,g⟩
  | eps h1 _ ih => obtain ⟨n,hn⟩ := ih g; exact ⟨_,.eps h1 hn⟩
  | edge h1 h2 _ ih => obtain ⟨n,hn⟩ := ih g; exact ⟨_,.edge h1 h2 hn⟩
structure Frg (D : Nat → Prop) (a b : Nat) (E : List (Int × Int)) (X : List Ed) (L : Lg) : Prop where
 ia : D a
 ib : D b
 ep : ∀ p ∈ E,∃ i j : Nat,p = ((i : Int),(j : Int)) ∧ D i ∧ i ≠ b ∧ D j
 ed : ∀ e ∈ X,∃ i j : Nat,e.1 = (i : Int) ∧ e.2.1 = (j : Int) ∧ D i ∧ i ≠ b ∧ D j
 gen : ∀ w,L w → ∀ (P : Int → Int → Prop) (Y : Ed → Prop),(∀ p ∈ E,P p.1 p.2) → (∀ e ∈ X,Y e) → ∃ k,PtN P Y k a w b
 dec : ∀ (P : Int → Int → Prop) (Y : Ed → Prop),(∀ (i : Nat) t,D i → i ≠ b → P (i : Int) t → ((i : Int),t) ∈ E) → (∀ (i : Nat) (e : Ed),D i → i ≠ b → e.1 = (i : Int) → Y e → e ∈ X) →
  ∀ k w u,PtN P Y k a w u → (∀ q : Nat,u = (q : Int) → D q → q = b) → ∃ k2 w1 w2,k2 ≤ k ∧ w = w1 ++ w2 ∧ L w1 ∧ PtN P Y k2 b w2 u
section
variable {D D1 D2 : Nat → Prop} {a b x y c e : Nat} {E E1 E2 : List (Int × Int)} {X X1 X2 : List Ed} {L L1 L2 : Lg}
theorem Frg.congr {D' : Nat → Prop} {L' : Lg} (h : Frg D a b E X L) (hD : ∀ q,D q ↔ D' q) (hL : ∀ w,L w ↔ L' w) : Frg D' a b E X L' := by
 have e1 : D = D' := funext fun q => propext (hD q)
 have e2 : L = L' := funext fun q => propext (hL q)
 rw [← e1,← e2]; exact h
/-- The step that leaves a state. -/
theorem leaveJ {P : Int → Int → Prop} {Y : Ed → Prop} (hP : ∀ (i : Nat) t,D i → i ≠ b → P (i : Int) t → ((i : Int),t) ∈ E) (hY : ∀ (i : Nat) (e : Ed),D i → i ≠ b → e.1 = (i : Int) → Y e → e ∈ X) {k : Nat} {w : List Int} {u : Int} {i : Nat} (h : PtN P Y k (i : Int) w u) (hu : ∀ q : Nat,u = (q : Int) → D q → q = b) (hi : D i) (hne : i ≠ b) :
    ∃ k',k = k' + 1 ∧ ((∃ t,((i : Int),t) ∈ E ∧ PtN P Y k' t w u) ∨ ∃ e c v,e ∈ X ∧ e.1 = (i : Int) ∧ inS e.2.2 c = true ∧ w = c :: v ∧ PtN P Y k' e.2.1 v u) := by
  generalize hs : (i : Int) = s at h
  cases h with
  | nil => exact absurd (hu i hs.symm hi) hne
  | @eps k t _ _ _ h1 h2 => subst hs; exact ⟨k,rfl,.inl ⟨_,hP i _ hi hne h1,h2⟩⟩
  | @edge k e _ c v h1 h2 h3 => exact ⟨k,rfl,.inr ⟨e,c,v,hY i e hi hne hs.symm h1,rfl,h2,rfl,h3⟩⟩
theorem Frg.one (a : Nat) : Frg (fun q => q = a) a a [] [] nilL :=
 ⟨rfl,rfl,fun p h => (by cases h),fun p h => (by cases h),fun w h P Y _ _ => ⟨0,by rw [show w = [] from h]; exact .nil _⟩,fun P Y _ _ k w u h _ => ⟨k,[],w,Nat.le_refl _,rfl,rfl,h⟩⟩
theorem Frg.none (hab : a ≠ b) : Frg (fun q => q = a ∨ q = b) a b [] [] noL :=
 ⟨.inl rfl,.inr rfl,fun p h => (by cases h),fun p h => (by cases h),fun w h => h.elim,fun P Y hP hY k w u h hu => by
  obtain ⟨k',_,⟨t,h1,_⟩ | ⟨e,_,_,h1,_⟩⟩ := leaveJ hP hY h hu (.inl rfl) hab
  ·cases h1
  ·cases h1⟩
theorem Frg.set (hab : a ≠ b) (z : List Sp) : Frg (fun q => q = a ∨ q = b) a b [] [((a : Int),(b : Int),z)] (setG z) :=
 ⟨.inl rfl,.inr rfl,fun p h => (by cases h),fun e h => ⟨a,b,by rw [List.mem_singleton.1 h],by rw [List.mem_singleton.1 h],.inl rfl,hab,.inr rfl⟩,fun w h P Y _ hY => by
  obtain ⟨c,rfl,hc⟩ := h
  exact ⟨1,.edge (hY _ (List.mem_singleton.2 rfl)) hc (.nil _)⟩,fun P Y hP hY k w u h hu => by
  obtain ⟨k',hk,⟨t,h1,_⟩ | ⟨e,c,v,h1,_,h2,rfl,h3⟩⟩ := leaveJ hP hY h hu (.inl rfl) hab
  ·cases h1
  ·rw [List.mem_singleton.1 h1] at h2 h3
   exact ⟨k',[c],v,by omega,rfl,⟨c,rfl,h2⟩,h3⟩⟩
/-- A state ahead. -/
theorem Frg.pre (h : Frg D1 x y E1 X1 L1) (ha : ¬ D1 a) (hE : ∀ p,p ∈ E ↔ p ∈ E1 ∨ p = ((a : Int),(x : Int))) : Frg (fun q => q = a ∨ D1 q) a y E X1 L1 := by
 have hay : a ≠ y := fun h9 => ha (h9 ▸ h.ib)
 refine ⟨.inl rfl,.inr h.ib,fun p hp => ?_,fun f hf => ?_,fun w hw P Y hP hY => ?_,fun P Y hP hY n w u hn hu => ?_⟩
 ·rcases (hE p).1 hp with h1 | rfl
  ·obtain ⟨i,j,h2,h3,h4,h5⟩ := h.ep p h1
   exact ⟨i,j,h2,.inr h3,h4,.inr h5⟩
  ·exact ⟨a,x,rfl,.inl rfl,hay,.inr h.ia⟩
 ·obtain ⟨i,j,h2,h2',h3,h4,h5⟩ := h.ed f hf
  exact ⟨i,j,h2,h2',.inr h3,h4,.inr h5⟩
 ·obtain ⟨n1,g1⟩ := h.gen w hw P Y (fun p hp => hP p ((hE p).2 (.inl hp))) hY
  exact ⟨_,.eps (hP _ ((hE _).2 (.inr rfl))) g1⟩
 ·obtain ⟨n1,hn1,⟨t,g1,g2⟩ | ⟨f,c,v,g1,g2,_⟩⟩ := leaveJ hP hY hn hu (.inl rfl) hay
  ·rcases (hE _).1 g1 with g | g
   ·obtain ⟨i',j,g3,g4,_⟩ := h.ep _ g
    simp only [Prod.mk.injEq] at g3
    obtain rfl : a = i' := by omega
    exact absurd g4 ha
   ·simp only [Prod.mk.injEq] at g
    rw [g.2] at g2
    obtain ⟨n2,w1,w2,l1,l2⟩ := h.dec P Y (fun i t hi hne hp => by
     rcases (hE _).1 (hP i t (.inr hi) hne hp) with g | g
     ·exact g
     ·simp only [Prod.mk.injEq] at g
      obtain rfl : i = a := by omega
      exact absurd hi ha) (fun i f hi hne hf hy => hY i f (.inr hi) hne hf hy) n1 w u g2 (fun q h1 hq => hu q h1 (.inr hq))
    exact ⟨n2,w1,w2,by omega,l2⟩
  ·obtain ⟨i',j,g3,_,g4,g5,_⟩ := h.ed _ g1
   obtain rfl : a = i' := by omega
   exact absurd g4 ha
/-- One behind the other, with a state in common. -/
theorem Frg.glue (h : Frg D1 a b E1 X1 L1) (k : Frg D2 b c E2 X2 L2) (hd : ∀ q,D1 q → D2 q → q = b) : Frg (fun q => D1 q ∨ D2 q) a c (E1 ++ E2) (X1 ++ X2) (catG L1 L2) := by
 have hc : D1 c → c = b := fun h9 => hd c h9 k.ib
 refine ⟨.inl h.ia,.inr k.ib,fun p hp => ?_,fun e he => ?_,fun w hw P Y hP hY => ?_,fun P Y hP hY n w u hn hu => ?_⟩
 ·rcases List.mem_append.1 hp with h1 | h1
  ·obtain ⟨i,j,h2,h3,h4,h5⟩ := h.ep p h1
   exact ⟨i,j,h2,.inl h3,fun e => h4 (e.trans (hc (e ▸ h3))),.inl h5⟩
  ·obtain ⟨i,j,h2,h3,h4,h5⟩ := k.ep p h1
   exact ⟨i,j,h2,.inr h3,h4,.inr h5⟩
 ·rcases List.mem_append.1 he with h1 | h1
  ·obtain ⟨i,j,h2,h2',h3,h4,h5⟩ := h.ed e h1
   exact ⟨i,j,h2,h2',.inl h3,fun e => h4 (e.trans (hc (e ▸ h3))),.inl h5⟩
  ·obtain ⟨i,j,h2,h2',h3,h4,h5⟩ := k.ed e h1
   exact ⟨i,j,h2,h2',.inr h3,h4,.inr h5⟩
 ·obtain ⟨u,v,rfl,h1,h2⟩ := hw
  obtain ⟨n1,g1⟩ := h.gen u h1 P Y (fun p hp => hP p (List.mem_append_left _ hp)) (fun e he => hY e (List.mem_append_left _ he))
  obtain ⟨n2,g2⟩ := k.gen v h2 P Y (fun p hp => hP p (List.mem_append_right _ hp)) (fun e he => hY e (List.mem_append_right _ he))
  exact g1.app g2
 ·obtain ⟨n1,w1,w2,h1,rfl,h2,h3⟩ := h.dec P Y (fun i t hi hne hp => by
   rcases List.mem_append.1 (hP i t (.inl hi) (fun e => hne (e.trans (hc (e ▸ hi)))) hp) with g | g
   ·exact g
   ·obtain ⟨i',j,g2,g3,_⟩ := k.ep _ g
    simp only [Prod.mk.injEq] at g2
    obtain rfl : i = i' := by omega
    exact absurd (hd i hi g3) hne) (fun i e hi hne he hy => by
   rcases List.mem_append.1 (hY i e (.inl hi) (fun e => hne (e.trans (hc (e ▸ hi)))) he hy) with g | g
   ·exact g
   ·obtain ⟨i',j,g2,_,g3,_⟩ := k.ed _ g
    obtain rfl : i = i' := by omega
    exact absurd (hd i hi g3) hne) n w u hn (fun q e hq => by
   have := hu q e (.inl hq)
   rw [this]; exact hc (this ▸ hq))
  obtain ⟨n3,v1,v2,l1,rfl,l2,l3⟩ := k.dec P Y (fun i t hi hne hp => by
   rcases List.mem_append.1 (hP i t (.inr hi) hne hp) with g | g
   ·obtain ⟨i',j,g2,g3,g4,_⟩ := h.ep _ g
    simp only [Prod.mk.injEq] at g2
    obtain rfl : i = i' := by omega
    exact absurd (hd i g3 hi) g4
   ·exact g) (fun i e hi hne he hy => by
   rcases List.mem_append.1 (hY i e (.inr hi) hne he hy) with g | g
   ·obtain ⟨i',j,g2,_,g3,g4,_⟩ := h.ed _ g
    obtain rfl : i = i' := by omega
    exact absurd (hd i g3 hi) g4
   ·exact g) n1 w2 u h3 (fun q e hq => hu q e (.inr hq))
  exact ⟨n3,w1 ++ v1,v2,by omega,by simp,⟨w1,v1,rfl,h2,l2⟩,l3⟩
/-- A path through a part, whose last state has one step more. -/
theorem Frg.exit (h : Frg D1 x y E1 X1 L1) {P : Int → Int → Prop} {Y : Ed → Prop} (hP : ∀ (i : Nat) t,D1 i → P (i : Int) t → ((i : Int),t) ∈ E1 ∨ (i = y ∧ t = (e : Int))) (hY : ∀ (i : Nat) (f : Ed),D1 i → f.1 = (i : Int) → Y f → f ∈ X1) {k : Nat} {w : List Int} {u : Int} (hk : PtN P Y k (x : Int) w u) (hu : ∀ q : Nat,u = (q : Int) → ¬ D1 q) :
    ∃ k2 w1 w2,k2 + 1 ≤ k ∧ w = w1 ++ w2 ∧ L1 w1 ∧ PtN P Y k2 e w2 u := by
  obtain ⟨n2,w1,w2,l1,rfl,l2,l3⟩ := h.dec P Y (fun i t hi hne hp => (hP i t hi hp).resolve_right fun g => hne g.1) (fun i f hi _ => hY i f hi) k w u hk (fun q e hq => absurd hq (hu q e))
  generalize hs : (y : Int) = s at l3
  cases l3 with
  | nil => exact absurd h.ib (hu y hs.symm)
  | @eps k t _ _ _ h1 h2 =>
    subst hs
    rcases hP y _ h.ib h1 with g | g
    · obtain ⟨i',j,g3,_,g5,_⟩ := h.ep _ g
      simp only [Prod.mk.injEq] at g3; omega
    · rw [g.2] at h2
      exact ⟨k,w1,w2,by omega,rfl,l2,h2⟩
  | @edge k f _ c v h1 h2 h3 =>
    obtain ⟨i',j,g3,_,_,g5,_⟩ := h.ed _ (hY y f h.ib hs.symm h1)
    omega
/-- A second way, for nothing: to a new state e behind both. -/
theorem Frg.way (h : Frg D1 x y E1 X1 L1) (he : ¬ D1 e) (ha : ¬ D1 a) (hae : a ≠ e) (hE : ∀ p,p ∈ E ↔ p ∈ E1 ∨ p = ((a : Int),(x : Int)) ∨ p = ((a : Int),(e : Int)) ∨ p = ((y : Int),(e : Int))) : Frg (fun q => q = a ∨ D1 q ∨ q = e) a e E X1 (fun w => L1 w ∨ w = []) := by
 have hye : y ≠ e := fun h9 => he (h9 ▸ h.ib)
 refine ⟨.inl rfl,.inr (.inr rfl),fun p hp => ?_,fun f hf => ?_,fun w hw P Y hP hY => ?_,fun P Y hP hY n w u hn hu => ?_⟩
 ·rcases (hE p).1 hp with h1 | rfl | rfl | rfl
  ·obtain ⟨i,j,h2,h3,h4,h5⟩ := h.ep p h1
   exact ⟨i,j,h2,.inr (.inl h3),fun h9 => he (h9 ▸ h3),.inr (.inl h5)⟩
  ·exact ⟨a,x,rfl,.inl rfl,hae,.inr (.inl h.ia)⟩
  ·exact ⟨a,e,rfl,.inl rfl,hae,.inr (.inr rfl)⟩
  ·exact ⟨y,e,rfl,.inr (.inl h.ib),hye,.inr (.inr rfl)⟩
 ·obtain ⟨i,j,h2,h2',h3,h4,h5⟩ := h.ed f hf
  exact ⟨i,j,h2,h2',.inr (.inl h3),fun h9 => he (h9 ▸ h3),.inr (.inl h5)⟩
 ·rcases hw with hw | rfl
  ·obtain ⟨n1,g1⟩ := h.gen w hw P Y (fun p hp => hP p ((hE p).2 (.inl hp))) hY
   obtain ⟨n2,g2⟩ := g1.app (.eps (hP _ ((hE _).2 (.inr (.inr (.inr rfl))))) (.nil _))
   rw [List.append_nil] at g2
   exact ⟨_,.eps (hP _ ((hE _).2 (.inr (.inl rfl)))) g2⟩
  ·exact ⟨1,.eps (hP _ ((hE _).2 (.inr (.inr (.inl rfl))))) (.nil _)⟩
 ·obtain ⟨n1,hn1,⟨t,g1,g2⟩ | ⟨f,c,v,g1,g2,_⟩⟩ := leaveJ hP hY hn hu (.inl rfl) hae
  ·rcases (hE _).1 g1 with g | g | g | g
   ·obtain ⟨i',j,g3,g4,_⟩ := h.ep _ g
    simp only [Prod.mk.injEq] at g3
    obtain rfl : a = i' := by omega
    exact absurd g4 ha
   ·simp only [Prod.mk.injEq] at g
    rw [g.2] at g2
    obtain ⟨n3,w1,w2,l1,l2,l3,l4⟩ := h.exit (e := e) (fun i t hi hp => by
     rcases (hE _).1 (hP i t (.inr (.inl hi)) (fun h9 => he (h9 ▸ hi)) hp) with g | g | g | g
     ·exact .inl g
     ·simp only [Prod.mk.injEq] at g
      obtain rfl : i = a := by omega
      exact absurd hi ha
     ·simp only [Prod.mk.injEq] at g
      obtain rfl : i = a := by omega
      exact absurd hi ha
     ·simp only [Prod.mk.injEq] at g; exact .inr ⟨by omega,g.2⟩) (fun i f hi hf hy => hY i f (.inr (.inl hi)) (fun h9 => he (h9 ▸ hi)) hf hy) g2 (fun q h1 hq => he (hu q h1 (.inr (.inl hq)) ▸ hq))
    exact ⟨n3,w1,w2,by omega,l2,.inl l3,l4⟩
   ·simp only [Prod.mk.injEq] at g
    rw [g.2] at g2
    exact ⟨n1,[],w,by omega,rfl,.inr rfl,g2⟩
   ·simp only [Prod.mk.injEq] at g
    obtain rfl : a = y := by omega
    exact absurd h.ib ha
  ·obtain ⟨i',j,g3,_,g4,g5,_⟩ := h.ed _ g1
   obtain rfl : a = i' := by omega
   exact absurd g4 ha
theorem Frg.star (h : Frg D1 x y E1 X1 L1) (he : ¬ D1 e) (ha : ¬ D1 a) (hae : a ≠ e) (hE : ∀ p,p ∈ E ↔ p ∈ E1 ∨ p = ((a : Int),(x : Int)) ∨ p = ((a : Int),(e : Int)) ∨ p = ((y : Int),(a : Int))) : Frg (fun q => q = a ∨ D1 q ∨ q = e) a e E X1 (starG L1) := by
  have hye : y ≠ e := fun h9 => he (h9 ▸ h.ib)
  refine ⟨.inl rfl,.inr (.inr rfl),fun p hp => ?_,fun f hf => ?_,fun w hw P Y hP hY => ?_,fun P Y hP hY n => ?_⟩
  · rcases (hE p).1 hp with h1 | rfl | rfl | rfl
    · obtain ⟨i,j,h2,h3,h4,h5⟩ := h.ep p h1
      exact ⟨i,j,h2,.inr (.inl h3),fun h9 => he (h9 ▸ h3),.inr (.inl h5)⟩
    · exact ⟨a,x,rfl,.inl rfl,hae,.inr (.inl h.ia)⟩
    · exact ⟨a,e,rfl,.inl rfl,hae,.inr (.inr rfl)⟩
    · exact ⟨y,a,rfl,.inr (.inl h.ib),hye,.inl rfl⟩
  · obtain ⟨i,j,h2,h2',h3,h4,h5⟩ := h.ed f hf
    exact ⟨i,j,h2,h2',.inr (.inl h3),fun h9 => he (h9 ▸ h3),.inr (.inl h5)⟩
  · induction hw with
    | nil => exact ⟨1,.eps (hP _ ((hE _).2 (.inr (.inr (.inl rfl))))) (.nil _)⟩
    | @cons u v hu _ ih =>
      obtain ⟨n2,g2⟩ := ih
      obtain ⟨n1,g1⟩ := h.gen u hu P Y (fun p hp => hP p ((hE p).2 (.inl hp))) hY
      obtain ⟨n3,g3⟩ := g1.app (.eps (hP _ ((hE _).2 (.inr (.inr (.inr rfl))))) g2)
      exact ⟨_,.eps (hP _ ((hE _).2 (.inr (.inl rfl)))) g3⟩
  · induction n using Nat.strongRecOn with
    | _ n ih =>
    intro w u hn hu
    obtain ⟨n1,hn1,⟨t,g1,g2⟩ | ⟨f,c,v,g1,g2,_⟩⟩ := leaveJ hP hY hn hu (.inl rfl) hae
    · rcases (hE _).1 g1 with g | g | g | g
      · obtain ⟨i',j,g3,g4,_⟩ := h.ep _ g
        simp only [Prod.mk.injEq] at g3
        obtain rfl : a = i' := by omega
        exact absurd g4 ha
      · simp only [Prod.mk.injEq] at g
        rw [g.2] at g2
        obtain ⟨n3,w1,w2,l1,rfl,l3,l4⟩ := h.exit (e := a) (fun i t hi hp => by
          rcases (hE _).1 (hP i t (.inr (.inl hi)) (fun h9 => he (h9 ▸ hi)) hp) with g | g | g | g
          · exact .inl g
          · simp only [Prod.mk.injEq] at g
            obtain rfl : i = a := by omega
            exact absurd hi ha
          · simp only [Prod.mk.injEq] at g
            obtain rfl : i = a := by omega
            exact absurd hi ha
          · simp only [Prod.mk.injEq] at g; exact .inr ⟨by omega,g.2⟩) (fun i f hi hf hy => hY i f (.inr (.inl hi)) (fun h9 => he (h9 ▸ hi)) hf hy) g2 (fun q h1 hq => he (hu q h1 (.inr (.inl hq)) ▸ hq))
        obtain ⟨n4,v1,v2,m1,rfl,m2,m3⟩ := ih n3 (by omega) w2 u l4 hu
        exact ⟨n4,w1 ++ v1,v2,by omega,by simp,.cons l3 m2,m3⟩
      · simp only [Prod.mk.injEq] at g
        rw [g.2] at g2
        exact ⟨n1,[],w,by omega,rfl,.nil,g2⟩
      · simp only [Prod.mk.injEq] at g
        obtain rfl : a = y := by omega
        exact absurd h.ib ha
    · obtain ⟨i',j,g3,_,g4,g5,_⟩ := h.ed _ g1
      obtain rfl : a = i' := by omega
      exact absurd g4 ha
end
--END
--BEGIN
def AddT (s s' : ThS) (E : List (Int × Int)) (X : List Ed) : Prop := s'.eps = s.eps ++ E ∧ s'.edges = s.edges ++ X ∧ s.n ≤ s'.n
abbrev rngT (n m : Nat) : Nat → Prop := fun q => n ≤ q ∧ q < m
def TLg (f : TF) (L : Lg) : Prop := ∀ s s' a b,f s = some (s',a,b) → ∃ E X,AddT s s' E X ∧ Frg (rngT s.n s'.n) a b E X L
theorem newT_eq {s s1 : ThS} {a : Nat} (h : newT s = some (s1,a)) : s1 = ⟨s.n + 1,s.eps,s.edges⟩ ∧ a = s.n := by
 unfold newT at h
 split at h
 ·cases h
 ·simp only [Option.some.injEq,Prod.mk.injEq] at h
  exact ⟨h.1.symm,h.2.symm⟩
theorem catT_lg : ∀ (fs : List TF) (Ls : List Lg),All3 TLg fs Ls → ∀ (s s' : ThS) (b b' : Nat),catT fs s b = some (s',b') → b < s.n → ∃ E X,AddT s s' E X ∧ Frg (fun q => q = b ∨ rngT s.n s'.n q) b b' E X (catsG Ls)
  | [],_,.nil,s,s',b,b',e,hb => by
    simp only [catT,Option.some.injEq,Prod.mk.injEq] at e
    obtain ⟨rfl,rfl⟩ := e
    exact ⟨[],[],⟨by simp,by simp,Nat.le_refl _⟩,(Frg.one b).congr (fun q => by unfold rngT; omega) fun _ => Iff.rfl⟩
  | f :: fs,_,.cons (b := B) (m := Ls) h0 hs,s,s',b,b',e,hb => by
    rw [catT] at e
    obtain ⟨⟨s1,x,y⟩,e1,e2⟩ := Option.bind_eq_some_iff.1 e
    simp only at e2
    obtain ⟨E1,X1,⟨a1,a2,a3⟩,k1⟩ := h0 s s1 x y e1
    have hy := k1.ib
    unfold rngT at hy
    obtain ⟨E2,X2,⟨b1,b2,b3⟩,k2⟩ := catT_lg fs Ls hs _ _ _ _ e2 (show y < s1.n from hy.2)
    have k3 := k1.pre (a := b) (E := E1 ++ [((b : Int),(x : Int))]) (by unfold rngT; omega) (fun p => by simp)
    have hn : (epsT s1 b x).n = s1.n := rfl
    rw [hn] at b3 k2
    refine ⟨(E1 ++ [((b : Int),(x : Int))]) ++ E2,X1 ++ X2,⟨by rw [b1]; show s1.eps ++ [((b : Int),(x : Int))] ++ E2 = _; rw [a1]; simp,by rw [b2]; show s1.edges ++ X2 = _; rw [a2]; simp,by omega⟩,?_⟩
    exact (k3.glue k2 (fun q h1 h2 => by unfold rngT at h1 h2; omega)).congr (fun q => by unfold rngT; omega) fun _ => Iff.rfl
theorem copyT_lg {f : TF} {L : Lg} (hf : TLg f L) {s s' : ThS} {b b' : Nat} {out : Bool} (e : copyT f s b out = some (s',b')) (hb : b < s.n) : ∃ E X,AddT s s' E X ∧ Frg (fun q => q = b ∨ rngT s.n s'.n q) b b' E X (fun w => L w ∨ (w = [] ∧ out = true)) := by
 unfold copyT at e
 obtain ⟨⟨s1,x,y⟩,e1,e2⟩ := Option.bind_eq_some_iff.1 e
 simp only at e2
 obtain ⟨E1,X1,⟨a1,a2,a3⟩,k1⟩ := hf s s1 x y e1
 have hy := k1.ib
 unfold rngT at hy
 split at e2
 ·rename_i ho
  obtain ⟨⟨s2,q0⟩,e3,e4⟩ := Option.bind_eq_some_iff.1 e2
  simp only [Option.some.injEq,Prod.mk.injEq] at e4
  obtain ⟨rfl,rfl⟩ := e4
  obtain ⟨rfl,rfl⟩ := newT_eq e3
  have hn : (epsT s1 b x).n = s1.n := rfl
  rw [hn]
  refine ⟨E1 ++ [((b : Int),(x : Int)),((b : Int),(s1.n : Int)),((y : Int),(s1.n : Int))],X1,⟨by show s1.eps ++ [((b : Int),(x : Int))] ++ [((b : Int),(s1.n : Int))] ++ [((y : Int),(s1.n : Int))] = _; rw [a1]; simp,a2,by show s.n ≤ s1.n + 1; omega⟩,?_⟩
  exact (k1.way (a := b) (e := s1.n) (by unfold rngT; omega) (by unfold rngT; omega) (by omega) (fun p => by simp)).congr (fun q => by show _ ↔ q = b ∨ (s.n ≤ q ∧ q < s1.n + 1); unfold rngT; omega) fun w => by rw [ho]; simp
 ·rename_i ho
  simp only [Option.some.injEq,Prod.mk.injEq] at e2
  obtain ⟨rfl,rfl⟩ := e2
  refine ⟨E1 ++ [((b : Int),(x : Int))],X1,⟨by show s1.eps ++ [((b : Int),(x : Int))] = _; rw [a1]; simp,a2,a3⟩,?_⟩
  exact (k1.pre (a := b) (by unfold rngT; omega) (fun p => by simp)).congr (fun q => Iff.rfl) fun w => by simp [ho]
theorem repT_lg {f : TF} {L : Lg} (hf : TLg f L) {mn : Int} {s : ThS} {b : Nat} (hb : b < s.n) : ∀ (k : Nat) (s' : ThS) (b' : Nat),repT f mn s b k = some (s',b') → ∃ E X,AddT s s' E X ∧ Frg (fun q => q = b ∨ rngT s.n s'.n q) b b' E X (optJ L mn k)
  | 0,s',b',e => by
    simp only [repT,Option.some.injEq,Prod.mk.injEq] at e
    obtain ⟨rfl,rfl⟩ := e
    exact ⟨[],[],⟨by simp,by simp,Nat.le_refl _⟩,(Frg.one b).congr (fun q => by unfold rngT; omega) fun _ => Iff.rfl⟩
  | k + 1,s',b',e => by
    rw [repT] at e
    obtain ⟨⟨s1,b1⟩,e1,e2⟩ := Option.bind_eq_some_iff.1 e
    simp only at e2
    obtain ⟨E1,X1,⟨a1,a2,a3⟩,k1⟩ := repT_lg hf hb k s1 b1 e1
    have hy := k1.ib
    unfold rngT at hy
    have hb1 : b1 < s1.n := by omega
    obtain ⟨E2,X2,⟨c1,c2,c3⟩,k2⟩ := copyT_lg hf e2 hb1
    refine ⟨E1 ++ E2,X1 ++ X2,⟨by rw [c1,a1]; simp,by rw [c2,a2]; simp,by omega⟩,?_⟩
    exact (k1.glue k2 (fun q h1 h2 => by unfold rngT at h1 h2; omega)).congr (fun q => by unfold rngT; omega) fun w => by
      show catG _ _ w ↔ catG _ _ w
      refine catG_iff (fun _ => Iff.rfl) (fun w => ?_) w
      simp
/-- A chain of alternatives from a state on. -/
structure AltJ (n m a e : Nat) (E : List (Int × Int)) (X : List Ed) (L : Lg) : Prop where
 ep : ∀ p ∈ E,∃ i j : Nat,p = ((i : Int),(j : Int)) ∧ (i = a ∨ rngT n m i) ∧ (rngT n m j ∨ j = e)
 ed : ∀ f ∈ X,∃ i j : Nat,f.1 = (i : Int) ∧ f.2.1 = (j : Int) ∧ rngT n m i ∧ rngT n m j
 gen : ∀ w,L w → ∀ (P : Int → Int → Prop) (Y : Ed → Prop),(∀ p ∈ E,P p.1 p.2) → (∀ f ∈ X,Y f) → ∃ k,PtN P Y k a w e
 dec : ∀ (P : Int → Int → Prop) (Y : Ed → Prop),(∀ (i : Nat) t,rngT n m i → P (i : Int) t → ((i : Int),t) ∈ E) → (∀ (i : Nat) (f : Ed),rngT n m i → f.1 = (i : Int) → Y f → f ∈ X) →
  ∀ k w u t,((a : Int),t) ∈ E → PtN P Y k t w u → (∀ q : Nat,u = (q : Int) → ¬ rngT n m q) → ∃ k2 w1 w2,k2 ≤ k ∧ w = w1 ++ w2 ∧ L w1 ∧ PtN P Y k2 e w2 u
/-- One alternative more: the others begin in a', which is a or a state that a leads to. -/
theorem AltJ.cons {n m n2 m2 a a' e x y : Nat} {E E1 E2 : List (Int × Int)} {X1 X2 : List Ed} {L1 L2 : Lg} (h : Frg (rngT n m) x y E1 X1 L1) (k : AltJ n2 m2 a' e E2 X2 L2) (ha : a < n) (he : e < n) (hae : a ≠ e) (hnm : n ≤ m) (hm : m ≤ n2) (hm2 : n2 ≤ m2)
    (h1 : (a' = a ∧ n2 = m ∧ ∀ p,p ∈ E ↔ p ∈ E1 ∨ p = ((a : Int),(x : Int)) ∨ p = ((y : Int),(e : Int)) ∨ p ∈ E2) ∨ (a' = m ∧ n2 = m + 1 ∧ ∀ p,p ∈ E ↔ p ∈ E1 ∨ p = ((a : Int),(x : Int)) ∨ p = ((y : Int),(e : Int)) ∨ p = ((a : Int),(a' : Int)) ∨ p ∈ E2)) : AltJ n m2 a e E (X1 ++ X2) (fun w => L1 w ∨ L2 w) := by
  have hx := h.ia
  have hy := h.ib
  unfold rngT at hx hy
  have hs : ∀ p,p ∈ E → p ∈ E1 ∨ p = ((a : Int),(x : Int)) ∨ p = ((y : Int),(e : Int)) ∨ (a' = m ∧ p = ((a : Int),(a' : Int))) ∨ p ∈ E2 := fun p hp => by
    rcases h1 with ⟨_,_,h9⟩ | ⟨h8,_,h9⟩
    · exact ((h9 p).1 hp).imp id (.imp id (.imp id .inr))
    · exact ((h9 p).1 hp).imp id (.imp id (.imp id (.imp (fun g => ⟨h8,g⟩) id)))
  have t1 : ∀ p ∈ E1,p ∈ E := fun p hp => by rcases h1 with ⟨_,_,h9⟩ | ⟨_,_,h9⟩ <;> exact (h9 p).2 (.inl hp)
  have t2 : ((a : Int),(x : Int)) ∈ E := by rcases h1 with ⟨_,_,h9⟩ | ⟨_,_,h9⟩ <;> exact (h9 _).2 (.inr (.inl rfl))
  have t3 : ((y : Int),(e : Int)) ∈ E := by rcases h1 with ⟨_,_,h9⟩ | ⟨_,_,h9⟩ <;> exact (h9 _).2 (.inr (.inr (.inl rfl)))
  have t4 : ∀ p ∈ E2,p ∈ E := fun p hp => by
    rcases h1 with ⟨_,_,h9⟩ | ⟨_,_,h9⟩
    · exact (h9 p).2 (.inr (.inr (.inr hp)))
    · exact (h9 p).2 (.inr (.inr (.inr (.inr hp))))
  have ha' : a' = a ∨ (a' = m ∧ n2 = m + 1) := h1.imp (fun g => g.1) fun g => ⟨g.1,g.2.1⟩
  refine ⟨fun p hp => ?_,fun f hf => ?_,fun w hw P Y hP hY => ?_,fun P Y hP hY n0 w u t ht hn hu => ?_⟩
  · rcases hs p hp with g | rfl | rfl | ⟨g0,rfl⟩ | g
    · obtain ⟨i,j,h2,h3,h4,h5⟩ := h.ep p g
      unfold rngT at h3 h5 ⊢
      exact ⟨i,j,h2,by omega,by omega⟩
    · exact ⟨a,x,rfl,.inl rfl,by unfold rngT; omega⟩
    · exact ⟨y,e,rfl,by unfold rngT; omega,.inr rfl⟩
    · exact ⟨a,a',rfl,.inl rfl,by unfold rngT; omega⟩
    · obtain ⟨i,j,h2,h3,h4⟩ := k.ep p g
      unfold rngT at h3 h4 ⊢
      exact ⟨i,j,h2,by omega,by omega⟩
  · rcases List.mem_append.1 hf with g | g
    · obtain ⟨i,j,h2,h2',h3,h4,h5⟩ := h.ed f g
      unfold rngT at h3 h5 ⊢
      exact ⟨i,j,h2,h2',by omega,by omega⟩
    · obtain ⟨i,j,h2,h2',h3,h5⟩ := k.ed f g
      unfold rngT at h3 h5 ⊢
      exact ⟨i,j,h2,h2',by omega,by omega⟩
  · rcases hw with hw | hw
    · obtain ⟨n1,g1⟩ := h.gen w hw P Y (fun p hp => hP p (t1 p hp)) (fun e he => hY e (List.mem_append_left _ he))
      obtain ⟨n2,g2⟩ := g1.app (.eps (hP _ t3) (.nil _))
      rw [List.append_nil] at g2
      exact ⟨_,.eps (hP _ t2) g2⟩
    · obtain ⟨n1,g1⟩ := k.gen w hw P Y (fun p hp => hP p (t4 p hp)) (fun e he => hY e (List.mem_append_right _ he))
      rcases h1 with ⟨h8,_,_⟩ | ⟨_,_,h9⟩
      · rw [h8] at g1; exact ⟨_,g1⟩
      · exact ⟨_,.eps (hP _ ((h9 _).2 (.inr (.inr (.inr (.inl rfl)))))) g1⟩
  · have hP2 : ∀ (i : Nat) t,rngT n2 m2 i → P (i : Int) t → ((i : Int),t) ∈ E2 := fun i t hi hp => by
      unfold rngT at hi
      rcases hs _ (hP i t (by unfold rngT; omega) hp) with g | g | g | ⟨_,g⟩ | g
      · obtain ⟨i',j,h2,h3,_⟩ := h.ep _ g
        unfold rngT at h3
        simp only [Prod.mk.injEq] at h2; omega
      · simp only [Prod.mk.injEq] at g; omega
      · simp only [Prod.mk.injEq] at g; omega
      · simp only [Prod.mk.injEq] at g; omega
      · exact g
    have hY2 : ∀ (i : Nat) (f : Ed),rngT n2 m2 i → f.1 = (i : Int) → Y f → f ∈ X2 := fun i f hi hf hy => by
      unfold rngT at hi
      rcases List.mem_append.1 (hY i f (by unfold rngT; omega) hf hy) with g | g
      · obtain ⟨i',j,h2,_,h3,_⟩ := h.ed _ g
        unfold rngT at h3; omega
      · exact g
    have hu2 : ∀ q : Nat,u = (q : Int) → ¬ rngT n2 m2 q := fun q h9 hq => hu q h9 (by unfold rngT at hq ⊢; omega)
    have cont : ∀ t,((a' : Int),t) ∈ E2 → ∀ n3,n3 ≤ n0 → PtN P Y n3 t w u → ∃ k2 w1 w2,k2 ≤ n0 ∧ w = w1 ++ w2 ∧ (L1 w1 ∨ L2 w1) ∧ PtN P Y k2 e w2 u := fun t ht n3 h3 hp => by
      obtain ⟨n4,w1,w2,l1,l2,l3,l4⟩ := k.dec P Y hP2 hY2 n3 w u t ht hp hu2
      exact ⟨n4,w1,w2,by omega,l2,.inr l3,l4⟩
    rcases hs _ ht with g | g | g | ⟨g0,g⟩ | g
    · obtain ⟨i',j,h2,h3,_⟩ := h.ep _ g
      unfold rngT at h3
      simp only [Prod.mk.injEq] at h2; omega
    · simp only [Prod.mk.injEq] at g
      rw [g.2] at hn
      obtain ⟨n3,w1,w2,l1,l2,l3,l4⟩ := h.exit (e := e) (fun i t hi hp => by
        have hi' := hi
        unfold rngT at hi'
        rcases hs _ (hP i t (by unfold rngT; omega) hp) with g | g | g | ⟨_,g⟩ | g
        · exact .inl g
        · simp only [Prod.mk.injEq] at g; omega
        · simp only [Prod.mk.injEq] at g; exact .inr ⟨by omega,g.2⟩
        · simp only [Prod.mk.injEq] at g; omega
        · obtain ⟨i',j,h2,h3,_⟩ := k.ep _ g
          unfold rngT at h3
          simp only [Prod.mk.injEq] at h2; omega) (fun i f hi hf hy => by
        have hi' := hi
        unfold rngT at hi'
        rcases List.mem_append.1 (hY i f (by unfold rngT; omega) hf hy) with g | g
        · exact g
        · obtain ⟨i',j,h2,_,h3,_⟩ := k.ed _ g
          unfold rngT at h3; omega) hn (fun q h9 hq => hu q h9 (by unfold rngT at hq ⊢; omega))
      exact ⟨n3,w1,w2,by omega,l2,.inl l3,l4⟩
    · simp only [Prod.mk.injEq] at g; omega
    · simp only [Prod.mk.injEq] at g
      rw [g.2] at hn
      generalize hs9 : (a' : Int) = s at hn
      cases hn with
      | nil => exact absurd hs9.symm fun h9 => hu a' h9 (by unfold rngT; omega)
      | @eps k9 t9 _ _ _ p1 p2 =>
        subst hs9
        rcases hs _ (hP a' _ (by unfold rngT; omega) p1) with g | g | g | ⟨_,g⟩ | g
        · obtain ⟨i',j,h2,h3,_⟩ := h.ep _ g
          unfold rngT at h3
          simp only [Prod.mk.injEq] at h2; omega
        · simp only [Prod.mk.injEq] at g; omega
        · simp only [Prod.mk.injEq] at g; omega
        · simp only [Prod.mk.injEq] at g; omega
        · exact cont _ g k9 (by omega) p2
      | @edge k9 f _ c v p1 p2 p3 =>
        exfalso
        rcases List.mem_append.1 (hY a' f (by unfold rngT; omega) hs9.symm p1) with g | g
        · obtain ⟨i',j,h2,_,h3,_⟩ := h.ed _ g
          unfold rngT at h3; omega
        · obtain ⟨i',j,h2,_,h3,_⟩ := k.ed _ g
          unfold rngT at h3; omega
    · have e9 : a' = a := by
        obtain ⟨i',j,h2,h3,_⟩ := k.ep _ g
        unfold rngT at h3
        simp only [Prod.mk.injEq] at h2
        omega
      exact cont t (by rw [e9]; exact g) n0 (Nat.le_refl _) hn
theorem altT_lg (e : Nat) : ∀ (fs : List TF) (Ls : List Lg),All3 TLg fs Ls → ∀ (s s' : ThS) (a : Nat),altT e fs s a = some s' → a < s.n → e < s.n → a ≠ e → ∃ E X,AddT s s' E X ∧ AltJ s.n s'.n a e E X (anyG Ls)
  | [],_,.nil,s,s',a,h,_,_,_ => by
    simp only [altT,Option.some.injEq] at h
    subst h
    exact ⟨[],[],⟨by simp,by simp,Nat.le_refl _⟩,fun p h => (by cases h),fun p h => (by cases h),fun w h => (by obtain ⟨_,h1,_⟩ := h; cases h1),fun P Y _ _ k w u t h => (by cases h)⟩
  | f :: fs,_,.cons (b := B) (m := Ls) h0 hs,s,s',a,h,ha,he,hae => by
    rw [altT] at h
    obtain ⟨⟨s1,x,y⟩,e1,e2⟩ := Option.bind_eq_some_iff.1 h
    simp only at e2
    obtain ⟨E1,X1,⟨a1,a2,a3⟩,k1⟩ := h0 s s1 x y e1
    have hL : ∀ w,(B w ∨ anyG Ls w) ↔ anyG (B :: Ls) w := fun w => by unfold anyG; simp
    have hn : (epsT (epsT s1 a x) y e).n = s1.n := rfl
    split at e2
    · obtain ⟨⟨s2,q0⟩,e3,e4⟩ := Option.bind_eq_some_iff.1 e2
      simp only at e4
      obtain ⟨rfl,rfl⟩ := newT_eq e3
      rw [hn] at e4
      obtain ⟨E2,X2,⟨c1,c2,c3⟩,k2⟩ := altT_lg e fs Ls hs _ _ _ e4 (show s1.n < s1.n + 1 by omega) (show e < s1.n + 1 by omega) (by omega)
      have c3' : s1.n + 1 ≤ s'.n := c3
      have k3 := AltJ.cons (E := E1 ++ [((a : Int),(x : Int)),((y : Int),(e : Int)),((a : Int),(s1.n : Int))] ++ E2) k1 k2 ha he hae a3 (show s1.n ≤ s1.n + 1 by omega) c3' (.inr ⟨rfl,rfl,fun p => by simp [or_assoc]⟩)
      have e9 : (fun w => B w ∨ anyG Ls w) = anyG (B :: Ls) := funext fun w => propext (hL w)
      rw [e9] at k3
      exact ⟨_,_,⟨by rw [c1]; show s1.eps ++ [((a : Int),(x : Int))] ++ [((y : Int),(e : Int))] ++ [((a : Int),(s1.n : Int))] ++ E2 = _; rw [a1]; simp,by rw [c2]; show s1.edges ++ X2 = _; rw [a2]; simp,by omega⟩,k3⟩
    · obtain ⟨E2,X2,⟨c1,c2,c3⟩,k2⟩ := altT_lg e fs Ls hs _ _ _ e2 (show a < s1.n by omega) (show e < s1.n by omega) hae
      have c3' : s1.n ≤ s'.n := c3
      have k3 := AltJ.cons (E := E1 ++ [((a : Int),(x : Int)),((y : Int),(e : Int))] ++ E2) k1 k2 ha he hae a3 (show s1.n ≤ s1.n by omega) c3' (.inl ⟨rfl,rfl,fun p => by simp [or_assoc]⟩)
      have e9 : (fun w => B w ∨ anyG Ls w) = anyG (B :: Ls) := funext fun w => propext (hL w)
      rw [e9] at k3
      exact ⟨_,_,⟨by rw [c1]; show s1.eps ++ [((a : Int),(x : Int))] ++ [((y : Int),(e : Int))] ++ E2 = _; rw [a1]; simp,by rw [c2]; show s1.edges ++ X2 = _; rw [a2]; simp,by omega⟩,k3⟩
theorem AltJ.frg {n m a e : Nat} {E : List (Int × Int)} {X : List Ed} {L : Lg} (h : AltJ n m a e E X L) (ha : a < n) (he : e < n) (hae : a ≠ e) : Frg (fun q => q = a ∨ q = e ∨ rngT n m q) a e E X L := by
 refine ⟨.inl rfl,.inr (.inl rfl),fun p hp => ?_,fun f hf => ?_,h.gen,fun P Y hP hY k w u hk hu => ?_⟩
 ·obtain ⟨i,j,h1,h2,h3⟩ := h.ep p hp
  refine ⟨i,j,h1,h2.imp id .inr,?_,h3.elim (fun h => .inr (.inr h)) fun h => .inr (.inl h)⟩
  unfold rngT at h2; omega
 ·obtain ⟨i,j,h1,h1',h2,h3⟩ := h.ed f hf
  exact ⟨i,j,h1,h1',.inr (.inr h2),by unfold rngT at h2; omega,.inr (.inr h3)⟩
 ·obtain ⟨n1,hn1,⟨t,g1,g2⟩ | ⟨f,c,v,g1,g2,_⟩⟩ := leaveJ hP hY hk hu (.inl rfl) hae
  ·obtain ⟨n3,w1,w2,l1,l2⟩ := h.dec P Y (fun i t hi hp => hP i t (.inr (.inr hi)) (by unfold rngT at hi; omega) hp) (fun i f hi hf hy => hY i f (.inr (.inr hi)) (by unfold rngT at hi; omega) hf hy) n1 w u t g1 g2 (fun q h9 hq => by have := hu q h9 (.inr (.inr hq)); unfold rngT at hq; omega)
   exact ⟨n3,w1,w2,by omega,l2⟩
  ·obtain ⟨i',j,g3,_,g4,_⟩ := h.ed _ g1
   unfold rngT at g4; omega
theorem nodeT_lg {k : Int} {z : List Sp} {mn mx : Int} {fs : List TF} {Ls : List Lg} (hL : All3 TLg fs Ls) (hk : k ≠ 7 ∧ k ≠ 8) (h06 : 0 ≤ k ∧ k < 10) (hr : k = 6 → 0 ≤ mn ∧ mn ≤ mx) (h1 : k = 6 → fs ≠ []) : TLg (nodeT k z mn mx fs) (langK k z Ls mn mx) := by
  intro s s' a b e
  unfold nodeT at e
  obtain ⟨⟨s1,a1⟩,e1,e2⟩ := Option.bind_eq_some_iff.1 e
  simp only at e2
  obtain ⟨rfl,rfl⟩ := newT_eq e1
  unfold langK
  have hs1 : ∀ q : Nat,q = s.n ∨ rngT (s.n + 1) s'.n q ↔ q = s.n ∨ (s.n + 1 ≤ q ∧ q < s'.n) := fun q => Iff.rfl
  split at e2
  · rename_i h
    obtain ⟨⟨s2,b2⟩,e3,e4⟩ := Option.bind_eq_some_iff.1 e2
    simp only [Option.some.injEq,Prod.mk.injEq] at e4
    obtain ⟨rfl,rfl,rfl⟩ := e4
    obtain ⟨rfl,rfl⟩ := newT_eq e3
    subst h
    exact ⟨[],[],⟨by simp,by simp,by show s.n ≤ s.n + 1 + 1; omega⟩,(Frg.none (show s.n ≠ s.n + 1 by omega)).congr (fun q => by show _ ↔ s.n ≤ q ∧ q < s.n + 1 + 1; omega) fun w => by simp⟩
  rename_i n0
  split at e2
  · rename_i h
    simp only [Option.some.injEq,Prod.mk.injEq] at e2
    obtain ⟨rfl,rfl,rfl⟩ := e2
    rw [if_pos h]
    exact ⟨[],[],⟨by simp,by simp,by show s.n ≤ s.n + 1; omega⟩,(Frg.one s.n).congr (fun q => by show _ ↔ s.n ≤ q ∧ q < s.n + 1; omega) fun w => Iff.rfl⟩
  rename_i n1
  rw [if_neg n1]
  split at e2
  · rename_i h
    obtain ⟨⟨s2,b2⟩,e3,e4⟩ := Option.bind_eq_some_iff.1 e2
    simp only [Option.some.injEq,Prod.mk.injEq] at e4
    obtain ⟨rfl,rfl,rfl⟩ := e4
    obtain ⟨rfl,rfl⟩ := newT_eq e3
    rw [if_pos h]
    exact ⟨[],_,⟨by show s.eps = _; simp,rfl,by show s.n ≤ s.n + 1 + 1; omega⟩,(Frg.set (show s.n ≠ s.n + 1 by omega) z).congr (fun q => by show _ ↔ s.n ≤ q ∧ q < s.n + 1 + 1; omega) fun w => Iff.rfl⟩
  rename_i n2
  rw [if_neg n2]
  split at e2
  · rename_i h
    obtain ⟨⟨s2,b2⟩,e3,e4⟩ := Option.bind_eq_some_iff.1 e2
    simp only [Option.some.injEq,Prod.mk.injEq] at e4
    obtain ⟨rfl,rfl,rfl⟩ := e4
    rw [if_pos h]
    obtain ⟨E,X,⟨g1,g2,g3⟩,g4⟩ := catT_lg fs Ls hL _ _ _ _ e3 (show s.n < s.n + 1 by omega)
    have g3' : s.n + 1 ≤ s2.n := g3
    exact ⟨E,X,⟨g1,g2,by omega⟩,g4.congr (fun q => by show q = s.n ∨ (s.n + 1 ≤ q ∧ q < s2.n) ↔ s.n ≤ q ∧ q < s2.n; omega) fun w => Iff.rfl⟩
  rename_i n3
  rw [if_neg n3]
  split at e2
  · rename_i h
    obtain ⟨⟨s2,b2⟩,e3,e4⟩ := Option.bind_eq_some_iff.1 e2
    simp only at e4
    obtain ⟨s3,e5,e6⟩ := Option.bind_eq_some_iff.1 e4
    simp only [Option.some.injEq,Prod.mk.injEq] at e6
    obtain ⟨rfl,rfl,rfl⟩ := e6
    obtain ⟨rfl,rfl⟩ := newT_eq e3
    rw [if_pos h]
    obtain ⟨E,X,⟨g1,g2,g3⟩,g4⟩ := altT_lg _ fs Ls hL _ _ _ e5 (show s.n < s.n + 1 + 1 by omega) (show s.n + 1 < s.n + 1 + 1 by omega) (by show s.n ≠ s.n + 1; omega)
    have g3' : s.n + 1 + 1 ≤ s3.n := g3
    exact ⟨E,X,⟨g1,g2,by omega⟩,(g4.frg (show s.n < s.n + 1 + 1 by omega) (show s.n + 1 < s.n + 1 + 1 by omega) (by show s.n ≠ s.n + 1; omega)).congr (fun q => by show q = s.n ∨ q = s.n + 1 ∨ (s.n + 1 + 1 ≤ q ∧ q < s3.n) ↔ s.n ≤ q ∧ q < s3.n; omega) fun w => Iff.rfl⟩
  rename_i n4
  rw [if_neg n4,if_neg hk.1,if_neg hk.2]
  split at e2
  · rename_i h
    rw [if_neg (by omega),if_neg (by omega),if_pos h]
    cases hL with
    | nil => cases e2
    | @cons f B fs Ls h0 hs =>
      simp only at e2
      obtain ⟨⟨s2,x,y⟩,e3,e4⟩ := Option.bind_eq_some_iff.1 e2
      simp only [Option.some.injEq,Prod.mk.injEq] at e4
      obtain ⟨rfl,rfl,rfl⟩ := e4
      obtain ⟨E1,X1,⟨a1,a2,a3⟩,k1⟩ := h0 _ _ _ _ e3
      have a3' : s.n + 1 ≤ s2.n := a3
      exact ⟨E1 ++ [((s.n : Int),(x : Int))],X1,⟨by show s2.eps ++ _ = _; rw [a1]; simp,a2,by show s.n ≤ s2.n; omega⟩,(k1.pre (a := s.n) (by show ¬ (s.n + 1 ≤ s.n ∧ _); omega) (fun p => by simp)).congr (fun q => by show q = s.n ∨ (s.n + 1 ≤ q ∧ q < s2.n) ↔ s.n ≤ q ∧ q < s2.n; omega) fun w => Iff.rfl⟩
  rename_i n9
  split at e2
  · rename_i h
    rw [if_pos h]
    cases hL with
    | nil => cases e2
    | @cons f B fs Ls h0 hs =>
      simp only at e2
      obtain ⟨⟨s2,x,y⟩,e3,e4⟩ := Option.bind_eq_some_iff.1 e2
      simp only at e4
      obtain ⟨⟨s3,q0⟩,e5,e6⟩ := Option.bind_eq_some_iff.1 e4
      simp only [Option.some.injEq,Prod.mk.injEq] at e6
      obtain ⟨rfl,rfl,rfl⟩ := e6
      obtain ⟨rfl,rfl⟩ := newT_eq e5
      obtain ⟨E1,X1,⟨a1,a2,a3⟩,k1⟩ := h0 _ _ _ _ e3
      have a3' : s.n + 1 ≤ s2.n := a3
      have hD : ∀ q : Nat,rngT (ThS.mk (s.n + 1) s.eps s.edges).n s2.n q ↔ s.n + 1 ≤ q ∧ q < s2.n := fun q => Iff.rfl
      refine ⟨E1 ++ [((s.n : Int),(x : Int)),((s.n : Int),(s2.n : Int)),((y : Int),(s.n : Int))],X1,⟨by show s2.eps ++ [((s.n : Int),(x : Int))] ++ [((s.n : Int),(s2.n : Int))] ++ [((y : Int),(s.n : Int))] = _; rw [a1]; simp,a2,by show s.n ≤ s2.n + 1; omega⟩,?_⟩
      exact (k1.star (a := s.n) (e := s2.n) (by rw [hD]; omega) (by rw [hD]; omega) (by omega) (fun p => by simp)).congr (fun q => by rw [hD]; show _ ↔ s.n ≤ q ∧ q < s2.n + 1; omega) fun w => Iff.rfl
  · rename_i n5
    have h6 : k = 6 := by omega
    rw [if_neg n5,if_pos h6]
    cases hL with
    | nil => exact absurd rfl (h1 h6)
    | @cons f B fs Ls h0 hs =>
      simp only at e2
      obtain ⟨⟨s2,b2⟩,e3,e4⟩ := Option.bind_eq_some_iff.1 e2
      simp only [Option.some.injEq,Prod.mk.injEq] at e4
      obtain ⟨rfl,rfl,rfl⟩ := e4
      obtain ⟨E,X,⟨g1,g2,g3⟩,g4⟩ := repT_lg h0 (show s.n < s.n + 1 by omega) _ _ _ e3
      have g3' : s.n + 1 ≤ s2.n := g3
      exact ⟨E,X,⟨g1,g2,by omega⟩,g4.congr (fun q => by show q = s.n ∨ (s.n + 1 ≤ q ∧ q < s2.n) ↔ s.n ≤ q ∧ q < s2.n; omega) fun w => optJ_rep (hr h6) w⟩
mutual
theorem tmO_lg : ∀ t : Re,okRe t → usesB [7,8,10] t = false → TLg (tmO t) (Lang t)
  | .mk k z a mn mx b,hok,hu => by
    obtain ⟨hk0,hua⟩ := usesB_arg hu
    have hk0' : ([7,8,10] : List Int).contains k = false := hk0
    simp at hk0'
    have hf := okRe_form hok
    have hk9 : 0 ≤ k ∧ k ≤ 10 := ⟨hf.1,hf.2.1⟩
    rw [tmO,Lang]
    refine nodeT_lg (tmL_lg a (okRe_args hok) hua) ⟨hk0'.1,hk0'.2.1⟩ ⟨hk9.1,by omega⟩ (fun h => by have := okRe_rep hok h; exact ⟨this.1,this.2.1⟩) fun h h9 => ?_
    have h1 : a.length = 1 := okRe_one hok (.inr (.inl h))
    match a,h1 with
    | [x],_ => rw [tmL] at h9; cases h9
theorem tmL_lg : ∀ l : List Re,okRes l → (∀ y ∈ l,usesB [7,8,10] y = false) → All3 TLg (tmL l) (Langs l)
  | [],_,_ => .nil
  | x :: l,hok,hu => by
    simp only [okRes] at hok
    exact .cons (tmO_lg x hok.1 (hu x List.mem_cons_self)) (tmL_lg l hok.2 fun y hy => hu y (List.mem_cons_of_mem _ hy))
end
theorem ptN_pth {n : Nf} {k : Nat} {s u : Int} {w : List Int} (h : PtN (fun i j => (i,j) ∈ n.eps) (· ∈ n.edges) k s w u) : Pth n s w u := by
  induction h with
  | nil s => exact .nil s
  | eps h1 _ ih => exact .eps h1 ih
  | @edge k e u c w h1 h2 _ ih => exact .edge (z := e.2.2) h1 h2 ih
theorem pth_ptN {n : Nf} {s u : Int} {w : List Int} (h : Pth n s w u) : ∃ k,PtN (fun i j => (i,j) ∈ n.eps) (· ∈ n.edges) k s w u := by
  induction h with
  | nil s => exact ⟨0,.nil s⟩
  | eps h1 _ ih => obtain ⟨k,hk⟩ := ih; exact ⟨_,.eps h1 hk⟩
  | @edge s t u c z w h1 h2 _ ih => obtain ⟨k,hk⟩ := ih; exact ⟨_,.edge (e := (s,t,z)) h1 h2 hk⟩
theorem thom_lang {t : Re} (hok : okRe t) (hu : usesB [7,8,10] t = false) {s : ThS} {a b : Nat} (e : tmO t ⟨0,[],[]⟩ = some (s,a,b)) (w : List Int) : Acc (nfT s a b) w ↔ Lang t w := by
  obtain ⟨E,X,⟨h1,h2,_⟩,k⟩ := tmO_lg t hok hu _ _ _ _ e
  rw [List.nil_append] at h1 h2
  have hb : ∀ {w : List Int} {n : Nat},PtN (fun i j => (i,j) ∈ (nfT s a b).eps) (· ∈ (nfT s a b).edges) n (b : Int) w (b : Int) → w = [] := fun {w n} hp => by
    generalize hs : (b : Int) = q at hp
    cases hp with
    | nil => rfl
    | @eps n _ t _ _ p1 p2 =>
      subst hs
      have p3 : ((b : Int),t) ∈ s.eps := p1
      rw [h1] at p3
      obtain ⟨i,j,g1,_,g2,_⟩ := k.ep _ p3
      simp only [Prod.mk.injEq] at g1; omega
    | @edge n f _ c v p1 p2 p3 =>
      have p4 : f ∈ s.edges := p1
      rw [h2] at p4
      obtain ⟨i,j,g1,_,_,g2,_⟩ := k.ed _ p4
      omega
  constructor
  · rintro ⟨u,hu,hp⟩
    rw [show u = (b : Int) from List.mem_singleton.1 hu] at hp
    obtain ⟨n,hn⟩ := pth_ptN hp
    obtain ⟨n2,w1,w2,_,rfl,g2,g3⟩ := k.dec _ _ (fun i t _ _ hp => by have h9 : ((i : Int),t) ∈ s.eps := hp; rwa [h1] at h9) (fun i f _ _ _ hf => by have h9 : f ∈ s.edges := hf; rwa [h2] at h9) n w (b : Int) hn (fun q hq _ => by omega)
    rw [hb g3,List.append_nil]; exact g2
  · intro h
    obtain ⟨n,hn⟩ := k.gen w h (fun i j => (i,j) ∈ (nfT s a b).eps) (· ∈ (nfT s a b).edges) (fun p hp => by show (p.1,p.2) ∈ s.eps; rw [h1]; exact hp) (fun f hf => by show f ∈ s.edges; rw [h2]; exact hf)
    exact ⟨(b : Int),List.mem_singleton.2 rfl,ptN_pth hn⟩
--END
theorem own_rest {w : World} {base e g n c : Nat} {rows : List (List Value)} (h : w.ownsRow base e 3 (.slice (some ⟨g,0,none⟩) n c) n rows.flatten) (h3 : ∀ r ∈ rows,r.length = 3) (hn : 0 < n) {i : Nat} (hi : i ≤ rows.length) : CellsAt w g (i * 3) (rows.drop i).flatten := by
 obtain ⟨g',hg,_,hc⟩ := own_cells h hn
 simp only [Option.some.injEq,Addr.mk.injEq,and_true] at hg
 subst hg
 intro j v hj
 have e : rows.flatten = (rows.take i).flatten ++ (rows.drop i).flatten := by rw [← List.flatten_append,List.take_append_drop]
 have hl : (rows.take i).flatten.length = i * 3 := by rw [rows_len (k := 3) fun r hr => h3 r (List.mem_of_mem_take hr),List.length_take,Nat.min_eq_left hi]
 have := hc (i * 3 + j) v (by rw [e,List.getElem?_append_right (by omega),hl,Nat.add_sub_cancel_left]; exact hj)
 rwa [Nat.zero_add] at this
theorem own_row3 {w : World} {base e g n c : Nat} {rows : List (List Value)} (h : w.ownsRow base e 3 (.slice (some ⟨g,0,none⟩) n c) n rows.flatten) (h3 : ∀ r ∈ rows,r.length = 3) (hn : 0 < n) {i : Nat} {r : List Value} (hr : rows[i]? = some r) : CellsAt w g (i * 3) r := by
 have h1 := own_rest h h3 hn (Nat.le_of_lt (lt_of_get hr))
 rw [dropc hr,List.flatten_cons] at h1
 exact fun j v hj => h1 j v (by rw [List.getElem?_append_left (lt_of_get hj)]; exact hj)
theorem EdsF.app {F : Nat → Prop} {w : World} {es fs : List Ed} {rows qs : List (List Value)} (h : EdsF F w es rows) (k : EdsF F w fs qs) : EdsF F w (es ++ fs) (rows ++ qs) := by
 refine ⟨by simp [h.1,k.1],fun i e r he hr => ?_⟩
 rcases Nat.lt_or_ge i es.length with hi | hi
 ·rw [List.getElem?_append_left hi] at he
  rw [List.getElem?_append_left (by have := h.1; omega)] at hr
  exact h.2 i e r he hr
 ·rw [List.getElem?_append_right hi] at he
  rw [List.getElem?_append_right (by have := h.1; omega),h.1] at hr
  exact k.2 _ e r he hr
theorem rows_one {F : Nat → Prop} {w : World} {es : List Ed} {rows : List (List Value)} (h : EdsF F w es rows) (k : Nat) : ∀ v ∈ (rows.drop k).flatten,v.oneCell' = true := fun v hv => by
 obtain ⟨r,hr,hv⟩ := List.mem_flatten.1 hv
 obtain ⟨i,hi⟩ := List.getElem?_of_mem (List.mem_of_mem_drop hr)
 obtain ⟨e,he⟩ := get_of_lt (l := es) (i := i) (by rw [← h.1]; exact lt_of_get hi)
 obtain ⟨ua,uc,rfl,_⟩ := (h.2 i e r he hi).form
 simp at hv
 rcases hv with rfl | rfl | rfl <;> rfl
--BEGIN
def FreeOf (eps : List (Int × Int)) (I : Int → Prop) (r : List Int) : Prop := r.Pairwise (· < ·) ∧ ∀ s,s ∈ r ↔ cloP eps I s
/-- The marked states among the first k, gathered. -/
structure WkP (M : List Bool) (k : Nat) (work : List Int) : Prop where
 mem : ∀ j : Nat,j < k → M[j]? = some true → (j : Int) ∈ work
 tru : ∀ s ∈ work,∃ j : Nat,s = (j : Int) ∧ M[j]? = some true
 len : work.length ≤ k
theorem WkP.start (M : List Bool) : WkP M 0 [] := ⟨fun j h => absurd h (Nat.not_lt_zero _),fun s h => (by cases h),Nat.le_refl _⟩
theorem WkP.add {M : List Bool} {k : Nat} {work : List Int} (h : WkP M k work) (hk : M[k]? = some true) : WkP M (k + 1) (work ++ [(k : Int)]) := by
 refine ⟨fun j hj hm => ?_,fun s hs => ?_,by simp; exact h.len⟩
 ·rcases Nat.lt_or_ge j k with h1 | h1
  ·exact List.mem_append_left _ (h.mem j h1 hm)
  ·obtain rfl : j = k := (by omega)
   simp
 ·rcases List.mem_append.1 hs with h1 | h1
  ·exact h.tru s h1
  ·exact ⟨k,List.mem_singleton.1 h1,hk⟩
theorem WkP.skip {M : List Bool} {k : Nat} {work : List Int} (h : WkP M k work) (hk : M[k]? = some false) : WkP M (k + 1) work := by
 refine ⟨fun j hj hm => ?_,h.tru,Nat.le_succ_of_le h.len⟩
 rcases Nat.lt_or_ge j k with h1 | h1
 ·exact h.mem j h1 hm
 ·obtain rfl : j = k := (by omega)
  rw [hk] at hm; cases hm
theorem ep_nat {n : Nf} (ok : OkN n) {N : Nat} (hN : n.states = (N : Int)) {p : Int × Int} (hp : p ∈ n.eps) : ∃ a c : Nat,p = ((a : Int),(c : Int)) ∧ a < N ∧ c < N := by
 have h := ok.ep p hp
 obtain ⟨a,ha⟩ := Int.eq_ofNat_of_zero_le h.1.1
 obtain ⟨c,hc⟩ := Int.eq_ofNat_of_zero_le h.2.1
 exact ⟨a,c,by rw [← ha,← hc],by omega,by omega⟩
theorem nclose_c (w0 wb : World) (n : Nf) (vs0 : List Value) (bq N : Nat) (M : List Bool) (I : Int → Prop) (ok : OkN n) (hN : n.states = (N : Int)) (h : NfAt wb n vs0) (E1 : Ext wb w0) (hbq : wb.heap.size ≤ bq) (hB : Blk w0 bq (M.map Value.bool).toArray 4) (hMl : M.length = N) (hI : ∀ s,I s → 0 ≤ s ∧ s < n.states) (hm : MarkOf M I) :
  Ret Tryz.prog 33 #[.agg vs0.toArray,.slice (some ⟨bq,0,none⟩) N N] w0 fun _ w => (∃ M',M'.length = N ∧ MarkOf M' (cloP n.eps I) ∧ Blk w bq (M'.map Value.bool).toArray 4) ∧ Chg (fun y => y = bq) w0 w := by
 obtain ⟨ea,ec,pa,pc,xa,xc,rfl,hen,hep,hed⟩ := h
 have hst := ok.st
 rw [hN]
 have hpl := ok.pl
 have hN5 : N ≤ 500 := by omega
 have hbl := hB.lt
 refine Ret_of Tryz.func33 rfl Tryz.ntmps33 (Nat.le_of_ble_eq_true rfl) ?_
 have E : Chg (fun y => y = bq) w0 w0 := Chg.refl _ _
 refine Wp_seq_region ?_
 refine s_box (v := (.agg #[(I6 (N : Int)),(I6 n.start),(.slice ea n.ends.length ec),(.slice pa n.eps.length pc),(.slice xa n.edges.length xc)])) (c := #[(I6 (N : Int)),(I6 n.start),(.slice ea n.ends.length ec),(.slice pa n.eps.length pc),(.slice xa n.edges.length xc)]) (by decide) rfl rfl ?_
 intro bn wn Nn
 have Fn := Nn.ge E
 have Fn_E1 := Nn.ge E1
 have On_bq := Nn.lt hB
 replace hB := Nn.keep hB
 replace E := E.ext Nn.ext
 have Bn := Nn.blk
 replace E1 := E1.ext Nn.ext
 refine WpL_nil (Wp_seq_region ?_)
 refine qF bn 0 0 rfl Tryz.underlying37 rfl siz3 rfl ?_
 refine qV (r_load (v := (I6 (N : Int))) rfl flat3 (Bn.cell rfl)) ?_
 refine s_make (n := N) (z := (.slice none 0 0)) (bytes := 24) (by decide) Tryz.underlying62 siz22 byt22 zer22 rfl rfl rfl (by omega) (by omega) ?_
 intro bi wi Ni
 have Fi := Ni.ge E
 have Fi_E1 := Ni.ge E1
 have Oi_bq := Ni.lt hB
 have Oi_bn := Ni.lt Bn
 replace hB := Ni.keep hB
 replace Bn := Ni.keep Bn
 replace E := E.ext Ni.ext
 have Bi := Ni.blk
 replace E1 := E1.ext Ni.ext
 refine qA (.slice (some ⟨bi,0,none⟩) N N) rfl ?_
 refine WpL_nil (Wp_seq (Wp_seq_region ?_))
 refine qF bn 0 3 rfl Tryz.underlying37 rfl siz34 rfl ?_
 refine qV (r_load (v := (.slice pa n.eps.length pc)) rfl flat34 (Bn.cell rfl)) ?_
 refine qV (r_lenSlice (ad := pa) (n := n.eps.length) (cap := pc) Tryz.underlying34 rfl) ?_
 refine qM (I6 0) rfl ?_
 refine WpL_nil (Wp_block ?_)
 obtain ⟨n1,hn1e⟩ : ∃ n1,n1 = wn.heap.size := ⟨_,rfl⟩
 have hw1 : w0.heap.size ≤ n1 ∧ wb.heap.size ≤ n1 := by have := Nn.ext.size; have := E1.size; omega
 have hbi1 : n1 ≤ bi := by have := Ni.eq; omega
 have hbd1 : bn < n1 ∧ bq < n1 := by have := Nn.eq; have := Nn.size; omega
 have hG0 := GSt.made (To := TDIs) (e := TDI) (sz := 1) (base := n1) (n := N) Bi hbi1 (by omega) hbi1
 have hs0 : n1 ≤ wi.heap.size := by have := Ni.ext.size; omega
 refine Wp_loop (fun nn_ σ W1 => ∃ (k : Nat) (into : List (List Int)) (vs : List Value),(∃ jj_,σ = upds jj_ [(1,(.slice (some ⟨bq,0,none⟩) N N)),(4,(.slice (some ⟨bi,0,none⟩) N N)),(17,(.slice pa n.eps.length pc)),(18,(I6 (n.eps.length : Int))),(19,(I6 (k : Int)))]) ∧ Chg (fun y => y = bq) w0 W1 ∧ Chg none1 wb W1 ∧ Blk W1 bq ((M.map Value.bool).toArray) 4 ∧ Blk W1 bn #[(I6 (N : Int)),(I6 n.start),(.slice ea n.ends.length ec),(.slice pa n.eps.length pc),(.slice xa n.edges.length xc)] 37 ∧ (k ≤ n.eps.length) ∧ (SucP n.eps N k into) ∧ (GSt TDIs TDI 1 W1 n1 (.slice (some ⟨bi,0,none⟩) N N) vs (into.map iRow)) ∧ (n1 ≤ W1.heap.size) ∧ nn_ = n.eps.length - k) (n := n.eps.length - 0) ?_ ?_
 ·exact ⟨0,List.replicate N [],List.replicate N (.slice none 0 0),Fits.out ⟨rfl,rfl,rfl,rfl,rfl,trivial⟩,E,E1,hB,Bn,Nat.zero_le _,SucP.start _ _,(by rw [iRow_rep]; exact hG0),hs0,rfl⟩
 ·clear E E1 hB Bn
  rintro _ _ W1 ⟨k,into,vs,⟨j1,rfl⟩,E,E1,hB,Bn,hk,hS,hG,hsz,rfl⟩
  refine Wp_seq_region ?_
  refine qV (r_lss (k := .i64) (a := (k : Int)) (b := (n.eps.length : Int)) rfl rfl) ?_
  refine WpL_nil (Wp_seq ?_)
  refine Wp_cond (b := decide (((k : Int) : Int) < (n.eps.length : Int))) rfl (fun hlt => ?_) (fun hlt => ?_)
  ·have khlt := hlt
   replace hlt := of_decide_eq_true hlt
   obtain ⟨p,hp⟩ := get_of_lt (l := n.eps) (i := k) (by omega)
   obtain ⟨a,c,hpe,ha,hc⟩ := ep_nat ok hN (List.mem_of_getElem? hp)
   obtain ⟨pb,po,rfl,hpc⟩ := spans_cells hep (by omega)
   have hpc0 := hpc k p hp
   rw [hpe] at hpc0
   obtain ⟨l0,hl0⟩ := get_of_lt (l := into) (i := a) (by have := hS.1; omega)
   have hlen := hS.len hl0
   have hGl : (into.map iRow).length = N := by rw [List.length_map]; exact hS.1
   obtain ⟨v1,hv1⟩ := get_of_lt (l := vs) (i := a) (by have := hG.l.len; omega)
   have hp1 : (into.map iRow)[a]? = some (l0.length,l0.map (Value.int .i64)) := by rw [List.getElem?_map,hl0]; rfl
   have hinn := hG.l.inn a v1 _ hv1 hp1
   have hinl0 := hinn.lt
   obtain ⟨va,vc,rfl⟩ := own_form hinn
   refine Wp_skip (thn_normal (Wp_seq (Wp_block (Wp_seq_region ?_))))
   refine qV (r_indexSlice (b := pb) (o := po) (len := n.eps.length) (cap := pc) (i := k) (o' := po + k * 2) rfl rfl rfl Tryz.underlying34 siz47 (by omega) (by omega)) ?_
   refine qV (r_loadAgg (vs := [(I6 (a : Int)),(I6 (c : Int))]) rfl agg47 siz47 rfl (hpc0.ext E1)) ?_
   refine s_allocStore (v := (.agg #[(I6 (a : Int)),(I6 (c : Int))])) (c := #[(I6 (a : Int)),(I6 (c : Int))]) (n := 2) (by decide) zer47 rfl siz47 rfl rfl rfl (by simp [Value.oneCell']) ?_
   intro bx wx Nx
   have Fx := Nx.ge E
   have Fx_E1 := Nx.ge E1
   have Ox_bq := Nx.lt hB
   have Ox_bn := Nx.lt Bn
   replace hB := Nx.keep hB
   replace Bn := Nx.keep Bn
   replace hG := hG.ext Nx.ext
   replace hinn := own_ext hinn Nx.ext
   replace hsz := Nat.le_trans hsz Nx.ext.size
   replace E := E.ext Nx.ext
   have Bx := Nx.blk
   replace E1 := E1.ext Nx.ext
   refine WpL_nil ?_
   obtain ⟨gg,hgg,_,hg2⟩ := own_cells (hG.l.on hGl.symm) (by omega)
   simp only [Option.some.injEq,Addr.mk.injEq,and_true] at hgg
   subst hgg
   have hbx := Nx.eq
   have hinl := hinn.lt
   obtain ⟨h0,hh0⟩ : ∃ h0,h0 = (wx).heap.size := ⟨_,rfl⟩
   obtain ⟨Fs3,hFs3⟩ : ∃ Fs : List (FactT ((fun y => (Value.slice va l0.length vc).ownBlock = some y))),Fs = [.eq (.slice (some ⟨bi,0,none⟩) N N),.eq (P6 bx 0),.eq (I6 (a : Int)),.eq (.slice (some ⟨bi,0,none⟩) N N),.eq (P6 bx 0),.eq (I6 (a : Int)),.eq (.pointer (some ⟨bi,0 + a,none⟩)),.eq (.slice va l0.length vc),.eq (P6 bx 1),.eq (I6 (c : Int)),.till (litF TDI #[.int .i64 (c : Int)] 0) (litF_ext _ _ _),.own (appF n1 TDI 1 (l0.length + 1) (l0.map (Value.int .i64) ++ [Value.int .i64 (c : Int)]) (.slice va l0.length vc) h0) (appF_ext _ _ _ _ _ _ _)] := ⟨_,rfl⟩
   refine Wp_dagT ((fun y => (Value.slice va l0.length vc).ownBlock = some y)) 12 11 [23,24,25,26,27,28,29,30,31,32,33,34] [[],[],[1],[],[],[4],[3,5],[6],[],[8],[9],[7,10]] Fs3 hFs3 rfl mixed (by kernel_rfl) (by kernel_rfl) (by kernel_rfl) ?_ ?_
   ·intro wd X0
    refine DagStepsT.cons (fun s' w' X U H => ?_) ?_
    ·exact DoesT_val (r_move (v := (.slice (some ⟨bi,0,none⟩) N N)) (U 4 rfl)) (Chg.refl _ _) rfl
    refine DagStepsT.cons (fun s' w' X U H => ?_) ?_
    ·exact DoesT_val (r_indexArr (b := bx) (o := 0) (i := 0) (o' := 0) (U 6 rfl) rfl rfl Tryz.underlying47 siz3 (by omega) (by omega)) (Chg.refl _ _) rfl
    refine DagStepsT.cons (fun s' w' X U H => ?_) ?_
    ·have e24 : s' 24 = (.pointer (some ⟨bx,0,none⟩)) := H 1 rfl 24 (.eq (.pointer (some ⟨bx,0,none⟩))) rfl (by rw [hFs3]; rfl)
     exact DoesT_val (r_load (v := (I6 (a : Int))) e24 flat3 ((Chg.keep X (fun h => by have := (hinl0 _ h).2; omega) (X0.keep Bx)).cell rfl)) (Chg.refl _ _) rfl
    refine DagStepsT.cons (fun s' w' X U H => ?_) ?_
    ·exact DoesT_val (r_move (v := (.slice (some ⟨bi,0,none⟩) N N)) (U 4 rfl)) (Chg.refl _ _) rfl
    refine DagStepsT.cons (fun s' w' X U H => ?_) ?_
    ·exact DoesT_val (r_indexArr (b := bx) (o := 0) (i := 0) (o' := 0) (U 6 rfl) rfl rfl Tryz.underlying47 siz3 (by omega) (by omega)) (Chg.refl _ _) rfl
    refine DagStepsT.cons (fun s' w' X U H => ?_) ?_
    ·have e27 : s' 27 = (.pointer (some ⟨bx,0,none⟩)) := H 4 rfl 27 (.eq (.pointer (some ⟨bx,0,none⟩))) rfl (by rw [hFs3]; rfl)
     exact DoesT_val (r_load (v := (I6 (a : Int))) e27 flat3 ((Chg.keep X (fun h => by have := (hinl0 _ h).2; omega) (X0.keep Bx)).cell rfl)) (Chg.refl _ _) rfl
    refine DagStepsT.cons (fun s' w' X U H => ?_) ?_
    ·have e26 : s' 26 = (.slice (some ⟨bi,0,none⟩) N N) := H 3 rfl 26 (.eq (.slice (some ⟨bi,0,none⟩) N N)) rfl (by rw [hFs3]; rfl)
     have e28 : s' 28 = (.int .i64 ((a : Nat) : Int)) := H 5 rfl 28 (.eq (.int .i64 ((a : Nat) : Int))) rfl (by rw [hFs3]; rfl)
     exact DoesT_val (r_indexSlice (b := bi) (o := 0) (len := N) (cap := N) (i := a) (o' := 0 + a) e26 e28 rfl Tryz.underlying62 siz22 (by omega) (by omega)) (Chg.refl _ _) rfl
    refine DagStepsT.cons (fun s' w' X U H => ?_) ?_
    ·have e29 : s' 29 = (.pointer (some ⟨bi,0 + a,none⟩)) := H 6 rfl 29 (.eq (.pointer (some ⟨bi,0 + a,none⟩))) rfl (by rw [hFs3]; rfl)
     exact DoesT_val (r_load (v := (.slice va l0.length vc)) e29 flat22 (by have h1 := hg2 a _ hv1; exact (Ext.cell X (X0.cell h1)))) (Chg.refl _ _) rfl
    refine DagStepsT.cons (fun s' w' X U H => ?_) ?_
    ·exact DoesT_val (r_indexArr (b := bx) (o := 0) (i := 1) (o' := 1) (U 6 rfl) rfl rfl Tryz.underlying47 siz3 (by omega) (by omega)) (Chg.refl _ _) rfl
    refine DagStepsT.cons (fun s' w' X U H => ?_) ?_
    ·have e31 : s' 31 = (.pointer (some ⟨bx,1,none⟩)) := H 8 rfl 31 (.eq (.pointer (some ⟨bx,1,none⟩))) rfl (by rw [hFs3]; rfl)
     exact DoesT_val (r_load (v := (I6 (c : Int))) e31 flat3 ((Chg.keep X (fun h => by have := (hinl0 _ h).2; omega) (X0.keep Bx)).cell rfl)) (Chg.refl _ _) rfl
    refine DagStepsT.cons (fun s' w' X U H => ?_) ?_
    ·have e32 : s' 32 = (.int .i64 ((c : Nat) : Int)) := H 9 rfl 32 (.eq (.int .i64 ((c : Nat) : Int))) rfl (by rw [hFs3]; rfl)
     exact DoesT_lit Tryz.underlying22 siz3 zer3 e32 (by decide) (by decide) (by kernel_rfl) (Nat.zero_le _)
    refine DagStepsT.cons (fun s' w' X U H => ?_) ?_
    ·have e30 : s' 30 = (.slice va l0.length vc) := H 7 rfl 30 (.eq (.slice va l0.length vc)) rfl (by rw [hFs3]; rfl)
     obtain ⟨b33,e33,B33,_⟩ := (show (.till (litF TDI #[.int .i64 ((c : Nat) : Int)] 0) (litF_ext _ _ _) : FactT ((fun y => (Value.slice va l0.length vc).ownBlock = some y))).In (s' 33) w' from FactT.at_false (H 10 rfl 33 (.till (litF TDI #[.int .i64 ((c : Nat) : Int)] 0) (litF_ext _ _ _)) rfl (by rw [hFs3]; rfl)))
     exact DoesT_append Tryz.underlying22 siz3 byt3 zer3 rfl (by decide) e30 (own_ext (own_ext hinn X0) X) e33 rfl (B33.cells rfl) (by simp [Value.oneCell']) (by unfold maxLen; omega) (by omega) (by have := X0.size; have := X.size; omega) (fun y h => h) (by have := X0.size; have := X.size; omega)
    exact DagStepsT.nil
   ·intro s' wd3 w3 X0 X3 U H
    have e23 : s' 23 = (.slice (some ⟨bi,0,none⟩) N N) := H 0 23 (.eq (.slice (some ⟨bi,0,none⟩) N N)) rfl (by rw [hFs3]; rfl)
    have e25 : s' 25 = (.int .i64 ((a : Nat) : Int)) := H 2 25 (.eq (.int .i64 ((a : Nat) : Int))) rfl (by rw [hFs3]; rfl)
    obtain ⟨⟨a34,c34,e34⟩,O34,D34⟩ := (show (.own (appF n1 TDI 1 (l0.length + 1) (l0.map (Value.int .i64) ++ [Value.int .i64 ((c : Nat) : Int)]) (.slice va l0.length vc) h0) (appF_ext _ _ _ _ _ _ _) : FactT ((fun y => (Value.slice va l0.length vc).ownBlock = some y))).In (s' 34) w3 from H 11 34 (.own (appF n1 TDI 1 (l0.length + 1) (l0.map (Value.int .i64) ++ [Value.int .i64 ((c : Nat) : Int)]) (.slice va l0.length vc) h0) (appF_ext _ _ _ _ _ _ _)) rfl (by rw [hFs3]; rfl))
    obtain ⟨j3,rfl⟩ := Fits.out (σ := s') (l := [(1,(.slice (some ⟨bq,0,none⟩) N N)),(4,(.slice (some ⟨bi,0,none⟩) N N)),(17,(.slice (some ⟨pb,po,none⟩) n.eps.length pc)),(18,(.int .i64 ((n.eps.length : Nat) : Int))),(19,(.int .i64 ((k : Nat) : Int))),(23,(.slice (some ⟨bi,0,none⟩) N N)),(25,(.int .i64 ((a : Nat) : Int))),(34,(.slice a34 (l0.length + 1) c34))]) ⟨U 1 rfl,U 4 rfl,U 17 rfl,U 18 rfl,U 19 rfl,e23,e25,e34,trivial⟩
    clear U H
    replace hB := Chg.keep X3 (fun h => by have := (hinl _ h).1; omega) (X0.keep hB)
    replace Bn := Chg.keep X3 (fun h => by have := (hinl _ h).1; omega) (X0.keep Bn)
    replace Bx := Chg.keep X3 (fun h => by have := (hinl0 _ h).2; omega) (X0.keep Bx)
    have hXm := Chg.trans (Ext.chg X0) X3
    replace E := (E.ext X0).step X3 (fun y hy h => by have := (hinl _ h).1; omega)
    replace E1 := (E1.ext X0).step X3 (fun y hy h => by have := (hinl _ h).1; omega)
    obtain ⟨cur,hBo,hcs⟩ := own_blkG (own_chg (hG.l.on hGl.symm) hXm (fun b hb hm => hG.l.apo a _ _ hv1 hm hb))
    have hs9 := Nat.le_trans hsz hXm.size
    have hPx : True := trivial
    have hBo0 := hBo
    refine qV (r_indexSlice (b := bi) (o := 0) (len := N) (cap := N) (i := a) (o' := 0 + a) rfl rfl rfl Tryz.underlying62 siz22 (by omega) (by omega)) ?_
    refine s_store (b := bi) (o := 0 + a) (c' := cur.setIfInBounds (0 + a) (.slice a34 (l0.length + 1) c34)) (v := (.slice a34 (l0.length + 1) c34)) rfl rfl rfl siz22 hBo (by omega) (rfl) ?_
    intro w4 S4
    replace hPx := S4
    replace hs9 := Nat.le_trans hs9 S4.chg.size
    replace hB := S4.keep (by omega) hB
    replace Bn := S4.keep (by omega) Bn
    replace E := S4.step E (by first | exact Or.inl (by omega) | exact Or.inr rfl | exact Or.inr (by assumption) | exact Or.inr (by simp) | exact Or.inr (by omega) | exact Or.inr (by dsimp only; omega))
    replace E1 := S4.step E1 (Or.inl (by omega))
    replace hBo := S4.blk
    have hG9 := hG.grow hGl.symm hv1 hp1 (m' := l0.length + 1) (xs' := (l0 ++ [((c : Nat) : Int)]).map (Value.int .i64)) (v' := .slice a34 (l0.length + 1) c34) (by rw [e34] at O34; rw [List.map_append]; exact O34) hXm (by rw [e34,hh0] at D34; exact D34) hBo0 (by simpa using hPx)
    refine WpL_nil (inB_normal (thn_normal (Wp_region ?_)))
    refine qV (r_add (k := .i64) (a := (k : Int)) (b := 1) (c := (k : Int) + 1) rfl rfl (wI64 (by omega))) ?_
    refine qM (I6 ((k : Int) + 1)) rfl ?_
    refine WpL_nil (thn_normal ?_)
    exact ⟨n.eps.length - (k + 1),by omega,k + 1,into.set a (l0 ++ [((c : Nat) : Int)]),vs.set a (.slice a34 (l0.length + 1) c34),Fits.out ⟨rfl,rfl,rfl,rfl,rfl,trivial⟩,E,E1,hB,Bn,(by omega),(by have h9 := hS.add hp (a := a) (by rw [hpe]) hl0; rw [hpe] at h9; exact h9),(by rw [List.map_set]; simpa [iRow] using hG9),hs9,rfl⟩
  ·have khlt := hlt
   replace hlt := of_decide_eq_false hlt
   have hSk : n.eps.length ≤ k := by omega
   obtain ⟨n3,hn3e⟩ : ∃ n3,n3 = (W1).heap.size := ⟨_,rfl⟩
   have hn13 : n1 ≤ n3 := by omega
   have hbn3 : bn < n3 ∧ bq < n3 := by omega
   have E9 : Chg none1 W1 W1 := Chg.refl _ _
   refine Wp_exit (thn_exit (thn_exit (inB_here (thn_normal (Wp_seq_region ?_)))))
   refine qA (.slice none 0 0) rfl ?_
   refine WpL_nil (Wp_seq (Wp_seq_region ?_))
   refine qM (.slice (some ⟨bq,0,none⟩) N N) rfl ?_
   refine qV (r_lenSlice (ad := some ⟨bq,0,none⟩) (n := N) (cap := N) Tryz.underlying77 rfl) ?_
   refine qM (I6 0) rfl ?_
   refine WpL_nil (Wp_block ?_)
   refine Wp_loop (fun nn_ σ W5 => ∃ (k2 : Nat) (work : List Int) (ka : Option Addr) (kc kn : Nat),(∃ jj_,σ = upds jj_ [(1,(.slice (some ⟨bq,0,none⟩) N N)),(4,(.slice (some ⟨bi,0,none⟩) N N)),(37,(.slice (some ⟨bq,0,none⟩) N N)),(38,(I6 (N : Int))),(39,(I6 (k2 : Int))),(7,(.slice ka kn kc))]) ∧ Chg (fun y => y = bq) w0 W5 ∧ Chg none1 wb W5 ∧ Chg none1 W1 W5 ∧ Blk W5 bq ((M.map Value.bool).toArray) 4 ∧ Blk W5 bn #[(I6 (N : Int)),(I6 n.start),(.slice ea n.ends.length ec),(.slice pa n.eps.length pc),(.slice xa n.edges.length xc)] 37 ∧ (k2 ≤ N) ∧ (WkP M k2 work) ∧ (kn = work.length) ∧ (W5.ownsRow n3 TDI 1 (.slice ka kn kc) kn (work.map (Value.int .i64))) ∧ (n3 ≤ W5.heap.size) ∧ nn_ = N - k2) (n := N - 0) ?_ ?_
   ·exact ⟨0,[],none,0,0,Fits.out ⟨rfl,rfl,rfl,rfl,rfl,rfl,trivial⟩,E,E1,E9,hB,Bn,Nat.zero_le _,WkP.start M,rfl,World.ownsRow_nil _ _ _ _,(by omega),rfl⟩
   ·clear E E1 E9 hB Bn
    rintro _ _ W5 ⟨k2,work,ka,kc,kn,⟨j5,rfl⟩,E,E1,E9,hB,Bn,hk2,hW,hkn,hw,hs3,rfl⟩
    refine Wp_seq_region ?_
    refine qV (r_lss (k := .i64) (a := (k2 : Int)) (b := (N : Int)) rfl rfl) ?_
    refine WpL_nil (Wp_seq ?_)
    refine Wp_cond (b := decide (((k2 : Int) : Int) < (N : Int))) rfl (fun hlt2 => ?_) (fun hlt2 => ?_)
    ·have khlt2 := hlt2
     replace hlt2 := of_decide_eq_true hlt2
     obtain ⟨q,hq⟩ := get_of_lt (l := M) (i := k2) (by omega)
     refine Wp_skip (thn_normal (Wp_seq (Wp_block (Wp_seq_region ?_))))
     refine qM (I6 (k2 : Int)) rfl ?_
     refine qV (r_indexSlice (b := bq) (o := 0) (len := N) (cap := N) (i := k2) (o' := 0 + k2) rfl rfl rfl Tryz.underlying77 siz4 (by omega) (by omega)) ?_
     refine qV (r_load (v := (.bool q)) rfl flat4 (hB.cell (by simp [hq]))) ?_
     refine qA (I6 (k2 : Int)) rfl ?_
     refine qA (.bool q) rfl ?_
     refine WpL_nil (Wp_seq_region ?_)
     refine qM (.bool q) rfl ?_
     refine WpL_nil ?_
     refine Wp_cond (b := q) rfl (fun hqt => ?_) (fun hqt => ?_)
     ·have khqt := hqt
      have hwl := hW.len
      refine Wp_region ?_
      refine qM (.slice ka kn kc) rfl ?_
      refine qM (I6 (k2 : Int)) rfl ?_
      refine s_buildSlice (ps := [(0,(I6 (k2 : Int)))]) (c := #[(I6 (k2 : Int))]) (by decide) rfl Tryz.underlying22 siz3 zer3 (by decide) (by decide) (by kernel_rfl) ?_
      intro b8 w8 N8
      have F8 := N8.ge E
      have F8_E1 := N8.ge E1
      have F8_E9 := N8.ge E9
      have O8_bq := N8.lt hB
      have O8_bn := N8.lt Bn
      replace hB := N8.keep hB
      replace Bn := N8.keep Bn
      replace hw := own_ext hw N8.ext
      replace hs3 := Nat.le_trans hs3 N8.ext.size
      replace E := E.ext N8.ext
      have B8 := N8.blk
      replace E1 := E1.ext N8.ext
      replace E9 := E9.ext N8.ext
      refine s_append (base := n3) (n := kn) (m := 1) (xs := (work.map (Value.int .i64))) (news := [(I6 (k2 : Int))]) (size := 1) (bytes := 8) (v := (.slice ka kn kc)) (by decide) Tryz.underlying22 siz3 byt3 zer3 rfl (by decide) rfl hw rfl (rfl) (B8.cells rfl) (by simp [Value.oneCell']) (by unfold maxLen; omega) (by omega) (hs3) ?_
      intro v7 w59 Ov7 Cv7 Dv7
      replace hB := Cv7.keep (fun h => by have := (hw.lt _ h).1; omega) hB
      replace Bn := Cv7.keep (fun h => by have := (hw.lt _ h).1; omega) Bn
      replace E := E.step Cv7 (fun x hx h => absurd (hw.lt x h).1 (by omega))
      replace E1 := E1.step Cv7 (fun x hx h => absurd (hw.lt x h).1 (by omega))
      replace E9 := E9.step Cv7 (fun x hx h => absurd (hw.lt x h).1 (by omega))
      obtain ⟨ka2,kc2,rfl⟩ := own_form Ov7
      refine qA (.slice ka2 (kn + 1) kc2) rfl ?_
      refine WpL_nil (inB_normal (thn_normal (Wp_region ?_)))
      refine qV (r_add (k := .i64) (a := (k2 : Int)) (b := 1) (c := (k2 : Int) + 1) rfl rfl (wI64 (by omega))) ?_
      refine qM (I6 ((k2 : Int) + 1)) rfl ?_
      refine WpL_nil (thn_normal ?_)
      exact ⟨N - (k2 + 1),by omega,k2 + 1,work ++ [((k2 : Nat) : Int)],ka2,kc2,kn + 1,Fits.out ⟨rfl,rfl,rfl,rfl,rfl,rfl,trivial⟩,E,E1,E9,hB,Bn,(by omega),hW.add (by rw [hq,hqt]),(by simp; omega),(by rw [List.map_append]; exact Ov7),Nat.le_trans hs3 Cv7.size,rfl⟩
     ·have khqt := hqt
      refine Wp_skip (inB_normal (thn_normal (Wp_region ?_)))
      refine qV (r_add (k := .i64) (a := (k2 : Int)) (b := 1) (c := (k2 : Int) + 1) rfl rfl (wI64 (by omega))) ?_
      refine qM (I6 ((k2 : Int) + 1)) rfl ?_
      refine WpL_nil (thn_normal ?_)
      exact ⟨N - (k2 + 1),by omega,k2 + 1,work,ka,kc,kn,Fits.out ⟨rfl,rfl,rfl,rfl,rfl,rfl,trivial⟩,E,E1,E9,hB,Bn,(by omega),hW.skip (by rw [hq,hqt]),hkn,hw,hs3,rfl⟩
    ·have khlt2 := hlt2
     replace hlt2 := of_decide_eq_false hlt2
     have hk2N : k2 = N := by omega
     rw [hk2N] at hW
     have hwl0 := hW.len
     have hcl0 : cntT M ≤ M.length := List.countP_le_length
     have hC9 := Ext.chg (M := fun y => y = bq) E9
     refine Wp_exit (thn_exit (thn_exit (inB_here (thn_normal (Wp_block ?_)))))
     refine Wp_loop (fun nn_ σ W9 => ∃ (M3 : List Bool) (work : List Int) (ka : Option Addr) (kc kn : Nat),(∃ jj_,σ = upds jj_ [(1,(.slice (some ⟨bq,0,none⟩) N N)),(4,(.slice (some ⟨bi,0,none⟩) N N)),(7,(.slice ka kn kc))]) ∧ Chg (fun y => y = bq) w0 W9 ∧ Chg none1 wb W9 ∧ Blk W9 bq ((M3.map Value.bool).toArray) 4 ∧ Blk W9 bn #[(I6 (N : Int)),(I6 n.start),(.slice ea n.ends.length ec),(.slice pa n.eps.length pc),(.slice xa n.edges.length xc)] 37 ∧ (CloSt n.eps N I M3 work []) ∧ (work.length + cntT M3 ≤ 1000) ∧ (kn = work.length) ∧ (W9.ownsRow n3 TDI 1 (.slice ka kn kc) kn (work.map (Value.int .i64))) ∧ (n3 ≤ W9.heap.size) ∧ (Chg (fun y => y = bq) W1 W9) ∧ nn_ = 2 * cntT M3 + work.length) (n := 2 * cntT M + work.length) ?_ ?_
     ·exact ⟨M,work,ka,kc,kn,Fits.out ⟨rfl,rfl,rfl,trivial⟩,E,E1,hB,Bn,CloSt.start hMl hm (fun j hj => hW.mem j (by have := lt_of_get hj; omega) hj) hW.tru,(by omega),hkn,hw,hs3,hC9,rfl⟩
     ·clear E E1 hB Bn
      rintro _ _ W9 ⟨M3,work,ka,kc,kn,⟨j9,rfl⟩,E,E1,hB,Bn,hL,hcn,hkn,hw,hs3,hC9,rfl⟩
      refine Wp_seq (Wp_seq_region ?_)
      refine qM (.slice ka kn kc) rfl ?_
      refine qV (r_lenSlice (ad := ka) (n := kn) (cap := kc) Tryz.underlying22 rfl) ?_
      refine qV (r_gtr (k := .i64) (a := (kn : Int)) (b := 0) rfl rfl) ?_
      refine WpL_nil ?_
      refine Wp_cond (b := decide ((0 : Int) < (kn : Int))) rfl (fun hlt3 => ?_) (fun hlt3 => ?_)
      ·have khlt3 := hlt3
       replace hlt3 := of_decide_eq_true hlt3
       obtain ⟨wl,x,hwx⟩ := snocs (l := work) (by omega)
       have hwl : work.length = wl.length + 1 := by rw [hwx]; simp
       obtain ⟨u,hxu,hMu⟩ := hL.wm x (by rw [hwx]; simp)
       have hMl3 := hL.len
       have hun : u < N := by have := lt_of_get hMu; omega
       obtain ⟨kg,rfl,_,hkc⟩ := own_cells hw (by omega)
       have hle := own_le hw
       obtain ⟨Z,hZ⟩ : ∃ Z,Z = 2 * cntT M3 + work.length := ⟨_,rfl⟩
       refine Wp_skip (thn_normal (Wp_block (Wp_seq_region ?_)))
       refine qM (.slice (some ⟨kg,0,none⟩) kn kc) rfl ?_
       refine qM (.slice (some ⟨kg,0,none⟩) kn kc) rfl ?_
       refine qV (r_lenSlice (ad := some ⟨kg,0,none⟩) (n := kn) (cap := kc) Tryz.underlying22 rfl) ?_
       refine qV (r_sub (k := .i64) (a := (kn : Int)) (b := 1) (c := (kn : Int) - 1) rfl rfl (wI64 (by omega))) ?_
       refine qV (r_indexSlice (b := kg) (o := 0) (len := kn) (cap := kc) (i := kn - 1) (o' := 0 + (kn - 1)) rfl rfl (by omega) Tryz.underlying22 siz3 (by omega) (by omega)) ?_
       refine qV (r_load (v := (I6 x)) rfl flat3 (hkc (kn - 1) _ (by rw [hkn,hwl,Nat.add_sub_cancel,List.getElem?_map,hwx]; simp))) ?_
       refine qA (I6 x) rfl ?_
       refine WpL_nil (Wp_seq_region ?_)
       refine qM (.slice (some ⟨kg,0,none⟩) kn kc) rfl ?_
       refine qM (.slice (some ⟨kg,0,none⟩) kn kc) rfl ?_
       refine qV (r_lenSlice (ad := some ⟨kg,0,none⟩) (n := kn) (cap := kc) Tryz.underlying22 rfl) ?_
       refine qV (r_sub (k := .i64) (a := (kn : Int)) (b := 1) (c := (kn : Int) - 1) rfl rfl (wI64 (by omega))) ?_
       obtain ⟨a2,ha2⟩ : ∃ a' : Option Addr,(if kc = 0 then (some ⟨kg,0,none⟩) else Option.map (fun q : Addr => q.add (0 * 1)) (some ⟨kg,0,none⟩)) = a' := ⟨_,rfl⟩
       refine qV (r_sliceHi (a := (some ⟨kg,0,none⟩)) (len := kn) (cap := kc) (hi := kn - 1) (l := (kn : Int) - 1) Tryz.underlying22 siz3 rfl rfl (by omega) (by omega) ha2) ?_
       refine qA (.slice a2 (kn - 1) kc) rfl ?_
       refine WpL_nil (Wp_seq_region ?_)
       refine qM (.slice (some ⟨bi,0,none⟩) N N) rfl ?_
       refine qM (I6 x) rfl ?_
       have ha3 : a2 = some ⟨kg,0,none⟩ := by rw [← ha2,if_neg (by omega)]; simp [Addr.add_lit]
       subst ha3
       have hw2 := own_cut hw (m := kn - 1) (by omega) (by omega)
       rw [show (work.map (Value.int .i64)).take ((kn - 1) * 1) = wl.map (Value.int .i64) by rw [hwx,List.map_append,Nat.mul_one,List.take_append_of_le_length (by simp; omega),List.take_of_length_le (by simp; omega)]] at hw2
       have hL2 : CloSt n.eps N I M3 wl [x] := by rw [hwx] at hL; exact hL.pop
       subst hxu
       obtain ⟨lu,hlu⟩ := get_of_lt (l := into) (i := u) (by have := hS.1; omega)
       have hGl : (into.map iRow).length = N := by rw [List.length_map]; exact hS.1
       obtain ⟨v1,hv1⟩ := get_of_lt (l := vs) (i := u) (by have := hG.l.len; omega)
       have hp1 : (into.map iRow)[u]? = some (lu.length,lu.map (Value.int .i64)) := by rw [List.getElem?_map,hlu]; rfl
       have hinn := hG.l.inn u v1 _ hv1 hp1
       have hinl := hinn.lt
       obtain ⟨va,vc,rfl⟩ := own_form hinn
       obtain ⟨gg,hgg,_,hg2⟩ := own_cells ((hG.chg hC9 (fun b h1 _ h => by have h' : b = bq := h; omega)).l.on hGl.symm) (by omega)
       simp only [Option.some.injEq,Addr.mk.injEq,and_true] at hgg
       subst hgg
       have hlul := hS.len hlu
       refine qV (r_indexSlice (b := bi) (o := 0) (len := N) (cap := N) (i := u) (o' := 0 + u) rfl rfl (by omega) Tryz.underlying62 siz22 (by omega) (by omega)) ?_
       refine qV (r_load (v := (.slice va lu.length vc)) rfl flat22 (hg2 u _ hv1)) ?_
       refine qV (r_lenSlice (ad := va) (n := lu.length) (cap := vc) Tryz.underlying22 rfl) ?_
       refine qM (I6 0) rfl ?_
       refine WpL_nil (Wp_block ?_)
       refine Wp_loop (fun nn_ σ W11 => ∃ (j : Nat) (M4 : List Bool) (work : List Int) (ka : Option Addr) (kc kn : Nat),(∃ jj_,σ = upds jj_ [(1,(.slice (some ⟨bq,0,none⟩) N N)),(4,(.slice (some ⟨bi,0,none⟩) N N)),(67,(.slice va lu.length vc)),(68,(I6 (lu.length : Int))),(69,(I6 (j : Int))),(7,(.slice ka kn kc))]) ∧ Chg (fun y => y = bq) w0 W11 ∧ Chg none1 wb W11 ∧ Blk W11 bq ((M4.map Value.bool).toArray) 4 ∧ Blk W11 bn #[(I6 (N : Int)),(I6 n.start),(.slice ea n.ends.length ec),(.slice pa n.eps.length pc),(.slice xa n.edges.length xc)] 37 ∧ (j ≤ lu.length) ∧ (CloSt n.eps N I M4 work [(u : Int)]) ∧ (∀ (i v : Nat),i < j → lu[i]? = some (v : Int) → M4[v]? = some true) ∧ (M4[u]? = some true) ∧ (work.length + cntT M4 ≤ 1000) ∧ (kn = work.length) ∧ (W11.ownsRow n3 TDI 1 (.slice ka kn kc) kn (work.map (Value.int .i64))) ∧ (n3 ≤ W11.heap.size) ∧ (Chg (fun y => y = bq) W1 W11) ∧ (2 * cntT M4 + work.length < Z) ∧ nn_ = lu.length - j) (n := lu.length - 0) ?_ ?_
       ·exact ⟨0,M3,wl,some ⟨kg,0,none⟩,kc,kn - 1,Fits.out ⟨rfl,rfl,rfl,rfl,rfl,rfl,trivial⟩,E,E1,hB,Bn,Nat.zero_le _,hL2,(fun i v h => absurd h (Nat.not_lt_zero _)),hMu,(by omega),(by omega),hw2,hs3,hC9,(by omega),rfl⟩
       ·clear E E1 hB Bn
        rintro _ _ W11 ⟨j,M4,work,ka,kc,kn,⟨j11,rfl⟩,E,E1,hB,Bn,hj,hL,hQ,hMu,hcn,hkn,hw,hs3,hC9,hZ,rfl⟩
        refine Wp_seq_region ?_
        refine qV (r_lss (k := .i64) (a := (j : Int)) (b := (lu.length : Int)) rfl rfl) ?_
        refine WpL_nil (Wp_seq ?_)
        refine Wp_cond (b := decide (((j : Int) : Int) < (lu.length : Int))) rfl (fun hlt4 => ?_) (fun hlt4 => ?_)
        ·have khlt4 := hlt4
         replace hlt4 := of_decide_eq_true hlt4
         obtain ⟨t,ht⟩ := get_of_lt (l := lu) (i := j) (by omega)
         have hte := (hS.full hSk hlu t).1 (List.mem_of_getElem? ht)
         have htn := (ok.ep _ hte).2
         obtain ⟨v,hv⟩ := Int.eq_ofNat_of_zero_le htn.1
         have hvN : v < N := by simp only at htn; omega
         subst hv
         have hMl4 := hL.len
         obtain ⟨q,hq⟩ := get_of_lt (l := M4) (i := v) (by omega)
         have hinE := own_intsD (own_chg hinn hC9 (fun b hb h => by have h' : b = bq := h; have := (hinl b hb).1; omega)) rfl
         obtain ⟨ub,uo,rfl,huc⟩ := ints_cells hinE (by omega)
         refine Wp_skip (thn_normal (Wp_seq (Wp_block (Wp_seq_region ?_))))
         refine qV (r_indexSlice (b := ub) (o := uo) (len := lu.length) (cap := vc) (i := j) (o' := uo + j) rfl rfl rfl Tryz.underlying22 siz3 (by omega) (by omega)) ?_
         refine qV (r_load (v := (I6 (v : Int))) rfl flat3 (huc j _ ht)) ?_
         refine qA (I6 (v : Int)) rfl ?_
         refine WpL_nil (Wp_seq_region ?_)
         refine qM (.slice (some ⟨bq,0,none⟩) N N) rfl ?_
         refine qM (I6 (v : Int)) rfl ?_
         refine qV (r_indexSlice (b := bq) (o := 0) (len := N) (cap := N) (i := v) (o' := 0 + v) rfl rfl (by omega) Tryz.underlying77 siz4 (by omega) (by omega)) ?_
         refine qV (r_load (v := (.bool q)) rfl flat4 (hB.cell (by simp [hq]))) ?_
         refine qV (r_not (b := q) rfl) ?_
         refine WpL_nil ?_
         refine Wp_cond (b := !q) rfl (fun hqf => ?_) (fun hqf => ?_)
         ·have khqf := hqf
          replace hqf := by simpa using hqf
          have hMv : M4[v]? = some false := by rw [hq,hqf]
          have hLk := hL.mark hvN ⟨u,rfl,hMu⟩ hte
          have hcs := cntT_set hMv
          refine Wp_seq_region ?_
          refine qM (.slice (some ⟨bq,0,none⟩) N N) rfl ?_
          refine qM (I6 (v : Int)) rfl ?_
          refine qV (r_indexSlice (b := bq) (o := 0) (len := N) (cap := N) (i := v) (o' := 0 + v) rfl rfl (by omega) Tryz.underlying77 siz4 (by omega) (by omega)) ?_
          refine s_store (b := bq) (o := 0 + v) (c' := ((M4.set v true).map Value.bool).toArray) (v := (.bool true)) rfl rfl rfl siz4 hB (by simp; omega) (bools_set true) ?_
          intro w14 S14
          replace hw := own_chg hw S14.chg fun b hb h => by subst h; have := (hw.lt _ hb).1; omega
          replace hs3 := Nat.le_trans hs3 S14.chg.size
          replace hC9 := hC9.step S14.chg (fun y _ h => h)
          replace Bn := S14.keep (by omega) Bn
          replace E := S14.step E (by first | exact Or.inl (by omega) | exact Or.inr rfl | exact Or.inr (by assumption) | exact Or.inr (by simp) | exact Or.inr (by omega) | exact Or.inr (by dsimp only; omega))
          replace E1 := S14.step E1 (Or.inl (by omega))
          replace hB := S14.blk
          refine WpL_nil (Wp_region ?_)
          refine qM (.slice ka kn kc) rfl ?_
          refine qM (I6 (v : Int)) rfl ?_
          refine s_buildSlice (ps := [(0,(I6 (v : Int)))]) (c := #[(I6 (v : Int))]) (by decide) rfl Tryz.underlying22 siz3 zer3 (by decide) (by decide) (by kernel_rfl) ?_
          intro b15 w15 N15
          have F15 := N15.ge E
          have F15_E1 := N15.ge E1
          have O15_bq := N15.lt hB
          have O15_bn := N15.lt Bn
          replace hB := N15.keep hB
          replace Bn := N15.keep Bn
          replace hw := own_ext hw N15.ext
          replace hs3 := Nat.le_trans hs3 N15.ext.size
          replace hC9 := hC9.ext N15.ext
          replace E := E.ext N15.ext
          have B15 := N15.blk
          replace E1 := E1.ext N15.ext
          refine s_append (base := n3) (n := kn) (m := 1) (xs := (work.map (Value.int .i64))) (news := [(I6 (v : Int))]) (size := 1) (bytes := 8) (v := (.slice ka kn kc)) (by decide) Tryz.underlying22 siz3 byt3 zer3 rfl (by decide) rfl hw rfl (rfl) (B15.cells rfl) (by simp [Value.oneCell']) (by unfold maxLen; omega) (by omega) (hs3) ?_
          intro v7 w59 Ov7 Cv7 Dv7
          replace hB := Cv7.keep (fun h => by have := (hw.lt _ h).1; omega) hB
          replace Bn := Cv7.keep (fun h => by have := (hw.lt _ h).1; omega) Bn
          replace E := E.step Cv7 (fun x hx h => absurd (hw.lt x h).1 (by omega))
          replace E1 := E1.step Cv7 (fun x hx h => absurd (hw.lt x h).1 (by omega))
          obtain ⟨ka2,kc2,rfl⟩ := own_form Ov7
          replace hC9 := hC9.step Cv7 (fun x hx h => absurd (hw.lt x h).1 (by omega))
          refine qA (.slice ka2 (kn + 1) kc2) rfl ?_
          refine WpL_nil (inB_normal (thn_normal (Wp_region ?_)))
          refine qV (r_add (k := .i64) (a := (j : Int)) (b := 1) (c := (j : Int) + 1) rfl rfl (wI64 (by omega))) ?_
          refine qM (I6 ((j : Int) + 1)) rfl ?_
          refine WpL_nil (thn_normal ?_)
          exact ⟨lu.length - (j + 1),by omega,j + 1,M4.set v true,work ++ [((v : Nat) : Int)],ka2,kc2,kn + 1,Fits.out ⟨rfl,rfl,rfl,rfl,rfl,rfl,trivial⟩,E,E1,hB,Bn,(by omega),hLk,(fun i v2 hi h9 => by rcases Nat.lt_or_ge i j with h1 | h1; exact set_true (hQ i v2 h1 h9); (have h2 : i = j := by omega); rw [h2,ht] at h9; (have h3 : v = v2 := by have := Option.some.inj h9; omega); rw [← h3,List.getElem?_set,if_pos rfl,if_pos (by omega)]),set_true hMu,(by simp; omega),(by simp; omega),(by rw [List.map_append]; exact Ov7),Nat.le_trans hs3 Cv7.size,hC9,(by simp; omega),rfl⟩
         ·have khqf := hqf
          replace hqf := by simpa using hqf
          refine Wp_skip (inB_normal (thn_normal (Wp_region ?_)))
          refine qV (r_add (k := .i64) (a := (j : Int)) (b := 1) (c := (j : Int) + 1) rfl rfl (wI64 (by omega))) ?_
          refine qM (I6 ((j : Int) + 1)) rfl ?_
          refine WpL_nil (thn_normal ?_)
          exact ⟨lu.length - (j + 1),by omega,j + 1,M4,work,ka,kc,kn,Fits.out ⟨rfl,rfl,rfl,rfl,rfl,rfl,trivial⟩,E,E1,hB,Bn,(by omega),hL,(fun i v2 hi h9 => by rcases Nat.lt_or_ge i j with h1 | h1; exact hQ i v2 h1 h9; (have h2 : i = j := by omega); rw [h2,ht] at h9; (have h3 : v = v2 := by have := Option.some.inj h9; omega); rw [← h3,hq,hqf]),hMu,hcn,hkn,hw,hs3,hC9,hZ,rfl⟩
        ·have khlt4 := hlt4
         replace hlt4 := of_decide_eq_false hlt4
         refine Wp_exit (thn_exit (thn_exit (inB_here (inB_normal (thn_normal ?_)))))
         exact ⟨2 * cntT M4 + work.length,by omega,M4,work,ka,kc,kn,Fits.out ⟨rfl,rfl,rfl,trivial⟩,E,E1,hB,Bn,hL.done (fun v h9 => by have h8 := (hS.full hSk hlu ((v : Nat) : Int)).2 h9; obtain ⟨i,hi⟩ := List.getElem?_of_mem h8; exact hQ i v (by have := lt_of_get hi; omega) hi),hcn,hkn,hw,hs3,hC9,rfl⟩
      ·have khlt3 := hlt3
       replace hlt3 := of_decide_eq_false hlt3
       have hw0 : work = [] := List.eq_nil_of_length_eq_zero (by omega)
       rw [hw0] at hL
       refine Wp_exit (thn_exit (thn_exit (inB_here ?_)))
       refine fin_none Tryz.results33 ?_
       exact ⟨⟨M3,hL.len,hL.fin (fun s h9 => by have := hI s h9; omega) (fun p h9 => by have := (ok.ep p h9).2; omega),hB⟩,E⟩
theorem MarkOf.congr {M : List Bool} {I J : Int → Prop} (h : MarkOf M I) (hIJ : ∀ s,I s ↔ J s) : MarkOf M J := fun k hk => (h k hk).trans (hIJ _)
theorem MarkOf.set {M : List Bool} {I : Int → Prop} (h : MarkOf M I) (a : Nat) : MarkOf (M.set a true) (fun s => I s ∨ s = (a : Int)) := by
 intro k hk
 rw [List.length_set] at hk
 rw [List.getElem?_set]
 by_cases e : a = k
 ·subst e
  rw [if_pos rfl,if_pos hk]
  simp
 ·rw [if_neg e]
  refine (h k hk).trans ⟨.inl,fun h2 => h2.resolve_right fun h3 => e (by omega)⟩
theorem mark_none (N : Nat) : MarkOf (List.replicate N false) (fun _ => False) := by
 intro k hk
 rw [List.length_replicate] at hk
 rw [List.getElem?_replicate,if_pos hk]; simp
theorem int_nat {x : Int} {N : Nat} (h : 0 ≤ x ∧ x < (N : Int)) : ∃ a : Nat,x = (a : Int) ∧ a < N := by
 obtain ⟨a,ha⟩ := Int.eq_ofNat_of_zero_le h.1
 exact ⟨a,ha,by omega⟩
theorem nclosure_c (w0 : World) (n : Nf) (vs0 : List Value) (N : Nat) (v : Value) (l : List Int) (ok : OkN n) (hN : n.states = (N : Int)) (h : NfAt w0 n vs0) (hl : IntsAt w0 v l) (hln : ∀ s ∈ l,0 ≤ s ∧ s < (N : Int)) :
  Ret Tryz.prog 31 #[.agg vs0.toArray,v] w0 fun r w => (∃ M b,r = .slice (some ⟨b,0,none⟩) N N ∧ w0.heap.size ≤ b ∧ M.length = N ∧ MarkOf M (cloP n.eps fun s => s ∈ l) ∧ Blk w b (M.map Value.bool).toArray 4) ∧ Ext w0 w := by
 have h0 := h
 obtain ⟨ea,ec,pa,pc,xa,xc,rfl,hen,hep,hed⟩ := h
 obtain ⟨la,lc,rfl⟩ := SlAt.form hl
 have hlc := SlAt.cap hl
 have hle := SlAt.le hl
 have hst := ok.st
 have hN5 : N ≤ 500 := by omega
 rw [hN] at h0
 rw [hN]
 rw [List.length_map] at hl hlc hle ⊢
 refine Ret_of Tryz.func31 rfl Tryz.ntmps31 (Nat.le_of_ble_eq_true rfl) ?_
 have E : Chg none1 w0 w0 := Chg.refl _ _
 refine Wp_seq_region ?_
 refine s_box (v := (.agg #[(I6 (N : Int)),(I6 n.start),(.slice ea n.ends.length ec),(.slice pa n.eps.length pc),(.slice xa n.edges.length xc)])) (c := #[(I6 (N : Int)),(I6 n.start),(.slice ea n.ends.length ec),(.slice pa n.eps.length pc),(.slice xa n.edges.length xc)]) (by decide) rfl rfl ?_
 intro bn wn Nn
 have Fn := Nn.ge E
 replace E := E.ext Nn.ext
 have Bn := Nn.blk
 refine qA (.slice none 0 0) rfl ?_
 refine WpL_nil (Wp_seq_region ?_)
 refine qF bn 0 0 rfl Tryz.underlying37 rfl siz3 rfl ?_
 refine qV (r_load (v := (I6 (N : Int))) rfl flat3 (Bn.cell rfl)) ?_
 refine s_make (n := N) (z := (.bool false)) (bytes := 1) (by decide) Tryz.underlying77 siz4 byt4 zer4 rfl rfl rfl (by omega) (by omega) ?_
 intro bi wi Ni
 have Fi := Ni.ge E
 have Oi_bn := Ni.lt Bn
 replace Bn := Ni.keep Bn
 replace E := E.ext Ni.ext
 have Bi := Ni.blk
 refine qA (.slice (some ⟨bi,0,none⟩) N N) rfl ?_
 refine WpL_nil (Wp_seq (Wp_seq_region ?_))
 refine qM (.slice la l.length lc) rfl ?_
 refine qV (r_lenSlice (ad := la) (n := l.length) (cap := lc) Tryz.underlying22 rfl) ?_
 refine qM (I6 0) rfl ?_
 refine WpL_nil (Wp_block ?_)
 have hbi : bn < bi := by have := Ni.eq; have := Bn.lt; omega
 rw [show List.replicate N (Value.bool false) = (List.replicate N false).map Value.bool by simp] at Bi
 refine Wp_loop (fun nn_ σ W1 => ∃ (k : Nat) (M : List Bool),(∃ jj_,σ = upds jj_ [(2,(P6 bn 0)),(5,(.slice (some ⟨bi,0,none⟩) N N)),(11,(.slice la l.length lc)),(12,(I6 (l.length : Int))),(13,(I6 (k : Int)))]) ∧ Chg none1 w0 W1 ∧ Blk W1 bn #[(I6 (N : Int)),(I6 n.start),(.slice ea n.ends.length ec),(.slice pa n.eps.length pc),(.slice xa n.edges.length xc)] 37 ∧ Blk W1 bi ((M.map Value.bool).toArray) 4 ∧ (k ≤ l.length) ∧ (M.length = N) ∧ (MarkOf M (fun s => s ∈ l.take k)) ∧ nn_ = l.length - k) (n := l.length - 0) ?_ ?_
 ·exact ⟨0,List.replicate N false,Fits.out ⟨rfl,rfl,rfl,rfl,rfl,trivial⟩,E,Bn,Bi,Nat.zero_le _,(by simp),(mark_none N).congr fun s => by simp,rfl⟩
 ·clear E Bn Bi
  rintro _ _ W1 ⟨k,M,⟨j1,rfl⟩,E,Bn,Bi,hk,hMl,hM,rfl⟩
  refine Wp_seq_region ?_
  refine qV (r_lss (k := .i64) (a := (k : Int)) (b := (l.length : Int)) rfl rfl) ?_
  refine WpL_nil (Wp_seq ?_)
  refine Wp_cond (b := decide (((k : Int) : Int) < (l.length : Int))) rfl (fun hlt => ?_) (fun hlt => ?_)
  ·have khlt := hlt
   replace hlt := of_decide_eq_true hlt
   obtain ⟨x,hx⟩ := get_of_lt (l := l) (i := k) (by omega)
   obtain ⟨a,ha,haN⟩ := int_nat (hln x (List.mem_of_getElem? hx))
   subst ha
   obtain ⟨lb,lo,rfl,hlc2⟩ := ints_cells hl (by omega)
   refine Wp_skip (thn_normal (Wp_seq (Wp_block (Wp_seq_region ?_))))
   refine qV (r_indexSlice (b := lb) (o := lo) (len := l.length) (cap := lc) (i := k) (o' := lo + k) rfl rfl rfl Tryz.underlying22 siz3 (by omega) (by omega)) ?_
   refine qV (r_load (v := (I6 (a : Int))) rfl flat3 (E.cell (fun f => f) (hlc2 k _ hx))) ?_
   refine qA (I6 (a : Int)) rfl ?_
   refine WpL_nil (Wp_region ?_)
   refine qM (.slice (some ⟨bi,0,none⟩) N N) rfl ?_
   refine qM (I6 (a : Int)) rfl ?_
   refine qV (r_indexSlice (b := bi) (o := 0) (len := N) (cap := N) (i := a) (o' := 0 + a) rfl rfl (by omega) Tryz.underlying77 siz4 (by omega) (by omega)) ?_
   refine s_store (b := bi) (o := 0 + a) (c' := ((M.set a true).map Value.bool).toArray) (v := (.bool true)) rfl rfl rfl siz4 Bi (by simp; omega) (bools_set true) ?_
   intro w3 S3
   replace Bn := S3.keep (by omega) Bn
   replace E := S3.step E (by first | exact Or.inl (by omega) | exact Or.inr rfl | exact Or.inr (by assumption) | exact Or.inr (by simp) | exact Or.inr (by omega) | exact Or.inr (by dsimp only; omega))
   replace Bi := S3.blk
   refine WpL_nil (inB_normal (thn_normal (Wp_region ?_)))
   refine qV (r_add (k := .i64) (a := (k : Int)) (b := 1) (c := (k : Int) + 1) rfl rfl (wI64 (by omega))) ?_
   refine qM (I6 ((k : Int) + 1)) rfl ?_
   refine WpL_nil (thn_normal ?_)
   exact ⟨l.length - (k + 1),by omega,k + 1,M.set a true,Fits.out ⟨rfl,rfl,rfl,rfl,rfl,trivial⟩,E,Bn,Bi,(by omega),(by rw [List.length_set]; exact hMl),(hM.set a).congr fun s => by rw [List.take_add_one,hx]; simp,rfl⟩
  ·have khlt := hlt
   replace hlt := of_decide_eq_false hlt
   have hkk : k = l.length := by omega
   rw [hkk,List.take_length] at hM
   refine Wp_exit (thn_exit (thn_exit (inB_here (thn_normal (Wp_seq_region ?_)))))
   refine qV (r_loadAgg (vs := [(I6 (N : Int)),(I6 n.start),(.slice ea n.ends.length ec),(.slice pa n.eps.length pc),(.slice xa n.edges.length xc)]) rfl agg37 siz37 rfl (Bn.cells rfl)) ?_
   refine qM (.slice (some ⟨bi,0,none⟩) N N) rfl ?_
   refine WpL_enter rfl rfl (by decide) (r_callF (vs := [(.agg #[(I6 (N : Int)),(I6 n.start),(.slice ea n.ends.length ec),(.slice pa n.eps.length pc),(.slice xa n.edges.length xc)]),(.slice (some ⟨bi,0,none⟩) N N)]) Tryz.func33 kQ kQ rfl) (nclose_c _ w0 n _ bi N M (fun s => s ∈ l) ok hN h0 E (by omega) Bi hMl (fun s hs => by rw [hN]; exact hln s hs) hM) ?_
   rintro _ w9 ⟨⟨M2,hM2l,hM2,hB2⟩,C9⟩
   replace Bn := C9.keep ((fun h => by have h' : _ = bi := h; omega)) Bn
   replace E := E.step C9 ((fun y hy h => by have h' : y = bi := h; omega))
   refine WpL_nil (Wp_seq_region ?_)
   refine qM (.slice (some ⟨bi,0,none⟩) N N) rfl ?_
   refine qA (.slice (some ⟨bi,0,none⟩) N N) rfl ?_
   refine WpL_nil (Wp_ret ?_)
   refine fin_tmp Tryz.results31 (v := (.slice (some ⟨bi,0,none⟩) N N)) rfl ?_
   exact ⟨⟨M2,bi,rfl,by omega,hM2l,hM2,hB2⟩,E⟩
theorem nrun1_c (w0 : World) (a N g b : Nat) (M : List Bool) (hB : Blk w0 b #[.slice (some ⟨g,0,none⟩) N N] 77) (hg : Blk w0 g (M.map Value.bool).toArray 4) (hMl : M.length = N) (ha : a < N) (hN : N ≤ 500) : Ret Tryz.prog 35 #[.int .i64 ((a : Nat) : Int),.pointer (some ⟨b,0,none⟩)] w0 fun r w => r = .bool (M.getD a false) ∧ Ext w0 w := by
 obtain ⟨q,hq⟩ := get_of_lt (l := M) (i := a) (by omega)
 refine Ret_of Tryz.func35 rfl Tryz.ntmps35 (Nat.le_of_ble_eq_true rfl) ?_
 have E : Chg none1 w0 w0 := Chg.refl _ _
 refine Wp_seq_region ?_
 refine qA (.bool false) rfl ?_
 refine WpL_nil (Wp_seq_region ?_)
 refine qV (r_load (v := (.slice (some ⟨g,0,none⟩) N N)) rfl flat77 (hB.cell rfl)) ?_
 refine qM (I6 (a : Int)) rfl ?_
 refine qV (r_indexSlice (b := g) (o := 0) (len := N) (cap := N) (i := a) (o' := 0 + a) rfl rfl (by omega) Tryz.underlying77 siz4 (by omega) (by omega)) ?_
 refine qV (r_load (v := (.bool q)) rfl flat4 (hg.cell (by simp [hq]))) ?_
 refine qA (.bool q) rfl ?_
 refine WpL_nil (Wp_ret ?_)
 refine fin_tmp Tryz.results35 (v := (.bool q)) rfl ?_
 exact ⟨bool_eq (by rw [List.getD_eq_getElem?_getD,hq]; rfl),E⟩
/-- What Run returns. -/
def RunP (n : Nf) (text : List Int) (b : Bool) (e : Int) : Prop := (chkN n ≠ 0 ∧ b = false ∧ e = chkN n) ∨ (chkN n = 0 ∧ 1000 < text.length ∧ b = false ∧ e = 2) ∨ (chkN n = 0 ∧ text.length ≤ 1000 ∧ (text.any fun r => !runeB r) = true ∧ b = false ∧ e = 1) ∨
 (chkN n = 0 ∧ text.length ≤ 1000 ∧ (text.any fun r => !runeB r) = false ∧ (b = true ↔ Acc n text) ∧ e = 0)
/-- What is marked when the first j edges have been gone through. -/
def stpJ (n : Nf) (I : Int → Prop) (c : Int) (j : Nat) : Int → Prop := fun t => ∃ e ∈ n.edges.take j,I e.1 ∧ inS e.2.2 c = true ∧ e.2.1 = t
theorem stpJ_snoc {n : Nf} {I : Int → Prop} {c : Int} {j : Nat} {e : Ed} (he : n.edges[j]? = some e) (t : Int) : stpJ n I c (j + 1) t ↔ stpJ n I c j t ∨ (I e.1 ∧ inS e.2.2 c = true ∧ e.2.1 = t) := by
 unfold stpJ
 rw [List.take_add_one,he]
 constructor
 ·rintro ⟨f,hf,h⟩
  rcases List.mem_append.1 hf with h1 | h1
  ·exact .inl ⟨f,h1,h⟩
  ·simp at h1; subst h1; exact .inr h
 ·rintro (⟨f,hf,h⟩ | h)
  ·exact ⟨f,List.mem_append_left _ hf,h⟩
  ·exact ⟨e,List.mem_append_right _ (by simp),h⟩
theorem setP_snoc {n : Nf} {I : Int → Prop} {text : List Int} {k : Nat} {c : Int} (h : text[k]? = some c) : setP n I (text.take (k + 1)) = cloP n.eps (stpP n (setP n I (text.take k)) c) := by
 rw [List.take_add_one,h]
 unfold setP
 rw [List.foldl_append]; rfl
theorem nrun_c (w0 : World) (n : Nf) (vs0 : List Value) (v : Value) (text : List Int) (h : NfAt w0 n vs0) (ht : IntsAt w0 v text) :
  Ret Tryz.prog 11 #[.agg vs0.toArray,v] w0 fun r w => (∃ b e,r = .tuple #[.bool b,.int .i64 e] ∧ RunP n text b e) ∧ Ext w0 w := by
 have h0 := h
 obtain ⟨ea,ec,pa,pc,xa,xc,rfl,hen,hep,hed⟩ := h
 obtain ⟨ta,tc,rfl⟩ := SlAt.form ht
 have htc := SlAt.cap ht
 have htl := SlAt.le ht
 rw [List.length_map] at ht htc htl ⊢
 refine Ret_of Tryz.func11 rfl Tryz.ntmps11 (Nat.le_of_ble_eq_true rfl) ?_
 have E : Chg none1 w0 w0 := Chg.refl _ _
 refine Wp_seq_region ?_
 refine s_box (v := (.agg #[(I6 n.states),(I6 n.start),(.slice ea n.ends.length ec),(.slice pa n.eps.length pc),(.slice xa n.edges.length xc)])) (c := #[(I6 n.states),(I6 n.start),(.slice ea n.ends.length ec),(.slice pa n.eps.length pc),(.slice xa n.edges.length xc)]) (by decide) rfl rfl ?_
 intro bn wn Nn
 have Fn := Nn.ge E
 replace E := E.ext Nn.ext
 have Bn := Nn.blk
 refine qA (.bool false) rfl ?_
 refine qA (I6 0) rfl ?_
 refine WpL_nil (Wp_seq (Wp_seq_region ?_))
 refine qV (r_loadAgg (vs := [(I6 n.states),(I6 n.start),(.slice ea n.ends.length ec),(.slice pa n.eps.length pc),(.slice xa n.edges.length xc)]) rfl agg37 siz37 rfl (Bn.cells rfl)) ?_
 refine WpL_enter rfl rfl (by decide) (r_callF (vs := [(.agg #[(I6 n.states),(I6 n.start),(.slice ea n.ends.length ec),(.slice pa n.eps.length pc),(.slice xa n.edges.length xc)])]) Tryz.func29 kQ kQ rfl) (ncheck_c _ n _ (h0.ext E)) ?_
 rintro _ w9 ⟨rfl,X9⟩
 replace Bn := X9.keep Bn
 replace E := E.ext X9
 refine qA (I6 (chkN n)) rfl ?_
 refine WpL_nil (Wp_seq_region ?_)
 refine qM (I6 (chkN n)) rfl ?_
 refine qV (r_neq (k := .i64) (a := chkN n) (b := 0) rfl rfl) ?_
 refine WpL_nil ?_
 refine Wp_cond (b := decide ((chkN n : Int) ≠ 0)) rfl (fun hc0 => ?_) (fun hc0 => ?_)
 ·have khc0 := hc0
  replace hc0 := of_decide_eq_true hc0
  refine Wp_seq_region ?_
  refine qM (I6 (chkN n)) rfl ?_
  refine qA (.bool false) rfl ?_
  refine qA (I6 (chkN n)) rfl ?_
  refine WpL_nil (Wp_ret (thn_ret ?_))
  refine fin_tmp2 Tryz.results11 (v := (.bool false)) (v' := (.int .i64 (chkN n))) rfl rfl ?_
  exact ⟨⟨_,_,rfl,.inl ⟨hc0,rfl,rfl⟩⟩,E⟩
 ·have khc0 := hc0
  replace hc0 := of_decide_eq_false hc0
  have hc1 : chkN n = 0 := by omega
  have ok := chkN_zero.1 hc1
  refine Wp_skip (thn_normal (Wp_seq (Wp_seq_region ?_)))
  refine qM (.slice ta text.length tc) rfl ?_
  refine qV (r_lenSlice (ad := ta) (n := text.length) (cap := tc) Tryz.underlying22 rfl) ?_
  refine qV (r_gtr (k := .i64) (a := (text.length : Int)) (b := 1000) rfl rfl) ?_
  refine WpL_nil ?_
  refine Wp_cond (b := decide ((1000 : Int) < (text.length : Int))) rfl (fun hlen => ?_) (fun hlen => ?_)
  ·have khlen := hlen
   replace hlen := of_decide_eq_true hlen
   refine Wp_seq_region ?_
   refine qA (.bool false) rfl ?_
   refine qA (I6 2) rfl ?_
   refine WpL_nil (Wp_ret (thn_ret ?_))
   refine fin_tmp2 Tryz.results11 (v := (.bool false)) (v' := (.int .i64 2)) rfl rfl ?_
   exact ⟨⟨_,_,rfl,.inr (.inl ⟨hc1,by omega,rfl,rfl⟩)⟩,E⟩
  ·have khlen := hlen
   replace hlen := of_decide_eq_false hlen
   refine Wp_skip (thn_normal (Wp_seq (Wp_seq_region ?_)))
   refine qM (.slice ta text.length tc) rfl ?_
   refine WpL_enter rfl rfl (by decide) (r_callF (vs := [(.slice ta text.length tc)]) Tryz.func30 kQ kQ rfl) (runes_c _ _ text (ht.ext E)) ?_
   rintro _ w19 ⟨rfl,X19⟩
   replace Bn := X19.keep Bn
   replace E := E.ext X19
   refine qV (r_not (b := !(text.any fun r => !runeB r)) rfl) ?_
   refine WpL_nil ?_
   refine Wp_cond (b := !(!(text.any fun r => !runeB r))) rfl (fun hru => ?_) (fun hru => ?_)
   ·have khru := hru
    replace hru := by simpa using hru
    replace hru := by simpa using hru
    refine Wp_seq_region ?_
    refine qA (.bool false) rfl ?_
    refine qA (I6 1) rfl ?_
    refine WpL_nil (Wp_ret (thn_ret ?_))
    refine fin_tmp2 Tryz.results11 (v := (.bool false)) (v' := (.int .i64 1)) rfl rfl ?_
    exact ⟨⟨_,_,rfl,.inr (.inr (.inl ⟨hc1,by omega,by simpa using hru,rfl,rfl⟩))⟩,E⟩
   ·have khru := hru
    replace hru := by simpa using hru
    replace hru := by simpa using hru
    have hru1 : (text.any fun r => !runeB r) = false := by simpa using hru
    obtain ⟨N,hN,_⟩ : ∃ N : Nat,n.states = (N : Int) ∧ True := by have := ok.s0; obtain ⟨a,ha⟩ := Int.eq_ofNat_of_zero_le (show 0 ≤ n.states by omega); exact ⟨a,ha,trivial⟩
    have hst := ok.st
    have hxl := ok.xl
    have hN5 : N ≤ 500 := by omega
    have h0N := h0
    rw [hN] at h0N
    have Bn2 := Bn
    rw [hN] at Bn2
    refine Wp_skip (thn_normal (Wp_seq_region ?_))
    refine qV (r_loadAgg (vs := [(I6 (N : Int)),(I6 n.start),(.slice ea n.ends.length ec),(.slice pa n.eps.length pc),(.slice xa n.edges.length xc)]) rfl agg37 siz37 rfl (Bn2.cells rfl)) ?_
    refine qF bn 0 1 rfl Tryz.underlying37 rfl siz3 rfl ?_
    refine qV (r_load (v := (I6 n.start)) rfl flat3 (Bn2.cell rfl)) ?_
    refine s_buildSlice (ps := [(0,(I6 n.start))]) (c := #[(I6 n.start)]) (by decide) rfl Tryz.underlying22 siz3 zer3 (by decide) (by decide) (by kernel_rfl) ?_
    intro bs ws Ns
    have Fs := Ns.ge E
    have Os_bn := Ns.lt Bn2
    replace Bn2 := Ns.keep Bn2
    replace E := E.ext Ns.ext
    have Bs := Ns.blk
    have hbnl : bn < (ws).heap.size ∧ w0.heap.size ≤ (ws).heap.size := ⟨Bn2.lt,E.size⟩
    refine WpL_enter rfl rfl (by decide) (r_callF (vs := [(.agg #[(I6 (N : Int)),(I6 n.start),(.slice ea n.ends.length ec),(.slice pa n.eps.length pc),(.slice xa n.edges.length xc)]),(.slice (some ⟨bs,0,none⟩) 1 1)]) Tryz.func31 kQ kQ rfl) (nclosure_c _ n _ N _ [n.start] ok hN (h0N.ext E) (ints_of_blk [n.start] Bs (by simp) (by simp)) (fun s hs => by rw [List.mem_singleton.1 hs]; have := ok.s0; omega)) ?_
    rintro _ w29 ⟨⟨M0,g0,rfl,hg0,hM0l,hM0,hB0⟩,X29⟩
    replace Bn2 := X29.keep Bn2
    replace Bs := X29.keep Bs
    replace E := E.ext X29
    have hg0l := hB0.lt
    have hbn0 : bn < g0 ∧ w0.heap.size ≤ g0 := by omega
    refine s_allocStore (v := (.slice (some ⟨g0,0,none⟩) N N)) (c := #[(.slice (some ⟨g0,0,none⟩) N N)]) (n := 1) (by decide) zer77 rfl siz77 rfl rfl rfl (by simp [Value.oneCell']) ?_
    intro bi wi Ni
    have Fi := Ni.ge E
    have Oi_bn := Ni.lt Bn2
    have Oi_g0 := Ni.lt hB0
    replace Bn2 := Ni.keep Bn2
    replace hB0 := Ni.keep hB0
    replace E := E.ext Ni.ext
    have Bi := Ni.blk
    refine WpL_nil (Wp_seq (Wp_seq_region ?_))
    refine qM (.slice ta text.length tc) rfl ?_
    refine qV (r_lenSlice (ad := ta) (n := text.length) (cap := tc) Tryz.underlying22 rfl) ?_
    refine qM (I6 0) rfl ?_
    refine WpL_nil (Wp_block ?_)
    have hgi : g0 < bi := by have := Ni.eq; omega
    refine Wp_loop (fun nn_ σ W4 => ∃ (k : Nat) (M : List Bool) (g : Nat),(∃ jj_,σ = upds jj_ [(2,(P6 bn 0)),(7,(P6 bi 0)),(29,(.slice ta text.length tc)),(30,(I6 (text.length : Int))),(31,(I6 (k : Int)))]) ∧ Chg none1 w0 W4 ∧ Blk W4 bn #[(I6 (N : Int)),(I6 n.start),(.slice ea n.ends.length ec),(.slice pa n.eps.length pc),(.slice xa n.edges.length xc)] 37 ∧ Blk W4 g0 ((M0.map Value.bool).toArray) 4 ∧ Blk W4 bi (#[Value.slice (some ⟨g,0,none⟩) N N]) 77 ∧ (k ≤ text.length) ∧ (M.length = N) ∧ (MarkOf M (setP n (cloP n.eps fun s => s = n.start) (text.take k))) ∧ (Blk W4 g (M.map Value.bool).toArray 4) ∧ (g ≠ bi ∧ g ≠ bn ∧ w0.heap.size ≤ g) ∧ nn_ = text.length - k) (n := text.length - 0) ?_ ?_
    ·exact ⟨0,M0,g0,Fits.out ⟨rfl,rfl,rfl,rfl,rfl,trivial⟩,E,Bn2,hB0,Bi,Nat.zero_le _,hM0l,hM0.congr (fun s => by rw [List.take_zero]; exact Iff.of_eq (congrArg (fun I => cloP n.eps I s) (by funext t; simp))),hB0,(by omega),rfl⟩
    ·clear E Bn2 hB0 Bi
     rintro _ _ W4 ⟨k,M,g,⟨j4,rfl⟩,E,Bn2,hB0,Bi,hk,hMl,hM,hg,hgn,rfl⟩
     refine Wp_seq_region ?_
     refine qV (r_lss (k := .i64) (a := (k : Int)) (b := (text.length : Int)) rfl rfl) ?_
     refine WpL_nil (Wp_seq ?_)
     refine Wp_cond (b := decide (((k : Int) : Int) < (text.length : Int))) rfl (fun hlt => ?_) (fun hlt => ?_)
     ·have khlt := hlt
      replace hlt := of_decide_eq_true hlt
      obtain ⟨c,hc⟩ := get_of_lt (l := text) (i := k) (by omega)
      obtain ⟨tb,to,rfl,htcl⟩ := ints_cells ht (by omega)
      refine Wp_skip (thn_normal (Wp_seq (Wp_block (Wp_seq_region ?_))))
      refine qV (r_indexSlice (b := tb) (o := to) (len := text.length) (cap := tc) (i := k) (o' := to + k) rfl rfl rfl Tryz.underlying22 siz3 (by omega) (by omega)) ?_
      refine qV (r_load (v := (I6 c)) rfl flat3 (E.cell (fun f => f) (htcl k c hc))) ?_
      refine qA (I6 c) rfl ?_
      refine WpL_nil (Wp_seq_region ?_)
      refine qF bn 0 0 rfl Tryz.underlying37 rfl siz3 rfl ?_
      refine qV (r_load (v := (I6 (N : Int))) rfl flat3 (Bn2.cell rfl)) ?_
      refine s_make (n := N) (z := (.bool false)) (bytes := 1) (by decide) Tryz.underlying77 siz4 byt4 zer4 rfl rfl rfl (by omega) (by omega) ?_
      intro bx wx Nx
      have Fx := Nx.ge E
      have Ox_bn := Nx.lt Bn2
      have Ox_g0 := Nx.lt hB0
      have Ox_bi := Nx.lt Bi
      have Ox_g := Nx.lt hg
      replace Bn2 := Nx.keep Bn2
      replace hB0 := Nx.keep hB0
      replace Bi := Nx.keep Bi
      replace hg := Nx.keep hg
      replace E := E.ext Nx.ext
      have Bx := Nx.blk
      refine qA (.slice (some ⟨bx,0,none⟩) N N) rfl ?_
      refine WpL_nil (Wp_seq (Wp_seq_region ?_))
      refine qF bn 0 4 rfl Tryz.underlying37 rfl siz35 rfl ?_
      refine qV (r_load (v := (.slice xa n.edges.length xc)) rfl flat35 (Bn2.cell rfl)) ?_
      refine qV (r_lenSlice (ad := xa) (n := n.edges.length) (cap := xc) Tryz.underlying35 rfl) ?_
      refine qM (I6 0) rfl ?_
      refine WpL_nil (Wp_block ?_)
      rw [show List.replicate N (Value.bool false) = (List.replicate N false).map Value.bool by simp] at Bx
      refine Wp_loop (fun nn_ σ W6 => ∃ (j : Nat) (M2 : List Bool),(∃ jj_,σ = upds jj_ [(2,(P6 bn 0)),(7,(P6 bi 0)),(9,(I6 c)),(10,(.slice (some ⟨bx,0,none⟩) N N)),(29,(.slice (some ⟨tb,to,none⟩) text.length tc)),(30,(I6 (text.length : Int))),(31,(I6 (k : Int))),(39,(.slice xa n.edges.length xc)),(40,(I6 (n.edges.length : Int))),(41,(I6 (j : Int)))]) ∧ Chg none1 w0 W6 ∧ Blk W6 bn #[(I6 (N : Int)),(I6 n.start),(.slice ea n.ends.length ec),(.slice pa n.eps.length pc),(.slice xa n.edges.length xc)] 37 ∧ Blk W6 g0 ((M0.map Value.bool).toArray) 4 ∧ Blk W6 bi #[(.slice (some ⟨g,0,none⟩) N N)] 77 ∧ Blk W6 g ((M.map Value.bool).toArray) 4 ∧ Blk W6 bx ((M2.map Value.bool).toArray) 4 ∧ (j ≤ n.edges.length) ∧ (M2.length = N) ∧ (MarkOf M2 (stpJ n (setP n (cloP n.eps fun s => s = n.start) (text.take k)) c j)) ∧ nn_ = n.edges.length - j) (n := n.edges.length - 0) ?_ ?_
      ·exact ⟨0,List.replicate N false,Fits.out ⟨rfl,rfl,rfl,rfl,rfl,rfl,rfl,rfl,rfl,rfl,trivial⟩,E,Bn2,hB0,Bi,hg,Bx,Nat.zero_le _,(by simp),(mark_none N).congr fun t => by simp [stpJ],rfl⟩
      ·clear E Bn2 hB0 Bi hg Bx
       rintro _ _ W6 ⟨j,M2,⟨j6,rfl⟩,E,Bn2,hB0,Bi,hg,Bx,hj,hM2l,hM2,rfl⟩
       refine Wp_seq_region ?_
       refine qV (r_lss (k := .i64) (a := (j : Int)) (b := (n.edges.length : Int)) rfl rfl) ?_
       refine WpL_nil (Wp_seq ?_)
       refine Wp_cond (b := decide (((j : Int) : Int) < (n.edges.length : Int))) rfl (fun hlt2 => ?_) (fun hlt2 => ?_)
       ·have khlt2 := hlt2
        replace hlt2 := of_decide_eq_true hlt2
        obtain ⟨e,he⟩ := get_of_lt (l := n.edges) (i := j) (by omega)
        have hem := ok.ed e (List.mem_of_getElem? he)
        obtain ⟨a,hea,haN⟩ := int_nat (by rw [← hN]; exact hem.1)
        obtain ⟨d,hde,hdN⟩ := int_nat (by rw [← hN]; exact hem.2.1)
        obtain ⟨xb,xo,rfl,hxc⟩ := edges_cells hed (by omega)
        obtain ⟨ra,rc,hcell,hsp⟩ := hxc j e he
        rw [hea,hde] at hcell
        obtain ⟨q,hq⟩ := get_of_lt (l := M) (i := a) (by omega)
        have hqI := hM a (by omega)
        rw [hq,← hea] at hqI
        refine Wp_skip (thn_normal (Wp_seq (Wp_block (Wp_seq_region ?_))))
        refine qV (r_indexSlice (b := xb) (o := xo) (len := n.edges.length) (cap := xc) (i := j) (o' := xo + j * 3) rfl rfl rfl Tryz.underlying35 siz74 (by omega) (by omega)) ?_
        refine qV (r_loadAgg (vs := [(I6 (a : Int)),(I6 (d : Int)),(.slice ra e.2.2.length rc)]) rfl agg74 siz74 rfl (hcell.ext E)) ?_
        refine s_allocStore (v := (.agg #[(I6 (a : Int)),(I6 (d : Int)),(.slice ra e.2.2.length rc)])) (c := #[(I6 (a : Int)),(I6 (d : Int)),(.slice ra e.2.2.length rc)]) (n := 3) (by decide) zer74 rfl siz74 rfl rfl rfl (by simp [Value.oneCell']) ?_
        intro bu wu Nu
        have Fu := Nu.ge E
        have Ou_bn := Nu.lt Bn2
        have Ou_g0 := Nu.lt hB0
        have Ou_bi := Nu.lt Bi
        have Ou_g := Nu.lt hg
        have Ou_bx := Nu.lt Bx
        replace Bn2 := Nu.keep Bn2
        replace hB0 := Nu.keep hB0
        replace Bi := Nu.keep Bi
        replace hg := Nu.keep hg
        replace Bx := Nu.keep Bx
        replace E := E.ext Nu.ext
        have Bu := Nu.blk
        refine WpL_nil (Wp_seq_region ?_)
        refine qV (r_load (v := (.slice (some ⟨g,0,none⟩) N N)) rfl flat77 (Bi.cell rfl)) ?_
        refine qF bu 0 0 rfl Tryz.underlying74 rfl siz3 rfl ?_
        refine qV (r_load (v := (I6 (a : Int))) rfl flat3 (Bu.cell rfl)) ?_
        refine qV (r_indexSlice (b := g) (o := 0) (len := N) (cap := N) (i := a) (o' := 0 + a) rfl rfl (by omega) Tryz.underlying77 siz4 (by omega) (by omega)) ?_
        refine qV (r_load (v := (.bool q)) rfl flat4 (hg.cell (by simp [hq]))) ?_
        refine qM (.bool q) rfl ?_
        rcases Bool.eq_false_or_eq_true (q) with g1 | g1
        ·have kg1 := g1
         refine WpL_guard_yes (oj := _) rfl rfl (by decide) (congrArg Value.bool g1) ?_
         refine qF bu 0 2 rfl Tryz.underlying74 rfl siz24 rfl ?_
         refine WpL_guard_yes (oj := _) rfl rfl (by decide) (congrArg Value.bool g1) ?_
         refine qV (r_load (v := (.slice ra e.2.2.length rc)) rfl flat24 (Bu.cell rfl)) ?_
         refine WpL_guard_yes (oj := _) rfl rfl (by decide) (congrArg Value.bool g1) ?_
         refine qM (I6 c) rfl ?_
         refine WpL_guard_yes (oj := _) rfl rfl (by decide) (congrArg Value.bool g1) ?_
         refine WpL_enter rfl rfl (by decide) (r_callF (vs := [(.slice ra e.2.2.length rc),(I6 c)]) Tryz.func32 kQ kQ rfl) (in_c _ _ e.2.2 c (hsp.ext E)) ?_
         rintro _ w49 ⟨rfl,X49⟩
         replace Bn2 := X49.keep Bn2
         replace hB0 := X49.keep hB0
         replace Bi := X49.keep Bi
         replace hg := X49.keep hg
         replace Bx := X49.keep Bx
         replace Bu := X49.keep Bu
         replace E := E.ext X49
         refine qV (r_pick (b := q) (v := (.bool (inS e.2.2 c))) rfl (by rw [g1]; rfl)) ?_
         refine WpL_nil ?_
         refine Wp_cond (b := inS e.2.2 c) rfl (fun g2 => ?_) (fun g2 => ?_)
         ·have kg2 := g2
          refine Wp_region ?_
          refine qM (.slice (some ⟨bx,0,none⟩) N N) rfl ?_
          refine qF bu 0 1 rfl Tryz.underlying74 rfl siz3 rfl ?_
          refine qV (r_load (v := (I6 (d : Int))) rfl flat3 (Bu.cell rfl)) ?_
          refine qV (r_indexSlice (b := bx) (o := 0) (len := N) (cap := N) (i := d) (o' := 0 + d) rfl rfl (by omega) Tryz.underlying77 siz4 (by omega) (by omega)) ?_
          refine s_store (b := bx) (o := 0 + d) (c' := ((M2.set d true).map Value.bool).toArray) (v := (.bool true)) rfl rfl rfl siz4 Bx (by simp; omega) (bools_set true) ?_
          intro w10 S10
          replace Bn2 := S10.keep (by omega) Bn2
          replace hB0 := S10.keep (by omega) hB0
          replace Bi := S10.keep (by omega) Bi
          replace hg := S10.keep (by omega) hg
          replace Bu := S10.keep (by omega) Bu
          replace E := S10.step E (by first | exact Or.inl (by omega) | exact Or.inr rfl | exact Or.inr (by assumption) | exact Or.inr (by simp) | exact Or.inr (by omega) | exact Or.inr (by dsimp only; omega))
          replace Bx := S10.blk
          refine WpL_nil (inB_normal (thn_normal (Wp_region ?_)))
          refine qV (r_add (k := .i64) (a := (j : Int)) (b := 1) (c := (j : Int) + 1) rfl rfl (wI64 (by omega))) ?_
          refine qM (I6 ((j : Int) + 1)) rfl ?_
          refine WpL_nil (thn_normal ?_)
          exact ⟨n.edges.length - (j + 1),by omega,j + 1,M2.set d true,Fits.out ⟨rfl,rfl,rfl,rfl,rfl,rfl,rfl,rfl,rfl,rfl,trivial⟩,E,Bn2,hB0,Bi,hg,Bx,(by omega),(by rw [List.length_set]; exact hM2l),(hM2.set d).congr fun t => by rw [stpJ_snoc he,hde]; exact or_congr Iff.rfl ⟨fun h => ⟨hqI.1 (by rw [g1]),g2,h.symm⟩,fun h => h.2.2.symm⟩,rfl⟩
         ·have kg2 := g2
          refine Wp_skip (inB_normal (thn_normal (Wp_region ?_)))
          refine qV (r_add (k := .i64) (a := (j : Int)) (b := 1) (c := (j : Int) + 1) rfl rfl (wI64 (by omega))) ?_
          refine qM (I6 ((j : Int) + 1)) rfl ?_
          refine WpL_nil (thn_normal ?_)
          exact ⟨n.edges.length - (j + 1),by omega,j + 1,M2,Fits.out ⟨rfl,rfl,rfl,rfl,rfl,rfl,rfl,rfl,rfl,rfl,trivial⟩,E,Bn2,hB0,Bi,hg,Bx,(by omega),hM2l,hM2.congr fun t => by rw [stpJ_snoc he,g2]; simp,rfl⟩
        ·have kg1 := g1
         refine WpL_guard_no (oj := _) rfl rfl (by decide) (v := .bool false) (congrArg Value.bool g1) (Or.inl rfl) ?_
         refine WpL_guard_no (oj := _) rfl rfl (by decide) (v := .bool false) (congrArg Value.bool g1) (Or.inl rfl) ?_
         refine WpL_guard_no (oj := _) rfl rfl (by decide) (v := .bool false) (congrArg Value.bool g1) (Or.inl rfl) ?_
         refine WpL_guard_no (oj := _) rfl rfl (by decide) (v := .bool false) (congrArg Value.bool g1) (Or.inl rfl) ?_
         refine qV (r_pick (b := q) (v := (.bool false)) rfl (by rw [g1]; rfl)) ?_
         refine WpL_nil ?_
         refine Wp_cond_false rfl ?_
         refine Wp_skip (inB_normal (thn_normal (Wp_region ?_)))
         refine qV (r_add (k := .i64) (a := (j : Int)) (b := 1) (c := (j : Int) + 1) rfl rfl (wI64 (by omega))) ?_
         refine qM (I6 ((j : Int) + 1)) rfl ?_
         refine WpL_nil (thn_normal ?_)
         exact ⟨n.edges.length - (j + 1),by omega,j + 1,M2,Fits.out ⟨rfl,rfl,rfl,rfl,rfl,rfl,rfl,rfl,rfl,rfl,trivial⟩,E,Bn2,hB0,Bi,hg,Bx,(by omega),hM2l,hM2.congr fun t => by rw [stpJ_snoc he]; exact ⟨.inl,fun h => h.resolve_right fun h2 => by have h3 := hqI.2 h2.1; rw [g1] at h3; cases h3⟩,rfl⟩
       ·have khlt2 := hlt2
        replace hlt2 := of_decide_eq_false hlt2
        have hjj : j = n.edges.length := by omega
        have hM2f : MarkOf M2 (stpP n (setP n (cloP n.eps fun s => s = n.start) (text.take k)) c) := hM2.congr fun t => by rw [hjj]; unfold stpJ stpP; rw [List.take_length]
        refine Wp_exit (thn_exit (thn_exit (inB_here (thn_normal (Wp_seq_region ?_)))))
        refine qM (.slice (some ⟨bx,0,none⟩) N N) rfl ?_
        refine s_store (b := bi) (o := 0) (c' := #[(.slice (some ⟨bx,0,none⟩) N N)]) (v := (.slice (some ⟨bx,0,none⟩) N N)) rfl rfl rfl siz77 Bi (by simp) rfl ?_
        intro w11 S11
        replace Bn2 := S11.keep (by omega) Bn2
        replace hB0 := S11.keep (by omega) hB0
        replace hg := S11.keep (by omega) hg
        replace Bx := S11.keep (by omega) Bx
        replace E := S11.step E (by first | exact Or.inl (by omega) | exact Or.inr rfl | exact Or.inr (by assumption) | exact Or.inr (by simp) | exact Or.inr (by omega) | exact Or.inr (by dsimp only; omega))
        replace Bi := S11.blk
        refine WpL_nil (Wp_region ?_)
        refine qV (r_loadAgg (vs := [(I6 (N : Int)),(I6 n.start),(.slice ea n.ends.length ec),(.slice pa n.eps.length pc),(.slice xa n.edges.length xc)]) rfl agg37 siz37 rfl (Bn2.cells rfl)) ?_
        refine qV (r_load (v := (.slice (some ⟨bx,0,none⟩) N N)) rfl flat77 (Bi.cell rfl)) ?_
        refine WpL_enter rfl rfl (by decide) (r_callF (vs := [(.agg #[(I6 (N : Int)),(I6 n.start),(.slice ea n.ends.length ec),(.slice pa n.eps.length pc),(.slice xa n.edges.length xc)]),(.slice (some ⟨bx,0,none⟩) N N)]) Tryz.func33 kQ kQ rfl) (nclose_c _ w0 n _ bx N M2 (stpP n (setP n (cloP n.eps fun s => s = n.start) (text.take k)) c) ok hN h0N E (by omega) Bx hM2l (fun s hs => by obtain ⟨e,he,_,_,h9⟩ := hs; rw [← h9]; exact (ok.ed e he).2.1) hM2f) ?_
        rintro _ w59 ⟨⟨M3,hM3l,hM3,hB3⟩,C9⟩
        replace Bn2 := C9.keep ((fun h => by have h' : _ = bx := h; omega)) Bn2
        replace hB0 := C9.keep ((fun h => by have h' : _ = bx := h; omega)) hB0
        replace Bi := C9.keep ((fun h => by have h' : _ = bx := h; omega)) Bi
        replace hg := C9.keep ((fun h => by have h' : _ = bx := h; omega)) hg
        replace E := E.step C9 ((fun y hy h => by have h' : y = bx := h; omega))
        refine WpL_nil (inB_normal (thn_normal (Wp_region ?_)))
        refine qV (r_add (k := .i64) (a := (k : Int)) (b := 1) (c := (k : Int) + 1) rfl rfl (wI64 (by omega))) ?_
        refine qM (I6 ((k : Int) + 1)) rfl ?_
        refine WpL_nil (thn_normal ?_)
        exact ⟨text.length - (k + 1),by omega,k + 1,M3,bx,Fits.out ⟨rfl,rfl,rfl,rfl,rfl,trivial⟩,E,Bn2,hB0,Bi,(by omega),hM3l,(by rw [setP_snoc hc]; exact hM3),hB3,(by omega),rfl⟩
     ·have khlt := hlt
      replace hlt := of_decide_eq_false hlt
      have hkk : k = text.length := by omega
      rw [hkk,List.take_length] at hM
      refine Wp_exit (thn_exit (thn_exit (inB_here (thn_normal (Wp_seq_region ?_)))))
      refine qF bn 0 2 rfl Tryz.underlying37 rfl siz22 rfl ?_
      refine qV (r_load (v := (.slice ea n.ends.length ec)) rfl flat22 (Bn2.cell rfl)) ?_
      refine qV (r_makeFunc (vs := []) (us := [(P6 bi 0)]) rfl rfl) ?_
      refine WpL_enter rfl rfl (by decide) (r_callF (vs := [(.slice ea n.ends.length ec),(.func (.func 35) #[] #[(P6 bi 0)])]) Tryz.func34 kQ kQ rfl) (ints_has_c _ _ _ n.ends (fun s => M.getD s.toNat false) (hen.ext E) (fun w x hE hx => CallV.mk (first := #[]) (cap := #[.pointer (some ⟨bi,0,none⟩)]) Tryz.func35 kQ kQ rfl (by obtain ⟨a,ha,haN⟩ := int_nat (x := x) (N := N) (by have := ok.en x hx; omega); rw [ha]; exact nrun1_c w a N g bi M (hE.keep Bi) (hE.keep hg) hMl haN hN5))) ?_
      rintro _ w69 ⟨rfl,X69⟩
      replace Bn2 := X69.keep Bn2
      replace hB0 := X69.keep hB0
      replace Bi := X69.keep Bi
      replace E := E.ext X69
      refine qA (.bool (n.ends.any fun s => M.getD s.toNat false)) rfl ?_
      refine qA (I6 0) rfl ?_
      refine WpL_nil (Wp_ret ?_)
      refine fin_tmp2 Tryz.results11 (v := (.bool (n.ends.any fun s => M.getD s.toNat false))) (v' := (.int .i64 0)) rfl rfl ?_
      refine ⟨⟨_,_,rfl,.inr (.inr (.inr ⟨hc1,by omega,hru1,?_,rfl⟩))⟩,E⟩
      rw [acc_set,List.any_eq_true]
      have hiff : ∀ e ∈ n.ends,M.getD e.toNat false = true ↔ setP n (cloP n.eps fun s => s = n.start) text e := fun e he => by
       obtain ⟨a,ha,haN⟩ := int_nat (x := e) (N := N) (by have := ok.en e he; omega)
       rw [ha,Int.toNat_natCast,← hM a (by omega),List.getD_eq_getElem?_getD]
       obtain ⟨q,hq⟩ := get_of_lt (l := M) (i := a) (by omega)
       rw [hq]; simp
      exact ⟨fun ⟨e,he,h⟩ => ⟨e,he,(hiff e he).1 h⟩,fun ⟨e,he,h⟩ => ⟨e,he,(hiff e he).2 h⟩⟩
def lstM (M : List Bool) (k : Nat) : List Int := ((List.range k).filter fun i => M.getD i false).map Int.ofNat
theorem lstM_succ (M : List Bool) (k : Nat) : lstM M (k + 1) = lstM M k ++ if M.getD k false then [((k : Nat) : Int)] else [] := by
 unfold lstM
 rw [List.range_succ,List.filter_append,List.map_append]
 congr 1
 rw [List.filter_cons,List.filter_nil]
 generalize M.getD k false = b
 cases b <;> rfl
theorem lstM_mem {M : List Bool} {k : Nat} {s : Int} : s ∈ lstM M k ↔ ∃ i : Nat,s = (i : Int) ∧ i < k ∧ M[i]? = some true := by
  unfold lstM
  simp only [List.mem_map,List.mem_filter,List.mem_range]
  constructor
  · rintro ⟨i,⟨h1,h2⟩,rfl⟩
    refine ⟨i,rfl,h1,?_⟩
    rw [List.getD_eq_getElem?_getD] at h2
    cases h : M[i]? with
    | none => rw [h] at h2; cases h2
    | some b => rw [h] at h2; simpa using h2
  · rintro ⟨i,rfl,h1,h2⟩
    exact ⟨i,⟨h1,by rw [List.getD_eq_getElem?_getD,h2]; rfl⟩,rfl⟩
theorem lstM_lt (M : List Bool) : ∀ k,(lstM M k).Pairwise (· < ·)
  | 0 => List.Pairwise.nil
  | k + 1 => by
    rw [lstM_succ,List.pairwise_append]
    refine ⟨lstM_lt M k,by split <;> simp,fun a ha b hb => ?_⟩
    obtain ⟨i,rfl,h1,_⟩ := lstM_mem.1 ha
    split at hb
    · rw [List.mem_singleton] at hb; omega
    · simp at hb
theorem lstM_len (M : List Bool) (k : Nat) : (lstM M k).length ≤ k := by
 unfold lstM
 rw [List.length_map]
 exact Nat.le_trans (List.length_filter_le _ _) (by simp)
theorem lstM_free {eps : List (Int × Int)} {I : Int → Prop} {M : List Bool} {N : Nat} (hl : M.length = N) (h : MarkOf M (cloP eps I)) (hI : ∀ s,cloP eps I s → 0 ≤ s ∧ s < (N : Int)) : FreeOf eps I (lstM M N) := by
 refine ⟨lstM_lt M N,fun s => ?_⟩
 rw [lstM_mem]
 constructor
 ·rintro ⟨i,rfl,h1,h2⟩
  exact (h i (by omega)).1 h2
 ·intro hs
  have := hI s hs
  obtain ⟨i,rfl⟩ := Int.eq_ofNat_of_zero_le this.1
  exact ⟨i,rfl,by omega,(h i (by omega)).2 hs⟩
theorem cloP_rng {n : Nf} (ok : OkN n) {I : Int → Prop} (hI : ∀ s,I s → 0 ≤ s ∧ s < n.states) {s : Int} (h : cloP n.eps I s) : 0 ≤ s ∧ s < n.states := by
  obtain ⟨a,ha,hr⟩ := h
  induction hr with
  | refl => exact hI _ ha
  | tail _ he _ => exact (ok.ep _ he).2
theorem nlist_c (w0 : World) (b N : Nat) (M : List Bool) (hB : Blk w0 b (M.map Value.bool).toArray TB) (hl : M.length = N) (hN : N ≤ 1000) :
  Ret Tryz.prog 38 #[.slice (some ⟨b,0,none⟩) N N] w0 fun r w => (∃ a c,r = .slice a (lstM M N).length c ∧ w.ownsRow w0.heap.size TDI 1 r (lstM M N).length ((lstM M N).map (Value.int .i64))) ∧ Ext w0 w := by
 refine Ret_of Tryz.func38 rfl Tryz.ntmps38 (Nat.le_of_ble_eq_true rfl) ?_
 have E : Chg none1 w0 w0 := Chg.refl _ _
 refine Wp_seq_region ?_
 refine qA (.slice none 0 0) rfl ?_
 refine WpL_nil (Wp_seq_region ?_)
 refine qA (.slice none 0 0) rfl ?_
 refine WpL_nil (Wp_seq (Wp_seq_region ?_))
 refine qM (.slice (some ⟨b,0,none⟩) N N) rfl ?_
 refine qV (r_lenSlice (ad := some ⟨b,0,none⟩) (n := N) (cap := N) Tryz.underlying77 rfl) ?_
 refine qM (I6 0) rfl ?_
 refine WpL_nil (Wp_block ?_)
 refine Wp_loop (fun nn_ σ W1 => ∃ (k : Nat) (la : Option Addr) (lc m : Nat),(∃ jj_,σ = upds jj_ [(6,(.slice (some ⟨b,0,none⟩) N N)),(7,(I6 (N : Int))),(8,(I6 (k : Int))),(3,(.slice la m lc))]) ∧ Chg none1 w0 W1 ∧ (k ≤ N) ∧ (m = (lstM M k).length) ∧ (W1.ownsRow w0.heap.size TDI 1 (.slice la m lc) m ((lstM M k).map (Value.int .i64))) ∧ (w0.heap.size ≤ W1.heap.size) ∧ nn_ = N - k) (n := N - 0) ?_ ?_
 ·exact ⟨0,none,0,0,Fits.out ⟨rfl,rfl,rfl,rfl,trivial⟩,E,Nat.zero_le _,rfl,World.ownsRow_nil _ _ _ _,Nat.le_refl _,rfl⟩
 ·clear E
  rintro _ _ W1 ⟨k,la,lc,m,⟨j1,rfl⟩,E,hk,hm,hown,hsz,rfl⟩
  refine Wp_seq_region ?_
  refine qV (r_lss (k := .i64) (a := (k : Int)) (b := (N : Int)) rfl rfl) ?_
  refine WpL_nil (Wp_seq ?_)
  refine Wp_cond (b := decide (((k : Int) : Int) < (N : Int))) rfl (fun hlt => ?_) (fun hlt => ?_)
  ·have khlt := hlt
   replace hlt := of_decide_eq_true hlt
   obtain ⟨x,hx⟩ := get_of_lt (l := M) (i := k) (by omega)
   have hmk := lstM_len M k
   have hsu := lstM_succ M k
   have hgd : M.getD k false = x := by rw [List.getD_eq_getElem?_getD,hx]; rfl
   refine Wp_skip (thn_normal (Wp_seq (Wp_block (Wp_seq_region ?_))))
   refine qM (I6 (k : Int)) rfl ?_
   refine qV (r_indexSlice (b := b) (o := 0) (len := N) (cap := N) (i := k) (o' := 0 + k) rfl rfl rfl Tryz.underlying77 siz4 (by omega) (by omega)) ?_
   refine qV (r_load (v := (.bool x)) rfl flat4 (E.cell (fun f => f) (by rw [Nat.zero_add]; exact hB.cell (by simp [hx])))) ?_
   refine qA (I6 (k : Int)) rfl ?_
   refine qA (.bool x) rfl ?_
   refine WpL_nil (Wp_seq_region ?_)
   refine qM (.bool x) rfl ?_
   refine WpL_nil ?_
   refine Wp_cond (b := x) rfl (fun hx1 => ?_) (fun hx1 => ?_)
   ·have khx1 := hx1
    refine Wp_region ?_
    refine qM (.slice la m lc) rfl ?_
    refine qM (I6 (k : Int)) rfl ?_
    refine s_buildSlice (ps := [(0,(I6 (k : Int)))]) (c := #[(I6 (k : Int))]) (by decide) rfl Tryz.underlying22 siz3 zer3 (by decide) (by decide) (by kernel_rfl) ?_
    intro bq wq Nq
    have Fq := Nq.ge E
    replace hown := own_ext hown Nq.ext
    replace hsz := Nat.le_trans hsz Nq.ext.size
    replace E := E.ext Nq.ext
    have Bq := Nq.blk
    refine s_append (base := w0.heap.size) (n := m) (m := 1) (xs := (lstM M k).map (Value.int .i64)) (news := [(I6 (k : Int))]) (size := 1) (bytes := 8) (v := (.slice la m lc)) (by decide) Tryz.underlying22 siz3 byt3 zer3 rfl (by decide) rfl hown rfl (rfl) (Bq.cells rfl) (by simp [Value.oneCell']) (by unfold maxLen; omega) (by omega) (hsz) ?_
    intro v9 w29 Ov9 Cv9 Dv9
    replace E := E.step Cv9 (fun x hx h => absurd (hown.lt x h).1 (by omega))
    obtain ⟨la2,lc2,rfl⟩ := own_form Ov9
    refine qA (.slice la2 (m + 1) lc2) rfl ?_
    refine WpL_nil (inB_normal (thn_normal (Wp_region ?_)))
    refine qV (r_add (k := .i64) (a := (k : Int)) (b := 1) (c := (k : Int) + 1) rfl rfl (wI64 (by omega))) ?_
    refine qM (I6 ((k : Int) + 1)) rfl ?_
    refine WpL_nil (thn_normal ?_)
    exact ⟨N - (k + 1),by omega,k + 1,la2,lc2,m + 1,Fits.out ⟨rfl,rfl,rfl,rfl,trivial⟩,E,(by omega),(by rw [hsu,hgd,hx1]; simp [hm]),(by rw [hsu,hgd,hx1,if_pos rfl,List.map_append]; exact Ov9),Nat.le_trans hsz Cv9.size,rfl⟩
   ·have khx1 := hx1
    refine Wp_skip (inB_normal (thn_normal (Wp_region ?_)))
    refine qV (r_add (k := .i64) (a := (k : Int)) (b := 1) (c := (k : Int) + 1) rfl rfl (wI64 (by omega))) ?_
    refine qM (I6 ((k : Int) + 1)) rfl ?_
    refine WpL_nil (thn_normal ?_)
    exact ⟨N - (k + 1),by omega,k + 1,la,lc,m,Fits.out ⟨rfl,rfl,rfl,rfl,trivial⟩,E,(by omega),(by rw [hsu,hgd,hx1]; simpa using hm),(by rw [hsu,hgd,hx1]; simpa using hown),hsz,rfl⟩
  ·have khlt := hlt
   replace hlt := of_decide_eq_false hlt
   have hkN : k = N := by omega
   rw [hkN] at hown hm
   refine Wp_exit (thn_exit (thn_exit (inB_here (thn_normal (Wp_seq_region ?_)))))
   refine qM (.slice la m lc) rfl ?_
   refine qA (.slice la m lc) rfl ?_
   refine WpL_nil (Wp_ret ?_)
   refine fin_tmp Tryz.results38 (v := (.slice la m lc)) rfl ?_
   exact ⟨⟨la,lc,by rw [hm],by rw [← hm]; exact hown⟩,E⟩
abbrev EdR := Ed × List Value
def selZ (Z : List EdR) (s : Nat) : List EdR := Z.filter fun z => z.1.1 == (s : Int)
def SelZ (Z : List EdR) (n k : Nat) (to : List (List EdR)) : Prop := to.length = n ∧ ∀ s : Nat,s < n → to[s]? = some (selZ (Z.take k) s)
def zRow (l : List EdR) : Nat × List Value := (l.length,(l.map (·.2)).flatten)
theorem SelZ.start (Z : List EdR) (n : Nat) : SelZ Z n 0 (List.replicate n []) := by
 refine ⟨by simp,fun s hs => ?_⟩
 rw [List.getElem?_replicate,if_pos hs]; rfl
theorem SelZ.add {Z : List EdR} {n k : Nat} {to : List (List EdR)} (h : SelZ Z n k to) {z : EdR} (hz : Z[k]? = some z) {a : Nat} (ha : z.1.1 = (a : Int)) {l : List EdR} (hl : to[a]? = some l) : SelZ Z n (k + 1) (to.set a (l ++ [z])) := by
 refine ⟨by rw [List.length_set]; exact h.1,fun s hs => ?_⟩
 have hal := lt_of_get hl
 rw [take_snoc hz,selZ,List.filter_append,List.getElem?_set]
 by_cases e : a = s
 ·subst e
  have := h.2 a hs
  rw [hl] at this
  rw [if_pos rfl,if_pos hal,Option.some.inj this]
  simp [selZ,ha]
 ·rw [if_neg e,h.2 s hs]
  have : ¬ (a : Int) = (s : Int) := by omega
  simp [selZ,ha,this]
theorem SelZ.full {Z : List EdR} {n k : Nat} {to : List (List EdR)} (h : SelZ Z n k to) (hk : Z.length ≤ k) {s : Nat} {l : List EdR} (hl : to[s]? = some l) : l = selZ Z s := by
 have := h.2 s (by rw [← h.1]; exact lt_of_get hl)
 rw [hl,List.take_of_length_le hk] at this
 exact Option.some.inj this
theorem SelZ.len {Z : List EdR} {n k : Nat} {to : List (List EdR)} (h : SelZ Z n k to) {s : Nat} {l : List EdR} (hl : to[s]? = some l) : l.length ≤ Z.length := by
 have := h.2 s (by rw [← h.1]; exact lt_of_get hl)
 rw [hl] at this
 rw [Option.some.inj this]
 exact Nat.le_trans (List.length_filter_le _ _) (by rw [List.length_take]; exact Nat.min_le_right _ _)
theorem zrow_rep (n : Nat) : (List.replicate n ([] : List EdR)).map zRow = List.replicate n (0,[]) := by rw [List.map_replicate]; rfl
theorem cnt_snoc {Q : List Int} {t : Int} (h : t ∉ Q) : ∀ es : List Ed,es.countP (fun e => (Q ++ [t]).contains e.1) = es.countP (fun e => Q.contains e.1) + es.countP (fun e => e.1 == t)
  | [] => rfl
  | e :: es => by
    rw [List.countP_cons,List.countP_cons,List.countP_cons,cnt_snoc h es]
    by_cases e1 : e.1 = t
    · simp [e1,h]; omega
    · simp [e1]; omega
theorem sel_cnt {Z : List EdR} {es : List Ed} (hZ : Z.map (·.1) = es) (c : Nat) : (selZ Z c).length = es.countP fun e => e.1 == (c : Int) := by
 rw [← hZ,List.countP_map,selZ,← List.countP_eq_length_filter]; rfl
/-- The edges that state s gets from the states of Q. -/
def GetE (n : Nf) (s : Int) (Q : List Int) (L : List Ed) : Prop := (∀ x,x ∈ L ↔ ∃ e ∈ n.edges,e.1 ∈ Q ∧ x = (s,e.2.1,e.2.2)) ∧ L.length = n.edges.countP fun e => Q.contains e.1
theorem GetE.start (n : Nf) (s : Int) : GetE n s [] [] := ⟨fun x => by simp,by simp⟩
theorem GetE.le {n : Nf} {s : Int} {Q : List Int} {L : List Ed} (h : GetE n s Q L) : L.length ≤ n.edges.length := by rw [h.2]; exact List.countP_le_length
abbrev getE (s : Int) (z : EdR) : Ed := (s,z.1.2.1,z.1.2.2)
theorem GetE.add {n : Nf} {s : Int} {Q : List Int} {L : List Ed} {Z : List EdR} (h : GetE n s Q L) (hZ : Z.map (·.1) = n.edges) {c : Nat} (hc : (c : Int) ∉ Q) : GetE n s (Q ++ [(c : Int)]) (L ++ (selZ Z c).map (getE s)) := by
 refine ⟨fun x => ?_,by rw [List.length_append,List.length_map,h.2,sel_cnt hZ,cnt_snoc hc]⟩
 rw [List.mem_append,h.1,List.mem_map]
 constructor
 ·rintro (⟨e,h1,h2,h3⟩ | ⟨z,h1,h2⟩)
  ·exact ⟨e,h1,List.mem_append_left _ h2,h3⟩
  ·have h4 := List.mem_filter.1 h1
   exact ⟨z.1,by rw [← hZ]; exact List.mem_map.2 ⟨z,h4.1,rfl⟩,List.mem_append_right _ (by simpa using h4.2),h2.symm⟩
 ·rintro ⟨e,h1,h2,h3⟩
  rcases List.mem_append.1 h2 with h4 | h4
  ·exact .inl ⟨e,h1,h4,h3⟩
  ·rw [← hZ] at h1
   obtain ⟨z,h5,rfl⟩ := List.mem_map.1 h1
   exact .inr ⟨z,List.mem_filter.2 ⟨h5,by simpa using h4⟩,h3.symm⟩
theorem GetE.bare {n : Nf} {s : Int} {Q : List Int} {L us : List Ed} (h : GetE n s Q L) (hQ : ∀ t,t ∈ Q ↔ cloP n.eps (fun t => t = s) t) (hp : us.Perm L) (hs : us.Pairwise fun x y => edO x y ≤ 0) : BareS n s (kdE none us) := by
 have h1 := kdE_strict hs
 refine ⟨h1.1,fun x => ?_⟩
 rw [h1.2,hp.mem_iff,h.1]
 exact ⟨fun ⟨e,a,b,c⟩ => ⟨e,a,(hQ _).1 b,c⟩,fun ⟨e,a,b,c⟩ => ⟨e,a,(hQ _).2 b,c⟩⟩
/-- What Bare returns. -/
def BareR (n m : Nf) (e : Int) : Prop := (chkN n ≠ 0 ∧ m = nf0 ∧ e = chkN n) ∨ (chkN n = 0 ∧ e = 2 ∧ m = nf0 ∧ ∃ k es xs,((k : Nat) : Int) ≤ n.states ∧ BareK n k es xs ∧ 20000 < xs.length) ∨
 (chkN n = 0 ∧ e = 0 ∧ m.states = n.states ∧ m.start = n.start ∧ m.eps = [] ∧ ∃ N : Nat,n.states = (N : Int) ∧ BareK n N m.ends m.edges ∧ m.edges.length ≤ 20000)
theorem EdB.chgQ {F M : Nat → Prop} {w w' : World} {base : Nat} {xv : Value} {es : List Ed} (h : EdB F w base xv es) (c : Chg M w w') (hF : ∀ y,F y → ¬ M y) (hk : ∀ k,xv.ownBlock = some k → ¬ M k) : EdB F w' base xv es := by
 obtain ⟨⟨rows,h1,h2⟩,h3,h4⟩ := h
 exact ⟨⟨rows,own_chg h1 c hk,h2.chg c hF⟩,h3,fun y hy => ⟨(h4 y hy).1,Nat.lt_of_lt_of_le (h4 y hy).2 c.size⟩⟩
/-- Edges of one's own behind others. -/
theorem EdB.app {F F2 : Nat → Prop} {w w' : World} {base zl : Nat} {xv v : Value} {es fs : List Ed} {rows qs : List (List Value)} (h : w.ownsRow base TEd 3 xv es.length rows.flatten) (hr : EdsF F w es rows) (h3 : ∀ b,xv.ownBlock = some b → ¬ F b) (h4 : ∀ y,F y → base ≤ y ∧ y < w.heap.size) (hu : EdsF F2 w fs qs) (h5 : ∀ y,F2 y → zl ≤ y ∧ y < w.heap.size) (h6 : ∀ b,xv.ownBlock = some b → b < zl) (hz : base ≤ zl)
  (c : Chg (fun q => xv.ownBlock = some q) w w') (ho : w'.ownsRow base TEd 3 v (es.length + fs.length) (rows.flatten ++ qs.flatten)) (hd : ∀ k,v.ownBlock = some k → xv.ownBlock = some k ∨ w.heap.size ≤ k) : EdB (fun y => F y ∨ F2 y) w' base v (es ++ fs) := by
 have hF : ∀ y,F y → ¬ xv.ownBlock = some y := fun y hy e => h3 y e hy
 have hF2 : ∀ y,F2 y → ¬ xv.ownBlock = some y := fun y hy e => by have := h6 y e; have := (h5 y hy).1; omega
 refine ⟨⟨rows ++ qs,by rw [List.length_append,List.flatten_append]; exact ho,((hr.chg c hF).mono fun _ h => .inl h).app ((hu.chg c hF2).mono fun _ h => .inr h)⟩,fun b hb hf => ?_,fun y hy => ?_⟩
 ·rcases hd b hb with h7 | h7
  ·rcases hf with hf | hf
   ·exact h3 b h7 hf
   ·exact hF2 b hf h7
  ·rcases hf with hf | hf
   ·have := (h4 b hf).2; omega
   ·have := (h5 b hf).2; omega
 ·have := c.size
  rcases hy with hy | hy
  ·have := h4 y hy; omega
  ·have := h5 y hy; omega
end Go.Proofs
namespace Go.Proofs
open Go Go.Eng
instance (k : Int) : Decidable (isL k) := by unfold isL; infer_instance
end Go.Proofs
namespace Go.Proofs
open Go Go.Eng Go.Sort
theorem cloP_congr {eps : List (Int × Int)} {I J : Int → Prop} (h : ∀ s,I s ↔ J s) (s : Int) : cloP eps I s ↔ cloP eps J s := ⟨fun ⟨a,h1,h2⟩ => ⟨a,(h a).1 h1,h2⟩,fun ⟨a,h1,h2⟩ => ⟨a,(h a).2 h1,h2⟩⟩
theorem own_any3 {w : World} {base e sz n c : Nat} {a : Option Addr} {xs : List Value} (h : w.ownsRow base e sz (.slice a n c) n xs) : (n = 0 ∧ xs = []) ∨ ∃ bx ox,a = some ⟨bx,ox,none⟩ ∧ CellsAt w bx ox xs := by
 rcases Nat.eq_zero_or_pos n with rfl | h0
 ·exact .inl ⟨rfl,List.eq_nil_of_length_eq_zero (by have := h.1; simpa using this)⟩
 ·obtain ⟨g,rfl,_,hc⟩ := own_cells h h0
  exact .inr ⟨g,0,rfl,hc⟩
theorem set_lo {l : List Sp} (h : checkE l = 0) : l.length ≤ 16 ∧ ∀ p ∈ l,0 ≤ p.1 := by
 unfold checkE at h
 split at h
 ·cases h
 ·exact ⟨by omega,checkL_lo l none h⟩
end Go.Proofs
