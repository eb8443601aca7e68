/- Contracts and plain lemmas, part 7. -/
import Derived.Tactics
import Derived.Deep.Quiet
import Derived.Laws.AppendOwn
import Derived.KernelRfl
import Derived.Laws.Entries
import Derived.Laws.Build
import Derived.Below
import Derived.RowKit3
import Derived.StillTail
import Derived.Sort.Grow
import Derived.Deep.Draws
import Derived.Test.YtfbglkkidenifaaGreatChecked
import Derived.Laws.StructEq
import Derived.MapKept
import Derived.Laws.BytesArg
import Derived.Shelf.SlSortCmp.WholeK
import Derived.Shelf.Sort.Plain
import Derived.Shelf.Slices.CompactI
import Derived.Test.YtfbglkkidenifaaGreatProg
import Derived.OpenShut
import Derived.ChangeSlices
import Derived.Test.YtfbglkkidenifaaGreatRows
import Derived.Test.YtfbglkkidenifaaGreatDt6
namespace Go.Proofs
open Go Go.Eng Go.Sort
set_option maxRecDepth 100000
set_option maxHeartbeats 1000000 in
theorem zHL (w0 : World) (t : Re) (vs : List Value) (ht : zBC w0 t vs) (ho : zAq t) :
  Ret Tryz.prog 20 #[.agg vs.toArray] w0 fun v w => v = .bool (zBg t) ∧ Ext w0 w := by
 have ht0 := ht
 obtain ⟨sa, sc, aa, ac, rfl, _, _, _⟩ := ht.form
 have hrn := zPu t.size t (Nat.le_refl _) ho
 refine zAk Tryz.func20 rfl Tryz.ntmps20 (Nat.le_of_ble_eq_true rfl) ?_
 have E : Chg zAh w0 w0 := Chg.refl _ _
 refine zAA ?_
 refine zBL (v := (.agg (R6 t sa sc aa ac))) (c := (R6 t sa sc aa ac)) (by decide) rfl rfl ?_
 intro br wr Nr
 have Fr := Nr.ge E
 replace E := E.ext Nr.ext
 have Br := Nr.blk
 refine qA (.bool false) rfl ?_
 refine zAB (zAA ?_)
 refine qV (zAG (vs := [(I6 t.kind), (.slice sa t.set.length sc), (.slice aa t.args.length ac), (I6 t.mn), (I6 t.mx), (.bool t.neg)]) rfl zAb zAH rfl (Br.cells rfl)) ?_
 refine zAL rfl rfl (by decide) (zAT (vs := [(.agg (R6 t sa sc aa ac)), (.slice none 0 0), (I6 0), (I6 0)]) Tryz.func75 zLM zLa rfl) (zQP [] (by simp) (msr t 0 0 + 1) t 0 0 (Nat.le_refl _) (Nat.le_refl _) (Nat.lt_succ_self _) (zCa (zDq ho).1) _ _ _ (zBC.ext E t ht0) (zCA.nil _ _ _ _)) ?_
 rintro _ w9 ⟨rfl, X9⟩
 replace Br := X9.keep Br
 replace E := E.ext X9
 refine qA (.bool (zAz [] t 0 0)) rfl ?_
 refine zAB (zAQ ?_)
 refine zAS Tryz.results20 (v := (.bool (zAz [] t 0 0))) rfl ?_
 exact ⟨zAt hrn, E⟩
def zOt (t : Re) : Prop := (t.kind ≠ 3 ∧ zAq t) ∨ (t.kind = 3 ∧ t.args ≠ [] ∧ ∀ x ∈ t.args, zAq x)
theorem zDs {t : Re} (h : zAq t) : zOt t := by
 by_cases hk : t.kind = 3
 ·exact .inr ⟨hk, fun e => by have := (h.n.k3 hk).1; rw [e] at this; simp at this, h.a⟩
 exact .inl ⟨hk, h⟩
theorem zFb (c : Int) (t : Re) : zDD c t = if t.kind = 2 then (if inS t.set c = true then zBJ else zBH) else if t.kind = 3 then zJZ c t.args
  else if t.kind = 4 ∨ t.kind = 7 ∨ t.kind = 8 then .mk t.kind t.set (t.args.map (zDD c)) t.mn t.mx t.neg
  else if t.kind = 5 then .mk 3 [] [(t.args.map (zDD c)).headD zBH, t] 0 0 false
  else if t.kind = 6 then (if t.mx = 0 then zBH else .mk 3 [] [(t.args.map (zDD c)).headD zBH, .mk 6 [] t.args (max 0 (t.mn - 1)) (t.mx - 1) false] 0 0 false)
  else zBH := by
 cases t; simp only [zDD, zIc]; rfl
section
variable {c : Int} {t x : Re}
theorem rw2 (h : t.kind = 2) : zDD c t = if inS t.set c = true then zBJ else zBH := by rw [zFb, if_pos h]
theorem rw3 (h : t.kind = 3) : zDD c t = zJZ c t.args := by rw [zFb, if_neg (by omega), if_pos h]
theorem rw478 (h : t.kind = 4 ∨ t.kind = 7 ∨ t.kind = 8) : zDD c t = .mk t.kind t.set (t.args.map (zDD c)) t.mn t.mx t.neg := by rw [zFb, if_neg (by omega), if_neg (by omega), if_pos h]
theorem rw5 (h : t.kind = 5) (ha : t.args = [x]) : zDD c t = .mk 3 [] [zDD c x, t] 0 0 false := by rw [zFb, if_neg (by omega), if_neg (by omega), if_neg (by omega), if_pos h, ha]; rfl
theorem rw6 (h : t.kind = 6) (ha : t.args = [x]) (h0 : t.mx ≠ 0) : zDD c t = .mk 3 [] [zDD c x, .mk 6 [] [x] (max 0 (t.mn - 1)) (t.mx - 1) false] 0 0 false := by rw [zFb, if_neg (by omega), if_neg (by omega), if_neg (by omega), if_neg (by omega), if_pos h, if_neg h0, ha]; rfl
theorem rwn (h : t.kind = 0 ∨ t.kind = 1) : zDD c t = zBH := by rw [zFb, if_neg (by omega), if_neg (by omega), if_neg (by omega), if_neg (by omega), if_neg (by omega)]
theorem rc1 : zJZ c [x] = zDD c x := by simp [zJZ]
theorem rc2 {l : List Re} (h : l ≠ []) : zJZ c (x :: l) = if zBg x = true then .mk 4 [] [.mk 3 [] [zDD c x, .mk 3 [] l 0 0 false] 0 0 false, zJZ c l] 0 0 false else .mk 3 [] [zDD c x, .mk 3 [] l 0 0 false] 0 0 false := by
 conv => lhs; unfold zJZ
 rw [if_neg h]
end
/-- The derivative of smaller expressions, as a contract. -/
def zRB (c : Int) (n : Nat) : Prop := ∀ (t : Re) (w0 : World) (S : Nat → Prop) (vs : List Value), t.size < n → zOt t → zAc S w0 t vs → (∀ x, S x → x < w0.heap.size) →
  Ret Tryz.prog 74 #[.agg vs.toArray, .int .i64 c] w0 fun r w => (∃ us, r = .agg us.toArray ∧ zAc (fun b => S b ∨ w0.heap.size ≤ b) w (zDD c t) us) ∧ Ext w0 w
section
variable {N : Nat} {σ : Env} {w : World} {dst : Option Tmp} {ty : TypeId} {pos : String} {af : Array Edge} {g : Option (Nat × Bool)} {S : Nat → Prop} {x : Operand}
theorem zEf {k : Int} {b n : Nat} {l : List Re} (hx : ev σ x = .slice (some ⟨b, 0, none⟩) n n) (h : zCJ S w (.slice (some ⟨b, 0, none⟩) n n) l) (hn : l.length = n) :
  zLf Tryz.prog N ⟨dst, .build 25 #[(0, .const (.int .i64 k)), (2, x)], ty, pos, af, g⟩ (reG S (.mk k [] l 0 0 false)) σ w := by
 subst hn
 exact zAJ (zBW (parts := [(0, .const (I6 k)), (2, x)]) (ps := [(0, .int .i64 k), (2, .slice (some ⟨b, 0, none⟩) l.length l.length)]) (v := .agg #[.int .i64 k, .slice none 0 0, .slice (some ⟨b, 0, none⟩) l.length l.length, .int .i64 0, .int .i64 0, .bool false]) (by simp only [List.map, hx]; rfl) (by kernel_rfl)) (Ext.refl _) ⟨none, 0, some ⟨b, 0, none⟩, l.length, rfl, zPs h rfl⟩
end
set_option maxHeartbeats 1000000 in
theorem raw_k2 (c : Int) (t : Re) (hk : t.kind = 2) (w0 : World) (S : Nat → Prop) (vs : List Value) (ht : zAc S w0 t vs) :
  Ret Tryz.prog 74 #[.agg vs.toArray, .int .i64 c] w0 fun r w => (∃ us, r = .agg us.toArray ∧ zAc (fun b => S b ∨ w0.heap.size ≤ b) w (zDD c t) us) ∧ Ext w0 w := by
 have ht0 := ht
 obtain ⟨sa, sc, aa, ac, rfl, hset, hlen, hargs⟩ := ht.form
 refine zAk Tryz.func74 rfl Tryz.ntmps74 (Nat.le_of_ble_eq_true rfl) ?_
 have E : Chg zAh w0 w0 := Chg.refl _ _
 refine zAA ?_
 refine zBL (v := (.agg (R6 t sa sc aa ac))) (c := (R6 t sa sc aa ac)) (by decide) rfl rfl ?_
 intro br wr Nr
 have Fr := Nr.ge E
 replace E := E.ext Nr.ext
 have Br := Nr.blk
 refine zBL (v := (I6 c)) (c := #[(I6 c)]) (by decide) rfl rfl ?_
 intro bu wu Nu
 have Fu := Nu.ge E
 have Ou_br := Nu.lt Br
 replace Br := Nu.keep Br
 replace E := E.ext Nu.ext
 have Bu := Nu.blk
 refine zBD (c := #[(I6 0), (.slice none 0 0), (.slice none 0 0), (I6 0), (I6 0), (.bool false)]) (by decide) zAs rfl ?_
 intro bo wo No
 have Fo := No.ge E
 have Oo_br := No.lt Br
 have Oo_bu := No.lt Bu
 replace Br := No.keep Br
 replace Bu := No.keep Bu
 replace E := E.ext No.ext
 have Bo := No.blk
 refine zAB (zAP (zAA ?_))
 refine qF br 0 0 rfl Tryz.underlying25 rfl zAw rfl ?_
 refine qV (zAK (v := (I6 t.kind)) rfl zAf (Br.cell rfl)) ?_
 refine zAB (zAZ (zAA ?_))
 refine qV (zAg (k := .i64) (a := t.kind) (b := 2) rfl rfl) ?_
 refine qA (.bool (decide ((t.kind : Int) = 2))) rfl ?_
 refine zAB ?_
 have hc1 : (decide ((t.kind : Int) = 2)) = true := decide_eq_true hk
 refine zAl (congrArg Value.bool hc1) ?_
 refine zAA ?_
 refine qF br 0 1 rfl Tryz.underlying25 rfl zDb rfl ?_
 refine qV (zAK (v := (.slice sa t.set.length sc)) rfl zCc (Br.cell rfl)) ?_
 refine qV (zAK (v := (I6 c)) rfl zAf (Bu.cell rfl)) ?_
 refine zAL rfl rfl (by decide) (zAT (vs := [(.slice sa t.set.length sc), (I6 c)]) Tryz.func85 nm85 bd85 rfl) (zMu _ _ t.set c (hset.at.ext E)) ?_
 rintro _ w9 ⟨rfl, X9⟩
 replace Br := X9.keep Br
 replace Bu := X9.keep Bu
 replace Bo := X9.keep Bo
 replace E := E.ext X9
 refine zAB ?_
 refine zAM (b := inS t.set c) rfl (fun hin => ?_) (fun hin => ?_)
 ·have khin := hin
  refine zAA ?_
  refine zAL rfl rfl (by decide) (zAT (vs := []) Tryz.func72 nm72 bd72 rfl) (zFy _) ?_
  rintro _ w29 ⟨rfl, X29⟩
  replace Br := X29.keep Br
  replace Bu := X29.keep Bu
  replace Bo := X29.keep Bo
  replace E := E.ext X29
  refine qW (#[(I6 1), (.slice none 0 0), (.slice none 0 0), (I6 0), (I6 0), (.bool false)]) rfl rfl zAH Bo ?_
  intro w3 S3
  replace Br := S3.keep (by omega) Br
  replace Bu := S3.keep (by omega) Bu
  replace E := S3.stp E
  replace Bo := S3.blk
  refine zAB (zAQ (zAY (zAI ?_)))
  refine zAm Tryz.results74 (vs := [(.int .i64 1), (.slice none 0 0), (.slice none 0 0), (.int .i64 0), (.int .i64 0), (.bool false)]) (b := bo) rfl zAb zAH rfl (Bo.cells rfl) ?_
  exact ⟨⟨_, rfl, by rw [rw2 hk, if_pos hin]; exact zBN _ _ _⟩, E⟩
 have khin := hin
 refine zAR (zAU (zAC (zAA ?_)))
 refine zAL rfl rfl (by decide) (zAT (vs := []) Tryz.func129 zMe zNY rfl) (zGN _) ?_
 rintro _ w29 ⟨rfl, X29⟩
 replace Br := X29.keep Br
 replace Bu := X29.keep Bu
 replace Bo := X29.keep Bo
 replace E := E.ext X29
 refine qW (#[(I6 0), (.slice none 0 0), (.slice none 0 0), (I6 0), (I6 0), (.bool false)]) rfl rfl zAH Bo ?_
 intro w4 S4
 replace Br := S4.keep (by omega) Br
 replace Bu := S4.keep (by omega) Bu
 replace E := S4.stp E
 replace Bo := S4.blk
 refine zAB (zAQ ?_)
 refine zAm Tryz.results74 (vs := [(.int .i64 0), (.slice none 0 0), (.slice none 0 0), (.int .i64 0), (.int .i64 0), (.bool false)]) (b := bo) rfl zAb zAH rfl (Bo.cells rfl) ?_
 exact ⟨⟨_, rfl, by rw [rw2 hk, if_neg (by rw [hin]; decide)]; exact zBN _ _ _⟩, E⟩
set_option maxHeartbeats 1000000 in
theorem zOz (c : Int) (t : Re) (hk : t.kind = 0 ∨ t.kind = 1) (w0 : World) (S : Nat → Prop) (vs : List Value) (ht : zAc S w0 t vs) :
  Ret Tryz.prog 74 #[.agg vs.toArray, .int .i64 c] w0 fun r w => (∃ us, r = .agg us.toArray ∧ zAc (fun b => S b ∨ w0.heap.size ≤ b) w (zDD c t) us) ∧ Ext w0 w := by
 have ht0 := ht
 obtain ⟨sa, sc, aa, ac, rfl, hset, hlen, hargs⟩ := ht.form
 refine zAk Tryz.func74 rfl Tryz.ntmps74 (Nat.le_of_ble_eq_true rfl) ?_
 have E : Chg zAh w0 w0 := Chg.refl _ _
 refine zAA ?_
 refine zBL (v := (.agg (R6 t sa sc aa ac))) (c := (R6 t sa sc aa ac)) (by decide) rfl rfl ?_
 intro br wr Nr
 have Fr := Nr.ge E
 replace E := E.ext Nr.ext
 have Br := Nr.blk
 refine zBL (v := (I6 c)) (c := #[(I6 c)]) (by decide) rfl rfl ?_
 intro bu wu Nu
 have Fu := Nu.ge E
 have Ou_br := Nu.lt Br
 replace Br := Nu.keep Br
 replace E := E.ext Nu.ext
 have Bu := Nu.blk
 refine zBD (c := #[(I6 0), (.slice none 0 0), (.slice none 0 0), (I6 0), (I6 0), (.bool false)]) (by decide) zAs rfl ?_
 intro bo wo No
 have Fo := No.ge E
 have Oo_br := No.lt Br
 have Oo_bu := No.lt Bu
 replace Br := No.keep Br
 replace Bu := No.keep Bu
 replace E := E.ext No.ext
 have Bo := No.blk
 refine zAB (zAP (zAA ?_))
 refine qF br 0 0 rfl Tryz.underlying25 rfl zAw rfl ?_
 refine qV (zAK (v := (I6 t.kind)) rfl zAf (Br.cell rfl)) ?_
 refine zAB (zAZ (zAA ?_))
 refine qV (zAg (k := .i64) (a := t.kind) (b := 2) rfl rfl) ?_
 refine qA (.bool (decide ((t.kind : Int) = 2))) rfl ?_
 refine zAB ?_
 have hc1 : (decide ((t.kind : Int) = 2)) = false := decide_eq_false (by omega)
 refine zAX (congrArg Value.bool hc1) ?_
 refine zAA ?_
 refine qV (zAg (k := .i64) (a := t.kind) (b := 3) rfl rfl) ?_
 refine qA (.bool (decide ((t.kind : Int) = 3))) rfl ?_
 refine zAB ?_
 have hc2 : (decide ((t.kind : Int) = 3)) = false := decide_eq_false (by omega)
 refine zAX (congrArg Value.bool hc2) ?_
 refine zAP (zAA ?_)
 refine qV (zAg (k := .i64) (a := t.kind) (b := 4) rfl rfl) ?_
 refine qA (.bool (decide ((t.kind : Int) = 4))) rfl ?_
 refine zAB ?_
 have hc3 : (decide ((t.kind : Int) = 4)) = false := decide_eq_false (by omega)
 refine zAX (congrArg Value.bool hc3) ?_
 refine zAA ?_
 refine qV (zAg (k := .i64) (a := t.kind) (b := 7) rfl rfl) ?_
 refine qA (.bool (decide ((t.kind : Int) = 7))) rfl ?_
 refine zAB ?_
 have hc4 : (decide ((t.kind : Int) = 7)) = false := decide_eq_false (by omega)
 refine zAX (congrArg Value.bool hc4) ?_
 refine zAW ?_
 refine qV (zAg (k := .i64) (a := t.kind) (b := 8) rfl rfl) ?_
 refine qA (.bool (decide ((t.kind : Int) = 8))) rfl ?_
 refine zAB (zAC ?_)
 have hc5 : (decide ((t.kind : Int) = 8)) = false := decide_eq_false (by omega)
 refine zAX (congrArg Value.bool hc5) ?_
 refine zAA ?_
 refine qV (zAg (k := .i64) (a := t.kind) (b := 5) rfl rfl) ?_
 refine qA (.bool (decide ((t.kind : Int) = 5))) rfl ?_
 refine zAB ?_
 have hc6 : (decide ((t.kind : Int) = 5)) = false := decide_eq_false (by omega)
 refine zAX (congrArg Value.bool hc6) ?_
 refine zAA ?_
 refine qV (zAg (k := .i64) (a := t.kind) (b := 6) rfl rfl) ?_
 refine qA (.bool (decide ((t.kind : Int) = 6))) rfl ?_
 refine zAB ?_
 have hc7 : (decide ((t.kind : Int) = 6)) = false := decide_eq_false (by omega)
 refine zAX (congrArg Value.bool hc7) ?_
 refine zAR (zAU (zAC (zAA ?_)))
 refine zAL rfl rfl (by decide) (zAT (vs := []) Tryz.func129 zMe zNY rfl) (zGN _) ?_
 rintro _ w29 ⟨rfl, X29⟩
 replace Br := X29.keep Br
 replace Bu := X29.keep Bu
 replace Bo := X29.keep Bo
 replace E := E.ext X29
 refine qW (#[(I6 0), (.slice none 0 0), (.slice none 0 0), (I6 0), (I6 0), (.bool false)]) rfl rfl zAH Bo ?_
 intro w8 S8
 replace Br := S8.keep (by omega) Br
 replace Bu := S8.keep (by omega) Bu
 replace E := S8.stp E
 replace Bo := S8.blk
 refine zAB (zAQ ?_)
 refine zAm Tryz.results74 (vs := [(.int .i64 0), (.slice none 0 0), (.slice none 0 0), (.int .i64 0), (.int .i64 0), (.bool false)]) (b := bo) rfl zAb zAH rfl (Bo.cells rfl) ?_
 exact ⟨⟨_, rfl, by rw [rwn hk]; exact zBN _ _ _⟩, E⟩
set_option maxHeartbeats 1000000 in
theorem raw_k5 (c : Int) (n : Nat) (ih : zRB c n) (t : Re) (hn : t.size ≤ n) (hok : zAq t) (hk : t.kind = 5) (w0 : World) (S : Nat → Prop) (vs : List Value) (ht : zAc S w0 t vs) (hS : ∀ x, S x → x < w0.heap.size) :
  Ret Tryz.prog 74 #[.agg vs.toArray, .int .i64 c] w0 fun r w => (∃ us, r = .agg us.toArray ∧ zAc (fun b => S b ∨ w0.heap.size ≤ b) w (zDD c t) us) ∧ Ext w0 w := by
 have ht0 := ht
 obtain ⟨sa, sc, aa, ac, rfl, hset, hlen, hargs⟩ := ht.form
 obtain ⟨x, hax, hox⟩ : ∃ x, t.args = [x] ∧ zAq x := by obtain ⟨y, hy, _⟩ := hok.n.k5 hk; exact ⟨y, hy, hok.a y (by rw [hy]; simp)⟩
 have hx : t.args[0]? = some x := by rw [hax]; rfl
 have hal1 : t.args.length = 1 := by rw [hax]; rfl
 have hxz := Re.size_arg hx
 obtain ⟨ab, ao, hab, rfl, hres⟩ := hargs.resolve_left (fun h => by rw [h] at hx; cases hx)
 obtain ⟨us, hus, hxt⟩ := hres.get hx
 have hxt0 := hxt
 obtain ⟨xsa, xsc, xaa, xac, rfl, _, _, _⟩ := hxt.form
 obtain ⟨D, hD⟩ : ∃ D, D = zDD c x := ⟨_, rfl⟩
 have hst : zDD c t = .mk 3 [] [D, t] 0 0 false := by rw [hD]; exact rw5 hk hax
 rw [hst]
 clear hst
 refine zAk Tryz.func74 rfl Tryz.ntmps74 (Nat.le_of_ble_eq_true rfl) ?_
 have E : Chg zAh w0 w0 := Chg.refl _ _
 refine zAA ?_
 refine zBL (v := (.agg (R6 t sa sc (some ⟨ab, ao, none⟩) ac))) (c := (R6 t sa sc (some ⟨ab, ao, none⟩) ac)) (by decide) rfl rfl ?_
 intro br wr Nr
 have Fr := Nr.ge E
 replace E := E.ext Nr.ext
 have Br := Nr.blk
 refine zBL (v := (I6 c)) (c := #[(I6 c)]) (by decide) rfl rfl ?_
 intro bu wu Nu
 have Fu := Nu.ge E
 have Ou_br := Nu.lt Br
 replace Br := Nu.keep Br
 replace E := E.ext Nu.ext
 have Bu := Nu.blk
 refine zBD (c := #[(I6 0), (.slice none 0 0), (.slice none 0 0), (I6 0), (I6 0), (.bool false)]) (by decide) zAs rfl ?_
 intro bo wo No
 have Fo := No.ge E
 have Oo_br := No.lt Br
 have Oo_bu := No.lt Bu
 replace Br := No.keep Br
 replace Bu := No.keep Bu
 replace E := E.ext No.ext
 have Bo := No.blk
 refine zAB (zAP (zAA ?_))
 refine qF br 0 0 rfl Tryz.underlying25 rfl zAw rfl ?_
 refine qV (zAK (v := (I6 t.kind)) rfl zAf (Br.cell rfl)) ?_
 refine zAB (zAZ (zAA ?_))
 refine qV (zAg (k := .i64) (a := t.kind) (b := 2) rfl rfl) ?_
 refine qA (.bool (decide ((t.kind : Int) = 2))) rfl ?_
 refine zAB ?_
 obtain ⟨n1, hn1⟩ : ∃ n1, n1 = wo.heap.size := ⟨_, rfl⟩
 have hob : br < n1 ∧ bo < n1 ∧ w0.heap.size ≤ bo ∧ w0.heap.size ≤ n1 := ⟨by rw [hn1]; exact Br.lt, by rw [hn1]; exact Bo.lt, by omega, by rw [hn1]; exact E.size⟩
 have hn1w : n1 ≤ wo.heap.size := by omega
 have hc1 : (decide ((t.kind : Int) = 2)) = false := decide_eq_false (by omega)
 refine zAX (congrArg Value.bool hc1) ?_
 refine zAA ?_
 refine qV (zAg (k := .i64) (a := t.kind) (b := 3) rfl rfl) ?_
 refine qA (.bool (decide ((t.kind : Int) = 3))) rfl ?_
 refine zAB ?_
 have hc2 : (decide ((t.kind : Int) = 3)) = false := decide_eq_false (by omega)
 refine zAX (congrArg Value.bool hc2) ?_
 refine zAP (zAA ?_)
 refine qV (zAg (k := .i64) (a := t.kind) (b := 4) rfl rfl) ?_
 refine qA (.bool (decide ((t.kind : Int) = 4))) rfl ?_
 refine zAB ?_
 have hc3 : (decide ((t.kind : Int) = 4)) = false := decide_eq_false (by omega)
 refine zAX (congrArg Value.bool hc3) ?_
 refine zAA ?_
 refine qV (zAg (k := .i64) (a := t.kind) (b := 7) rfl rfl) ?_
 refine qA (.bool (decide ((t.kind : Int) = 7))) rfl ?_
 refine zAB ?_
 have hc4 : (decide ((t.kind : Int) = 7)) = false := decide_eq_false (by omega)
 refine zAX (congrArg Value.bool hc4) ?_
 refine zAW ?_
 refine qV (zAg (k := .i64) (a := t.kind) (b := 8) rfl rfl) ?_
 refine qA (.bool (decide ((t.kind : Int) = 8))) rfl ?_
 refine zAB (zAC ?_)
 have hc5 : (decide ((t.kind : Int) = 8)) = false := decide_eq_false (by omega)
 refine zAX (congrArg Value.bool hc5) ?_
 refine zAA ?_
 refine qV (zAg (k := .i64) (a := t.kind) (b := 5) rfl rfl) ?_
 refine qA (.bool (decide ((t.kind : Int) = 5))) rfl ?_
 refine zAB ?_
 have hc6 : (decide ((t.kind : Int) = 5)) = true := decide_eq_true hk
 refine zAl (congrArg Value.bool hc6) ?_
 have hz_7 : w0.heap.size ≤ wo.heap.size := E.size
 have lz_7_br : br < wo.heap.size := Br.lt
 have lz_7_bu : bu < wo.heap.size := Bu.lt
 have lz_7_bo : bo < wo.heap.size := Bo.lt
 refine zAP ?_
 obtain ⟨Fs7, hFs7⟩ : ∃ Fs : List Fact, Fs = [.eq (P6 br 2), .eq (.slice (some ⟨ab, ao, none⟩) t.args.length ac), .eq (.pointer (some ⟨ab, ao + 0 * 6, none⟩)), .eq (.agg (R6 x xsa xsc xaa xac)), .eq (I6 c), .gen (reG (fun b => S b ∨ n1 ≤ b) D) (zAy _ _), .eq (.agg (R6 t sa sc (some ⟨ab, ao, none⟩) ac)), .gen (rsG (fun b => S b ∨ n1 ≤ b) [D, t]) (zCH _ _), .gen (reG (fun b => S b ∨ n1 ≤ b) (.mk 3 [] [D, t] 0 0 false)) (zAy _ _), .eq undef] := ⟨_, rfl⟩
 refine zDo [true, true, true, true, true, true, true, true, true, false] [9] [64, 65, 66, 67, 68, 69, 70, 71, 72, 108] [[], [0], [1], [2], [], [3, 4], [], [5, 6], [7], []] Fs7 hFs7 mixed (by kernel_rfl) (by kernel_rfl) (by kernel_rfl) (by kernel_rfl) ?_ ?_
 ·intro wd X0
  refine DagStepsP.cons (fun s' w' X U H => Or.inl ⟨?_, ?_⟩) ?_
  ·exact zAE rfl
  ·exact zAJ (zAN (b := br) (o := 0) (o' := 2) (U 2 rfl) Tryz.underlying25 rfl zBI rfl) (Ext.refl _) rfl
  refine DagStepsP.cons (fun s' w' X U H => Or.inl ⟨?_, ?_⟩) ?_
  ·exact zAE rfl
  ·have e64 : s' 64 = (.pointer (some ⟨br, 2, none⟩)) := H 0 rfl 64 (.eq (.pointer (some ⟨br, 2, none⟩))) rfl (by rw [hFs7]; rfl)
   exact zAJ (zAK (v := (.slice (some ⟨ab, ao, none⟩) t.args.length ac)) e64 zAv (((X0.trans X).keep Br).cell rfl)) (Ext.refl _) rfl
  refine DagStepsP.cons (fun s' w' X U H => Or.inl ⟨?_, ?_⟩) ?_
  ·exact zAE rfl
  ·have e65 : s' 65 = (.slice (some ⟨ab, ao, none⟩) t.args.length ac) := H 1 rfl 65 (.eq (.slice (some ⟨ab, ao, none⟩) t.args.length ac)) rfl (by rw [hFs7]; rfl)
   exact zAJ (zAO (b := ab) (o := ao) (len := t.args.length) (cap := ac) (i := 0) (o' := ao + 0 * 6) e65 rfl rfl Tryz.underlying23 zAH (by omega) (by omega)) (Ext.refl _) rfl
  refine DagStepsP.cons (fun s' w' X U H => Or.inl ⟨?_, ?_⟩) ?_
  ·exact zAE rfl
  ·have e66 : s' 66 = (.pointer (some ⟨ab, ao + 0 * 6, none⟩)) := H 2 rfl 66 (.eq (.pointer (some ⟨ab, ao + 0 * 6, none⟩))) rfl (by rw [hFs7]; rfl)
   exact zAJ (zAG (vs := [(I6 x.kind), (.slice xsa x.set.length xsc), (.slice xaa x.args.length xac), (I6 x.mn), (I6 x.mx), (.bool x.neg)]) e66 zAb zAH rfl (hus.ext (Ext.trans E (X0.trans X)))) (Ext.refl _) rfl
  refine DagStepsP.cons (fun s' w' X U H => Or.inl ⟨?_, ?_⟩) ?_
  ·exact zAE rfl
  ·exact zAJ (zAK (v := (I6 c)) (U 3 rfl) zAf (((X0.trans X).keep Bu).cell rfl)) (Ext.refl _) rfl
  refine DagStepsP.cons (fun s' w' X U H => Or.inl ⟨?_, ?_⟩) ?_
  ·exact zAE rfl
  ·have e67 : s' 67 = (.agg #[(.int .i64 x.kind), (.slice xsa x.set.length xsc), (.slice xaa x.args.length xac), (.int .i64 x.mn), (.int .i64 x.mx), (.bool x.neg)]) := H 3 rfl 67 (.eq (.agg #[(.int .i64 x.kind), (.slice xsa x.set.length xsc), (.slice xaa x.args.length xac), (.int .i64 x.mn), (.int .i64 x.mx), (.bool x.neg)])) rfl (by rw [hFs7]; rfl)
   have e68 : s' 68 = (.int .i64 c) := H 4 rfl 68 (.eq (.int .i64 c)) rfl (by rw [hFs7]; rfl)
   exact zAp (zAT (vs := [(.agg (R6 x xsa xsc xaa xac)), (I6 c)]) Tryz.func74 zQK zQt (zGt e67 e68)) ((ih x _ S _ (by omega) (zDs hox) (zAc.ext (Ext.trans E (X0.trans X)) x hxt0) (fun y hy => by have := hS y hy; have := E.size; have := X0.size; have := X.size; omega)).mono (fun r w h => ⟨zBd (S' := fun b => S b ∨ w'.heap.size ≤ b) (fun b hb => by rcases hb with h1 | h1; exact .inl h1; exact .inr (by have := E.size; have := X0.size; have := X.size; omega)) (by rw [hD]; exact h.1), h.2⟩))
  refine DagStepsP.cons (fun s' w' X U H => Or.inl ⟨?_, ?_⟩) ?_
  ·exact zAE rfl
  ·exact zAJ (zAG (vs := [(I6 t.kind), (.slice sa t.set.length sc), (.slice (some ⟨ab, ao, none⟩) t.args.length ac), (I6 t.mn), (I6 t.mx), (.bool t.neg)]) (U 2 rfl) zAb zAH rfl (((X0.trans X).keep Br).cells rfl)) (Ext.refl _) rfl
  refine DagStepsP.cons (fun s' w' X U H => Or.inl ⟨?_, ?_⟩) ?_
  ·exact zAE rfl
  ·obtain ⟨xa69, xc69, ya69, yc69, e69, r69⟩ := H 5 rfl 69 (.gen (reG (fun b => S b ∨ n1 ≤ b) D) (zAy _ _)) rfl (by rw [hFs7]; rfl)
   have e70 : s' 70 = (.agg #[(.int .i64 t.kind), (.slice sa t.set.length sc), (.slice (some ⟨ab, ao, none⟩) t.args.length ac), (.int .i64 t.mn), (.int .i64 t.mx), (.bool t.neg)]) := H 6 rfl 70 (.eq (.agg #[(.int .i64 t.kind), (.slice sa t.set.length sc), (.slice (some ⟨ab, ao, none⟩) t.args.length ac), (.int .i64 t.mn), (.int .i64 t.mx), (.bool t.neg)])) rfl (by rw [hFs7]; rfl)
   exact zDl e69 e70 r69 (zAc.mono (fun y hy => .inl hy) t (zAc.ext (Ext.trans E (X0.trans X)) t ht0)) (fun b hb => .inr (by have := E.size; have := X0.size; have := X.size; omega))
  refine DagStepsP.cons (fun s' w' X U H => Or.inl ⟨?_, ?_⟩) ?_
  ·exact zAE rfl
  ·obtain ⟨b71, e71, q71⟩ := H 7 rfl 71 (.gen (rsG (fun b => S b ∨ n1 ≤ b) [D, t]) (zCH _ _)) rfl (by rw [hFs7]; rfl)
   exact zEf e71 q71 rfl
  refine DagStepsP.tail ?_
  exact DagStepsP.nil
 intro s' w7 X7 U H
 obtain ⟨xa72, xc72, ya72, yc72, e72, r72⟩ := H 8 rfl 72 (.gen (reG (fun b => S b ∨ n1 ≤ b) (.mk 3 [] [D, t] 0 0 false)) (zAy _ _)) rfl (by rw [hFs7]; rfl)
 obtain ⟨j7, rfl⟩ := zBG.out (σ := s') (l := [(4, (.pointer (some ⟨bo, 0, none⟩))), (72, (.agg #[(.int .i64 3), (.slice xa72 0 xc72), (.slice ya72 2 yc72), (.int .i64 0), (.int .i64 0), (.bool false)]))]) ⟨U 4 rfl, e72, trivial⟩
 clear U H
 replace Br := X7.keep Br
 replace Bu := X7.keep Bu
 replace Bo := X7.keep Bo
 replace E := E.ext X7
 refine qW (#[(I6 3), (.slice xa72 0 xc72), (.slice ya72 2 yc72), (I6 0), (I6 0), (.bool false)]) rfl rfl zAH Bo ?_
 intro w8 S8
 replace r72 := zAc.chg S8.chg (fun y hy h => by have h2 : y = bo := h; rcases hy with h1 | h1; have := hS y h1; omega; omega) _ r72
 replace Br := S8.keep (by omega) Br
 replace Bu := S8.keep (by omega) Bu
 replace E := S8.stp E
 replace Bo := S8.blk
 refine zAB (zAC (zAQ (zAY (zAI ?_))))
 refine zAm Tryz.results74 (vs := [(.int .i64 3), (.slice xa72 0 xc72), (.slice ya72 2 yc72), (.int .i64 0), (.int .i64 0), (.bool false)]) (b := bo) rfl zAb zAH rfl (Bo.cells rfl) ?_
 exact ⟨⟨_, rfl, zAc.mono (fun y hy => by rcases hy with h1 | h1; exact .inl h1; exact .inr (by omega)) _ r72⟩, E⟩
end Go.Proofs
namespace Go.Proofs
open Go Go.Eng Go.Sort
set_option maxRecDepth 100000
theorem rs_mk6 {S : Nat → Prop} {w : World} {a : Option Addr} {n c : Nat} {x : Re} {m u : Int} (h : zCJ S w (.slice a n c) [x]) : zAc S w (.mk 6 [] [x] m u false) [.int .i64 6, .slice none 0 0, .slice a n c, .int .i64 m, .int .i64 u, .bool false] := by
 obtain ⟨aa, ac, h1, h2, h3⟩ := h
 simp only [Value.slice.injEq] at h1
 obtain ⟨rfl, rfl, rfl⟩ := h1
 exact zAc.of (set := []) (zDE.nil _ _ _ _ _) h2 h3
set_option maxHeartbeats 1000000 in
theorem raw_k6 (c : Int) (n : Nat) (ih : zRB c n) (t : Re) (hn : t.size ≤ n) (hok : zAq t) (hk : t.kind = 6) (w0 : World) (S : Nat → Prop) (vs : List Value) (ht : zAc S w0 t vs) (hS : ∀ x, S x → x < w0.heap.size) :
  Ret Tryz.prog 74 #[.agg vs.toArray, .int .i64 c] w0 fun r w => (∃ us, r = .agg us.toArray ∧ zAc (fun b => S b ∨ w0.heap.size ≤ b) w (zDD c t) us) ∧ Ext w0 w := by
 have ht0 := ht
 obtain ⟨sa, sc, aa, ac, rfl, hset, hlen, hargs⟩ := ht.form
 obtain ⟨x, hax, hx01, hx02, hm1, hm2, hm3, hm4, hm5⟩ := hok.n.k6 hk
 have hox : zAq x := hok.a x (by rw [hax]; simp)
 have hx : t.args[0]? = some x := by rw [hax]; rfl
 have hal1 : t.args.length = 1 := by rw [hax]; rfl
 have hxz := Re.size_arg hx
 have hRs : zCJ S w0 (.slice aa t.args.length ac) t.args := zEs ht0
 obtain ⟨ab, ao, hab, rfl, hres⟩ := hargs.resolve_left (fun h => by rw [h] at hx; cases hx)
 obtain ⟨us, hus, hxt⟩ := hres.get hx
 have hxt0 := hxt
 obtain ⟨xsa, xsc, xaa, xac, rfl, _, _, _⟩ := hxt.form
 obtain ⟨D, hD⟩ : ∃ D, D = zDD c x := ⟨_, rfl⟩
 obtain ⟨m1, hmm⟩ : ∃ m1, m1 = max 0 (t.mn - 1) := ⟨_, rfl⟩
 obtain ⟨x1, hx1⟩ : ∃ x1, x1 = t.mx - 1 := ⟨_, rfl⟩
 have hst : zDD c t = .mk 3 [] [D, .mk 6 [] [x] m1 x1 false] 0 0 false := by rw [hD, hmm, hx1]; exact rw6 hk hax (by omega)
 rw [hst]
 clear hst
 have hRx : zAc S w0 (.mk 6 [] [x] m1 x1 false) [.int .i64 6, .slice none 0 0, .slice (some ⟨ab, ao, none⟩) t.args.length ac, .int .i64 m1, .int .i64 x1, .bool false] := by
  have h2 := hRs
  rw [hax] at h2
  rw [hax]
  exact rs_mk6 h2
 refine zAk Tryz.func74 rfl Tryz.ntmps74 (Nat.le_of_ble_eq_true rfl) ?_
 have E : Chg zAh w0 w0 := Chg.refl _ _
 refine zAA ?_
 refine zBL (v := (.agg (R6 t sa sc (some ⟨ab, ao, none⟩) ac))) (c := (R6 t sa sc (some ⟨ab, ao, none⟩) ac)) (by decide) rfl rfl ?_
 intro br wr Nr
 have Fr := Nr.ge E
 replace E := E.ext Nr.ext
 have Br := Nr.blk
 refine zBL (v := (I6 c)) (c := #[(I6 c)]) (by decide) rfl rfl ?_
 intro bu wu Nu
 have Fu := Nu.ge E
 have Ou_br := Nu.lt Br
 replace Br := Nu.keep Br
 replace E := E.ext Nu.ext
 have Bu := Nu.blk
 refine zBD (c := #[(I6 0), (.slice none 0 0), (.slice none 0 0), (I6 0), (I6 0), (.bool false)]) (by decide) zAs rfl ?_
 intro bo wo No
 have Fo := No.ge E
 have Oo_br := No.lt Br
 have Oo_bu := No.lt Bu
 replace Br := No.keep Br
 replace Bu := No.keep Bu
 replace E := E.ext No.ext
 have Bo := No.blk
 refine zAB (zAP (zAA ?_))
 refine qF br 0 0 rfl Tryz.underlying25 rfl zAw rfl ?_
 refine qV (zAK (v := (I6 t.kind)) rfl zAf (Br.cell rfl)) ?_
 refine zAB (zAZ (zAA ?_))
 refine qV (zAg (k := .i64) (a := t.kind) (b := 2) rfl rfl) ?_
 refine qA (.bool (decide ((t.kind : Int) = 2))) rfl ?_
 refine zAB ?_
 obtain ⟨n1, hn1⟩ : ∃ n1, n1 = wo.heap.size := ⟨_, rfl⟩
 have hob : br < n1 ∧ bo < n1 ∧ w0.heap.size ≤ bo ∧ w0.heap.size ≤ n1 := ⟨by rw [hn1]; exact Br.lt, by rw [hn1]; exact Bo.lt, by omega, by rw [hn1]; exact E.size⟩
 have hn1w : n1 ≤ wo.heap.size := by omega
 have hc1 : (decide ((t.kind : Int) = 2)) = false := decide_eq_false (by omega)
 refine zAX (congrArg Value.bool hc1) ?_
 refine zAA ?_
 refine qV (zAg (k := .i64) (a := t.kind) (b := 3) rfl rfl) ?_
 refine qA (.bool (decide ((t.kind : Int) = 3))) rfl ?_
 refine zAB ?_
 have hc2 : (decide ((t.kind : Int) = 3)) = false := decide_eq_false (by omega)
 refine zAX (congrArg Value.bool hc2) ?_
 refine zAP (zAA ?_)
 refine qV (zAg (k := .i64) (a := t.kind) (b := 4) rfl rfl) ?_
 refine qA (.bool (decide ((t.kind : Int) = 4))) rfl ?_
 refine zAB ?_
 have hc3 : (decide ((t.kind : Int) = 4)) = false := decide_eq_false (by omega)
 refine zAX (congrArg Value.bool hc3) ?_
 refine zAA ?_
 refine qV (zAg (k := .i64) (a := t.kind) (b := 7) rfl rfl) ?_
 refine qA (.bool (decide ((t.kind : Int) = 7))) rfl ?_
 refine zAB ?_
 have hc4 : (decide ((t.kind : Int) = 7)) = false := decide_eq_false (by omega)
 refine zAX (congrArg Value.bool hc4) ?_
 refine zAW ?_
 refine qV (zAg (k := .i64) (a := t.kind) (b := 8) rfl rfl) ?_
 refine qA (.bool (decide ((t.kind : Int) = 8))) rfl ?_
 refine zAB (zAC ?_)
 have hc5 : (decide ((t.kind : Int) = 8)) = false := decide_eq_false (by omega)
 refine zAX (congrArg Value.bool hc5) ?_
 refine zAA ?_
 refine qV (zAg (k := .i64) (a := t.kind) (b := 5) rfl rfl) ?_
 refine qA (.bool (decide ((t.kind : Int) = 5))) rfl ?_
 refine zAB ?_
 have hc6 : (decide ((t.kind : Int) = 5)) = false := decide_eq_false (by omega)
 refine zAX (congrArg Value.bool hc6) ?_
 refine zAA ?_
 refine qV (zAg (k := .i64) (a := t.kind) (b := 6) rfl rfl) ?_
 refine qA (.bool (decide ((t.kind : Int) = 6))) rfl ?_
 refine zAB ?_
 have hc7 : (decide ((t.kind : Int) = 6)) = true := decide_eq_true hk
 refine zAl (congrArg Value.bool hc7) ?_
 refine zAP (zAA ?_)
 refine qF br 0 4 rfl Tryz.underlying25 rfl zAw rfl ?_
 refine qV (zAK (v := (I6 t.mx)) rfl zAf (Br.cell rfl)) ?_
 refine qV (zAg (k := .i64) (a := t.mx) (b := 0) rfl rfl) ?_
 refine zAB ?_
 have hc8 : (decide ((t.mx : Int) = 0)) = false := decide_eq_false (by omega)
 refine zAX (congrArg Value.bool hc8) ?_
 refine zAR (zAC (zAA ?_))
 refine qF br 0 3 rfl Tryz.underlying25 rfl zAw rfl ?_
 refine qV (zAK (v := (I6 t.mn)) rfl zAf (Br.cell rfl)) ?_
 refine qV (zEh (k := .i64) (a := t.mn) (b := 1) (c := t.mn - 1) rfl rfl (zBs (by omega))) ?_
 refine qV (zPC (k := .i64) (c := m1) rfl rfl hmm.symm) ?_
 refine qF br 0 4 rfl Tryz.underlying25 rfl zAw rfl ?_
 refine qV (zAK (v := (I6 t.mx)) rfl zAf (Br.cell rfl)) ?_
 refine qV (zEh (k := .i64) (a := t.mx) (b := 1) (c := t.mx - 1) rfl rfl (zBs (by omega))) ?_
 refine qF br 0 2 rfl Tryz.underlying25 rfl zBI rfl ?_
 refine qV (zAK (v := (.slice (some ⟨ab, ao, none⟩) t.args.length ac)) rfl zAv (Br.cell rfl)) ?_
 refine qV (zBW (ps := [(0, (I6 6)), (3, (I6 m1)), (4, (I6 (t.mx - 1))), (2, (.slice (some ⟨ab, ao, none⟩) t.args.length ac))]) (v := (.agg #[(I6 6), (.slice none 0 0), (.slice (some ⟨ab, ao, none⟩) t.args.length ac), (I6 m1), (I6 (t.mx - 1)), (.bool false)])) rfl (by kernel_rfl)) ?_
 refine zAi (v := (.agg #[(I6 6), (.slice none 0 0), (.slice (some ⟨ab, ao, none⟩) t.args.length ac), (I6 m1), (I6 (t.mx - 1)), (.bool false)])) (c := #[(I6 6), (.slice none 0 0), (.slice (some ⟨ab, ao, none⟩) t.args.length ac), (I6 m1), (I6 (t.mx - 1)), (.bool false)]) (n := 6) (by decide) zAs rfl zAH rfl rfl rfl (by simp [Value.oneCell']) ?_
 intro bq wq Nq
 have Fq := Nq.ge E
 have Oq_br := Nq.lt Br
 have Oq_bu := Nq.lt Bu
 have Oq_bo := Nq.lt Bo
 replace Br := Nq.keep Br
 replace Bu := Nq.keep Bu
 replace Bo := Nq.keep Bo
 replace E := E.ext Nq.ext
 have Bq := Nq.blk
 refine zAB ?_
 have hz_9 : w0.heap.size ≤ wq.heap.size := E.size
 have lz_9_br : br < wq.heap.size := Br.lt
 have lz_9_bu : bu < wq.heap.size := Bu.lt
 have lz_9_bo : bo < wq.heap.size := Bo.lt
 have lz_9_bq : bq < wq.heap.size := Bq.lt
 refine zAP ?_
 obtain ⟨Fs9, hFs9⟩ : ∃ Fs : List Fact, Fs = [.eq (P6 br 2), .eq (.slice (some ⟨ab, ao, none⟩) t.args.length ac), .eq (.pointer (some ⟨ab, ao + 0 * 6, none⟩)), .eq (.agg (R6 x xsa xsc xaa xac)), .eq (I6 c), .gen (reG (fun b => S b ∨ n1 ≤ b) D) (zAy _ _), .eq (.agg #[(I6 6), (.slice none 0 0), (.slice (some ⟨ab, ao, none⟩) t.args.length ac), (I6 m1), (I6 (t.mx - 1)), (.bool false)]), .gen (rsG (fun b => S b ∨ n1 ≤ b) [D, .mk 6 [] [x] m1 x1 false]) (zCH _ _), .gen (reG (fun b => S b ∨ n1 ≤ b) (.mk 3 [] [D, .mk 6 [] [x] m1 x1 false] 0 0 false)) (zAy _ _), .eq undef] := ⟨_, rfl⟩
 refine zDo [true, true, true, true, true, true, true, true, true, false] [9] [89, 90, 91, 92, 93, 94, 95, 96, 97, 108] [[], [0], [1], [2], [], [3, 4], [], [5, 6], [7], []] Fs9 hFs9 mixed (by kernel_rfl) (by kernel_rfl) (by kernel_rfl) (by kernel_rfl) ?_ ?_
 ·intro wd X0
  refine DagStepsP.cons (fun s' w' X U H => Or.inl ⟨?_, ?_⟩) ?_
  ·exact zAE rfl
  ·exact zAJ (zAN (b := br) (o := 0) (o' := 2) (U 2 rfl) Tryz.underlying25 rfl zBI rfl) (Ext.refl _) rfl
  refine DagStepsP.cons (fun s' w' X U H => Or.inl ⟨?_, ?_⟩) ?_
  ·exact zAE rfl
  ·have e89 : s' 89 = (.pointer (some ⟨br, 2, none⟩)) := H 0 rfl 89 (.eq (.pointer (some ⟨br, 2, none⟩))) rfl (by rw [hFs9]; rfl)
   exact zAJ (zAK (v := (.slice (some ⟨ab, ao, none⟩) t.args.length ac)) e89 zAv (((X0.trans X).keep Br).cell rfl)) (Ext.refl _) rfl
  refine DagStepsP.cons (fun s' w' X U H => Or.inl ⟨?_, ?_⟩) ?_
  ·exact zAE rfl
  ·have e90 : s' 90 = (.slice (some ⟨ab, ao, none⟩) t.args.length ac) := H 1 rfl 90 (.eq (.slice (some ⟨ab, ao, none⟩) t.args.length ac)) rfl (by rw [hFs9]; rfl)
   exact zAJ (zAO (b := ab) (o := ao) (len := t.args.length) (cap := ac) (i := 0) (o' := ao + 0 * 6) e90 rfl rfl Tryz.underlying23 zAH (by omega) (by omega)) (Ext.refl _) rfl
  refine DagStepsP.cons (fun s' w' X U H => Or.inl ⟨?_, ?_⟩) ?_
  ·exact zAE rfl
  ·have e91 : s' 91 = (.pointer (some ⟨ab, ao + 0 * 6, none⟩)) := H 2 rfl 91 (.eq (.pointer (some ⟨ab, ao + 0 * 6, none⟩))) rfl (by rw [hFs9]; rfl)
   exact zAJ (zAG (vs := [(I6 x.kind), (.slice xsa x.set.length xsc), (.slice xaa x.args.length xac), (I6 x.mn), (I6 x.mx), (.bool x.neg)]) e91 zAb zAH rfl (hus.ext (Ext.trans E (X0.trans X)))) (Ext.refl _) rfl
  refine DagStepsP.cons (fun s' w' X U H => Or.inl ⟨?_, ?_⟩) ?_
  ·exact zAE rfl
  ·exact zAJ (zAK (v := (I6 c)) (U 3 rfl) zAf (((X0.trans X).keep Bu).cell rfl)) (Ext.refl _) rfl
  refine DagStepsP.cons (fun s' w' X U H => Or.inl ⟨?_, ?_⟩) ?_
  ·exact zAE rfl
  ·have e92 : s' 92 = (.agg #[(.int .i64 x.kind), (.slice xsa x.set.length xsc), (.slice xaa x.args.length xac), (.int .i64 x.mn), (.int .i64 x.mx), (.bool x.neg)]) := H 3 rfl 92 (.eq (.agg #[(.int .i64 x.kind), (.slice xsa x.set.length xsc), (.slice xaa x.args.length xac), (.int .i64 x.mn), (.int .i64 x.mx), (.bool x.neg)])) rfl (by rw [hFs9]; rfl)
   have e93 : s' 93 = (.int .i64 c) := H 4 rfl 93 (.eq (.int .i64 c)) rfl (by rw [hFs9]; rfl)
   exact zAp (zAT (vs := [(.agg (R6 x xsa xsc xaa xac)), (I6 c)]) Tryz.func74 zQK zQt (zGt e92 e93)) ((ih x _ S _ (by omega) (zDs hox) (zAc.ext (Ext.trans E (X0.trans X)) x hxt0) (fun y hy => by have := hS y hy; have := E.size; have := X0.size; have := X.size; omega)).mono (fun r w h => ⟨zBd (S' := fun b => S b ∨ w'.heap.size ≤ b) (fun b hb => by rcases hb with h1 | h1; exact .inl h1; exact .inr (by have := Nq.ext.size; have := X0.size; have := X.size; omega)) (by rw [hD]; exact h.1), h.2⟩))
  refine DagStepsP.cons (fun s' w' X U H => Or.inl ⟨?_, ?_⟩) ?_
  ·exact zAE rfl
  ·exact zAJ (zAG (vs := [(I6 6), (.slice none 0 0), (.slice (some ⟨ab, ao, none⟩) t.args.length ac), (I6 m1), (I6 (t.mx - 1)), (.bool false)]) (U 7 rfl) zAb zAH rfl (((X0.trans X).keep Bq).cells rfl)) (Ext.refl _) rfl
  refine DagStepsP.cons (fun s' w' X U H => Or.inl ⟨?_, ?_⟩) ?_
  ·exact zAE rfl
  ·obtain ⟨xa94, xc94, ya94, yc94, e94, r94⟩ := H 5 rfl 94 (.gen (reG (fun b => S b ∨ n1 ≤ b) D) (zAy _ _)) rfl (by rw [hFs9]; rfl)
   have e95 : s' 95 = (.agg #[(.int .i64 6), (.slice none 0 0), (.slice (some ⟨ab, ao, none⟩) t.args.length ac), (.int .i64 m1), (.int .i64 (t.mx - 1)), (.bool false)]) := H 6 rfl 95 (.eq (.agg #[(.int .i64 6), (.slice none 0 0), (.slice (some ⟨ab, ao, none⟩) t.args.length ac), (.int .i64 m1), (.int .i64 (t.mx - 1)), (.bool false)])) rfl (by rw [hFs9]; rfl)
   exact zDl (Y := .mk 6 [] [x] m1 x1 false) e94 (e95.trans (by rw [hax, hx1]; rfl)) r94 (by have h5 := zAc.mono (S' := fun b => S b ∨ n1 ≤ b) (fun y hy => .inl hy) _ (zAc.ext (Ext.trans E (X0.trans X)) _ hRx); rw [hax] at h5; exact h5) (fun b hb => .inr (by have := Nq.ext.size; have := X0.size; have := X.size; omega))
  refine DagStepsP.cons (fun s' w' X U H => Or.inl ⟨?_, ?_⟩) ?_
  ·exact zAE rfl
  ·obtain ⟨b96, e96, q96⟩ := H 7 rfl 96 (.gen (rsG (fun b => S b ∨ n1 ≤ b) [D, .mk 6 [] [x] m1 x1 false]) (zCH _ _)) rfl (by rw [hFs9]; rfl)
   exact zEf e96 q96 rfl
  refine DagStepsP.tail ?_
  exact DagStepsP.nil
 intro s' w9 X9 U H
 obtain ⟨xa97, xc97, ya97, yc97, e97, r97⟩ := H 8 rfl 97 (.gen (reG (fun b => S b ∨ n1 ≤ b) (.mk 3 [] [D, .mk 6 [] [x] m1 x1 false] 0 0 false)) (zAy _ _)) rfl (by rw [hFs9]; rfl)
 obtain ⟨j9, rfl⟩ := zBG.out (σ := s') (l := [(4, (.pointer (some ⟨bo, 0, none⟩))), (97, (.agg #[(.int .i64 3), (.slice xa97 0 xc97), (.slice ya97 2 yc97), (.int .i64 0), (.int .i64 0), (.bool false)]))]) ⟨U 4 rfl, e97, trivial⟩
 clear U H
 replace Br := X9.keep Br
 replace Bu := X9.keep Bu
 replace Bo := X9.keep Bo
 replace Bq := X9.keep Bq
 replace E := E.ext X9
 refine qW (#[(I6 3), (.slice xa97 0 xc97), (.slice ya97 2 yc97), (I6 0), (I6 0), (.bool false)]) rfl rfl zAH Bo ?_
 intro w10 S10
 replace r97 := zAc.chg S10.chg (fun y hy h => by have h2 : y = bo := h; rcases hy with h1 | h1; have := hS y h1; omega; omega) _ r97
 replace Br := S10.keep (by omega) Br
 replace Bu := S10.keep (by omega) Bu
 replace Bq := S10.keep (by omega) Bq
 replace E := S10.stp E
 replace Bo := S10.blk
 refine zAB (zAC (zAQ (zAY (zAI ?_))))
 refine zAm Tryz.results74 (vs := [(.int .i64 3), (.slice xa97 0 xc97), (.slice ya97 2 yc97), (.int .i64 0), (.int .i64 0), (.bool false)]) (b := bo) rfl zAb zAH rfl (Bo.cells rfl) ?_
 exact ⟨⟨_, rfl, zAc.mono (fun y hy => by rcases hy with h1 | h1; exact .inl h1; exact .inr (by omega)) _ r97⟩, E⟩
set_option maxHeartbeats 1000000 in
theorem zPz (c : Int) (n : Nat) (ih : zRB c n) (w0 : World) (S : Nat → Prop) (x : Re) (xs : List Value) (bu : Nat) (hxz : x.size < n) (hox : zOt x) (hB : Blk w0 bu #[.int .i64 c] 3) (hx : zAc S w0 x xs) (hS : ∀ y, S y → y < w0.heap.size) :
  Ret Tryz.prog 132 #[.agg xs.toArray, .pointer (some ⟨bu, 0, none⟩)] w0 fun r w' => (∃ us, r = .agg us.toArray ∧ zAc (fun b => S b ∨ w0.heap.size ≤ b) w' (zDD c x) us) ∧ Ext w0 w' := by
 have hx0 := hx
 obtain ⟨sa, sc, aa, ac, rfl, _, _, _⟩ := hx.form
 obtain ⟨D, hD⟩ : ∃ D, D = zDD c x := ⟨_, rfl⟩
 rw [← hD]
 refine zAk Tryz.func132 rfl Tryz.ntmps132 (Nat.le_of_ble_eq_true rfl) ?_
 have E : Chg zAh w0 w0 := Chg.refl _ _
 refine zAA ?_
 refine zBL (v := (.agg (R6 x sa sc aa ac))) (c := (R6 x sa sc aa ac)) (by decide) rfl rfl ?_
 intro br wr Nr
 have Fr := Nr.ge E
 have Or_bu := Nr.lt hB
 replace hB := Nr.keep hB
 replace E := E.ext Nr.ext
 have Br := Nr.blk
 refine zBD (c := #[(I6 0), (.slice none 0 0), (.slice none 0 0), (I6 0), (I6 0), (.bool false)]) (by decide) zAs rfl ?_
 intro bo wo No
 have Fo := No.ge E
 have Oo_bu := No.lt hB
 have Oo_br := No.lt Br
 replace hB := No.keep hB
 replace Br := No.keep Br
 replace E := E.ext No.ext
 have Bo := No.blk
 refine zAB (zAA ?_)
 refine qV (zAG (vs := [(I6 x.kind), (.slice sa x.set.length sc), (.slice aa x.args.length ac), (I6 x.mn), (I6 x.mx), (.bool x.neg)]) rfl zAb zAH rfl (Br.cells rfl)) ?_
 refine qV (zAK (v := (I6 c)) rfl zAf (hB.cell rfl)) ?_
 obtain ⟨n1, hn1⟩ : ∃ n1, n1 = wo.heap.size := ⟨_, rfl⟩
 have hob : w0.heap.size ≤ bo ∧ bo < n1 ∧ w0.heap.size ≤ n1 := ⟨by have := No.eq; have := Nr.ext.size; omega, by rw [hn1]; exact Bo.lt, by rw [hn1]; exact E.size⟩
 refine zAL rfl rfl (by decide) (zAT (vs := [(.agg (R6 x sa sc aa ac)), (I6 c)]) Tryz.func74 zQK zQt rfl) ((ih x _ S _ hxz hox (zAc.ext E x hx0) (fun y hy => by have := hS y hy; have := E.size; omega)).mono (R' := fun r w => reG (fun b => S b ∨ n1 ≤ b) D r w ∧ Ext _ w) (fun r w h => ⟨zBd (S' := fun b => S b ∨ wo.heap.size ≤ b) (fun b hb => by rcases hb with h1 | h1; exact .inl h1; exact .inr (by rw [hn1]; exact h1)) (by rw [hD]; exact h.1), h.2⟩)) ?_
 rintro _ w9 ⟨⟨xa, xc, ya, yc, rfl, hR⟩, X9⟩
 replace hB := X9.keep hB
 replace Br := X9.keep Br
 replace Bo := X9.keep Bo
 replace E := E.ext X9
 refine qW (R6 D xa xc ya yc) rfl rfl zAH Bo ?_
 intro w1 S1
 replace hR := zAc.chg S1.chg (fun y hy h => by have h2 : y = bo := h; rcases hy with h1 | h1; have := hS y h1; omega; omega) _ hR
 replace hB := S1.keep (by omega) hB
 replace Br := S1.keep (by omega) Br
 replace E := S1.stp E
 replace Bo := S1.blk
 refine zAB (zAQ ?_)
 refine zAm Tryz.results132 (vs := [(.int .i64 D.kind), (.slice xa D.set.length xc), (.slice ya D.args.length yc), (.int .i64 D.mn), (.int .i64 D.mx), (.bool D.neg)]) (b := bo) rfl zAb zAH rfl (Bo.cells rfl) ?_
 exact ⟨⟨_, rfl, zAc.mono (fun y hy => by rcases hy with h1 | h1; exact .inl h1; exact .inr (by omega)) _ hR⟩, E⟩
set_option maxHeartbeats 1000000 in
theorem zMO (c : Int) (n : Nat) (ih : zRB c n) (t : Re) (hn : t.size ≤ n) (h300 : t.size ≤ 1000000) (hok : zAq t) (hk : t.kind = 4 ∨ t.kind = 7 ∨ t.kind = 8) (w0 : World) (S : Nat → Prop) (vs : List Value) (ht : zAc S w0 t vs) (hS : ∀ x, S x → x < w0.heap.size) :
  Ret Tryz.prog 74 #[.agg vs.toArray, .int .i64 c] w0 fun r w => (∃ us, r = .agg us.toArray ∧ zAc (fun b => S b ∨ w0.heap.size ≤ b) w (zDD c t) us) ∧ Ext w0 w := by
 have ht0 := ht
 obtain ⟨sa, sc, aa, ac, rfl, hset, hlen, hargs⟩ := ht.form
 obtain ⟨N, hN⟩ : ∃ N, N = zDD c t := ⟨_, rfl⟩
 have hst : N = .mk t.kind t.set (t.args.map (zDD c)) t.mn t.mx t.neg := by rw [hN]; exact rw478 hk
 rw [← hN]
 refine zAk Tryz.func74 rfl Tryz.ntmps74 (Nat.le_of_ble_eq_true rfl) ?_
 have E : Chg zAh w0 w0 := Chg.refl _ _
 refine zAA ?_
 refine zBL (v := (.agg (R6 t sa sc aa ac))) (c := (R6 t sa sc aa ac)) (by decide) rfl rfl ?_
 intro br wr Nr
 have Fr := Nr.ge E
 replace E := E.ext Nr.ext
 have Br := Nr.blk
 refine zBL (v := (I6 c)) (c := #[(I6 c)]) (by decide) rfl rfl ?_
 intro bu wu Nu
 have Fu := Nu.ge E
 have Ou_br := Nu.lt Br
 replace Br := Nu.keep Br
 replace E := E.ext Nu.ext
 have Bu := Nu.blk
 refine zBD (c := #[(I6 0), (.slice none 0 0), (.slice none 0 0), (I6 0), (I6 0), (.bool false)]) (by decide) zAs rfl ?_
 intro bo wo No
 have Fo := No.ge E
 have Oo_br := No.lt Br
 have Oo_bu := No.lt Bu
 replace Br := No.keep Br
 replace Bu := No.keep Bu
 replace E := E.ext No.ext
 have Bo := No.blk
 refine zAB (zAP (zAA ?_))
 refine qF br 0 0 rfl Tryz.underlying25 rfl zAw rfl ?_
 refine qV (zAK (v := (I6 t.kind)) rfl zAf (Br.cell rfl)) ?_
 refine zAB (zAZ (zAA ?_))
 refine qV (zAg (k := .i64) (a := t.kind) (b := 2) rfl rfl) ?_
 refine qA (.bool (decide ((t.kind : Int) = 2))) rfl ?_
 refine zAB ?_
 obtain ⟨n1, hn1⟩ : ∃ n1, n1 = wo.heap.size := ⟨_, rfl⟩
 have hob : br < n1 ∧ bo < n1 ∧ w0.heap.size ≤ bo ∧ w0.heap.size ≤ n1 := ⟨by rw [hn1]; exact Br.lt, by rw [hn1]; exact Bo.lt, by omega, by rw [hn1]; exact E.size⟩
 have hn1w : n1 ≤ wo.heap.size := by omega
 have hc1 : (decide ((t.kind : Int) = 2)) = false := decide_eq_false (by omega)
 refine zAX (congrArg Value.bool hc1) ?_
 refine zAA ?_
 refine qV (zAg (k := .i64) (a := t.kind) (b := 3) rfl rfl) ?_
 refine qA (.bool (decide ((t.kind : Int) = 3))) rfl ?_
 refine zAB ?_
 have hc2 : (decide ((t.kind : Int) = 3)) = false := decide_eq_false (by omega)
 refine zAX (congrArg Value.bool hc2) ?_
 refine zHX (fun σ W3 => ∃ (q : Bool), (∃ jj_, σ = zCl jj_ [(2, (P6 br 0)), (3, (P6 bu 0)), (4, (P6 bo 0)), (9, (I6 t.kind)), (55, (.bool q))]) ∧ Chg zAh w0 W3 ∧ Blk W3 br (R6 t sa sc aa ac) 25 ∧ Blk W3 bu #[(I6 c)] 3 ∧ Blk W3 bo #[(I6 0), (.slice none 0 0), (.slice none 0 0), (I6 0), (I6 0), (.bool false)] 25 ∧ (q = true) ∧ (n1 ≤ W3.heap.size)) ?_ ?_
 ·skip
  refine zAA ?_
  refine qV (zAg (k := .i64) (a := t.kind) (b := 4) rfl rfl) ?_
  refine qA (.bool (decide ((t.kind : Int) = 4))) rfl ?_
  refine zAB ?_
  refine zAM (b := decide ((t.kind : Int) = 4)) rfl (fun h4 => ?_) (fun h4 => ?_)
  ·have kh4 := h4
   replace h4 := of_decide_eq_true h4
   refine zAR (zAC ?_)
   exact ⟨(decide ((t.kind : Int) = 4)), zBG.out ⟨rfl, rfl, rfl, rfl, rfl, trivial⟩, E, Br, Bu, Bo, decide_eq_true h4, hn1w⟩
  have kh4 := h4
  replace h4 := of_decide_eq_false h4
  refine zAA ?_
  refine qV (zAg (k := .i64) (a := t.kind) (b := 7) rfl rfl) ?_
  refine qA (.bool (decide ((t.kind : Int) = 7))) rfl ?_
  refine zAB ?_
  refine zAM (b := decide ((t.kind : Int) = 7)) rfl (fun h7 => ?_) (fun h7 => ?_)
  ·have kh7 := h7
   replace h7 := of_decide_eq_true h7
   refine zAR (zAC ?_)
   exact ⟨(decide ((t.kind : Int) = 7)), zBG.out ⟨rfl, rfl, rfl, rfl, rfl, trivial⟩, E, Br, Bu, Bo, decide_eq_true h7, hn1w⟩
  have kh7 := h7
  replace h7 := of_decide_eq_false h7
  refine zAW ?_
  refine qV (zAg (k := .i64) (a := t.kind) (b := 8) rfl rfl) ?_
  refine qA (.bool (decide ((t.kind : Int) = 8))) rfl ?_
  refine zAB (zAC ?_)
  exact ⟨(decide ((t.kind : Int) = 8)), zBG.out ⟨rfl, rfl, rfl, rfl, rfl, trivial⟩, E, Br, Bu, Bo, decide_eq_true (by omega), hn1w⟩
 clear E Br Bu Bo
 rintro _ W3 ⟨q, ⟨j3, rfl⟩, E, Br, Bu, Bo, hq, hn1w⟩
 have hc6 : (q) = true := hq
 refine zAl (congrArg Value.bool hc6) ?_
 refine zAA ?_
 refine qV (zAG (vs := [(I6 t.kind), (.slice sa t.set.length sc), (.slice aa t.args.length ac), (I6 t.mn), (I6 t.mx), (.bool t.neg)]) rfl zAb zAH rfl (Br.cells rfl)) ?_
 refine qV (zDt (vs := []) (us := [(P6 bu 0)]) rfl rfl) ?_
 refine zAL rfl rfl (by decide) (zAT (vs := [(.agg (R6 t sa sc aa ac)), (.func (.func 132) #[] #[(P6 bu 0)])]) Tryz.func69 nm69 bd69 rfl) ((zKR _ S t _ _ (zDD c) (zAc.ext E t ht0) (fun y hy => by have := hS y hy; have := E.size; omega) h300 (fun w x xs hE hx h => zBu.mk (first := #[]) (cap := #[.pointer (some ⟨bu, 0, none⟩)]) Tryz.func132 nm132 bd132 rfl (by obtain ⟨i, hi⟩ := List.mem_iff_getElem?.1 hx; exact (zPz c n ih w S x xs bu (by have := Re.size_arg hi; omega) (zDs (hok.a x hx)) (hE.keep Bu) h (fun y hy => by have := hS y hy; have := E.size; have := hE.size; omega)).mono fun v w h => by obtain ⟨⟨us, h1, h2⟩, h3⟩ := h; exact ⟨us, h1, h2, h3⟩))).mono (R' := fun r w => reG (fun b => S b ∨ n1 ≤ b) N r w ∧ Ext _ w) (fun r w h => by obtain ⟨us, h1, h2, h3⟩ := h; rw [← hst] at h2; exact ⟨zBd (fun b hb => by rcases hb with h4 | h4; exact .inl h4; exact .inr (by omega)) ⟨us, h1, h2⟩, h3⟩)) ?_
 rintro _ w9 ⟨⟨xa, xc, ya, yc, rfl, hR⟩, X9⟩
 replace Br := X9.keep Br
 replace Bu := X9.keep Bu
 replace Bo := X9.keep Bo
 replace E := E.ext X9
 refine qW (R6 N xa xc ya yc) rfl rfl zAH Bo ?_
 intro w7 S7
 replace hR := zAc.chg S7.chg (fun y hy h => by have h2 : y = bo := h; rcases hy with h1 | h1; have := hS y h1; omega; omega) _ hR
 replace Br := S7.keep (by omega) Br
 replace Bu := S7.keep (by omega) Bu
 replace E := S7.stp E
 replace Bo := S7.blk
 refine zAB (zAQ (zAY (zAI ?_)))
 refine zAm Tryz.results74 (vs := [(.int .i64 N.kind), (.slice xa N.set.length xc), (.slice ya N.args.length yc), (.int .i64 N.mn), (.int .i64 N.mx), (.bool N.neg)]) (b := bo) rfl zAb zAH rfl (Bo.cells rfl) ?_
 exact ⟨⟨_, rfl, zAc.mono (fun y hy => by rcases hy with h1 | h1; exact .inl h1; exact .inr (by omega)) _ hR⟩, E⟩
theorem rs_mk3 {S : Nat → Prop} {w : World} {a : Option Addr} {n c : Nat} {l : List Re} (h : zCJ S w (.slice a n c) l) : zAc S w (.mk 3 [] l 0 0 false) [.int .i64 3, .slice none 0 0, .slice a n c, .int .i64 0, .int .i64 0, .bool false] := by
 obtain ⟨aa, ac, h1, h2, h3⟩ := h
 simp only [Value.slice.injEq] at h1
 obtain ⟨rfl, rfl, rfl⟩ := h1
 exact zAc.of (set := []) (zDE.nil _ _ _ _ _) h2 h3
set_option maxHeartbeats 1000000 in
theorem zQB (c : Int) (n : Nat) (ih : zRB c n) (t : Re) (hn : t.size ≤ n) (x : Re) (hax : t.args = [x]) (hox : zAq x) (hk : t.kind = 3) (w0 : World) (S : Nat → Prop) (vs : List Value) (ht : zAc S w0 t vs) (hS : ∀ x, S x → x < w0.heap.size) :
  Ret Tryz.prog 74 #[.agg vs.toArray, .int .i64 c] w0 fun r w => (∃ us, r = .agg us.toArray ∧ zAc (fun b => S b ∨ w0.heap.size ≤ b) w (zDD c t) us) ∧ Ext w0 w := by
 have ht0 := ht
 obtain ⟨sa, sc, aa, ac, rfl, hset, hlen, hargs⟩ := ht.form
 have hx : t.args[0]? = some x := by rw [hax]; rfl
 have hal1 : t.args.length = 1 := by rw [hax]; rfl
 have hxz := Re.size_arg hx
 obtain ⟨ab, ao, hab, rfl, hres⟩ := hargs.resolve_left (fun h => by rw [h] at hx; cases hx)
 obtain ⟨us, hus, hxt⟩ := hres.get hx
 have hxt0 := hxt
 obtain ⟨xsa, xsc, xaa, xac, rfl, _, _, _⟩ := hxt.form
 obtain ⟨D, hD⟩ : ∃ D, D = zDD c x := ⟨_, rfl⟩
 have hst : zDD c t = D := by rw [hD, rw3 hk, hax, rc1]
 rw [hst]
 clear hst
 refine zAk Tryz.func74 rfl Tryz.ntmps74 (Nat.le_of_ble_eq_true rfl) ?_
 have E : Chg zAh w0 w0 := Chg.refl _ _
 refine zAA ?_
 refine zBL (v := (.agg (R6 t sa sc (some ⟨ab, ao, none⟩) ac))) (c := (R6 t sa sc (some ⟨ab, ao, none⟩) ac)) (by decide) rfl rfl ?_
 intro br wr Nr
 have Fr := Nr.ge E
 replace E := E.ext Nr.ext
 have Br := Nr.blk
 refine zBL (v := (I6 c)) (c := #[(I6 c)]) (by decide) rfl rfl ?_
 intro bu wu Nu
 have Fu := Nu.ge E
 have Ou_br := Nu.lt Br
 replace Br := Nu.keep Br
 replace E := E.ext Nu.ext
 have Bu := Nu.blk
 refine zBD (c := #[(I6 0), (.slice none 0 0), (.slice none 0 0), (I6 0), (I6 0), (.bool false)]) (by decide) zAs rfl ?_
 intro bo wo No
 have Fo := No.ge E
 have Oo_br := No.lt Br
 have Oo_bu := No.lt Bu
 replace Br := No.keep Br
 replace Bu := No.keep Bu
 replace E := E.ext No.ext
 have Bo := No.blk
 refine zAB (zAP (zAA ?_))
 refine qF br 0 0 rfl Tryz.underlying25 rfl zAw rfl ?_
 refine qV (zAK (v := (I6 t.kind)) rfl zAf (Br.cell rfl)) ?_
 refine zAB (zAZ (zAA ?_))
 refine qV (zAg (k := .i64) (a := t.kind) (b := 2) rfl rfl) ?_
 refine qA (.bool (decide ((t.kind : Int) = 2))) rfl ?_
 refine zAB ?_
 obtain ⟨n1, hn1⟩ : ∃ n1, n1 = wo.heap.size := ⟨_, rfl⟩
 have hob : br < n1 ∧ bo < n1 ∧ w0.heap.size ≤ bo ∧ w0.heap.size ≤ n1 := ⟨by rw [hn1]; exact Br.lt, by rw [hn1]; exact Bo.lt, by omega, by rw [hn1]; exact E.size⟩
 have hn1w : n1 ≤ wo.heap.size := by omega
 have hc1 : (decide ((t.kind : Int) = 2)) = false := decide_eq_false (by omega)
 refine zAX (congrArg Value.bool hc1) ?_
 refine zAA ?_
 refine qV (zAg (k := .i64) (a := t.kind) (b := 3) rfl rfl) ?_
 refine qA (.bool (decide ((t.kind : Int) = 3))) rfl ?_
 refine zAB ?_
 have hc2 : (decide ((t.kind : Int) = 3)) = true := decide_eq_true hk
 refine zAl (congrArg Value.bool hc2) ?_
 refine zAP (zAA ?_)
 refine qF br 0 2 rfl Tryz.underlying25 rfl zBI rfl ?_
 refine qV (zAK (v := (.slice (some ⟨ab, ao, none⟩) t.args.length ac)) rfl zAv (Br.cell rfl)) ?_
 refine qV (zAV (ad := some ⟨ab, ao, none⟩) (n := t.args.length) (cap := ac) Tryz.underlying23 rfl) ?_
 refine qV (zAg (k := .i64) (a := (t.args.length : Int)) (b := 1) rfl rfl) ?_
 refine zAB ?_
 have hc3 : (decide ((((t.args.length : Nat) : Int) : Int) = 1)) = true := decide_eq_true (by omega)
 refine zAl (congrArg Value.bool hc3) ?_
 have hz_4 : w0.heap.size ≤ wo.heap.size := E.size
 have lz_4_br : br < wo.heap.size := Br.lt
 have lz_4_bu : bu < wo.heap.size := Bu.lt
 have lz_4_bo : bo < wo.heap.size := Bo.lt
 refine zAP ?_
 obtain ⟨Fs4, hFs4⟩ : ∃ Fs : List Fact, Fs = [.eq (P6 br 2), .eq (.slice (some ⟨ab, ao, none⟩) t.args.length ac), .eq (.pointer (some ⟨ab, ao + 0 * 6, none⟩)), .eq (.agg (R6 x xsa xsc xaa xac)), .eq (I6 c), .gen (reG (fun b => S b ∨ n1 ≤ b) D) (zAy _ _), .eq undef] := ⟨_, rfl⟩
 refine zDo [true, true, true, true, true, true, false] [6] [23, 24, 25, 26, 27, 28, 105] [[], [0], [1], [2], [], [3, 4], []] Fs4 hFs4 mixed (by kernel_rfl) (by kernel_rfl) (by kernel_rfl) (by kernel_rfl) ?_ ?_
 ·intro wd X0
  refine DagStepsP.cons (fun s' w' X U H => Or.inl ⟨?_, ?_⟩) ?_
  ·exact zAE rfl
  ·exact zAJ (zAN (b := br) (o := 0) (o' := 2) (U 2 rfl) Tryz.underlying25 rfl zBI rfl) (Ext.refl _) rfl
  refine DagStepsP.cons (fun s' w' X U H => Or.inl ⟨?_, ?_⟩) ?_
  ·exact zAE rfl
  ·have e23 : s' 23 = (.pointer (some ⟨br, 2, none⟩)) := H 0 rfl 23 (.eq (.pointer (some ⟨br, 2, none⟩))) rfl (by rw [hFs4]; rfl)
   exact zAJ (zAK (v := (.slice (some ⟨ab, ao, none⟩) t.args.length ac)) e23 zAv (((X0.trans X).keep Br).cell rfl)) (Ext.refl _) rfl
  refine DagStepsP.cons (fun s' w' X U H => Or.inl ⟨?_, ?_⟩) ?_
  ·exact zAE rfl
  ·have e24 : s' 24 = (.slice (some ⟨ab, ao, none⟩) t.args.length ac) := H 1 rfl 24 (.eq (.slice (some ⟨ab, ao, none⟩) t.args.length ac)) rfl (by rw [hFs4]; rfl)
   exact zAJ (zAO (b := ab) (o := ao) (len := t.args.length) (cap := ac) (i := 0) (o' := ao + 0 * 6) e24 rfl rfl Tryz.underlying23 zAH (by omega) (by omega)) (Ext.refl _) rfl
  refine DagStepsP.cons (fun s' w' X U H => Or.inl ⟨?_, ?_⟩) ?_
  ·exact zAE rfl
  ·have e25 : s' 25 = (.pointer (some ⟨ab, ao + 0 * 6, none⟩)) := H 2 rfl 25 (.eq (.pointer (some ⟨ab, ao + 0 * 6, none⟩))) rfl (by rw [hFs4]; rfl)
   exact zAJ (zAG (vs := [(I6 x.kind), (.slice xsa x.set.length xsc), (.slice xaa x.args.length xac), (I6 x.mn), (I6 x.mx), (.bool x.neg)]) e25 zAb zAH rfl (hus.ext (Ext.trans E (X0.trans X)))) (Ext.refl _) rfl
  refine DagStepsP.cons (fun s' w' X U H => Or.inl ⟨?_, ?_⟩) ?_
  ·exact zAE rfl
  ·exact zAJ (zAK (v := (I6 c)) (U 3 rfl) zAf (((X0.trans X).keep Bu).cell rfl)) (Ext.refl _) rfl
  refine DagStepsP.cons (fun s' w' X U H => Or.inl ⟨?_, ?_⟩) ?_
  ·exact zAE rfl
  ·have e26 : s' 26 = (.agg #[(.int .i64 x.kind), (.slice xsa x.set.length xsc), (.slice xaa x.args.length xac), (.int .i64 x.mn), (.int .i64 x.mx), (.bool x.neg)]) := H 3 rfl 26 (.eq (.agg #[(.int .i64 x.kind), (.slice xsa x.set.length xsc), (.slice xaa x.args.length xac), (.int .i64 x.mn), (.int .i64 x.mx), (.bool x.neg)])) rfl (by rw [hFs4]; rfl)
   have e27 : s' 27 = (.int .i64 c) := H 4 rfl 27 (.eq (.int .i64 c)) rfl (by rw [hFs4]; rfl)
   exact zAp (zAT (vs := [(.agg (R6 x xsa xsc xaa xac)), (I6 c)]) Tryz.func74 zQK zQt (zGt e26 e27)) ((ih x _ S _ (by omega) (zDs hox) (zAc.ext (Ext.trans E (X0.trans X)) x hxt0) (fun y hy => by have := hS y hy; have := E.size; have := X0.size; have := X.size; omega)).mono (fun r w h => ⟨zBd (S' := fun b => S b ∨ w'.heap.size ≤ b) (fun b hb => by rcases hb with h1 | h1; exact .inl h1; exact .inr (by have := X0.size; have := X.size; omega)) (by rw [hD]; exact h.1), h.2⟩))
  refine DagStepsP.tail ?_
  exact DagStepsP.nil
 intro s' w4 X4 U H
 obtain ⟨xa28, xc28, ya28, yc28, e28, r28⟩ := H 5 rfl 28 (.gen (reG (fun b => S b ∨ n1 ≤ b) D) (zAy _ _)) rfl (by rw [hFs4]; rfl)
 obtain ⟨j4, rfl⟩ := zBG.out (σ := s') (l := [(4, (.pointer (some ⟨bo, 0, none⟩))), (28, (.agg #[(.int .i64 D.kind), (.slice xa28 D.set.length xc28), (.slice ya28 D.args.length yc28), (.int .i64 D.mn), (.int .i64 D.mx), (.bool D.neg)]))]) ⟨U 4 rfl, e28, trivial⟩
 clear U H
 replace Br := X4.keep Br
 replace Bu := X4.keep Bu
 replace Bo := X4.keep Bo
 replace E := E.ext X4
 refine qW (R6 D xa28 xc28 ya28 yc28) rfl rfl zAH Bo ?_
 intro w5 S5
 replace r28 := zAc.chg S5.chg (fun y hy h => by have h2 : y = bo := h; rcases hy with h1 | h1; have := hS y h1; omega; omega) _ r28
 replace Br := S5.keep (by omega) Br
 replace Bu := S5.keep (by omega) Bu
 replace E := S5.stp E
 replace Bo := S5.blk
 refine zAB (zAC (zAQ (zAI (zAY (zAI ?_)))))
 refine zAm Tryz.results74 (vs := [(.int .i64 D.kind), (.slice xa28 D.set.length xc28), (.slice ya28 D.args.length yc28), (.int .i64 D.mn), (.int .i64 D.mx), (.bool D.neg)]) (b := bo) rfl zAb zAH rfl (Bo.cells rfl) ?_
 exact ⟨⟨_, rfl, zAc.mono (fun y hy => by rcases hy with h1 | h1; exact .inl h1; exact .inr (by omega)) _ r28⟩, E⟩
set_option maxHeartbeats 2000000 in
theorem zQA (c : Int) (n : Nat) (ih : zRB c n) (t : Re) (hn : t.size ≤ n) (h300 : t.size ≤ 1000000) (x : Re) (l : List Re) (hl0 : l ≠ []) (hax : t.args = x :: l) (hox : zAq x) (hol : ∀ y ∈ l, zAq y) (hk : t.kind = 3) (w0 : World) (S : Nat → Prop) (vs : List Value) (ht : zAc S w0 t vs) (hS : ∀ x, S x → x < w0.heap.size) :
  Ret Tryz.prog 74 #[.agg vs.toArray, .int .i64 c] w0 fun r w => (∃ us, r = .agg us.toArray ∧ zAc (fun b => S b ∨ w0.heap.size ≤ b) w (zDD c t) us) ∧ Ext w0 w := by
 have ht0 := ht
 obtain ⟨sa, sc, aa, ac, rfl, hset, hlen, hargs⟩ := ht.form
 have hRs : zCJ S w0 (.slice aa t.args.length ac) t.args := zEs ht0
 have hal := zBm t
 have hszt := t.size_eq
 have hx : t.args[0]? = some x := by rw [hax]; rfl
 have hal1 : t.args.length = l.length + 1 := by rw [hax]; rfl
 have hl1 : 0 < l.length := List.length_pos_iff.2 hl0
 have hxz := Re.size_arg hx
 have hxp := x.size_pos
 have hszl : t.size = x.size + Re.sizes l + 1 := by rw [hszt, hax]; simp only [Re.sizes]
 obtain ⟨ab, ao, hab, rfl, hres⟩ := hargs.resolve_left (fun h => by rw [h] at hx; cases hx)
 obtain ⟨us, hus, hxt⟩ := hres.get hx
 have hxt0 := hxt
 obtain ⟨xsa, xsc, xaa, xac, rfl, _, _, _⟩ := hxt.form
 have hRl : zCJ S w0 (.slice (some ⟨ab, ao + 6, none⟩) l.length (ac - 1)) l := by
  refine zME (x := x) ?_
  rw [← hax]; exact hRs
 obtain ⟨R, hR⟩ : ∃ R, R = Re.mk 3 [] l 0 0 false := ⟨_, rfl⟩
 have hRx : zAc S w0 R [.int .i64 3, .slice none 0 0, .slice (some ⟨ab, ao + 6, none⟩) l.length (ac - 1), .int .i64 0, .int .i64 0, .bool false] := by rw [hR]; exact rs_mk3 hRl
 have hRr : zOt R := .inr ⟨by rw [hR]; rfl, by rw [hR]; exact hl0, by rw [hR]; exact hol⟩
 have hRz : R.size < n := by
  have : R.size = Re.sizes l + 1 := by rw [hR]; simp [Re.size]
  omega
 obtain ⟨D, hD⟩ : ∃ D, D = zDD c x := ⟨_, rfl⟩
 obtain ⟨F, hF⟩ : ∃ F, F = Re.mk 3 [] [D, R] 0 0 false := ⟨_, rfl⟩
 obtain ⟨G, hG⟩ : ∃ G, G = zDD c R := ⟨_, rfl⟩
 obtain ⟨N, hN⟩ : ∃ N, N = Re.mk 4 [] [F, G] 0 0 false := ⟨_, rfl⟩
 have hst : zDD c t = if zBg x = true then N else F := by rw [hN, hG, hF, hD, rw3 (t := R) (by rw [hR]; rfl), rw3 hk, hax, rc2 hl0, hR]; rfl
 rw [hst]
 clear hst hszt
 refine zAk Tryz.func74 rfl Tryz.ntmps74 (Nat.le_of_ble_eq_true rfl) ?_
 have E : Chg zAh w0 w0 := Chg.refl _ _
 refine zAA ?_
 refine zBL (v := (.agg (R6 t sa sc (some ⟨ab, ao, none⟩) ac))) (c := (R6 t sa sc (some ⟨ab, ao, none⟩) ac)) (by decide) rfl rfl ?_
 intro br wr Nr
 have Fr := Nr.ge E
 replace E := E.ext Nr.ext
 have Br := Nr.blk
 refine zBL (v := (I6 c)) (c := #[(I6 c)]) (by decide) rfl rfl ?_
 intro bu wu Nu
 have Fu := Nu.ge E
 have Ou_br := Nu.lt Br
 replace Br := Nu.keep Br
 replace E := E.ext Nu.ext
 have Bu := Nu.blk
 refine zBD (c := #[(I6 0), (.slice none 0 0), (.slice none 0 0), (I6 0), (I6 0), (.bool false)]) (by decide) zAs rfl ?_
 intro bo wo No
 have Fo := No.ge E
 have Oo_br := No.lt Br
 have Oo_bu := No.lt Bu
 replace Br := No.keep Br
 replace Bu := No.keep Bu
 replace E := E.ext No.ext
 have Bo := No.blk
 refine zAB (zAP (zAA ?_))
 refine qF br 0 0 rfl Tryz.underlying25 rfl zAw rfl ?_
 refine qV (zAK (v := (I6 t.kind)) rfl zAf (Br.cell rfl)) ?_
 refine zAB (zAZ (zAA ?_))
 refine qV (zAg (k := .i64) (a := t.kind) (b := 2) rfl rfl) ?_
 refine qA (.bool (decide ((t.kind : Int) = 2))) rfl ?_
 refine zAB ?_
 obtain ⟨n1, hn1⟩ : ∃ n1, n1 = wo.heap.size := ⟨_, rfl⟩
 have hob : br < n1 ∧ bo < n1 ∧ w0.heap.size ≤ bo ∧ w0.heap.size ≤ n1 := ⟨by rw [hn1]; exact Br.lt, by rw [hn1]; exact Bo.lt, by omega, by rw [hn1]; exact E.size⟩
 have hn1w : n1 ≤ wo.heap.size := by omega
 have E1 : Chg zAh wo wo := Chg.refl _ _
 have hc1 : (decide ((t.kind : Int) = 2)) = false := decide_eq_false (by omega)
 refine zAX (congrArg Value.bool hc1) ?_
 refine zAA ?_
 refine qV (zAg (k := .i64) (a := t.kind) (b := 3) rfl rfl) ?_
 refine qA (.bool (decide ((t.kind : Int) = 3))) rfl ?_
 refine zAB ?_
 have hc2 : (decide ((t.kind : Int) = 3)) = true := decide_eq_true hk
 refine zAl (congrArg Value.bool hc2) ?_
 refine zAP (zAA ?_)
 refine qF br 0 2 rfl Tryz.underlying25 rfl zBI rfl ?_
 refine qV (zAK (v := (.slice (some ⟨ab, ao, none⟩) t.args.length ac)) rfl zAv (Br.cell rfl)) ?_
 refine qV (zAV (ad := some ⟨ab, ao, none⟩) (n := t.args.length) (cap := ac) Tryz.underlying23 rfl) ?_
 refine qV (zAg (k := .i64) (a := (t.args.length : Int)) (b := 1) rfl rfl) ?_
 refine zAB ?_
 have hc3 : (decide ((((t.args.length : Nat) : Int) : Int) = 1)) = false := decide_eq_false (by omega)
 refine zAX (congrArg Value.bool hc3) ?_
 refine zAR (zAC (zAA ?_))
 refine qF br 0 2 rfl Tryz.underlying25 rfl zBI rfl ?_
 refine qV (zAK (v := (.slice (some ⟨ab, ao, none⟩) t.args.length ac)) rfl zAv (Br.cell rfl)) ?_
 obtain ⟨a31, ha31⟩ : ∃ a' : Option Addr, (if ac = 1 then (some ⟨ab, ao, none⟩) else Option.map (fun q : Addr => q.add (1 * 6)) (some ⟨ab, ao, none⟩)) = a' := ⟨_, rfl⟩
 refine qV (zDR (a := (some ⟨ab, ao, none⟩)) (len := t.args.length) (cap := ac) (lo := 1) (l := 1) (n' := l.length) (c' := ac - 1) Tryz.underlying23 zAH rfl rfl (by omega) (by omega) ha31 (by omega) (by omega)) ?_
 have ha31' : a31 = some ⟨ab, ao + 6, none⟩ := by rw [← ha31, if_neg (by omega)]; rfl
 rw [← ha31'] at hRx
 refine qV (zBW (ps := [(0, (I6 3)), (2, (.slice a31 l.length (ac - 1)))]) (v := (.agg #[(I6 3), (.slice none 0 0), (.slice a31 l.length (ac - 1)), (I6 0), (I6 0), (.bool false)])) rfl (by kernel_rfl)) ?_
 refine zAi (v := (.agg #[(I6 3), (.slice none 0 0), (.slice a31 l.length (ac - 1)), (I6 0), (I6 0), (.bool false)])) (c := #[(I6 3), (.slice none 0 0), (.slice a31 l.length (ac - 1)), (I6 0), (I6 0), (.bool false)]) (n := 6) (by decide) zAs rfl zAH rfl rfl rfl (by simp [Value.oneCell']) ?_
 intro bq wq Nq
 have Fq := Nq.ge E
 have Fq_E1 := Nq.ge E1
 have Oq_br := Nq.lt Br
 have Oq_bu := Nq.lt Bu
 have Oq_bo := Nq.lt Bo
 replace Br := Nq.keep Br
 replace Bu := Nq.keep Bu
 replace Bo := Nq.keep Bo
 replace E := E.ext Nq.ext
 have Bq := Nq.blk
 replace E1 := E1.ext Nq.ext
 refine zAB ?_
 have hz_4 : w0.heap.size ≤ wq.heap.size := E.size
 have lz_4_br : br < wq.heap.size := Br.lt
 have lz_4_bu : bu < wq.heap.size := Bu.lt
 have lz_4_bo : bo < wq.heap.size := Bo.lt
 have lz_4_bq : bq < wq.heap.size := Bq.lt
 refine zAP ?_
 obtain ⟨Fs4, hFs4⟩ : ∃ Fs : (Nat → Prop) → List Fact, Fs = fun RR => [.eq (P6 br 2), .eq (.slice (some ⟨ab, ao, none⟩) t.args.length ac), .eq (.pointer (some ⟨ab, ao + 0 * 6, none⟩)), .eq (.agg (R6 x xsa xsc xaa xac)), .eq (I6 c), .gen (reG RR D) (zAy _ _), .eq (.agg #[(I6 3), (.slice none 0 0), (.slice a31 l.length (ac - 1)), (I6 0), (I6 0), (.bool false)]), .gen (rsG RR [D, R]) (zCH _ _), .gen (reG RR (.mk 3 [] [D, R] 0 0 false)) (zAy _ _), .gen (alF 25 #[(I6 0), (.slice none 0 0), (.slice none 0 0), (I6 0), (I6 0), (.bool false)] wq.heap.size) (zFk _ _ _), .eq undef] := ⟨_, rfl⟩
 refine zJm [true, true, true, true, true, true, true, true, true, true, false] [10] 11 10 [] [33, 34, 35, 36, 37, 38, 39, 40, 41, 6, 109] [[], [0], [1], [2], [], [3, 4], [], [5, 6], [7], [], []] Fs4 hFs4 (fun b => S b ∨ n1 ≤ b) (fun y hy => .inr (by have := E1.size; omega)) 9 6 (lo := wq.heap.size) (Nat.le_refl _) rfl rfl (zRF.mk' zAs rfl) (fun RR => ⟨_, by rw [hFs4]; rfl⟩) (fun n => by rw [hFs4]; repeat (first | exact Cvs.nil | refine Cvs.same ?_ | refine Cvs.cons (fun v w e h => by first | exact zMM e h | exact zMF e h | exact zJQ e h) ?_)) mixed (by kernel_rfl) (by kernel_rfl) rfl (by kernel_rfl) (by kernel_rfl) (by kernel_rfl) ?_ ?_ (fun h9 => absurd h9 (by decide))
 ·intro wd X0 RR hRR1 hRR2
  refine DagStepsP.cons (fun s' w' X U H => Or.inl ⟨?_, ?_⟩) ?_
  ·exact zAE rfl
  ·exact zAJ (zAN (b := br) (o := 0) (o' := 2) (U 2 rfl) Tryz.underlying25 rfl zBI rfl) (Ext.refl _) rfl
  refine DagStepsP.cons (fun s' w' X U H => Or.inl ⟨?_, ?_⟩) ?_
  ·exact zAE rfl
  ·have e33 : s' 33 = (.pointer (some ⟨br, 2, none⟩)) := H 0 rfl 33 (.eq (.pointer (some ⟨br, 2, none⟩))) rfl (by rw [hFs4]; rfl)
   exact zAJ (zAK (v := (.slice (some ⟨ab, ao, none⟩) t.args.length ac)) e33 zAv (((X0.trans X).keep Br).cell rfl)) (Ext.refl _) rfl
  refine DagStepsP.cons (fun s' w' X U H => Or.inl ⟨?_, ?_⟩) ?_
  ·exact zAE rfl
  ·have e34 : s' 34 = (.slice (some ⟨ab, ao, none⟩) t.args.length ac) := H 1 rfl 34 (.eq (.slice (some ⟨ab, ao, none⟩) t.args.length ac)) rfl (by rw [hFs4]; rfl)
   exact zAJ (zAO (b := ab) (o := ao) (len := t.args.length) (cap := ac) (i := 0) (o' := ao + 0 * 6) e34 rfl rfl Tryz.underlying23 zAH (by omega) (by omega)) (Ext.refl _) rfl
  refine DagStepsP.cons (fun s' w' X U H => Or.inl ⟨?_, ?_⟩) ?_
  ·exact zAE rfl
  ·have e35 : s' 35 = (.pointer (some ⟨ab, ao + 0 * 6, none⟩)) := H 2 rfl 35 (.eq (.pointer (some ⟨ab, ao + 0 * 6, none⟩))) rfl (by rw [hFs4]; rfl)
   exact zAJ (zAG (vs := [(I6 x.kind), (.slice xsa x.set.length xsc), (.slice xaa x.args.length xac), (I6 x.mn), (I6 x.mx), (.bool x.neg)]) e35 zAb zAH rfl (hus.ext (Ext.trans E (X0.trans X)))) (Ext.refl _) rfl
  refine DagStepsP.cons (fun s' w' X U H => Or.inl ⟨?_, ?_⟩) ?_
  ·exact zAE rfl
  ·exact zAJ (zAK (v := (I6 c)) (U 3 rfl) zAf (((X0.trans X).keep Bu).cell rfl)) (Ext.refl _) rfl
  refine DagStepsP.cons (fun s' w' X U H => Or.inl ⟨?_, ?_⟩) ?_
  ·exact zAE rfl
  ·have e36 : s' 36 = (.agg #[(.int .i64 x.kind), (.slice xsa x.set.length xsc), (.slice xaa x.args.length xac), (.int .i64 x.mn), (.int .i64 x.mx), (.bool x.neg)]) := H 3 rfl 36 (.eq (.agg #[(.int .i64 x.kind), (.slice xsa x.set.length xsc), (.slice xaa x.args.length xac), (.int .i64 x.mn), (.int .i64 x.mx), (.bool x.neg)])) rfl (by rw [hFs4]; rfl)
   have e37 : s' 37 = (.int .i64 c) := H 4 rfl 37 (.eq (.int .i64 c)) rfl (by rw [hFs4]; rfl)
   exact zAp (zAT (vs := [(.agg (R6 x xsa xsc xaa xac)), (I6 c)]) Tryz.func74 zQK zQt (zGt e36 e37)) ((ih x _ S _ (by omega) (zDs hox) (zAc.ext (Ext.trans E (X0.trans X)) x hxt0) (fun y hy => by have := hS y hy; have := E.size; have := X0.size; have := X.size; omega)).mono (fun r w h => ⟨zBd (S' := fun b => S b ∨ w'.heap.size ≤ b) (fun b hb => by rcases hb with h1 | h1; exact hRR1 b (by have := hS b h1; have := E.size; omega) (.inl h1); exact hRR2 b (by have := X.size; omega)) (by rw [hD]; exact h.1), h.2⟩))
  refine DagStepsP.cons (fun s' w' X U H => Or.inl ⟨?_, ?_⟩) ?_
  ·exact zAE rfl
  ·exact zAJ (zAG (vs := [(I6 3), (.slice none 0 0), (.slice a31 l.length (ac - 1)), (I6 0), (I6 0), (.bool false)]) (U 5 rfl) zAb zAH rfl (((X0.trans X).keep Bq).cells rfl)) (Ext.refl _) rfl
  refine DagStepsP.cons (fun s' w' X U H => Or.inl ⟨?_, ?_⟩) ?_
  ·exact zAE rfl
  ·obtain ⟨xa38, xc38, ya38, yc38, e38, r38⟩ := H 5 rfl 38 (.gen (reG RR D) (zAy _ _)) rfl (by rw [hFs4]; rfl)
   have e39 : s' 39 = (.agg #[(.int .i64 3), (.slice none 0 0), (.slice a31 l.length (ac - 1)), (.int .i64 0), (.int .i64 0), (.bool false)]) := H 6 rfl 39 (.eq (.agg #[(.int .i64 3), (.slice none 0 0), (.slice a31 l.length (ac - 1)), (.int .i64 0), (.int .i64 0), (.bool false)])) rfl (by rw [hFs4]; rfl)
   exact zDl (Y := R) (sa' := none) (sc' := 0) (aa' := a31) (ac' := ac - 1) e38 (e39.trans (by rw [hR]; rfl)) r38 (zAc.mono (fun y hy => hRR1 y (by have := hS y hy; have := E.size; omega) (.inl hy)) R (by have h5 := zAc.ext (Ext.trans E (X0.trans X)) R hRx; rw [hR] at h5 ⊢; exact h5)) (fun b hb => hRR2 b (by have := X.size; omega))
  refine DagStepsP.cons (fun s' w' X U H => Or.inl ⟨?_, ?_⟩) ?_
  ·exact zAE rfl
  ·obtain ⟨b40, e40, q40⟩ := H 7 rfl 40 (.gen (rsG RR [D, R]) (zCH _ _)) rfl (by rw [hFs4]; rfl)
   exact zEf e40 q40 rfl
  refine DagStepsP.cons (fun s' w' X U H => Or.inl ⟨?_, ?_⟩) ?_
  ·exact zAE rfl
  ·exact zFn (c := #[(I6 0), (.slice none 0 0), (.slice none 0 0), (I6 0), (I6 0), (.bool false)]) zAs rfl (by have := X0.size; have := X.size; omega)
  refine DagStepsP.tail ?_
  exact DagStepsP.nil
 intro s' w4 RR β X4 U hRA hβ H
 obtain ⟨xa41, xc41, ya41, yc41, e41, r41⟩ := H 8 rfl 41 (.gen (reG RR (.mk 3 [] [D, R] 0 0 false)) (zAy _ _)) rfl (by rw [hFs4]; rfl)
 obtain ⟨b6, e6, B6, g6⟩ := H 9 rfl 6 (.gen (alF 25 #[(.int .i64 0), (.slice none 0 0), (.slice none 0 0), (.int .i64 0), (.int .i64 0), (.bool false)] wq.heap.size) (zFk _ _ _)) rfl (by rw [hFs4]; rfl)
 have hβ2 : β = b6 := by have h9 := e6.symm.trans hβ; simpa using h9.symm
 rw [hβ2] at hRA
 clear hβ hβ2 β
 obtain ⟨j4, rfl⟩ := zBG.out (σ := s') (l := [(2, (.pointer (some ⟨br, 0, none⟩))), (3, (.pointer (some ⟨bu, 0, none⟩))), (4, (.pointer (some ⟨bo, 0, none⟩))), (5, (.pointer (some ⟨bq, 0, none⟩))), (41, (.agg #[(.int .i64 3), (.slice xa41 0 xc41), (.slice ya41 2 yc41), (.int .i64 0), (.int .i64 0), (.bool false)])), (6, (.pointer (some ⟨b6, 0, none⟩)))]) ⟨U 2 rfl, U 3 rfl, U 4 rfl, U 5 rfl, e41, e6, trivial⟩
 clear U H
 replace Br := X4.keep Br
 replace Bu := X4.keep Bu
 replace Bo := X4.keep Bo
 replace Bq := X4.keep Bq
 replace E := E.ext X4
 replace E1 := E1.ext X4
 refine qW (#[(I6 3), (.slice xa41 0 xc41), (.slice ya41 2 yc41), (I6 0), (I6 0), (.bool false)]) rfl rfl zAH B6 ?_
 intro w5 S5
 replace r41 := zAc.chg S5.chg (fun y hy h => by have h2 : y = b6 := h; have := (hRA y hy).2; omega) _ r41
 replace Br := S5.keep (by omega) Br
 replace Bu := S5.keep (by omega) Bu
 replace Bo := S5.keep (by omega) Bo
 replace Bq := S5.keep (by omega) Bq
 replace E := S5.stp E
 replace E1 := S5.step E1 (Or.inl (by omega))
 replace B6 := S5.blk
 refine zAB (zAC (zAP (zAA ?_)))
 refine qF br 0 2 rfl Tryz.underlying25 rfl zBI rfl ?_
 refine qV (zAK (v := (.slice (some ⟨ab, ao, none⟩) t.args.length ac)) rfl zAv (Br.cell rfl)) ?_
 refine qV (zAO (b := ab) (o := ao) (len := t.args.length) (cap := ac) (i := 0) (o' := ao + 0 * 6) rfl rfl rfl Tryz.underlying23 zAH (by omega) (by omega)) ?_
 refine qV (zAG (vs := [(I6 x.kind), (.slice xsa x.set.length xsc), (.slice xaa x.args.length xac), (I6 x.mn), (I6 x.mx), (.bool x.neg)]) rfl zAb zAH rfl (hus.ext E)) ?_
 refine zAL rfl rfl (by decide) (zAT (vs := [(.agg (R6 x xsa xsc xaa xac))]) Tryz.func20 nm20 bd20 rfl) (zHL _ x _ (zAc.at x (zAc.ext E x hxt0)) hox) ?_
 rintro _ w40 ⟨rfl, X40⟩
 replace Br := X40.keep Br
 replace Bu := X40.keep Bu
 replace Bo := X40.keep Bo
 replace Bq := X40.keep Bq
 replace B6 := X40.keep B6
 replace r41 := zAc.ext X40 _ r41
 replace E := E.ext X40
 replace E1 := E1.ext X40
 refine qV (zCV (b := zBg x) rfl) ?_
 refine zAB ?_
 refine zAM (b := !(zBg x)) rfl (fun he => ?_) (fun he => ?_)
 ·have khe := he
  replace he := by simpa using he
  refine zAA ?_
  refine qV (zAG (vs := [(I6 3), (.slice xa41 0 xc41), (.slice ya41 2 yc41), (I6 0), (I6 0), (.bool false)]) rfl zAb zAH rfl (B6.cells rfl)) ?_
  refine qW (#[(I6 3), (.slice xa41 0 xc41), (.slice ya41 2 yc41), (I6 0), (I6 0), (.bool false)]) rfl rfl zAH Bo ?_
  intro w7 S7
  replace r41 := zAc.chg S7.chg (fun y hy h => by have h2 : y = bo := h; rcases (hRA y hy).1 with h1 | h1; have := hS y h1; omega; omega) _ r41
  replace Br := S7.keep (by omega) Br
  replace Bu := S7.keep (by omega) Bu
  replace Bq := S7.keep (by omega) Bq
  replace B6 := S7.keep (by omega) B6
  replace E := S7.stp E
  replace Bo := S7.blk
  refine zAB (zAQ (zAI (zAY (zAI ?_))))
  refine zAm Tryz.results74 (vs := [(.int .i64 3), (.slice xa41 0 xc41), (.slice ya41 2 yc41), (.int .i64 0), (.int .i64 0), (.bool false)]) (b := bo) rfl zAb zAH rfl (Bo.cells rfl) ?_
  exact ⟨⟨_, rfl, by rw [if_neg (by simpa using he), hF]; exact zAc.mono (fun y hy => by rcases (hRA y hy).1 with h1 | h1; exact .inl h1; exact .inr (by omega)) _ r41⟩, E⟩
 have khe := he
 replace he := by simpa using he
 refine zAR (zAC ?_)
 have hz_8 : w0.heap.size ≤ w40.heap.size := E.size
 have lz_8_br : br < w40.heap.size := Br.lt
 have lz_8_bu : bu < w40.heap.size := Bu.lt
 have lz_8_bo : bo < w40.heap.size := Bo.lt
 have lz_8_bq : bq < w40.heap.size := Bq.lt
 have lz_8_b6 : b6 < w40.heap.size := B6.lt
 refine zAP ?_
 obtain ⟨Fs8, hFs8⟩ : ∃ Fs : List Fact, Fs = [.eq (.agg #[(I6 3), (.slice xa41 0 xc41), (.slice ya41 2 yc41), (I6 0), (I6 0), (.bool false)]), .eq (.agg #[(I6 3), (.slice none 0 0), (.slice a31 l.length (ac - 1)), (I6 0), (I6 0), (.bool false)]), .eq (I6 c), .gen (reG (fun b => S b ∨ n1 ≤ b) G) (zAy _ _), .gen (rsG (fun b => S b ∨ n1 ≤ b) [F, G]) (zCH _ _), .gen (reG (fun b => S b ∨ n1 ≤ b) (.mk 4 [] [F, G] 0 0 false)) (zAy _ _), .eq undef] := ⟨_, rfl⟩
 refine zDo [true, true, true, true, true, true, false] [6] [49, 50, 51, 52, 53, 54, 105] [[], [], [], [1, 2], [0, 3], [4], []] Fs8 hFs8 mixed (by kernel_rfl) (by kernel_rfl) (by kernel_rfl) (by kernel_rfl) ?_ ?_
 ·intro wd X0
  refine DagStepsP.cons (fun s' w' X U H => Or.inl ⟨?_, ?_⟩) ?_
  ·exact zAE rfl
  ·exact zAJ (zAG (vs := [(I6 3), (.slice xa41 0 xc41), (.slice ya41 2 yc41), (I6 0), (I6 0), (.bool false)]) (U 6 rfl) zAb zAH rfl (((X0.trans X).keep B6).cells rfl)) (Ext.refl _) rfl
  refine DagStepsP.cons (fun s' w' X U H => Or.inl ⟨?_, ?_⟩) ?_
  ·exact zAE rfl
  ·exact zAJ (zAG (vs := [(I6 3), (.slice none 0 0), (.slice a31 l.length (ac - 1)), (I6 0), (I6 0), (.bool false)]) (U 5 rfl) zAb zAH rfl (((X0.trans X).keep Bq).cells rfl)) (Ext.refl _) rfl
  refine DagStepsP.cons (fun s' w' X U H => Or.inl ⟨?_, ?_⟩) ?_
  ·exact zAE rfl
  ·exact zAJ (zAK (v := (I6 c)) (U 3 rfl) zAf (((X0.trans X).keep Bu).cell rfl)) (Ext.refl _) rfl
  refine DagStepsP.cons (fun s' w' X U H => Or.inl ⟨?_, ?_⟩) ?_
  ·exact zAE rfl
  ·have e50 : s' 50 = (.agg #[(.int .i64 3), (.slice none 0 0), (.slice a31 l.length (ac - 1)), (.int .i64 0), (.int .i64 0), (.bool false)]) := H 1 rfl 50 (.eq (.agg #[(.int .i64 3), (.slice none 0 0), (.slice a31 l.length (ac - 1)), (.int .i64 0), (.int .i64 0), (.bool false)])) rfl (by rw [hFs8]; rfl)
   have e51 : s' 51 = (.int .i64 c) := H 2 rfl 51 (.eq (.int .i64 c)) rfl (by rw [hFs8]; rfl)
   exact zAp (zAT (vs := [(.agg #[(I6 3), (.slice none 0 0), (.slice a31 l.length (ac - 1)), (I6 0), (I6 0), (.bool false)]), (I6 c)]) Tryz.func74 zQK zQt (zGt e50 e51)) ((ih R _ S _ hRz hRr (by have h5 := zAc.ext (Ext.trans E (X0.trans X)) R hRx; exact h5) (fun y hy => by have := hS y hy; have := E.size; have := X0.size; have := X.size; omega)).mono (fun r w h => ⟨zBd (S' := fun b => S b ∨ w'.heap.size ≤ b) (fun b hb => by rcases hb with h1 | h1; exact .inl h1; exact .inr (by have := E1.size; have := X0.size; have := X.size; omega)) (by rw [hG]; exact h.1), h.2⟩))
  refine DagStepsP.cons (fun s' w' X U H => Or.inl ⟨?_, ?_⟩) ?_
  ·exact zAE rfl
  ·have e49 : s' 49 = (.agg #[(.int .i64 3), (.slice xa41 0 xc41), (.slice ya41 2 yc41), (.int .i64 0), (.int .i64 0), (.bool false)]) := H 0 rfl 49 (.eq (.agg #[(.int .i64 3), (.slice xa41 0 xc41), (.slice ya41 2 yc41), (.int .i64 0), (.int .i64 0), (.bool false)])) rfl (by rw [hFs8]; rfl)
   obtain ⟨xa52, xc52, ya52, yc52, e52, r52⟩ := H 3 rfl 52 (.gen (reG (fun b => S b ∨ n1 ≤ b) G) (zAy _ _)) rfl (by rw [hFs8]; rfl)
   exact zDl (X := F) (sa := xa41) (sc := xc41) (aa := ya41) (ac := yc41) (e49.trans (by rw [hF]; rfl)) e52 (by rw [hF]; exact zAc.mono (fun y hy => (hRA y hy).1) _ (zAc.ext (X0.trans X) _ r41)) r52 (fun b hb => .inr (by have := E1.size; have := X0.size; have := X.size; omega))
  refine DagStepsP.cons (fun s' w' X U H => Or.inl ⟨?_, ?_⟩) ?_
  ·exact zAE rfl
  ·obtain ⟨b53, e53, q53⟩ := H 4 rfl 53 (.gen (rsG (fun b => S b ∨ n1 ≤ b) [F, G]) (zCH _ _)) rfl (by rw [hFs8]; rfl)
   exact zEf e53 q53 rfl
  refine DagStepsP.tail ?_
  exact DagStepsP.nil
 intro s' w8 X8 U H
 obtain ⟨xa54, xc54, ya54, yc54, e54, r54⟩ := H 5 rfl 54 (.gen (reG (fun b => S b ∨ n1 ≤ b) (.mk 4 [] [F, G] 0 0 false)) (zAy _ _)) rfl (by rw [hFs8]; rfl)
 obtain ⟨j8, rfl⟩ := zBG.out (σ := s') (l := [(4, (.pointer (some ⟨bo, 0, none⟩))), (54, (.agg #[(.int .i64 4), (.slice xa54 0 xc54), (.slice ya54 2 yc54), (.int .i64 0), (.int .i64 0), (.bool false)]))]) ⟨U 4 rfl, e54, trivial⟩
 clear U H
 replace Br := X8.keep Br
 replace Bu := X8.keep Bu
 replace Bo := X8.keep Bo
 replace Bq := X8.keep Bq
 replace B6 := X8.keep B6
 replace E := E.ext X8
 refine qW (#[(I6 4), (.slice xa54 0 xc54), (.slice ya54 2 yc54), (I6 0), (I6 0), (.bool false)]) rfl rfl zAH Bo ?_
 intro w9 S9
 replace r54 := zAc.chg S9.chg (fun y hy h => by have h2 : y = bo := h; rcases hy with h1 | h1; have := hS y h1; omega; omega) _ r54
 replace Br := S9.keep (by omega) Br
 replace Bu := S9.keep (by omega) Bu
 replace Bq := S9.keep (by omega) Bq
 replace B6 := S9.keep (by omega) B6
 replace E := S9.stp E
 replace Bo := S9.blk
 refine zAB (zAC (zAQ (zAY (zAI ?_))))
 refine zAm Tryz.results74 (vs := [(.int .i64 4), (.slice xa54 0 xc54), (.slice ya54 2 yc54), (.int .i64 0), (.int .i64 0), (.bool false)]) (b := bo) rfl zAb zAH rfl (Bo.cells rfl) ?_
 exact ⟨⟨_, rfl, by rw [if_pos (by simpa using he), hN]; exact zAc.mono (fun y hy => by rcases hy with h1 | h1; exact .inl h1; exact .inr (by omega)) _ r54⟩, E⟩
end Go.Proofs
namespace Go.Proofs
open Go Go.Eng
set_option maxRecDepth 100000
mutual
theorem zJu (ks : List Int) : ∀ t : Re, zCk ks t = (zEZ t).any fun x => ks.contains x.kind
  | .mk k set args mn mx ng => by simp only [zCk, zEZ, List.any_cons, zIN ks args]; rfl
theorem zIN (ks : List Int) : ∀ ts : List Re, zCo ks ts = (zDv ts).any fun x => ks.contains x.kind
  | [] => rfl
  | t :: ts => by simp only [zCo, zDv, List.any_append, zJu ks t, zIN ks ts]
end
theorem zIB {α : Type} {l : List α} {k : Nat} {x : α} {f : α → Bool} (h : l[k]? = some x) : (l.take (k + 1)).any f = ((l.take k).any f || f x) := by
 rw [List.take_add_one, h, Option.toList_some, List.any_append]; simp
set_option maxHeartbeats 2000000 in
theorem has_c (w0 : World) (t : Re) (vs : List Value) (vk : Value) (ks : List Int) (ht : zBC w0 t vs) (hk : zBr w0 vk ks) (hs : t.size ≤ 1000000) (hkl : ks.length ≤ 1000) :
  Ret Tryz.prog 52 #[.agg vs.toArray, vk] w0 fun v w => v = .bool (zCk ks t) ∧ Ext w0 w := by
 have ht0 := ht
 obtain ⟨sa, sc, aa, ac, rfl, hset, hlen, hargs⟩ := ht.form
 obtain ⟨ka, kc, rfl⟩ := zCA.form hk
 simp only [List.length_map] at hk ⊢
 rw [zJu]
 refine zAk Tryz.func52 rfl Tryz.ntmps52 (Nat.le_of_ble_eq_true rfl) ?_
 have E : Chg zAh w0 w0 := Chg.refl _ _
 refine zAA ?_
 refine zBL (v := (.agg (R6 t sa sc aa ac))) (c := (R6 t sa sc aa ac)) (by decide) rfl rfl ?_
 intro b1 w1 N1
 have F1 := N1.ge E
 replace E := E.ext N1.ext
 have B1 := N1.blk
 refine qA (.bool false) rfl ?_
 refine zAB (zAP (zAA ?_))
 refine qV (zAG (vs := [(I6 t.kind), (.slice sa t.set.length sc), (.slice aa t.args.length ac), (I6 t.mn), (I6 t.mx), (.bool t.neg)]) rfl zAb zAH rfl (B1.cells rfl)) ?_
 refine zAL rfl rfl (by decide) (zAT (vs := [(.agg (R6 t sa sc aa ac)), (I6 1000000)]) Tryz.func19 nm19 bd19 rfl) (zMV _ t _ _ (zBC.ext E t ht0) (by omega)) ?_
 rintro _ w9 ⟨la, lc, rows, rfl, hsl, hrows, X9⟩
 replace B1 := X9.keep B1
 replace E := E.ext X9
 obtain ⟨L, hL⟩ : ∃ L, L = zEZ t := ⟨_, rfl⟩
 have hLl : L.length = t.size := by rw [hL, zDy]
 have htk : (zEZ t).take (1000000 : Int).toNat = L := by rw [hL]; exact List.take_of_length_le (by rw [zDy]; exact hs)
 rw [htk] at hsl hrows ⊢
 have hrows' : zBi w9 L rows := zBi.ext X9 hrows
 rw [← hL]
 have EQ : Chg zAh w9 w9 := Chg.refl _ _
 refine qV (zAV (ad := la) (n := L.length) (cap := lc) Tryz.underlying23 rfl) ?_
 refine qM (I6 0) rfl ?_
 refine zAB (zAZ ?_)
 refine zBA (fun nn_ σ W2 => ∃ (k : Nat), (∃ jj_, σ = zCl jj_ [(1, (.slice ka ks.length kc)), (10, (.slice la L.length lc)), (11, (I6 (L.length : Int))), (12, (I6 (k : Int)))]) ∧ Chg zAh w0 W2 ∧ Chg zAh w9 W2 ∧ Blk W2 b1 (R6 t sa sc aa ac) 25 ∧ (k ≤ L.length) ∧ (((L.take k).any fun x => ks.contains x.kind) = false) ∧ nn_ = L.length - k) (n := L.length - 0) ?_ ?_
 ·exact ⟨0, zBG.out ⟨rfl, rfl, rfl, rfl, trivial⟩, E, EQ, B1, Nat.zero_le _, rfl, rfl⟩
 clear E EQ B1
 rintro _ _ W2 ⟨k, ⟨j2, rfl⟩, E, EQ, B1, hk1, hp, rfl⟩
 refine zAA ?_
 refine qV (zBS (k := .i64) (a := (k : Int)) (b := (L.length : Int)) rfl rfl) ?_
 refine zAB (zAP ?_)
 refine zAM (b := decide (((k : Int) : Int) < (L.length : Int))) rfl (fun hlt => ?_) (fun hlt => ?_)
 ·have khlt := hlt
  replace hlt := of_decide_eq_true hlt
  obtain ⟨x, hx⟩ := zAa (l := L) (i := k) (by omega)
  obtain ⟨r, hr, hxr⟩ := hrows'.get hx
  obtain ⟨b, o, rfl, hcl⟩ := zCA.at hsl (by omega)
  have hcr := (hcl k r hr).ext EQ
  obtain ⟨xa, xc, ya, yc, rfl, hxset, hxlen, hxargs⟩ := hxr.form
  refine zAR (zAC (zAP (zAZ (zAA ?_))))
  refine qV (zAO (b := b) (o := o) (len := L.length) (cap := lc) (i := k) (o' := o + k * 6) rfl rfl rfl Tryz.underlying23 zAH (by omega) (by omega)) ?_
  refine qV (zAG (vs := [(I6 x.kind), (.slice xa x.set.length xc), (.slice ya x.args.length yc), (I6 x.mn), (I6 x.mx), (.bool x.neg)]) rfl zAb zAH rfl (hcr)) ?_
  refine zAi (v := (.agg (R6 x xa xc ya yc))) (c := (R6 x xa xc ya yc)) (n := 6) (by decide) zAs rfl zAH rfl rfl rfl (by simp [Value.oneCell']) ?_
  intro bu wu Nu
  have Fu := Nu.ge E
  have Fu_EQ := Nu.ge EQ
  have Ou_b1 := Nu.lt B1
  replace B1 := Nu.keep B1
  replace E := E.ext Nu.ext
  have Bu := Nu.blk
  replace EQ := EQ.ext Nu.ext
  refine zAB (zAA ?_)
  refine qM (.slice ka ks.length kc) rfl ?_
  refine qV (zAV (ad := ka) (n := ks.length) (cap := kc) Tryz.underlying26 rfl) ?_
  refine qM (I6 0) rfl ?_
  refine zAB (zAZ ?_)
  refine zBA (fun nn_ σ W4 => ∃ (j : Nat), (∃ jj_, σ = zCl jj_ [(1, (.slice ka ks.length kc)), (6, (P6 bu 0)), (10, (.slice (some ⟨b, o, none⟩) L.length lc)), (11, (I6 (L.length : Int))), (12, (I6 (k : Int))), (16, (.slice ka ks.length kc)), (17, (I6 (ks.length : Int))), (18, (I6 (j : Int)))]) ∧ Chg zAh w0 W4 ∧ Chg zAh w9 W4 ∧ Blk W4 b1 (R6 t sa sc aa ac) 25 ∧ Blk W4 bu (R6 x xa xc ya yc) 25 ∧ (j ≤ ks.length) ∧ ((ks.take j).contains x.kind = false) ∧ nn_ = ks.length - j) (n := ks.length - 0) ?_ ?_
  ·exact ⟨0, zBG.out ⟨rfl, rfl, rfl, rfl, rfl, rfl, rfl, rfl, trivial⟩, E, EQ, B1, Bu, Nat.zero_le _, rfl, rfl⟩
  clear E EQ B1 Bu
  rintro _ _ W4 ⟨j, ⟨j4, rfl⟩, E, EQ, B1, Bu, hj, hq, rfl⟩
  refine zAA ?_
  refine qV (zBS (k := .i64) (a := (j : Int)) (b := (ks.length : Int)) rfl rfl) ?_
  refine zAB (zAP ?_)
  refine zAM (b := decide (((j : Int) : Int) < (ks.length : Int))) rfl (fun hlt2 => ?_) (fun hlt2 => ?_)
  ·have khlt2 := hlt2
   replace hlt2 := of_decide_eq_true hlt2
   obtain ⟨c, hc⟩ := zAa (l := ks) (i := j) (by omega)
   obtain ⟨kb, ko, rfl, hkc⟩ := zBv hk (by omega)
   refine zAR (zAC (zAP (zAZ (zAA ?_))))
   refine qV (zAO (b := kb) (o := ko) (len := ks.length) (cap := kc) (i := j) (o' := ko + j) rfl rfl rfl Tryz.underlying26 zAw (by omega) (by omega)) ?_
   refine qV (zAK (v := (I6 c)) rfl zAf (E.cell (fun f => f) (hkc j c hc))) ?_
   refine qA (I6 c) rfl ?_
   refine zAB (zAA ?_)
   refine qF bu 0 0 rfl Tryz.underlying25 rfl zAw rfl ?_
   refine qV (zAK (v := (I6 x.kind)) rfl zAf (Bu.cell rfl)) ?_
   refine qM (I6 c) rfl ?_
   refine qV (zAg (k := .i64) (a := x.kind) (b := c) rfl rfl) ?_
   refine zAB ?_
   refine zAM (b := decide ((x.kind : Int) = c)) rfl (fun he => ?_) (fun he => ?_)
   ·have khe := he
    replace he := of_decide_eq_true he
    refine zAA ?_
    refine qA (.bool true) rfl ?_
    refine zAB (zAQ (zAY (zAI (zAI (zAY (zAY (zAI (zAI (zAY (zAI ?_))))))))))
    refine zAS Tryz.results52 (v := (.bool true)) rfl ?_
    exact ⟨by rw [List.any_eq_true.2 ⟨x, List.mem_of_getElem? hx, by rw [List.contains_iff_mem, he]; exact List.mem_of_getElem? hc⟩], E⟩
   have khe := he
   replace he := of_decide_eq_false he
   refine zAR (zAU (zAC (zAW ?_)))
   refine qV (zBQ (k := .i64) (a := (j : Int)) (b := 1) (c := (j : Int) + 1) rfl rfl (zBs (by omega))) ?_
   refine qM (I6 ((j : Int) + 1)) rfl ?_
   refine zAB (zAC ?_)
   exact ⟨ks.length - (j + 1), by omega, j + 1, zBG.out ⟨rfl, rfl, rfl, rfl, rfl, rfl, rfl, rfl, trivial⟩, E, EQ, B1, Bu, (by omega), (by rw [List.take_add_one, hc, Option.toList_some]; rw [Bool.eq_false_iff, ne_eq, List.contains_iff_mem] at hq ⊢; intro h; rcases List.mem_append.1 h with h | h; exact hq h; exact he (by simpa using h)), rfl⟩
  have khlt2 := hlt2
  replace hlt2 := of_decide_eq_false hlt2
  have hjj : ks.take j = ks := List.take_of_length_le (by omega)
  rw [hjj] at hq
  refine zBB (zAe (zAe (zAr (zAU (zAC (zAW ?_))))))
  refine qV (zBQ (k := .i64) (a := (k : Int)) (b := 1) (c := (k : Int) + 1) rfl rfl (zBs (by omega))) ?_
  refine qM (I6 ((k : Int) + 1)) rfl ?_
  refine zAB (zAC ?_)
  exact ⟨L.length - (k + 1), by omega, k + 1, zBG.out ⟨rfl, rfl, rfl, rfl, trivial⟩, E, EQ, B1, (by omega), (by rw [zIB hx, hp, hq]; rfl), rfl⟩
 have khlt := hlt
 replace hlt := of_decide_eq_false hlt
 have hkk : L.take k = L := List.take_of_length_le (by omega)
 rw [hkk] at hp
 refine zBB (zAe (zAe (zAr (zAC (zAA ?_)))))
 refine qA (.bool false) rfl ?_
 refine zAB (zAQ ?_)
 refine zAS Tryz.results52 (v := (.bool false)) rfl ?_
 exact ⟨by rw [hp], E⟩
end Go.Proofs
namespace Go.Proofs
open Go Go.Eng Go.Sort
set_option maxRecDepth 100000
theorem pre6 {m x : Int} (y : Re) (h : 0 ≤ m ∧ m ≤ x ∧ x ≤ 8) : PreN 6 [] [y] m x false := ⟨by omega, rfl, fun _ => rfl, by omega, by omega, by omega, fun _ => rfl, fun _ => h⟩
set_option maxHeartbeats 2000000 in
theorem zPa (c : Int) (n : Nat) (ih : zEx c n) (t : Re) (hn : t.size ≤ n) (h300 : t.size ≤ 300) (hok : zAq t) (hk : t.kind = 6) (w0 : World) (S : Nat → Prop) (vs : List Value) (ht : zAc S w0 t vs) (hS : ∀ x, S x → x < w0.heap.size) :
  Ret Tryz.prog 60 #[.agg vs.toArray, .int .i64 c] w0 fun r w => (∃ us, r = .agg us.toArray ∧ zAc (fun b => S b ∨ w0.heap.size ≤ b) w (zBK c t) us) ∧ Ext w0 w := by
 have ht0 := ht
 obtain ⟨sa, sc, aa, ac, rfl, hset, hlen, hargs⟩ := ht.form
 have hRs : zCJ S w0 (.slice aa t.args.length ac) t.args := zEs ht0
 have hal := zBm t
 have hszt := t.size_eq
 obtain ⟨x, hax, hx01, hx02, hm1, hm2, hm3, hm4, hm5⟩ := hok.n.k6 hk
 have hox : zAq x := hok.a x (by rw [hax]; simp)
 have hx : t.args[0]? = some x := by rw [hax]; rfl
 have hal1 : t.args.length = 1 := by rw [hax]; rfl
 have hxz := Re.size_arg hx
 obtain ⟨ab, ao, hab, rfl, hres⟩ := hargs.resolve_left (fun h => by rw [h] at hx; cases hx)
 obtain ⟨us, hus, hxt⟩ := hres.get hx
 have hxt0 := hxt
 obtain ⟨xsa, xsc, xaa, xac, rfl, _, _, _⟩ := hxt.form
 obtain ⟨m1, hmm⟩ : ∃ m1, m1 = max 0 (t.mn - 1) := ⟨_, rfl⟩
 obtain ⟨x1, hx1⟩ : ∃ x1, x1 = t.mx - 1 := ⟨_, rfl⟩
 obtain ⟨R, hR⟩ : ∃ R, R = zCt (.mk 6 [] [x] m1 x1 false) := ⟨_, rfl⟩
 have hp6 : PreN 6 [] [x] m1 x1 false := pre6 x (by omega)
 have hRo : zAq R := by rw [hR]; exact zFc hp6 (by intro z hz; simp at hz; subst hz; exact hox)
 have hRz : R.size ≤ 400 := by
  have h4 := zDw (k := 6) (s := []) (a := [x]) (m := m1) (x := x1) (g := false) (by omega) (by omega)
  rw [hR, zDi]
  simp only [Re.sizes] at h4
  simp only [Re.kind, Re.set, Re.args, Re.mn, Re.mx, Re.neg]
  omega
 obtain ⟨D, hD⟩ : ∃ D, D = zBK c x := ⟨_, rfl⟩
 obtain ⟨F, hF⟩ : ∃ F, F = zEd [D, R] := ⟨_, rfl⟩
 have hDo : zAq D := by rw [hD]; exact zDN c hox
 have hDz : D.size ≤ 200000 := by rw [hD]; exact zCY hox (by omega)
 have hst : zBK c t = F := by rw [hF, hD, hR, hmm, hx1]; exact st6 hk hax
 rw [hst]
 clear hst hszt
 refine zAk Tryz.func60 rfl Tryz.ntmps60 (Nat.le_of_ble_eq_true rfl) ?_
 have E : Chg zAh w0 w0 := Chg.refl _ _
 refine zAA ?_
 refine zBL (v := (.agg (R6 t sa sc (some ⟨ab, ao, none⟩) ac))) (c := (R6 t sa sc (some ⟨ab, ao, none⟩) ac)) (by decide) rfl rfl ?_
 intro br wr Nr
 have Fr := Nr.ge E
 replace E := E.ext Nr.ext
 have Br := Nr.blk
 refine zBD (c := #[(I6 0), (.slice none 0 0), (.slice none 0 0), (I6 0), (I6 0), (.bool false)]) (by decide) zAs rfl ?_
 intro bo wo No
 have Fo := No.ge E
 have Oo_br := No.lt Br
 replace Br := No.keep Br
 replace E := E.ext No.ext
 have Bo := No.blk
 refine zAB (zAP (zAA ?_))
 refine qF br 0 0 rfl Tryz.underlying25 rfl zAw rfl ?_
 refine qV (zAK (v := (I6 t.kind)) rfl zAf (Br.cell rfl)) ?_
 refine zAB (zAZ (zAA ?_))
 refine qV (zAg (k := .i64) (a := t.kind) (b := 2) rfl rfl) ?_
 refine qA (.bool (decide ((t.kind : Int) = 2))) rfl ?_
 refine zAB ?_
 obtain ⟨n1, hn1⟩ : ∃ n1, n1 = wo.heap.size := ⟨_, rfl⟩
 have hob : br < n1 ∧ bo < n1 ∧ w0.heap.size ≤ bo ∧ w0.heap.size ≤ n1 := ⟨by rw [hn1]; exact Br.lt, by rw [hn1]; exact Bo.lt, by omega, by rw [hn1]; exact E.size⟩
 have hn1w : n1 ≤ wo.heap.size := by omega
 have hc1 : (decide ((t.kind : Int) = 2)) = false := decide_eq_false (by omega)
 refine zAX (congrArg Value.bool hc1) ?_
 refine zAA ?_
 refine qV (zAg (k := .i64) (a := t.kind) (b := 3) rfl rfl) ?_
 refine qA (.bool (decide ((t.kind : Int) = 3))) rfl ?_
 refine zAB ?_
 have hc2 : (decide ((t.kind : Int) = 3)) = false := decide_eq_false (by omega)
 refine zAX (congrArg Value.bool hc2) ?_
 refine zAP (zAA ?_)
 refine qV (zAg (k := .i64) (a := t.kind) (b := 4) rfl rfl) ?_
 refine qA (.bool (decide ((t.kind : Int) = 4))) rfl ?_
 refine zAB ?_
 have hc3 : (decide ((t.kind : Int) = 4)) = false := decide_eq_false (by omega)
 refine zAX (congrArg Value.bool hc3) ?_
 refine zAA ?_
 refine qV (zAg (k := .i64) (a := t.kind) (b := 7) rfl rfl) ?_
 refine qA (.bool (decide ((t.kind : Int) = 7))) rfl ?_
 refine zAB ?_
 have hc4 : (decide ((t.kind : Int) = 7)) = false := decide_eq_false (by omega)
 refine zAX (congrArg Value.bool hc4) ?_
 refine zAW ?_
 refine qV (zAg (k := .i64) (a := t.kind) (b := 8) rfl rfl) ?_
 refine qA (.bool (decide ((t.kind : Int) = 8))) rfl ?_
 refine zAB (zAC ?_)
 have hc5 : (decide ((t.kind : Int) = 8)) = false := decide_eq_false (by omega)
 refine zAX (congrArg Value.bool hc5) ?_
 refine zAA ?_
 refine qV (zAg (k := .i64) (a := t.kind) (b := 5) rfl rfl) ?_
 refine qA (.bool (decide ((t.kind : Int) = 5))) rfl ?_
 refine zAB ?_
 have hc6 : (decide ((t.kind : Int) = 5)) = false := decide_eq_false (by omega)
 refine zAX (congrArg Value.bool hc6) ?_
 refine zAA ?_
 refine qV (zAg (k := .i64) (a := t.kind) (b := 6) rfl rfl) ?_
 refine qA (.bool (decide ((t.kind : Int) = 6))) rfl ?_
 refine zAB ?_
 have hc7 : (decide ((t.kind : Int) = 6)) = true := decide_eq_true hk
 refine zAl (congrArg Value.bool hc7) ?_
 have hz_8 : w0.heap.size ≤ wo.heap.size := E.size
 have lz_8_br : br < wo.heap.size := Br.lt
 have lz_8_bo : bo < wo.heap.size := Bo.lt
 refine zAP ?_
 obtain ⟨Fs8, hFs8⟩ : ∃ Fs : (Nat → Prop) → List Fact, Fs = fun RR => [.eq (P6 br 2), .eq (.slice (some ⟨ab, ao, none⟩) t.args.length ac), .eq (.pointer (some ⟨ab, ao + 0 * 6, none⟩)), .eq (.agg (R6 x xsa xsc xaa xac)), .gen (rsG RR [x]) (zCH _ _), .eq (P6 br 3), .eq (I6 t.mn), .eq (I6 (t.mn - 1)), .eq (I6 m1), .eq (P6 br 4), .eq (I6 t.mx), .eq (I6 (t.mx - 1)), .gen (reG RR (.mk 6 [] [x] m1 x1 false)) (zAy _ _), .gen (reG RR R) (zAy _ _), .gen (alF 25 #[(I6 0), (.slice none 0 0), (.slice none 0 0), (I6 0), (I6 0), (.bool false)] wo.heap.size) (zFk _ _ _), .eq undef] := ⟨_, rfl⟩
 refine zJm [true, true, true, true, true, true, true, true, true, true, true, true, true, true, true, false] [15] 16 15 [] [86, 87, 88, 89, 90, 91, 92, 93, 94, 95, 96, 97, 98, 99, 10, 125] [[], [0], [1], [2], [3], [], [5], [6], [7], [], [9], [10], [4, 8, 11], [12], [], []] Fs8 hFs8 (fun b => S b ∨ n1 ≤ b) (fun y hy => .inr (by omega)) 14 10 (lo := wo.heap.size) (Nat.le_refl _) rfl rfl (zRF.mk' zAs rfl) (fun RR => ⟨_, by rw [hFs8]; rfl⟩) (fun n => by rw [hFs8]; repeat (first | exact Cvs.nil | refine Cvs.same ?_ | refine Cvs.cons (fun v w e h => by first | exact zMM e h | exact zMF e h | exact zJQ e h) ?_)) mixed (by kernel_rfl) (by kernel_rfl) rfl (by kernel_rfl) (by kernel_rfl) (by kernel_rfl) ?_ ?_ (fun h9 => absurd h9 (by decide))
 ·intro wd X0 RR hRR1 hRR2
  refine DagStepsP.cons (fun s' w' X U H => Or.inl ⟨?_, ?_⟩) ?_
  ·exact zAE rfl
  ·exact zAJ (zAN (b := br) (o := 0) (o' := 2) (U 2 rfl) Tryz.underlying25 rfl zBI rfl) (Ext.refl _) rfl
  refine DagStepsP.cons (fun s' w' X U H => Or.inl ⟨?_, ?_⟩) ?_
  ·exact zAE rfl
  ·have e86 : s' 86 = (.pointer (some ⟨br, 2, none⟩)) := H 0 rfl 86 (.eq (.pointer (some ⟨br, 2, none⟩))) rfl (by rw [hFs8]; rfl)
   exact zAJ (zAK (v := (.slice (some ⟨ab, ao, none⟩) t.args.length ac)) e86 zAv (((X0.trans X).keep Br).cell rfl)) (Ext.refl _) rfl
  refine DagStepsP.cons (fun s' w' X U H => Or.inl ⟨?_, ?_⟩) ?_
  ·exact zAE rfl
  ·have e87 : s' 87 = (.slice (some ⟨ab, ao, none⟩) t.args.length ac) := H 1 rfl 87 (.eq (.slice (some ⟨ab, ao, none⟩) t.args.length ac)) rfl (by rw [hFs8]; rfl)
   exact zAJ (zAO (b := ab) (o := ao) (len := t.args.length) (cap := ac) (i := 0) (o' := ao + 0 * 6) e87 rfl rfl Tryz.underlying23 zAH (by omega) (by omega)) (Ext.refl _) rfl
  refine DagStepsP.cons (fun s' w' X U H => Or.inl ⟨?_, ?_⟩) ?_
  ·exact zAE rfl
  ·have e88 : s' 88 = (.pointer (some ⟨ab, ao + 0 * 6, none⟩)) := H 2 rfl 88 (.eq (.pointer (some ⟨ab, ao + 0 * 6, none⟩))) rfl (by rw [hFs8]; rfl)
   exact zAJ (zAG (vs := [(I6 x.kind), (.slice xsa x.set.length xsc), (.slice xaa x.args.length xac), (I6 x.mn), (I6 x.mx), (.bool x.neg)]) e88 zAb zAH rfl (hus.ext (Ext.trans E (X0.trans X)))) (Ext.refl _) rfl
  refine DagStepsP.cons (fun s' w' X U H => Or.inl ⟨?_, ?_⟩) ?_
  ·exact zAE rfl
  ·have e89 : s' 89 = (.agg #[(.int .i64 x.kind), (.slice xsa x.set.length xsc), (.slice xaa x.args.length xac), (.int .i64 x.mn), (.int .i64 x.mx), (.bool x.neg)]) := H 3 rfl 89 (.eq (.agg #[(.int .i64 x.kind), (.slice xsa x.set.length xsc), (.slice xaa x.args.length xac), (.int .i64 x.mn), (.int .i64 x.mx), (.bool x.neg)])) rfl (by rw [hFs8]; rfl)
   exact zNd e89 (zAc.mono (fun y hy => hRR1 y (by have := hS y hy; have := E.size; omega) (.inl hy)) x (zAc.ext (Ext.trans E (X0.trans X)) x hxt0)) (fun b hb => hRR2 b (by have := X.size; omega))
  refine DagStepsP.cons (fun s' w' X U H => Or.inl ⟨?_, ?_⟩) ?_
  ·exact zAE rfl
  ·exact zAJ (zAN (b := br) (o := 0) (o' := 3) (U 2 rfl) Tryz.underlying25 rfl zAw rfl) (Ext.refl _) rfl
  refine DagStepsP.cons (fun s' w' X U H => Or.inl ⟨?_, ?_⟩) ?_
  ·exact zAE rfl
  ·have e91 : s' 91 = (.pointer (some ⟨br, 3, none⟩)) := H 5 rfl 91 (.eq (.pointer (some ⟨br, 3, none⟩))) rfl (by rw [hFs8]; rfl)
   exact zAJ (zAK (v := (I6 t.mn)) e91 zAf (((X0.trans X).keep Br).cell rfl)) (Ext.refl _) rfl
  refine DagStepsP.cons (fun s' w' X U H => Or.inl ⟨?_, ?_⟩) ?_
  ·exact zAE rfl
  ·have e92 : s' 92 = (.int .i64 t.mn) := H 6 rfl 92 (.eq (.int .i64 t.mn)) rfl (by rw [hFs8]; rfl)
   exact zAJ (zEh (k := .i64) (a := t.mn) (b := 1) (c := t.mn - 1) e92 rfl (zBs (by omega))) (Ext.refl _) rfl
  refine DagStepsP.cons (fun s' w' X U H => Or.inl ⟨?_, ?_⟩) ?_
  ·exact zAE rfl
  ·have e93 : s' 93 = (.int .i64 (t.mn - 1)) := H 7 rfl 93 (.eq (.int .i64 (t.mn - 1))) rfl (by rw [hFs8]; rfl)
   exact zAJ (zPC (k := .i64) (c := m1) rfl e93 hmm.symm) (Ext.refl _) rfl
  refine DagStepsP.cons (fun s' w' X U H => Or.inl ⟨?_, ?_⟩) ?_
  ·exact zAE rfl
  ·exact zAJ (zAN (b := br) (o := 0) (o' := 4) (U 2 rfl) Tryz.underlying25 rfl zAw rfl) (Ext.refl _) rfl
  refine DagStepsP.cons (fun s' w' X U H => Or.inl ⟨?_, ?_⟩) ?_
  ·exact zAE rfl
  ·have e95 : s' 95 = (.pointer (some ⟨br, 4, none⟩)) := H 9 rfl 95 (.eq (.pointer (some ⟨br, 4, none⟩))) rfl (by rw [hFs8]; rfl)
   exact zAJ (zAK (v := (I6 t.mx)) e95 zAf (((X0.trans X).keep Br).cell rfl)) (Ext.refl _) rfl
  refine DagStepsP.cons (fun s' w' X U H => Or.inl ⟨?_, ?_⟩) ?_
  ·exact zAE rfl
  ·have e96 : s' 96 = (.int .i64 t.mx) := H 10 rfl 96 (.eq (.int .i64 t.mx)) rfl (by rw [hFs8]; rfl)
   exact zAJ (zEh (k := .i64) (a := t.mx) (b := 1) (c := t.mx - 1) e96 rfl (zBs (by omega))) (Ext.refl _) rfl
  refine DagStepsP.cons (fun s' w' X U H => Or.inl ⟨?_, ?_⟩) ?_
  ·exact zAE rfl
  ·obtain ⟨b90, e90, q90⟩ := H 4 rfl 90 (.gen (rsG RR [x]) (zCH _ _)) rfl (by rw [hFs8]; rfl)
   have e94 : s' 94 = (.int .i64 m1) := H 8 rfl 94 (.eq (.int .i64 m1)) rfl (by rw [hFs8]; rfl)
   have e97 : s' 97 = (.int .i64 (t.mx - 1)) := H 11 rfl 97 (.eq (.int .i64 (t.mx - 1))) rfl (by rw [hFs8]; rfl)
   exact zLb e90 e94 (e97.trans (by rw [hx1])) q90 rfl
  refine DagStepsP.cons (fun s' w' X U H => Or.inl ⟨?_, ?_⟩) ?_
  ·exact zAE rfl
  ·obtain ⟨xa98, xc98, ya98, yc98, e98, r98⟩ := H 12 rfl 98 (.gen (reG RR (.mk 6 [] [x] m1 x1 false)) (zAy _ _)) rfl (by rw [hFs8]; rfl)
   exact zAp (zAT (vs := [(.agg #[(I6 6), (.slice xa98 0 xc98), (.slice ya98 1 yc98), (I6 m1), (I6 x1), (.bool false)])]) Tryz.func115 zOE zOp (zLg e98)) ((zHx _ (fun b => RR b ∧ b < w'.heap.size) (.mk 6 [] [x] m1 x1 false) _ (zAc.lt _ r98) (fun y hy => hy.2) hp6 (fun y hy => by simp only [Re.args, List.mem_cons, List.not_mem_nil, or_false] at hy; subst hy; exact hox) (by simp only [Re.args, Re.sizes]; omega)).mono (fun r w h => ⟨zBd (S' := fun b => (RR b ∧ b < w'.heap.size) ∨ w'.heap.size ≤ b) (fun b hb => by rcases hb with h1 | h1; exact h1.1; exact hRR2 b (by have := X.size; omega)) (by rw [hR]; exact h.1), h.2⟩))
  refine DagStepsP.cons (fun s' w' X U H => Or.inl ⟨?_, ?_⟩) ?_
  ·exact zAE rfl
  ·exact zFn (c := #[(I6 0), (.slice none 0 0), (.slice none 0 0), (I6 0), (I6 0), (.bool false)]) zAs rfl (by have := X0.size; have := X.size; omega)
  refine DagStepsP.tail ?_
  exact DagStepsP.nil
 intro s' w8 RR β X8 U hRA hβ H
 obtain ⟨xa99, xc99, ya99, yc99, e99, r99⟩ := H 13 rfl 99 (.gen (reG RR R) (zAy _ _)) rfl (by rw [hFs8]; rfl)
 obtain ⟨b10, e10, B10, g10⟩ := H 14 rfl 10 (.gen (alF 25 #[(.int .i64 0), (.slice none 0 0), (.slice none 0 0), (.int .i64 0), (.int .i64 0), (.bool false)] wo.heap.size) (zFk _ _ _)) rfl (by rw [hFs8]; rfl)
 have hβ2 : β = b10 := by have h9 := e10.symm.trans hβ; simpa using h9.symm
 rw [hβ2] at hRA
 clear hβ hβ2 β
 obtain ⟨j8, rfl⟩ := zBG.out (σ := s') (l := [(1, (.int .i64 c)), (2, (.pointer (some ⟨br, 0, none⟩))), (4, (.pointer (some ⟨bo, 0, none⟩))), (99, (.agg #[(.int .i64 R.kind), (.slice xa99 R.set.length xc99), (.slice ya99 R.args.length yc99), (.int .i64 R.mn), (.int .i64 R.mx), (.bool R.neg)])), (10, (.pointer (some ⟨b10, 0, none⟩)))]) ⟨U 1 rfl, U 2 rfl, U 4 rfl, e99, e10, trivial⟩
 clear U H
 replace Br := X8.keep Br
 replace Bo := X8.keep Bo
 replace E := E.ext X8
 refine qW (R6 R xa99 xc99 ya99 yc99) rfl rfl zAH B10 ?_
 intro w9 S9
 replace r99 := zAc.chg S9.chg (fun y hy h => by have h2 : y = b10 := h; have := (hRA y hy).2; omega) _ r99
 replace Br := S9.keep (by omega) Br
 replace Bo := S9.keep (by omega) Bo
 replace E := S9.stp E
 replace B10 := S9.blk
 refine zAB (zAC ?_)
 have hz_10 : w0.heap.size ≤ w9.heap.size := E.size
 have lz_10_br : br < w9.heap.size := Br.lt
 have lz_10_bo : bo < w9.heap.size := Bo.lt
 have lz_10_b10 : b10 < w9.heap.size := B10.lt
 refine zAP ?_
 obtain ⟨Fs10, hFs10⟩ : ∃ Fs : List Fact, Fs = [.eq (P6 br 2), .eq (.slice (some ⟨ab, ao, none⟩) t.args.length ac), .eq (.pointer (some ⟨ab, ao + 0 * 6, none⟩)), .eq (.agg (R6 x xsa xsc xaa xac)), .eq (I6 c), .gen (reG (fun b => S b ∨ n1 ≤ b) D) (zAy _ _), .eq (.agg (R6 R xa99 xc99 ya99 yc99)), .gen (rsG (fun b => S b ∨ n1 ≤ b) [D, R]) (zCH _ _), .gen (reG (fun b => S b ∨ n1 ≤ b) F) (zAy _ _), .eq undef] := ⟨_, rfl⟩
 refine zDo [true, true, true, true, true, true, true, true, true, false] [9] [100, 101, 102, 103, 104, 105, 106, 107, 108, 119] [[], [0], [1], [2], [], [3, 4], [], [5, 6], [5, 7], []] Fs10 hFs10 mixed (by kernel_rfl) (by kernel_rfl) (by kernel_rfl) (by kernel_rfl) ?_ ?_
 ·intro wd X0
  refine DagStepsP.cons (fun s' w' X U H => Or.inl ⟨?_, ?_⟩) ?_
  ·exact zAE rfl
  ·exact zAJ (zAN (b := br) (o := 0) (o' := 2) (U 2 rfl) Tryz.underlying25 rfl zBI rfl) (Ext.refl _) rfl
  refine DagStepsP.cons (fun s' w' X U H => Or.inl ⟨?_, ?_⟩) ?_
  ·exact zAE rfl
  ·have e100 : s' 100 = (.pointer (some ⟨br, 2, none⟩)) := H 0 rfl 100 (.eq (.pointer (some ⟨br, 2, none⟩))) rfl (by rw [hFs10]; rfl)
   exact zAJ (zAK (v := (.slice (some ⟨ab, ao, none⟩) t.args.length ac)) e100 zAv (((X0.trans X).keep Br).cell rfl)) (Ext.refl _) rfl
  refine DagStepsP.cons (fun s' w' X U H => Or.inl ⟨?_, ?_⟩) ?_
  ·exact zAE rfl
  ·have e101 : s' 101 = (.slice (some ⟨ab, ao, none⟩) t.args.length ac) := H 1 rfl 101 (.eq (.slice (some ⟨ab, ao, none⟩) t.args.length ac)) rfl (by rw [hFs10]; rfl)
   exact zAJ (zAO (b := ab) (o := ao) (len := t.args.length) (cap := ac) (i := 0) (o' := ao + 0 * 6) e101 rfl rfl Tryz.underlying23 zAH (by omega) (by omega)) (Ext.refl _) rfl
  refine DagStepsP.cons (fun s' w' X U H => Or.inl ⟨?_, ?_⟩) ?_
  ·exact zAE rfl
  ·have e102 : s' 102 = (.pointer (some ⟨ab, ao + 0 * 6, none⟩)) := H 2 rfl 102 (.eq (.pointer (some ⟨ab, ao + 0 * 6, none⟩))) rfl (by rw [hFs10]; rfl)
   exact zAJ (zAG (vs := [(I6 x.kind), (.slice xsa x.set.length xsc), (.slice xaa x.args.length xac), (I6 x.mn), (I6 x.mx), (.bool x.neg)]) e102 zAb zAH rfl (hus.ext (Ext.trans E (X0.trans X)))) (Ext.refl _) rfl
  refine DagStepsP.cons (fun s' w' X U H => Or.inl ⟨?_, ?_⟩) ?_
  ·exact zAE rfl
  ·exact zAJ (zAn (v := (I6 c)) (U 1 rfl)) (Ext.refl _) rfl
  refine DagStepsP.cons (fun s' w' X U H => Or.inl ⟨?_, ?_⟩) ?_
  ·exact zAE rfl
  ·have e103 : s' 103 = (.agg #[(.int .i64 x.kind), (.slice xsa x.set.length xsc), (.slice xaa x.args.length xac), (.int .i64 x.mn), (.int .i64 x.mx), (.bool x.neg)]) := H 3 rfl 103 (.eq (.agg #[(.int .i64 x.kind), (.slice xsa x.set.length xsc), (.slice xaa x.args.length xac), (.int .i64 x.mn), (.int .i64 x.mx), (.bool x.neg)])) rfl (by rw [hFs10]; rfl)
   have e104 : s' 104 = (.int .i64 c) := H 4 rfl 104 (.eq (.int .i64 c)) rfl (by rw [hFs10]; rfl)
   exact zAp (zAT (vs := [(.agg (R6 x xsa xsc xaa xac)), (I6 c)]) Tryz.func60 zQL zQu (zGt e103 e104)) ((ih x _ S _ (by omega) hox (zAc.ext (Ext.trans E (X0.trans X)) x hxt0) (fun y hy => by have := hS y hy; have := E.size; have := X0.size; have := X.size; omega)).mono (fun r w h => ⟨zBd (S' := fun b => S b ∨ w'.heap.size ≤ b) (fun b hb => by rcases hb with h1 | h1; exact .inl h1; exact .inr (by have := E.size; have := X0.size; have := X.size; omega)) (by rw [hD]; exact h.1), h.2⟩))
  refine DagStepsP.cons (fun s' w' X U H => Or.inl ⟨?_, ?_⟩) ?_
  ·exact zAE rfl
  ·exact zAJ (zAG (vs := [(I6 R.kind), (.slice xa99 R.set.length xc99), (.slice ya99 R.args.length yc99), (I6 R.mn), (I6 R.mx), (.bool R.neg)]) (U 10 rfl) zAb zAH rfl (((X0.trans X).keep B10).cells rfl)) (Ext.refl _) rfl
  refine DagStepsP.cons (fun s' w' X U H => Or.inl ⟨?_, ?_⟩) ?_
  ·exact zAE rfl
  ·obtain ⟨xa105, xc105, ya105, yc105, e105, r105⟩ := H 5 rfl 105 (.gen (reG (fun b => S b ∨ n1 ≤ b) D) (zAy _ _)) rfl (by rw [hFs10]; rfl)
   have e106 : s' 106 = (.agg #[(.int .i64 R.kind), (.slice xa99 R.set.length xc99), (.slice ya99 R.args.length yc99), (.int .i64 R.mn), (.int .i64 R.mx), (.bool R.neg)]) := H 6 rfl 106 (.eq (.agg #[(.int .i64 R.kind), (.slice xa99 R.set.length xc99), (.slice ya99 R.args.length yc99), (.int .i64 R.mn), (.int .i64 R.mx), (.bool R.neg)])) rfl (by rw [hFs10]; rfl)
   exact zDl e105 e106 r105 (zAc.mono (fun y hy => (hRA y hy).1) R (zAc.ext (X0.trans X) R r99)) (fun b hb => .inr (by have := E.size; have := X0.size; have := X.size; omega))
  refine DagStepsP.cons (fun s' w' X U H => Or.inl ⟨?_, ?_⟩) ?_
  ·exact zAE rfl
  ·obtain ⟨b107, e107, q107⟩ := H 7 rfl 107 (.gen (rsG (fun b => S b ∨ n1 ≤ b) [D, R]) (zCH _ _)) rfl (by rw [hFs10]; rfl)
   exact zAp (zAT (vs := [(.slice (some ⟨b107, 0, none⟩) 2 2)]) Tryz.func118 zMg zNa (zLg e107)) ((zIy _ (fun b => (S b ∨ n1 ≤ b) ∧ b < w'.heap.size) _ [D, R] (zCJ.lt q107) (fun y hy => hy.2) (fun y hm hk => by rcases List.mem_cons.1 hm with rfl | hm; exact (zBk hDo).1 (.inl hk); simp at hm; subst hm; exact (zBk hRo).1 (.inl hk)) (by simp only [Re.sizes]; omega)).mono (fun r w h => ⟨zBd (S' := fun b => ((S b ∨ n1 ≤ b) ∧ b < w'.heap.size) ∨ w'.heap.size ≤ b) (fun b hb => by rcases hb with h1 | h1; exact h1.1; exact .inr (by have := E.size; have := X0.size; have := X.size; omega)) (by rw [hF]; exact h.1), h.2⟩))
  refine DagStepsP.tail ?_
  exact DagStepsP.nil
 intro s' w10 X10 U H
 obtain ⟨xa108, xc108, ya108, yc108, e108, r108⟩ := H 8 rfl 108 (.gen (reG (fun b => S b ∨ n1 ≤ b) F) (zAy _ _)) rfl (by rw [hFs10]; rfl)
 obtain ⟨j10, rfl⟩ := zBG.out (σ := s') (l := [(4, (.pointer (some ⟨bo, 0, none⟩))), (108, (.agg #[(.int .i64 F.kind), (.slice xa108 F.set.length xc108), (.slice ya108 F.args.length yc108), (.int .i64 F.mn), (.int .i64 F.mx), (.bool F.neg)]))]) ⟨U 4 rfl, e108, trivial⟩
 clear U H
 replace Br := X10.keep Br
 replace Bo := X10.keep Bo
 replace B10 := X10.keep B10
 replace E := E.ext X10
 refine qW (R6 F xa108 xc108 ya108 yc108) rfl rfl zAH Bo ?_
 intro w11 S11
 replace r108 := zAc.chg S11.chg (fun y hy h => by have h2 : y = bo := h; rcases hy with h1 | h1; have := hS y h1; omega; omega) _ r108
 replace Br := S11.keep (by omega) Br
 replace B10 := S11.keep (by omega) B10
 replace E := S11.stp E
 replace Bo := S11.blk
 refine zAB (zAC (zAQ (zAY (zAI ?_))))
 refine zAm Tryz.results60 (vs := [(.int .i64 F.kind), (.slice xa108 F.set.length xc108), (.slice ya108 F.args.length yc108), (.int .i64 F.mn), (.int .i64 F.mx), (.bool F.neg)]) (b := bo) rfl zAb zAH rfl (Bo.cells rfl) ?_
 exact ⟨⟨_, rfl, zAc.mono (fun y hy => by rcases hy with h1 | h1; exact .inl h1; exact .inr (by omega)) _ r108⟩, E⟩
end Go.Proofs
namespace Go.Proofs
open Go Go.Eng Go.Sort
set_option maxRecDepth 100000
theorem pre478 {k : Int} {l m : List Re} (hk : k = 4 ∨ k = 7 ∨ k = 8) (h8 : k = 8 → l.length = 1) (hl : m.length = l.length) : PreN k [] m 0 0 false := ⟨by omega, rfl, fun _ => rfl, fun _ => ⟨rfl, rfl⟩, by omega, by omega, fun h => by rw [hl]; exact h8 (by omega), by omega⟩
theorem zJS {c : Int} {ts : List Re} (h : ∀ x ∈ ts, zAq x) (hs : Re.sizes ts ≤ 300) : Re.sizes (ts.map (zBK c)) ≤ 200000 := by
 have h1 := zFT c 300 (zCZ.2 h) hs
 have h2 : (300 + 6) * (2 * Re.sizes ts) ≤ (300 + 6) * 600 := Nat.mul_le_mul_left _ (by omega)
 rw [zHE] at h1
 omega
set_option maxHeartbeats 2000000 in
theorem zPc (c : Int) (n : Nat) (ih : zEx c n) (t : Re) (hn : t.size ≤ n) (h300 : t.size ≤ 300) (hok : zAq t) (hk : t.kind = 4 ∨ t.kind = 7 ∨ t.kind = 8) (w0 : World) (S : Nat → Prop) (vs : List Value) (ht : zAc S w0 t vs) (hS : ∀ x, S x → x < w0.heap.size) :
  Ret Tryz.prog 60 #[.agg vs.toArray, .int .i64 c] w0 fun r w => (∃ us, r = .agg us.toArray ∧ zAc (fun b => S b ∨ w0.heap.size ≤ b) w (zBK c t) us) ∧ Ext w0 w := by
 have ht0 := ht
 obtain ⟨sa, sc, aa, ac, rfl, hset, hlen, hargs⟩ := ht.form
 have hal := zBm t
 have hszt := t.size_eq
 obtain ⟨N, hN⟩ : ∃ N, N = zCt (.mk t.kind [] (t.args.map (zBK c)) 0 0 false) := ⟨_, rfl⟩
 have hst : zBK c t = N := by rw [hN]; exact st478 hk
 rw [hst]
 clear hst
 have h8 : t.kind = 8 → t.args.length = 1 := fun h => by obtain ⟨y, hy, _⟩ := hok.n.k8 h; rw [hy]; rfl
 refine zAk Tryz.func60 rfl Tryz.ntmps60 (Nat.le_of_ble_eq_true rfl) ?_
 have E : Chg zAh w0 w0 := Chg.refl _ _
 refine zAA ?_
 refine zBL (v := (.agg (R6 t sa sc aa ac))) (c := (R6 t sa sc aa ac)) (by decide) rfl rfl ?_
 intro br wr Nr
 have Fr := Nr.ge E
 replace E := E.ext Nr.ext
 have Br := Nr.blk
 refine zBD (c := #[(I6 0), (.slice none 0 0), (.slice none 0 0), (I6 0), (I6 0), (.bool false)]) (by decide) zAs rfl ?_
 intro bo wo No
 have Fo := No.ge E
 have Oo_br := No.lt Br
 replace Br := No.keep Br
 replace E := E.ext No.ext
 have Bo := No.blk
 refine zAB (zAP (zAA ?_))
 refine qF br 0 0 rfl Tryz.underlying25 rfl zAw rfl ?_
 refine qV (zAK (v := (I6 t.kind)) rfl zAf (Br.cell rfl)) ?_
 refine zAB (zAZ (zAA ?_))
 refine qV (zAg (k := .i64) (a := t.kind) (b := 2) rfl rfl) ?_
 refine qA (.bool (decide ((t.kind : Int) = 2))) rfl ?_
 refine zAB ?_
 obtain ⟨n1, hn1⟩ : ∃ n1, n1 = wo.heap.size := ⟨_, rfl⟩
 have hob : br < n1 ∧ bo < n1 ∧ w0.heap.size ≤ bo ∧ w0.heap.size ≤ n1 := ⟨by rw [hn1]; exact Br.lt, by rw [hn1]; exact Bo.lt, by omega, by rw [hn1]; exact E.size⟩
 have hn1w : n1 ≤ wo.heap.size := by omega
 have hc1 : (decide ((t.kind : Int) = 2)) = false := decide_eq_false (by omega)
 refine zAX (congrArg Value.bool hc1) ?_
 refine zAA ?_
 refine qV (zAg (k := .i64) (a := t.kind) (b := 3) rfl rfl) ?_
 refine qA (.bool (decide ((t.kind : Int) = 3))) rfl ?_
 refine zAB ?_
 have hc2 : (decide ((t.kind : Int) = 3)) = false := decide_eq_false (by omega)
 refine zAX (congrArg Value.bool hc2) ?_
 refine zHX (fun σ W3 => ∃ (q : Bool), (∃ jj_, σ = zCl jj_ [(1, (I6 c)), (2, (P6 br 0)), (4, (P6 bo 0)), (12, (I6 t.kind)), (50, (.bool q))]) ∧ Chg zAh w0 W3 ∧ Blk W3 br (R6 t sa sc aa ac) 25 ∧ Blk W3 bo #[(I6 0), (.slice none 0 0), (.slice none 0 0), (I6 0), (I6 0), (.bool false)] 25 ∧ (q = true) ∧ (n1 ≤ W3.heap.size)) ?_ ?_
 ·skip
  refine zAA ?_
  refine qV (zAg (k := .i64) (a := t.kind) (b := 4) rfl rfl) ?_
  refine qA (.bool (decide ((t.kind : Int) = 4))) rfl ?_
  refine zAB ?_
  refine zAM (b := decide ((t.kind : Int) = 4)) rfl (fun h4 => ?_) (fun h4 => ?_)
  ·have kh4 := h4
   replace h4 := of_decide_eq_true h4
   refine zAR (zAC ?_)
   exact ⟨(decide ((t.kind : Int) = 4)), zBG.out ⟨rfl, rfl, rfl, rfl, rfl, trivial⟩, E, Br, Bo, decide_eq_true h4, hn1w⟩
  have kh4 := h4
  replace h4 := of_decide_eq_false h4
  refine zAA ?_
  refine qV (zAg (k := .i64) (a := t.kind) (b := 7) rfl rfl) ?_
  refine qA (.bool (decide ((t.kind : Int) = 7))) rfl ?_
  refine zAB ?_
  refine zAM (b := decide ((t.kind : Int) = 7)) rfl (fun h7 => ?_) (fun h7 => ?_)
  ·have kh7 := h7
   replace h7 := of_decide_eq_true h7
   refine zAR (zAC ?_)
   exact ⟨(decide ((t.kind : Int) = 7)), zBG.out ⟨rfl, rfl, rfl, rfl, rfl, trivial⟩, E, Br, Bo, decide_eq_true h7, hn1w⟩
  have kh7 := h7
  replace h7 := of_decide_eq_false h7
  refine zAW ?_
  refine qV (zAg (k := .i64) (a := t.kind) (b := 8) rfl rfl) ?_
  refine qA (.bool (decide ((t.kind : Int) = 8))) rfl ?_
  refine zAB (zAC ?_)
  exact ⟨(decide ((t.kind : Int) = 8)), zBG.out ⟨rfl, rfl, rfl, rfl, rfl, trivial⟩, E, Br, Bo, decide_eq_true (by omega), hn1w⟩
 clear E Br Bo
 rintro _ W3 ⟨q, ⟨j3, rfl⟩, E, Br, Bo, hq, hn1w⟩
 have hc6 : (q) = true := hq
 refine zAl (congrArg Value.bool hc6) ?_
 refine zAA ?_
 refine qA (.slice none 0 0) rfl ?_
 refine zAB (zAP (zAA ?_))
 refine qF br 0 2 rfl Tryz.underlying25 rfl zBI rfl ?_
 refine qV (zAK (v := (.slice aa t.args.length ac)) rfl zAv (Br.cell rfl)) ?_
 refine qV (zAV (ad := aa) (n := t.args.length) (cap := ac) Tryz.underlying23 rfl) ?_
 refine qM (I6 0) rfl ?_
 refine zAB (zAZ ?_)
 refine zBA (fun nn_ σ W7 => ∃ (i : Nat) (la : Option Addr) (lc : Nat) (rows : List (List Value)) (T : Nat → Prop), (∃ jj_, σ = zCl jj_ [(1, (I6 c)), (2, (P6 br 0)), (4, (P6 bo 0)), (55, (.slice aa t.args.length ac)), (56, (I6 (t.args.length : Int))), (57, (I6 (i : Int))), (7, (.slice la i lc))]) ∧ Chg zAh w0 W7 ∧ Blk W7 br (R6 t sa sc aa ac) 25 ∧ Blk W7 bo #[(I6 0), (.slice none 0 0), (.slice none 0 0), (I6 0), (I6 0), (.bool false)] 25 ∧ (i ≤ t.args.length) ∧ (W7.ownsRow n1 TRe 6 (.slice la i lc) i rows.flatten) ∧ (zAj T W7 ((t.args.take i).map (zBK c)) rows) ∧ (n1 ≤ W7.heap.size) ∧ (∀ y, T y → (S y ∨ n1 ≤ y) ∧ y < W7.heap.size) ∧ (∀ b, (Value.slice la i lc).ownBlock = some b → ¬ T b) ∧ nn_ = t.args.length - i) (n := t.args.length - 0) ?_ ?_
 ·exact ⟨0, none, 0, [], (fun _ => False), zBG.out ⟨rfl, rfl, rfl, rfl, rfl, rfl, rfl, trivial⟩, E, Br, Bo, Nat.zero_le _, World.ownsRow_nil _ _ _ _, rfl, hn1w, (fun y h => h.elim), (fun b _ h => h), rfl⟩
 clear E Br Bo
 rintro _ _ W7 ⟨i, la, lc, rows, T, ⟨j7, rfl⟩, E, Br, Bo, hi, hO, hR, hbs, hT, hTn, rfl⟩
 refine zAA ?_
 refine qV (zBS (k := .i64) (a := (i : Int)) (b := (t.args.length : Int)) rfl rfl) ?_
 refine zAB (zAP ?_)
 refine zAM (b := decide (((i : Int) : Int) < (t.args.length : Int))) rfl (fun hlt => ?_) (fun hlt => ?_)
 ·have khlt := hlt
  replace hlt := of_decide_eq_true hlt
  obtain ⟨x, hx⟩ := zAa (l := t.args) (i := i) (by omega)
  have hxo := hok.a x (List.mem_of_getElem? hx)
  have hxz := Re.size_arg hx
  obtain ⟨ab, ao, hab, rfl, hres⟩ := hargs.resolve_left (fun h => by rw [h] at hx; cases hx)
  obtain ⟨us, hus, hxt⟩ := hres.get hx
  have hxt0 := hxt
  obtain ⟨xsa, xsc, xaa, xac, rfl, _, _, _⟩ := hxt.form
  obtain ⟨M, hM⟩ : ∃ M, M = zBK c x := ⟨_, rfl⟩
  refine zAR (zAC (zAP (zAZ (zAA ?_))))
  refine qV (zAO (b := ab) (o := ao) (len := t.args.length) (cap := ac) (i := i) (o' := ao + i * 6) rfl rfl rfl Tryz.underlying23 zAH (by omega) (by omega)) ?_
  refine qV (zAG (vs := [(I6 x.kind), (.slice xsa x.set.length xsc), (.slice xaa x.args.length xac), (I6 x.mn), (I6 x.mx), (.bool x.neg)]) rfl zAb zAH rfl (hus.ext E)) ?_
  refine zAi (v := (.agg (R6 x xsa xsc xaa xac))) (c := (R6 x xsa xsc xaa xac)) (n := 6) (by decide) zAs rfl zAH rfl rfl rfl (by simp [Value.oneCell']) ?_
  intro bu wu Nu
  have Fu := Nu.ge E
  have Ou_br := Nu.lt Br
  have Ou_bo := Nu.lt Bo
  replace Br := Nu.keep Br
  replace Bo := Nu.keep Bo
  replace hO := zBE hO Nu.ext
  replace hR := zAj.ext Nu.ext hR
  replace hbs := Nat.le_trans hbs Nu.ext.size
  replace hT := zHD hT Nu.ext
  replace E := E.ext Nu.ext
  have Bu := Nu.blk
  refine zAB (zAW ?_)
  refine qM (.slice la i lc) rfl ?_
  refine qV (zAG (vs := [(I6 x.kind), (.slice xsa x.set.length xsc), (.slice xaa x.args.length xac), (I6 x.mn), (I6 x.mx), (.bool x.neg)]) rfl zAb zAH rfl (Bu.cells rfl)) ?_
  refine qM (I6 c) rfl ?_
  obtain ⟨n2, hn2⟩ : ∃ n2, n2 = (wu).heap.size := ⟨_, rfl⟩
  have hn12 : n1 ≤ n2 := by rw [hn2]; exact hbs
  have hOb : ∀ b, (Value.slice la i lc).ownBlock = some b → n1 ≤ b ∧ b < n2 := fun b hb => ⟨(hO.lt b hb).1, by rw [hn2]; exact (hO.lt b hb).2⟩
  refine zAL rfl rfl (by decide) (zAT (vs := [(.agg (R6 x xsa xsc xaa xac)), (I6 c)]) Tryz.func60 zQL zQu rfl) ((ih x _ S _ (by omega) hxo (zAc.ext E x hxt0) (fun y hy => by have := hS y hy; have := E.size; omega)).mono (R' := fun r w => reG (fun b => S b ∨ n2 ≤ b) M r w ∧ Ext wu w) (fun r w h => ⟨zBd (S' := fun b => S b ∨ _ ≤ b) (fun b hb => by rcases hb with h1 | h1; exact .inl h1; exact .inr (by rw [hn2]; exact h1)) (by rw [hM]; exact h.1), h.2⟩)) ?_
  rintro _ w9 ⟨⟨ma, mc, pa, pc, rfl, hX⟩, X9⟩
  replace Br := X9.keep Br
  replace Bo := X9.keep Bo
  replace Bu := X9.keep Bu
  replace hO := zBE hO X9
  replace hR := zAj.ext X9 hR
  replace hbs := Nat.le_trans hbs X9.size
  replace hT := zHD hT X9
  replace E := E.ext X9
  have hXl := zAc.lt M hX
  refine zAu (ps := [(0, (.agg (R6 M ma mc pa pc)))]) (c := (R6 M ma mc pa pc)) (by decide) rfl Tryz.underlying23 zAH zAs (by decide) (by decide) (by kernel_rfl) ?_
  intro bz wz Nz
  have Fz := Nz.ge E
  have Oz_br := Nz.lt Br
  have Oz_bo := Nz.lt Bo
  have Oz_bu := Nz.lt Bu
  replace Br := Nz.keep Br
  replace Bo := Nz.keep Bo
  replace Bu := Nz.keep Bu
  replace hO := zBE hO Nz.ext
  replace hR := zAj.ext Nz.ext hR
  replace hbs := Nat.le_trans hbs Nz.ext.size
  replace hT := zHD hT Nz.ext
  replace hXl := zAc.ext Nz.ext M hXl
  replace E := E.ext Nz.ext
  have Bz := Nz.blk
  have hQ9 : True := trivial
  refine zBh (base := n1) (n := i) (m := 1) (xs := rows.flatten) (news := [(I6 M.kind), (.slice ma M.set.length mc), (.slice pa M.args.length pc), (I6 M.mn), (I6 M.mx), (.bool M.neg)]) (size := 6) (bytes := 80) (v := (.slice la i lc)) (by decide) Tryz.underlying23 zAH zEj zAs rfl (by decide) rfl hO rfl (rfl) (Bz.cells rfl) (by simp [Value.oneCell']) (by unfold maxLen; omega) (by omega) (hbs) ?_
  intro v9 w66 Ov9 Cv9 Dv9
  replace Br := Cv9.keep (fun h => by have := (hO.lt _ h).1; omega) Br
  replace Bo := Cv9.keep (fun h => by have := (hO.lt _ h).1; omega) Bo
  replace E := E.step Cv9 (fun x hx h => absurd (hO.lt x h).1 (by omega))
  obtain ⟨la2, lc2, rfl⟩ := zBY Ov9
  have hT2 : ∀ y, (T y ∨ ((S y ∨ n2 ≤ y) ∧ y < w9.heap.size)) → (S y ∨ n1 ≤ y) ∧ y < (w66).heap.size ∧ (Value.slice la i lc).ownBlock ≠ some y := by
   intro y hy
   have hz1 := Nz.ext.size
   have hz2 := Cv9.size
   rcases hy with hy | ⟨hy, hy2⟩
   ·exact ⟨(hT y hy).1, by have := (hT y hy).2; omega, fun hb => hTn y hb hy⟩
   refine ⟨hy.imp id (fun h => by have := X9.size; omega), by omega, fun hb => ?_⟩
   have h9 := hOb y hb
   rcases hy with h1 | h1
   ·have := hS y h1; omega
   omega
  have hR9 : zAj (fun y => T y ∨ ((S y ∨ n2 ≤ y) ∧ y < w9.heap.size)) (w66) ((t.args.take (i + 1)).map (zBK c)) (rows ++ [[.int .i64 M.kind, .slice ma M.set.length mc, .slice pa M.args.length pc, .int .i64 M.mn, .int .i64 M.mx, .bool M.neg]]) := by
   rw [List.take_add_one, hx, Option.toList_some, List.map_append, List.map_cons, List.map_nil, ← hM]
   exact zGM (zAj.mono (fun y hy => .inl hy) (zAj.chg Cv9 (fun y hy hm => hTn y hm hy) hR)) (zAc.mono (fun y hy => .inr hy) M (zAc.chg Cv9 (fun y hy hm => (hT2 y (.inr hy)).2.2 hm) M hXl))
  refine qA (.slice la2 (i + 1) lc2) rfl ?_
  refine zAB (zAU (zAC (zAW ?_)))
  refine qV (zBQ (k := .i64) (a := (i : Int)) (b := 1) (c := (i : Int) + 1) rfl rfl (zBs (by omega))) ?_
  refine qM (I6 ((i : Int) + 1)) rfl ?_
  refine zAB (zAC ?_)
  exact ⟨t.args.length - (i + 1), by omega, i + 1, la2, lc2, rows ++ [[.int .i64 M.kind, .slice ma M.set.length mc, .slice pa M.args.length pc, .int .i64 M.mn, .int .i64 M.mx, .bool M.neg]], (fun y => T y ∨ ((S y ∨ n2 ≤ y) ∧ y < w9.heap.size)), zBG.out ⟨rfl, rfl, rfl, rfl, rfl, rfl, rfl, trivial⟩, E, Br, Bo, (by omega), (by simpa using Ov9), hR9, Nat.le_trans hbs Cv9.size, (fun y hy => ⟨(hT2 y hy).1, (hT2 y hy).2.1⟩), (fun b hb hy => by rcases Dv9 b hb with h | h; exact (hT2 b hy).2.2 h; have hz1 := Nz.ext.size; rcases hy with hy | hy; have := (hT b hy).2; omega; have := hy.2; omega), rfl⟩
 have khlt := hlt
 replace hlt := of_decide_eq_false hlt
 have hii : i = t.args.length := by omega
 rw [hii] at hO hR hTn
 rw [hii]
 rw [List.take_length] at hR
 refine zBB (zAe (zAe (zAr (zAC (zAA ?_)))))
 refine qF br 0 0 rfl Tryz.underlying25 rfl zAw rfl ?_
 refine qV (zAK (v := (I6 t.kind)) rfl zAf (Br.cell rfl)) ?_
 refine qM (.slice la t.args.length lc) rfl ?_
 refine qV (zBW (ps := [(0, (I6 t.kind)), (2, (.slice la t.args.length lc))]) (v := (.agg #[(I6 t.kind), (.slice none 0 0), (.slice la t.args.length lc), (I6 0), (I6 0), (.bool false)])) rfl (by kernel_rfl)) ?_
 have hml : (t.args.map (zBK c)).length = t.args.length := List.length_map _
 obtain ⟨hoc, hocl⟩ := zDz hO hR hml
 have hTS : zAc (fun y => (S y ∨ n1 ≤ y) ∧ y < (W7).heap.size) (W7) (.mk t.kind [] (t.args.map (zBK c)) 0 0 false) [.int .i64 t.kind, .slice none 0 0, .slice la t.args.length lc, .int .i64 0, .int .i64 0, .bool false] := by
  have h9 := zAc.of (S := fun y => (S y ∨ n1 ≤ y) ∧ y < (W7).heap.size) (w := W7) (k := t.kind) (set := []) (args := t.args.map (zBK c)) (mn := 0) (mx := 0) (ng := false) (sa := none) (sc := 0) (aa := la) (ac := lc) (zDE.nil _ _ _ _ _) (by rw [hml]; exact hoc) (by
   rcases hocl with h | ⟨ob, hob1, hob2, hob3, hclo⟩
   ·exact .inl h
   exact .inr ⟨ob, 0, ⟨.inr hob1, hob2⟩, hob3, zCx fun i t ht => by obtain ⟨vs, h6, h7⟩ := hclo i t ht; exact ⟨vs, h6, zAc.mono (fun y hy => hT y hy) t h7⟩⟩)
  rw [hml] at h9
  exact h9
 have hnb1 : n1 ≤ (W7).heap.size := hbs
 refine zAL rfl rfl (by decide) (zAT (vs := [(.agg #[(I6 t.kind), (.slice none 0 0), (.slice la t.args.length lc), (I6 0), (I6 0), (.bool false)])]) Tryz.func115 zOE zOp rfl) ((zHx _ _ _ _ hTS (fun y hy => hy.2) (pre478 hk h8 hml) (fun y hy => by obtain ⟨z, hz, rfl⟩ := List.mem_map.1 hy; exact zDN c (hok.a z hz)) (by have := zJS (c := c) hok.a (by omega); show Re.sizes (t.args.map (zBK c)) ≤ 1000000; omega)).mono (R' := fun r w => reG (fun b => S b ∨ n1 ≤ b) N r w ∧ Ext _ w) (fun r w h => ⟨zBd (S' := fun b => ((S b ∨ n1 ≤ b) ∧ b < _) ∨ _ ≤ b) (fun b hb => by rcases hb with h1 | h1; exact h1.1; exact .inr (Nat.le_trans hnb1 h1)) (by rw [hN]; exact h.1), h.2⟩)) ?_
 rintro _ w49 ⟨⟨xa, xc, ya, yc, rfl, hR4⟩, X49⟩
 replace Br := X49.keep Br
 replace Bo := X49.keep Bo
 replace E := E.ext X49
 refine qW (R6 N xa xc ya yc) rfl rfl zAH Bo ?_
 intro w9 S9
 replace hR4 := zAc.chg S9.chg (fun y hy h => by have h2 : y = bo := h; rcases hy with h1 | h1; have := hS y h1; omega; omega) _ hR4
 replace Br := S9.keep (by omega) Br
 replace E := S9.stp E
 replace Bo := S9.blk
 refine zAB (zAQ (zAY (zAI ?_)))
 refine zAm Tryz.results60 (vs := [(.int .i64 N.kind), (.slice xa N.set.length xc), (.slice ya N.args.length yc), (.int .i64 N.mn), (.int .i64 N.mx), (.bool N.neg)]) (b := bo) rfl zAb zAH rfl (Bo.cells rfl) ?_
 exact ⟨⟨_, rfl, zAc.mono (fun y hy => by rcases hy with h1 | h1; exact .inl h1; exact .inr (by omega)) _ hR4⟩, E⟩
end Go.Proofs
namespace Go.Proofs
open Go Go.Eng Go.Sort
set_option maxRecDepth 100000
theorem zLr (c : Int) : ∀ n, n ≤ 301 → zEx c n
  | 0, _ => fun t _ _ _ h => absurd h (by omega)
  | n + 1, hn => fun t w0 S vs h hok ht hS => by
    have ih := zLr c n (by omega)
    have hks := hok.n.ks
    by_cases h0 : t.kind = 0 ∨ t.kind = 1
    · exact zPf c n ih t (by omega) (by omega) hok h0 w0 S vs ht hS
    by_cases h2 : t.kind = 2
    · exact zPe c n ih t (by omega) (by omega) hok h2 w0 S vs ht hS
    by_cases h3 : t.kind = 3
    · exact zPd c n ih t (by omega) (by omega) hok h3 w0 S vs ht hS
    by_cases h5 : t.kind = 5
    · exact zPb c n ih t (by omega) (by omega) hok h5 w0 S vs ht hS
    by_cases h6 : t.kind = 6
    · exact zPa c n ih t (by omega) (by omega) hok h6 w0 S vs ht hS
    exact zPc c n ih t (by omega) (by omega) hok (by omega) w0 S vs ht hS
mutual
theorem zHm : ∀ (t : Re), zDh t → zFC t
  | .mk k set args mn mx ng, h => by
    have h1 := zEO h
    have h2 := zDT h
    have h3 := zCD h
    simp only [zFC]
    refine ⟨?_, zIm args h3⟩
    obtain ⟨ha, hb, hf⟩ := h2
    by_cases hk : k = 2
    · unfold zBj at h1
      simp only [Re.kind] at ha hb
      rw [if_neg (by simp only [Re.kind]; omega), if_neg (by simp [hf]), if_pos (by simp only [Re.kind]; exact hk)] at h1
      split at h1
      · omega
      · rename_i hc
        simp only [Re.set] at hc
        unfold zBR at hc
        split at hc
        · omega
        · omega
    · simp only [zCu, Bool.and_eq_true, Bool.or_eq_true, decide_eq_true_eq, Re.kind, Re.set] at hf
      have := hf.1.1.1.2.resolve_left (by simp [hk])
      simp at this
      rw [this]; simp
theorem zIm : ∀ (ts : List Re), zDB ts → zFY ts
  | [], _ => by simp only [zFY]
  | t :: ts, h => by simp only [zDB] at h; simp only [zFY]; exact ⟨zHm t h.1, zIm ts h.2⟩
end
mutual
theorem zGF {S Z : Nat → Prop} {w : World} (hZ : ∀ x, Z x → S x) : ∀ (t : Re) {vs : List Value} {L : Nat → Prop}, zEI Z w t vs L → (∀ x, L x → S x) → zAc S w t vs
  | .mk k set args mn mx ng, vs, L, h, hL => by
    simp only [zEI] at h
    obtain ⟨sa, sc, aa, ac, hv, hs, hn, ha⟩ := h
    simp only [zAc]
    refine ⟨sa, sc, aa, ac, hv, hs.mono hZ, hn, ?_⟩
    rcases ha with h | ⟨b, rows, rest, L', h1, h2, h3, h4, h5, h6⟩
    · exact .inl h
    · refine .inr ⟨b, 0, hL b h1, h2, zCx fun i t ht => ?_⟩
      obtain ⟨us, h7, h8⟩ := zHC hZ args h5 (fun x hx => hL x (h6 x hx).1) i t ht
      exact ⟨us, by rw [Nat.zero_add]; exact zEt h3 h4 h7, h8⟩
theorem zHC {S Z : Nat → Prop} {w : World} (hZ : ∀ x, Z x → S x) : ∀ (ts : List Re) {rows : List (List Value)} {L : Nat → Prop}, zBa Z w ts rows L → (∀ x, L x → S x) → ∀ (i : Nat) (t : Re), ts[i]? = some t → ∃ vs, rows[i]? = some vs ∧ zAc S w t vs
  | [], _, _, _, _, i, t, h => by simp at h
  | u :: ts, rows, L, h, hL, i, t, ht => by
    simp only [zBa] at h
    obtain ⟨vs, rs, L1, L2, rfl, h1, h2, h3, h4⟩ := h
    cases i with
    | zero => simp at ht; subst ht; exact ⟨vs, rfl, zGF hZ u h1 fun x hx => hL x (h3 x hx).1⟩
    | succ i =>
      obtain ⟨us, h5, h6⟩ := zHC hZ ts h2 (fun x hx => hL x (h4 x hx)) i t (by simpa using ht)
      exact ⟨us, by simpa using h5, h6⟩
end
set_option maxHeartbeats 1000000 in
theorem zKf (w0 : World) (t : Re) (vs : List Value) (ht : zBC w0 t vs) :
  Ret Tryz.prog 14 #[.agg vs.toArray] w0 fun r w => r = .int .i64 (zBp t) ∧ Ext w0 w := by
 have ht0 := ht
 obtain ⟨sa, sc, aa, ac, rfl, hset, hlen, hargs⟩ := ht.form
 have hD : zBp t = if zCW t 300 ≠ 0 then zCW t 300 else if zCk [9, 10] t = true then 3 else 0 := rfl
 rw [hD]
 refine zAk Tryz.func14 rfl Tryz.ntmps14 (Nat.le_of_ble_eq_true rfl) ?_
 have E : Chg zAh w0 w0 := Chg.refl _ _
 refine zAA ?_
 refine zBL (v := (.agg (R6 t sa sc aa ac))) (c := (R6 t sa sc aa ac)) (by decide) rfl rfl ?_
 intro br wr Nr
 have Fr := Nr.ge E
 replace E := E.ext Nr.ext
 have Br := Nr.blk
 refine qA (I6 0) rfl ?_
 refine zAB (zAP (zAA ?_))
 refine qV (zAG (vs := [(I6 t.kind), (.slice sa t.set.length sc), (.slice aa t.args.length ac), (I6 t.mn), (I6 t.mx), (.bool t.neg)]) rfl zAb zAH rfl (Br.cells rfl)) ?_
 refine zAL rfl rfl (by decide) (zAT (vs := [(.agg (R6 t sa sc aa ac)), (I6 300)]) Tryz.func65 nm65 bd65 rfl) (fits_c _ t _ (zBC.ext E t ht0) 300) ?_
 rintro _ w9 ⟨rfl, X9⟩
 replace Br := X9.keep Br
 replace E := E.ext X9
 refine qA (I6 (zCW t 300)) rfl ?_
 refine zAB (zAA ?_)
 refine qM (I6 (zCW t 300)) rfl ?_
 refine qV (zBz (k := .i64) (a := zCW t 300) (b := 0) rfl rfl) ?_
 refine zAB ?_
 refine zAM (b := decide ((zCW t 300 : Int) ≠ 0)) rfl (fun hf => ?_) (fun hf => ?_)
 ·have khf := hf
  replace hf := of_decide_eq_true hf
  refine zAA ?_
  refine qM (I6 (zCW t 300)) rfl ?_
  refine qA (I6 (zCW t 300)) rfl ?_
  refine zAB (zAQ (zAI ?_))
  refine zAS Tryz.results14 (v := (.int .i64 (zCW t 300))) rfl ?_
  exact ⟨by rw [if_pos hf], E⟩
 have khf := hf
 replace hf := of_decide_eq_false hf
 refine zAR (zAC (zAP (zAA ?_)))
 refine qV (zAG (vs := [(I6 t.kind), (.slice sa t.set.length sc), (.slice aa t.args.length ac), (I6 t.mn), (I6 t.mx), (.bool t.neg)]) rfl zAb zAH rfl (Br.cells rfl)) ?_
 refine zAu (ps := [(0, (I6 9)), (1, (I6 10))]) (c := #[(I6 9), (I6 10)]) (by decide) rfl Tryz.underlying26 zAw zJN (by decide) (by decide) (by kernel_rfl) ?_
 intro bk wk Nk
 have Fk := Nk.ge E
 have Ok_br := Nk.lt Br
 replace Br := Nk.keep Br
 replace E := E.ext Nk.ext
 have Bk := Nk.blk
 refine zAL rfl rfl (by decide) (zAT (vs := [(.agg (R6 t sa sc aa ac)), (.slice (some ⟨bk, 0, none⟩) 2 2)]) Tryz.func66 nm66 bd66 rfl) (zRJ _ t _ [9, 10] _ (zBC.ext E t ht0) (zDV [9, 10] Bk (by simp) (by simp))) ?_
 rintro _ w19 ⟨rfl, X19⟩
 replace Br := X19.keep Br
 replace Bk := X19.keep Bk
 replace E := E.ext X19
 refine zAB ?_
 refine zAM (b := zCk [9, 10] t) rfl (fun hu => ?_) (fun hu => ?_)
 ·have khu := hu
  refine zAA ?_
  refine qA (I6 3) rfl ?_
  refine zAB (zAQ (zAI ?_))
  refine zAS Tryz.results14 (v := (.int .i64 3)) rfl ?_
  exact ⟨by rw [if_neg hf, if_pos hu], E⟩
 have khu := hu
 refine zAR (zAC (zAA ?_))
 refine qA (I6 0) rfl ?_
 refine zAB (zAQ ?_)
 refine zAS Tryz.results14 (v := (.int .i64 0)) rfl ?_
 exact ⟨by rw [if_neg hf, if_neg (by rw [hu]; decide)], E⟩
end Go.Proofs
namespace Go.Proofs
open Go Go.Eng Go.Sort
set_option maxRecDepth 100000
theorem re_z {S : Nat → Prop} {w : World} : zAc S w zBH [.int .i64 0, .slice none 0 0, .slice none 0 0, .int .i64 0, .int .i64 0, .bool false] := zBN _ _ 0
set_option maxHeartbeats 1000000 in
theorem dby_c (w0 : World) (S : Nat → Prop) (t : Re) (vs : List Value) (c : Int) (ht : zAc S w0 t vs) (hS : ∀ x, S x → x < w0.heap.size) :
  Ret Tryz.prog 11 #[.agg vs.toArray, .int .i64 c] w0 fun r w => (∃ us, r = .tuple #[.agg us.toArray, .int .i64 (byE t c)] ∧ zAc (fun b => w0.heap.size ≤ b) w (byD t c) us) ∧ Ext w0 w := by
 have ht0 := ht
 obtain ⟨sa, sc, aa, ac, rfl, hset, hlen, hargs⟩ := ht.form
 have hE : byE t c = if zBp t ≠ 0 then zBp t else if zCe c = false then 1 else if 300 < (zBK c (zCU t)).size then 2 else 0 := rfl
 have hB : byD t c = if byE t c = 0 then zBK c (zCU t) else zBH := rfl
 refine zAk Tryz.func11 rfl Tryz.ntmps11 (Nat.le_of_ble_eq_true rfl) ?_
 have E : Chg zAh w0 w0 := Chg.refl _ _
 refine zAA ?_
 refine zBL (v := (.agg (R6 t sa sc aa ac))) (c := (R6 t sa sc aa ac)) (by decide) rfl rfl ?_
 intro br wr Nr
 have Fr := Nr.ge E
 replace E := E.ext Nr.ext
 have Br := Nr.blk
 refine zBD (c := #[(I6 0), (.slice none 0 0), (.slice none 0 0), (I6 0), (I6 0), (.bool false)]) (by decide) zAs rfl ?_
 intro bo wo No
 have Fo := No.ge E
 have Oo_br := No.lt Br
 replace Br := No.keep Br
 replace E := E.ext No.ext
 have Bo := No.blk
 refine qA (I6 0) rfl ?_
 refine zAB (zAP (zAA ?_))
 refine qV (zAG (vs := [(I6 t.kind), (.slice sa t.set.length sc), (.slice aa t.args.length ac), (I6 t.mn), (I6 t.mx), (.bool t.neg)]) rfl zAb zAH rfl (Br.cells rfl)) ?_
 refine zAL rfl rfl (by decide) (zAT (vs := [(.agg (R6 t sa sc aa ac))]) Tryz.func14 nm14 bd14 rfl) (zKf _ t _ (zAc.at t (zAc.ext E t ht0))) ?_
 rintro _ w9 ⟨rfl, X9⟩
 replace Br := X9.keep Br
 replace Bo := X9.keep Bo
 replace E := E.ext X9
 refine qA (I6 (zBp t)) rfl ?_
 refine zAB (zAA ?_)
 refine qM (I6 (zBp t)) rfl ?_
 refine qV (zBz (k := .i64) (a := zBp t) (b := 0) rfl rfl) ?_
 refine zAB ?_
 refine zAM (b := decide ((zBp t : Int) ≠ 0)) rfl (fun hf => ?_) (fun hf => ?_)
 ·have khf := hf
  replace hf := of_decide_eq_true hf
  refine zAA ?_
  refine qV (zBW (ps := []) (v := (.agg #[(I6 0), (.slice none 0 0), (.slice none 0 0), (I6 0), (I6 0), (.bool false)])) rfl (by kernel_rfl)) ?_
  refine qM (I6 (zBp t)) rfl ?_
  refine qW (#[(I6 0), (.slice none 0 0), (.slice none 0 0), (I6 0), (I6 0), (.bool false)]) rfl rfl zAH Bo ?_
  intro w2 S2
  replace Br := S2.keep (by omega) Br
  replace E := S2.stp E
  replace Bo := S2.blk
  refine qA (I6 (zBp t)) rfl ?_
  refine zAB (zAQ (zAI ?_))
  refine zCv Tryz.results11 (vs := [(.int .i64 0), (.slice none 0 0), (.slice none 0 0), (.int .i64 0), (.int .i64 0), (.bool false)]) (b := bo) (v' := (.int .i64 (zBp t))) rfl zAb zAH rfl (Bo.cells rfl) rfl ?_
  exact ⟨⟨_, by rw [hE, if_pos hf], by rw [hB, if_neg (by rw [hE, if_pos hf]; exact hf)]; exact re_z⟩, E⟩
 have khf := hf
 replace hf := of_decide_eq_false hf
 have hc0 : zBp t = 0 := by omega
 obtain ⟨hok, hsz, hu, hsim, hsimz⟩ := zFP hc0
 refine zAR (zAC (zAP (zAA ?_)))
 refine qM (I6 c) rfl ?_
 refine zAL rfl rfl (by decide) (zAT (vs := [(I6 c)]) Tryz.func59 nm59 bd59 rfl) (zOy _ _) ?_
 rintro _ w19 ⟨rfl, X19⟩
 replace Br := X19.keep Br
 replace Bo := X19.keep Bo
 replace E := E.ext X19
 refine qV (zCV (b := zCe c) rfl) ?_
 refine zAB ?_
 refine zAM (b := !(zCe c)) rfl (fun hr => ?_) (fun hr => ?_)
 ·have khr := hr
  replace hr := by simpa using hr
  have hr0 : zCe c = false := by simpa using hr
  refine zAA ?_
  refine qV (zBW (ps := []) (v := (.agg #[(I6 0), (.slice none 0 0), (.slice none 0 0), (I6 0), (I6 0), (.bool false)])) rfl (by kernel_rfl)) ?_
  refine qW (#[(I6 0), (.slice none 0 0), (.slice none 0 0), (I6 0), (I6 0), (.bool false)]) rfl rfl zAH Bo ?_
  intro w4 S4
  replace Br := S4.keep (by omega) Br
  replace E := S4.stp E
  replace Bo := S4.blk
  refine qA (I6 1) rfl ?_
  refine zAB (zAQ (zAI ?_))
  refine zCv Tryz.results11 (vs := [(.int .i64 0), (.slice none 0 0), (.slice none 0 0), (.int .i64 0), (.int .i64 0), (.bool false)]) (b := bo) (v' := (.int .i64 1)) rfl zAb zAH rfl (Bo.cells rfl) rfl ?_
  exact ⟨⟨_, by rw [hE, if_neg hf, if_pos hr0], by rw [hB, if_neg (by rw [hE, if_neg hf, if_pos hr0]; decide)]; exact re_z⟩, E⟩
 have khr := hr
 replace hr := by simpa using hr
 have hr0 : ¬ zCe c = false := by simpa using hr
 obtain ⟨M, hM⟩ : ∃ M, M = zCU t := ⟨_, rfl⟩
 obtain ⟨D, hD⟩ : ∃ D, D = zBK c M := ⟨_, rfl⟩
 have hDz : D.size ≤ 200000 := by rw [hD, hM]; exact zCY hsim (by omega)
 have hDo : zAq D := by rw [hD, hM]; exact zDN c hsim
 refine zAR (zAC (zAA ?_))
 refine qV (zAG (vs := [(I6 t.kind), (.slice sa t.set.length sc), (.slice aa t.args.length ac), (I6 t.mn), (I6 t.mx), (.bool t.neg)]) rfl zAb zAH rfl (Br.cells rfl)) ?_
 obtain ⟨n1, hn1⟩ : ∃ n1, n1 = w19.heap.size := ⟨_, rfl⟩
 have hob : bo < n1 ∧ w0.heap.size ≤ bo := ⟨by rw [hn1]; exact Bo.lt, by omega⟩
 refine zAL rfl rfl (by decide) (zAT (vs := [(.agg (R6 t sa sc aa ac))]) Tryz.func58 nm58 bd58 rfl) ((zNG 300 t _ S _ hsz (by omega) hok hu (zAc.ext E t ht0) (fun y hy => by have := hS y hy; have := E.size; omega)).mono (R' := fun r w => reG (fun b => S b ∨ n1 ≤ b) M r w ∧ Ext w19 w) (fun r w h => ⟨zBd (S' := fun b => S b ∨ w19.heap.size ≤ b) (fun b hb => by rcases hb with h1 | h1; exact .inl h1; exact .inr (by omega)) (by rw [hM]; exact h.1), h.2⟩)) ?_
 rintro _ w29 ⟨⟨xa, xc, ya, yc, rfl, hR4⟩, X29⟩
 replace Br := X29.keep Br
 replace Bo := X29.keep Bo
 replace E := E.ext X29
 refine qM (I6 c) rfl ?_
 refine zAL rfl rfl (by decide) (zAT (vs := [(.agg (R6 M xa xc ya yc)), (I6 c)]) Tryz.func60 zQL zQu rfl) ((zLr c 301 (by omega) M _ _ _ (by rw [hM]; omega) (by rw [hM]; exact hsim) (zAc.lt _ hR4) (fun y hy => hy.2)).mono (R' := fun r w => reG (fun _ => True) D r w ∧ Ext w29 w) (fun r w h => ⟨zBd (S' := fun b => ((S b ∨ n1 ≤ b) ∧ b < w29.heap.size) ∨ w29.heap.size ≤ b) (fun b hb => trivial) (by rw [hD]; exact h.1), h.2⟩)) ?_
 rintro _ w39 ⟨⟨da, dc, ea, ec, rfl, hR5⟩, X39⟩
 replace Br := X39.keep Br
 replace Bo := X39.keep Bo
 replace E := E.ext X39
 have hR6 := zAc.lt D hR5
 obtain ⟨h39, hh39⟩ : ∃ h, h = w39.heap.size := ⟨_, rfl⟩
 rw [← hh39] at hR6
 have E3 : Chg zAh w39 w39 := Chg.refl _ _
 refine zAi (v := (.agg (R6 D da dc ea ec))) (c := (R6 D da dc ea ec)) (n := 6) (by decide) zAs rfl zAH rfl rfl rfl (by simp [Value.oneCell']) ?_
 intro bq wq Nq
 have Fq := Nq.ge E
 have Fq_E3 := Nq.ge E3
 have Oq_br := Nq.lt Br
 have Oq_bo := Nq.lt Bo
 replace Br := Nq.keep Br
 replace Bo := Nq.keep Bo
 replace hR6 := zAc.ext Nq.ext _ hR6
 replace E := E.ext Nq.ext
 have Bq := Nq.blk
 replace E3 := E3.ext Nq.ext
 refine zAB (zAP (zAA ?_))
 refine qV (zAG (vs := [(I6 D.kind), (.slice da D.set.length dc), (.slice ea D.args.length ec), (I6 D.mn), (I6 D.mx), (.bool D.neg)]) rfl zAb zAH rfl (Bq.cells rfl)) ?_
 refine zAL rfl rfl (by decide) (zAT (vs := [(.agg (R6 D da dc ea ec))]) Tryz.func61 nm61 bd61 rfl) (zOx _ D _ (zAc.at D hR6) (by omega)) ?_
 rintro _ w49 ⟨rfl, X49⟩
 replace Br := X49.keep Br
 replace Bo := X49.keep Bo
 replace Bq := X49.keep Bq
 replace hR6 := zAc.ext X49 _ hR6
 replace E := E.ext X49
 replace E3 := E3.ext X49
 refine qV (zCM (k := .i64) (a := (D.size : Int)) (b := 300) rfl rfl) ?_
 refine zAB ?_
 refine zAM (b := decide ((300 : Int) < (D.size : Int))) rfl (fun hz => ?_) (fun hz => ?_)
 ·have khz := hz
  replace hz := of_decide_eq_true hz
  refine zAA ?_
  refine qV (zBW (ps := []) (v := (.agg #[(I6 0), (.slice none 0 0), (.slice none 0 0), (I6 0), (I6 0), (.bool false)])) rfl (by kernel_rfl)) ?_
  refine qW (#[(I6 0), (.slice none 0 0), (.slice none 0 0), (I6 0), (I6 0), (.bool false)]) rfl rfl zAH Bo ?_
  intro w6 S6
  replace Br := S6.keep (by omega) Br
  replace Bq := S6.keep (by omega) Bq
  replace E := S6.stp E
  replace Bo := S6.blk
  refine qA (I6 2) rfl ?_
  refine zAB (zAQ (zAI ?_))
  refine zCv Tryz.results11 (vs := [(.int .i64 0), (.slice none 0 0), (.slice none 0 0), (.int .i64 0), (.int .i64 0), (.bool false)]) (b := bo) (v' := (.int .i64 2)) rfl zAb zAH rfl (Bo.cells rfl) rfl ?_
  exact ⟨⟨_, by rw [hE, if_neg hf, if_neg hr0, if_pos (by rw [← hM, ← hD]; omega)], by rw [hB, if_neg (by rw [hE, if_neg hf, if_neg hr0, if_pos (by rw [← hM, ← hD]; omega)]; decide)]; exact re_z⟩, E⟩
 have khz := hz
 replace hz := of_decide_eq_false hz
 have hbo49 : bo < (w49).heap.size := by have := E3.size; have := X29.size; have := X39.size; omega
 refine zAR (zAC (zAA ?_))
 refine qV (zAG (vs := [(I6 D.kind), (.slice da D.set.length dc), (.slice ea D.args.length ec), (I6 D.mn), (I6 D.mx), (.bool D.neg)]) rfl zAb zAH rfl (Bq.cells rfl)) ?_
 refine zAL rfl rfl (by decide) (zAT (vs := [(.agg (R6 D da dc ea ec))]) Tryz.func57 nm57 bd57 rfl) (zPQ D.size D _ _ (Nat.le_refl _) (by omega) (zHm D (zDq hDo).1) (zAc.at D hR6)) ?_
 rintro _ w59 ⟨⟨us, Z, L, rfl, hTr, hZL, hnew⟩, X59⟩
 replace Br := X59.keep Br
 replace Bo := X59.keep Bo
 replace Bq := X59.keep Bq
 replace hR6 := zAc.ext X59 _ hR6
 replace E := E.ext X59
 replace E3 := E3.ext X59
 have hR7 := zGF (S := fun b => bo < b) (fun x hx => by have := (hnew x (.inl hx)).1; omega) D hTr (fun x hx => by have := (hnew x (.inr hx)).1; omega)
 obtain ⟨fa, fc, ga, gc, rfl, _, _, _⟩ := hTr.form
 refine qW (R6 D fa fc ga gc) rfl rfl zAH Bo ?_
 intro w7 S7
 replace hR7 := zAc.chg S7.chg (fun y hy h => by have h2 : y = bo := h; have h3 : bo < y := hy; omega) _ hR7
 replace Br := S7.keep (by omega) Br
 replace Bq := S7.keep (by omega) Bq
 replace E := S7.stp E
 replace Bo := S7.blk
 refine qA (I6 0) rfl ?_
 refine zAB (zAQ ?_)
 refine zCv Tryz.results11 (vs := [(.int .i64 D.kind), (.slice fa D.set.length fc), (.slice ga D.args.length gc), (.int .i64 D.mn), (.int .i64 D.mx), (.bool D.neg)]) (b := bo) (v' := (.int .i64 0)) rfl zAb zAH rfl (Bo.cells rfl) rfl ?_
 exact ⟨⟨_, by rw [hE, if_neg hf, if_neg hr0, if_neg (by rw [← hM, ← hD]; omega)], by rw [hB, if_pos (by rw [hE, if_neg hf, if_neg hr0, if_neg (by rw [← hM, ← hD]; omega)]), ← hM, ← hD]; exact zAc.mono (fun y (hy : bo < y) => by omega) _ hR7⟩, E⟩
end Go.Proofs
namespace Go.Proofs
open Go Go.Eng Go.Sort
set_option maxRecDepth 100000
theorem zPA (c : Int) : ∀ n, n ≤ 1000000 → zRB c n
  | 0, _ => fun t _ _ _ h => by omega
  | n + 1, hN => by
    have ih := zPA c n (by omega)
    intro t w0 S vs hn hok ht hS
    rcases hok with ⟨hk, ho⟩ | ⟨hk, hne, ho⟩
    · rcases ho.n.ks with h | h | h | h | h | h | h | h | h
      · exact zOz c t (.inl h) w0 S vs ht
      · exact zOz c t (.inr h) w0 S vs ht
      · exact raw_k2 c t h w0 S vs ht
      · exact absurd h hk
      · exact zMO c n ih t (by omega) (by omega) ho (.inl h) w0 S vs ht hS
      · exact raw_k5 c n ih t (by omega) ho h w0 S vs ht hS
      · exact raw_k6 c n ih t (by omega) ho h w0 S vs ht hS
      · exact zMO c n ih t (by omega) (by omega) ho (.inr (.inl h)) w0 S vs ht hS
      · exact zMO c n ih t (by omega) (by omega) ho (.inr (.inr h)) w0 S vs ht hS
    · cases ha : t.args with
      | nil => exact absurd ha hne
      | cons x l =>
        rw [ha] at ho
        by_cases hl : l = []
        · subst hl
          exact zQB c n ih t (by omega) x ha (ho x (by simp)) hk w0 S vs ht hS
        · exact zQA c n ih t (by omega) (by omega) x l hl ha (ho x (by simp)) (fun y hy => ho y (by simp [hy])) hk w0 S vs ht hS
set_option maxHeartbeats 1000000 in
theorem zIx (c : Int) (w0 : World) (S : Nat → Prop) (t : Re) (vs : List Value) (ho : zAq t) (h300 : t.size ≤ 300) (ht : zAc S w0 t vs) (hS : ∀ x, S x → x < w0.heap.size) :
  Ret Tryz.prog 18 #[.agg vs.toArray, .int .i64 c] w0 fun r w => reG (fun b => S b ∨ w0.heap.size ≤ b) (zBK c t) r w ∧ Ext w0 w := by
 have ht0 := ht
 obtain ⟨sa, sc, aa, ac, rfl, _, _, _⟩ := ht.form
 obtain ⟨hp, hsim⟩ := zJY c ho
 have hsm := zMN (c := c) ho h300
 obtain ⟨D, hD⟩ : ∃ D, D = zDD c t := ⟨_, rfl⟩
 obtain ⟨N, hN⟩ : ∃ N, N = zBK c t := ⟨_, rfl⟩
 rw [← hD] at hp hsim hsm
 rw [← hN] at hsim ⊢
 refine zAk Tryz.func18 rfl Tryz.ntmps18 (Nat.le_of_ble_eq_true rfl) ?_
 have E : Chg zAh w0 w0 := Chg.refl _ _
 refine zAA ?_
 refine zBL (v := (.agg (R6 t sa sc aa ac))) (c := (R6 t sa sc aa ac)) (by decide) rfl rfl ?_
 intro br wr Nr
 have Fr := Nr.ge E
 replace E := E.ext Nr.ext
 have Br := Nr.blk
 refine zBD (c := #[(I6 0), (.slice none 0 0), (.slice none 0 0), (I6 0), (I6 0), (.bool false)]) (by decide) zAs rfl ?_
 intro bo wo No
 have Fo := No.ge E
 have Oo_br := No.lt Br
 replace Br := No.keep Br
 replace E := E.ext No.ext
 have Bo := No.blk
 refine zAB (zAA ?_)
 refine qV (zAG (vs := [(I6 t.kind), (.slice sa t.set.length sc), (.slice aa t.args.length ac), (I6 t.mn), (I6 t.mx), (.bool t.neg)]) rfl zAb zAH rfl (Br.cells rfl)) ?_
 refine qM (I6 c) rfl ?_
 obtain ⟨n1, hn1⟩ : ∃ n1, n1 = wo.heap.size := ⟨_, rfl⟩
 have hob : w0.heap.size ≤ bo ∧ bo < n1 ∧ w0.heap.size ≤ n1 := ⟨by have := No.eq; have := Nr.ext.size; omega, by rw [hn1]; exact Bo.lt, by rw [hn1]; exact E.size⟩
 refine zAL rfl rfl (by decide) (zAT (vs := [(.agg (R6 t sa sc aa ac)), (I6 c)]) Tryz.func74 zQK zQt rfl) ((zPA c 1000000 (by decide) t _ S _ (by omega) (zDs ho) (zAc.ext E t ht0) (fun y hy => by have := hS y hy; have := E.size; omega)).mono (R' := fun r w => reG (fun b => S b ∨ n1 ≤ b) D r w ∧ Ext wo w) (fun r w h => ⟨zBd (S' := fun b => S b ∨ wo.heap.size ≤ b) (fun b hb => by rcases hb with h1 | h1; exact .inl h1; exact .inr (by rw [hn1]; exact h1)) (by rw [hD]; exact h.1), h.2⟩)) ?_
 rintro _ w9 ⟨⟨xa, xc, ya, yc, rfl, hR⟩, X9⟩
 replace Br := X9.keep Br
 replace Bo := X9.keep Bo
 replace E := E.ext X9
 refine zAL rfl rfl (by decide) (zAT (vs := [(.agg (R6 D xa xc ya yc))]) Tryz.func17 nm17 bd17 rfl) ((zIX D.size D _ _ _ (Nat.le_refl _) (by omega) hp (zAc.lt D hR) (fun b hb => hb.2)).mono (R' := fun r w => reG (fun b => S b ∨ n1 ≤ b) N r w ∧ Ext w9 w) (fun r w h => by obtain ⟨⟨us, h1, h2⟩, h3⟩ := h; rw [hsim] at h2; exact ⟨zBd (fun b hb => by rcases hb with hb | hb; exact hb.1; exact .inr (by have := X9.size; omega)) ⟨us, h1, h2⟩, h3⟩)) ?_
 rintro _ w19 ⟨⟨za, zc, ua, uc, rfl, hR2⟩, X19⟩
 replace Br := X19.keep Br
 replace Bo := X19.keep Bo
 replace E := E.ext X19
 refine qW (R6 N za zc ua uc) rfl rfl zAH Bo ?_
 intro w1 S1
 replace hR2 := zAc.chg S1.chg (fun y hy h => by have h2 : y = bo := h; rcases hy with h1 | h1; have := hS y h1; omega; omega) _ hR2
 replace Br := S1.keep (by omega) Br
 replace E := S1.stp E
 replace Bo := S1.blk
 refine zAB (zAQ ?_)
 refine zAm Tryz.results18 (vs := [(.int .i64 N.kind), (.slice za N.set.length zc), (.slice ua N.args.length uc), (.int .i64 N.mn), (.int .i64 N.mx), (.bool N.neg)]) (b := bo) rfl zAb zAH rfl (Bo.cells rfl) ?_
 exact ⟨⟨_, _, _, _, rfl, zAc.mono (fun y hy => by rcases hy with h1 | h1; exact .inl h1; exact .inr (by omega)) _ hR2⟩, E⟩
theorem zPy (w0 : World) (t : Re) (vs : List Value) (ht : zBC w0 t vs) (hs : t.size ≤ 2097152) :
  Ret Tryz.prog 9 #[.agg vs.toArray] w0 fun r w => r = .int .i64 (zBp t) ∧ Ext w0 w := by
 have ht0 := ht
 obtain ⟨sa, sc, aa, ac, rfl, hset, hlen, hargs⟩ := ht.form
 have hD : zBp t = if zCW t 300 ≠ 0 then zCW t 300 else if zCk [9, 10] t = true then 3 else 0 := rfl
 rw [hD]
 refine zAk Tryz.func9 rfl Tryz.ntmps9 (Nat.le_of_ble_eq_true rfl) ?_
 have E : Chg zAh w0 w0 := Chg.refl _ _
 refine zAA ?_
 refine zBL (v := (.agg (R6 t sa sc aa ac))) (c := (R6 t sa sc aa ac)) (by decide) rfl rfl ?_
 intro br wr Nr
 have Fr := Nr.ge E
 replace E := E.ext Nr.ext
 have Br := Nr.blk
 refine qA (I6 0) rfl ?_
 refine zAB (zAP (zAA ?_))
 refine qV (zAG (vs := [(I6 t.kind), (.slice sa t.set.length sc), (.slice aa t.args.length ac), (I6 t.mn), (I6 t.mx), (.bool t.neg)]) rfl zAb zAH rfl (Br.cells rfl)) ?_
 refine zAL rfl rfl (by decide) (zAT (vs := [(.agg (R6 t sa sc aa ac)), (I6 300)]) Tryz.func51 nm51 bd51 rfl) (zPw _ t _ 300 (by decide) (zBC.ext E t ht0) hs) ?_
 rintro _ w9 ⟨rfl, X9⟩
 replace Br := X9.keep Br
 replace E := E.ext X9
 refine qA (I6 (zCW t 300)) rfl ?_
 refine zAB (zAA ?_)
 refine qM (I6 (zCW t 300)) rfl ?_
 refine qV (zBz (k := .i64) (a := zCW t 300) (b := 0) rfl rfl) ?_
 refine zAB ?_
 refine zAM (b := decide ((zCW t 300 : Int) ≠ 0)) rfl (fun hf => ?_) (fun hf => ?_)
 ·have khf := hf
  replace hf := of_decide_eq_true hf
  refine zAA ?_
  refine qM (I6 (zCW t 300)) rfl ?_
  refine qA (I6 (zCW t 300)) rfl ?_
  refine zAB (zAQ (zAI ?_))
  refine zAS Tryz.results9 (v := (.int .i64 (zCW t 300))) rfl ?_
  exact ⟨by rw [if_pos hf], E⟩
 have khf := hf
 replace hf := of_decide_eq_false hf
 have hf0 : zCW t 300 = 0 := by omega
 obtain ⟨hok, hsz⟩ := (zFg (by decide) (by decide)).1 hf0
 refine zAR (zAC (zAP (zAA ?_)))
 refine qV (zAG (vs := [(I6 t.kind), (.slice sa t.set.length sc), (.slice aa t.args.length ac), (I6 t.mn), (I6 t.mx), (.bool t.neg)]) rfl zAb zAH rfl (Br.cells rfl)) ?_
 refine zAu (ps := [(0, (I6 9)), (1, (I6 10))]) (c := #[(I6 9), (I6 10)]) (by decide) rfl Tryz.underlying26 zAw zJN (by decide) (by decide) (by kernel_rfl) ?_
 intro bk wk Nk
 have Fk := Nk.ge E
 have Ok_br := Nk.lt Br
 replace Br := Nk.keep Br
 replace E := E.ext Nk.ext
 have Bk := Nk.blk
 refine zAL rfl rfl (by decide) (zAT (vs := [(.agg (R6 t sa sc aa ac)), (.slice (some ⟨bk, 0, none⟩) 2 2)]) Tryz.func52 nm52 bd52 rfl) (has_c _ t _ _ [9, 10] (zBC.ext E t ht0) (zDV [9, 10] Bk (by simp) (by simp)) (by omega) (by decide)) ?_
 rintro _ w19 ⟨rfl, X19⟩
 replace Br := X19.keep Br
 replace Bk := X19.keep Bk
 replace E := E.ext X19
 refine zAB ?_
 refine zAM (b := zCk [9, 10] t) rfl (fun hu => ?_) (fun hu => ?_)
 ·have khu := hu
  refine zAA ?_
  refine qA (I6 3) rfl ?_
  refine zAB (zAQ (zAI ?_))
  refine zAS Tryz.results9 (v := (.int .i64 3)) rfl ?_
  exact ⟨by rw [if_neg hf, if_pos hu], E⟩
 have khu := hu
 refine zAR (zAC (zAA ?_))
 refine qA (I6 0) rfl ?_
 refine zAB (zAQ ?_)
 refine zAS Tryz.results9 (v := (.int .i64 0)) rfl ?_
 exact ⟨by rw [if_neg hf, if_neg (by rw [hu]; decide)], E⟩
theorem zOL (w0 : World) (t : Re) (vs : List Value) (ht : zBC w0 t vs) (hs : t.size ≤ 2097152) (hok : zDh t) :
  Ret Tryz.prog 16 #[.agg vs.toArray] w0 fun v w => (∃ b, v = .bool b ∧ (b = true → t.size ≤ 40)) ∧ Ext w0 w := by
 have ht0 := ht
 obtain ⟨sa, sc, aa, ac, rfl, hset, hlen, hargs⟩ := ht.form
 refine zAk Tryz.func16 rfl Tryz.ntmps16 (Nat.le_of_ble_eq_true rfl) ?_
 have E : Chg zAh w0 w0 := Chg.refl _ _
 refine zAA ?_
 refine zBL (v := (.agg (R6 t sa sc aa ac))) (c := (R6 t sa sc aa ac)) (by decide) rfl rfl ?_
 intro br wr Nr
 have Fr := Nr.ge E
 replace E := E.ext Nr.ext
 have Br := Nr.blk
 refine qA (.bool false) rfl ?_
 refine zAB (zAA ?_)
 refine qV (zAG (vs := [(I6 t.kind), (.slice sa t.set.length sc), (.slice aa t.args.length ac), (I6 t.mn), (I6 t.mx), (.bool t.neg)]) rfl zAb zAH rfl (Br.cells rfl)) ?_
 refine zAL rfl rfl (by decide) (zAT (vs := [(.agg (R6 t sa sc aa ac)), (I6 41)]) Tryz.func19 nm19 bd19 rfl) (zMV _ t _ _ (zBC.ext E t ht0) hs) ?_
 rintro _ w9 ⟨la, lc, rows, rfl, hsl, hrows, X9⟩
 replace Br := X9.keep Br
 replace E := E.ext X9
 have hpl : ((zEZ t).take (41 : Int).toNat).length = min 41 t.size := by rw [List.length_take, zDy]; rfl
 refine qV (zAV (ad := la) (n := ((zEZ t).take (41 : Int).toNat).length) (cap := lc) Tryz.underlying23 rfl) ?_
 refine qV (zDu (k := .i64) (a := ((((zEZ t).take (41 : Int).toNat).length : Nat) : Int)) (b := 40) rfl rfl) ?_
 refine qM (.bool (decide ((((((zEZ t).take (41 : Int).toNat).length : Nat) : Int) : Int) ≤ 40))) rfl ?_
 rcases Bool.eq_false_or_eq_true (decide ((((((zEZ t).take (41 : Int).toNat).length : Nat) : Int) : Int) ≤ 40)) with g1 | g1
 ·have kg1 := g1
  replace kg1 := of_decide_eq_true kg1
  refine zAF (oj := _) rfl rfl (by decide) (congrArg Value.bool g1) ?_
  refine qV (zAG (vs := [(I6 t.kind), (.slice sa t.set.length sc), (.slice aa t.args.length ac), (I6 t.mn), (I6 t.mx), (.bool t.neg)]) rfl zAb zAH rfl (Br.cells rfl)) ?_
  refine zAF (oj := _) rfl rfl (by decide) (congrArg Value.bool g1) ?_
  refine zAL rfl rfl (by decide) (zAT (vs := [(.agg (R6 t sa sc aa ac))]) Tryz.func68 nm68 bd68 rfl) (zNl _ t (Nat.le_refl _) hs hok _ _ (zBC.ext E t ht0)) ?_
  rintro _ w29 ⟨⟨u, rfl, hu⟩, X29⟩
  replace Br := X29.keep Br
  replace E := E.ext X29
  refine zAF (oj := _) rfl rfl (by decide) (congrArg Value.bool g1) ?_
  refine qV (zDu (k := .i64) (a := u) (b := 60) rfl rfl) ?_
  refine qV (zAd (b := decide ((((((zEZ t).take (41 : Int).toNat).length : Nat) : Int) : Int) ≤ 40)) (v := (.bool (decide ((u : Int) ≤ 60)))) rfl (by rw [g1]; rfl)) ?_
  refine qA (.bool (decide ((u : Int) ≤ 60))) rfl ?_
  refine zAB (zAQ ?_)
  refine zAS Tryz.results16 (v := (.bool (decide ((u : Int) ≤ 60)))) rfl ?_
  exact ⟨⟨_, rfl, fun h => by simp at g1; omega⟩, E⟩
 have kg1 := g1
 replace kg1 := of_decide_eq_false kg1
 refine zAD (oj := _) rfl rfl (by decide) (v := .bool false) (congrArg Value.bool g1) (Or.inl rfl) ?_
 refine zAD (oj := _) rfl rfl (by decide) (v := .bool false) (congrArg Value.bool g1) (Or.inl rfl) ?_
 refine zAD (oj := _) rfl rfl (by decide) (v := .bool false) (congrArg Value.bool g1) (Or.inl rfl) ?_
 refine qV (zAd (b := decide ((((((zEZ t).take (41 : Int).toNat).length : Nat) : Int) : Int) ≤ 40)) (v := (.bool false)) rfl (by rw [g1]; rfl)) ?_
 refine qA (.bool false) rfl ?_
 refine zAB (zAQ ?_)
 refine zAS Tryz.results16 (v := (.bool false)) rfl ?_
 exact ⟨⟨_, rfl, fun h => by cases h⟩, E⟩
def zIo (t : Re) : Re := if zBp t = 0 then zCU t else zBH
set_option maxHeartbeats 1000000 in
theorem zQd (w0 : World) (S : Nat → Prop) (t : Re) (vs : List Value) (ht : zAc S w0 t vs) (hS : ∀ x, S x → x < w0.heap.size) :
  Ret Tryz.prog 10 #[.agg vs.toArray] w0 fun r w => (∃ us, r = .tuple #[.agg us.toArray, .int .i64 (zBp t)] ∧ zAc (fun b => w0.heap.size ≤ b) w (zIo t) us) ∧ Ext w0 w := by
 have ht0 := ht
 obtain ⟨sa, sc, aa, ac, rfl, hset, hlen, hargs⟩ := ht.form
 refine zAk Tryz.func10 rfl Tryz.ntmps10 (Nat.le_of_ble_eq_true rfl) ?_
 have E : Chg zAh w0 w0 := Chg.refl _ _
 refine zAA ?_
 refine zBL (v := (.agg (R6 t sa sc aa ac))) (c := (R6 t sa sc aa ac)) (by decide) rfl rfl ?_
 intro br wr Nr
 have Fr := Nr.ge E
 replace E := E.ext Nr.ext
 have Br := Nr.blk
 refine zBD (c := #[(I6 0), (.slice none 0 0), (.slice none 0 0), (I6 0), (I6 0), (.bool false)]) (by decide) zAs rfl ?_
 intro bo wo No
 have Fo := No.ge E
 have Oo_br := No.lt Br
 replace Br := No.keep Br
 replace E := E.ext No.ext
 have Bo := No.blk
 refine qA (I6 0) rfl ?_
 refine zAB (zAP (zAA ?_))
 refine qV (zAG (vs := [(I6 t.kind), (.slice sa t.set.length sc), (.slice aa t.args.length ac), (I6 t.mn), (I6 t.mx), (.bool t.neg)]) rfl zAb zAH rfl (Br.cells rfl)) ?_
 refine zAL rfl rfl (by decide) (zAT (vs := [(.agg (R6 t sa sc aa ac))]) Tryz.func14 nm14 bd14 rfl) (zKf _ t _ (zAc.at t (zAc.ext E t ht0))) ?_
 rintro _ w9 ⟨rfl, X9⟩
 replace Br := X9.keep Br
 replace Bo := X9.keep Bo
 replace E := E.ext X9
 refine qA (I6 (zBp t)) rfl ?_
 refine zAB (zAA ?_)
 refine qM (I6 (zBp t)) rfl ?_
 refine qV (zBz (k := .i64) (a := zBp t) (b := 0) rfl rfl) ?_
 refine zAB ?_
 refine zAM (b := decide ((zBp t : Int) ≠ 0)) rfl (fun hf => ?_) (fun hf => ?_)
 ·have khf := hf
  replace hf := of_decide_eq_true hf
  refine zAA ?_
  refine qV (zBW (ps := []) (v := (.agg #[(I6 0), (.slice none 0 0), (.slice none 0 0), (I6 0), (I6 0), (.bool false)])) rfl (by kernel_rfl)) ?_
  refine qM (I6 (zBp t)) rfl ?_
  refine qW (#[(I6 0), (.slice none 0 0), (.slice none 0 0), (I6 0), (I6 0), (.bool false)]) rfl rfl zAH Bo ?_
  intro w2 S2
  replace Br := S2.keep (by omega) Br
  replace E := S2.stp E
  replace Bo := S2.blk
  refine qA (I6 (zBp t)) rfl ?_
  refine zAB (zAQ (zAI ?_))
  refine zCv Tryz.results10 (vs := [(.int .i64 0), (.slice none 0 0), (.slice none 0 0), (.int .i64 0), (.int .i64 0), (.bool false)]) (b := bo) (v' := (.int .i64 (zBp t))) rfl zAb zAH rfl (Bo.cells rfl) rfl ?_
  exact ⟨⟨_, rfl, by unfold zIo; rw [if_neg hf]; exact re_z⟩, E⟩
 have khf := hf
 replace hf := of_decide_eq_false hf
 have hc0 : zBp t = 0 := by omega
 obtain ⟨hok, hsz, hu, hsim, hsimz⟩ := zFP hc0
 obtain ⟨M, hM⟩ : ∃ M, M = zCU t := ⟨_, rfl⟩
 refine zAR (zAC (zAA ?_))
 refine qV (zAG (vs := [(I6 t.kind), (.slice sa t.set.length sc), (.slice aa t.args.length ac), (I6 t.mn), (I6 t.mx), (.bool t.neg)]) rfl zAb zAH rfl (Br.cells rfl)) ?_
 obtain ⟨n1, hn1⟩ : ∃ n1, n1 = w9.heap.size := ⟨_, rfl⟩
 have hob : bo < n1 ∧ w0.heap.size ≤ bo := ⟨by rw [hn1]; exact Bo.lt, by omega⟩
 refine zAL rfl rfl (by decide) (zAT (vs := [(.agg (R6 t sa sc aa ac))]) Tryz.func58 nm58 bd58 rfl) ((zNG 300 t _ S _ hsz (by omega) hok hu (zAc.ext E t ht0) (fun y hy => by have := hS y hy; have := E.size; omega)).mono (R' := fun r w => reG (fun b => S b ∨ n1 ≤ b) M r w ∧ Ext w9 w) (fun r w h => ⟨zBd (S' := fun b => S b ∨ w9.heap.size ≤ b) (fun b hb => by rcases hb with h1 | h1; exact .inl h1; exact .inr (by omega)) (by rw [hM]; exact h.1), h.2⟩)) ?_
 rintro _ w29 ⟨⟨xa, xc, ya, yc, rfl, hR⟩, X29⟩
 replace Br := X29.keep Br
 replace Bo := X29.keep Bo
 replace E := E.ext X29
 have hbo29 : bo < (w29).heap.size := by have := X29.size; omega
 refine zAL rfl rfl (by decide) (zAT (vs := [(.agg (R6 M xa xc ya yc))]) Tryz.func57 nm57 bd57 rfl) (zPQ M.size M _ _ (Nat.le_refl _) (by rw [hM]; omega) (zHm M (by rw [hM]; exact (zDq hsim).1)) (zAc.at M hR)) ?_
 rintro _ w59 ⟨⟨us, Z, L, rfl, hTr, hZL, hnew⟩, X59⟩
 replace Br := X59.keep Br
 replace Bo := X59.keep Bo
 replace E := E.ext X59
 have hR7 := zGF (S := fun b => bo < b) (fun x hx => by have := (hnew x (.inl hx)).1; omega) M hTr (fun x hx => by have := (hnew x (.inr hx)).1; omega)
 obtain ⟨fa, fc, ga, gc, rfl, _, _, _⟩ := hTr.form
 refine qW (R6 M fa fc ga gc) rfl rfl zAH Bo ?_
 intro w3 S3
 replace hR7 := zAc.chg S3.chg (fun y hy h => by have h2 : y = bo := h; have h3 : bo < y := hy; omega) _ hR7
 replace Br := S3.keep (by omega) Br
 replace E := S3.stp E
 replace Bo := S3.blk
 refine qA (I6 0) rfl ?_
 refine zAB (zAQ ?_)
 refine zCv Tryz.results10 (vs := [(.int .i64 M.kind), (.slice fa M.set.length fc), (.slice ga M.args.length gc), (.int .i64 M.mn), (.int .i64 M.mx), (.bool M.neg)]) (b := bo) (v' := (.int .i64 0)) rfl zAb zAH rfl (Bo.cells rfl) rfl ?_
 exact ⟨⟨_, by rw [hc0], by unfold zIo; rw [if_pos hc0, ← hM]; exact zAc.mono (fun y (hy : bo < y) => by omega) _ hR7⟩, E⟩
end Go.Proofs
namespace Go.Proofs
open Go Go.Eng Go.Sort
set_option maxRecDepth 100000
theorem zIZ {t : Re} {c : Int} {l : List Int} : zIG t (c :: l) = if 300 < (zBK c t).size then none else zIG (zBK c t) l := rfl
set_option maxHeartbeats 2000000 in
theorem zPN (w0 : World) (S : Nat → Prop) (t : Re) (vs : List Value) (v : Value) (text : List Int) (ht : zAc S w0 t vs) (hS : ∀ x, S x → x < w0.heap.size) (hx : zBr w0 v text) :
  Ret Tryz.prog 12 #[.agg vs.toArray, v] w0 fun r w => r = .tuple #[.bool (zEB t text), .int .i64 (zCn t text)] ∧ Ext w0 w := by
 have ht0 := ht
 obtain ⟨sa, sc, aa, ac, rfl, hset, hlen, hargs⟩ := ht.form
 obtain ⟨xa, xc, rfl⟩ := zCA.form hx
 have hxl : text.length ≤ 9223372036854775807 := by simpa using zCA.le hx
 simp only [List.length_map] at hx ⊢
 have hE : zCn t text = if zBp t ≠ 0 then zBp t else if 100 < text.length then 2 else if text.any (fun r => !zCe r) = true then 1 else if (zIG (zCU t) text).isNone = true then 2 else 0 := rfl
 have hB : zEB t text = if zCn t text = 0 then ((zIG (zCU t) text).map zBg).getD false else false := rfl
 refine zAk Tryz.func12 rfl Tryz.ntmps12 (Nat.le_of_ble_eq_true rfl) ?_
 have E : Chg zAh w0 w0 := Chg.refl _ _
 refine zAA ?_
 refine zBL (v := (.agg (R6 t sa sc aa ac))) (c := (R6 t sa sc aa ac)) (by decide) rfl rfl ?_
 intro br wr Nr
 have Fr := Nr.ge E
 replace E := E.ext Nr.ext
 have Br := Nr.blk
 refine qA (.bool false) rfl ?_
 refine qA (I6 0) rfl ?_
 refine zAB (zAP (zAA ?_))
 refine qV (zAG (vs := [(I6 t.kind), (.slice sa t.set.length sc), (.slice aa t.args.length ac), (I6 t.mn), (I6 t.mx), (.bool t.neg)]) rfl zAb zAH rfl (Br.cells rfl)) ?_
 refine zAL rfl rfl (by decide) (zAT (vs := [(.agg (R6 t sa sc aa ac))]) Tryz.func14 nm14 bd14 rfl) (zKf _ t _ (zAc.at t (zAc.ext E t ht0))) ?_
 rintro _ w9 ⟨rfl, X9⟩
 replace Br := X9.keep Br
 replace E := E.ext X9
 refine qA (I6 (zBp t)) rfl ?_
 refine zAB (zAA ?_)
 refine qM (I6 (zBp t)) rfl ?_
 refine qV (zBz (k := .i64) (a := zBp t) (b := 0) rfl rfl) ?_
 refine zAB ?_
 refine zAM (b := decide ((zBp t : Int) ≠ 0)) rfl (fun hf => ?_) (fun hf => ?_)
 ·have khf := hf
  replace hf := of_decide_eq_true hf
  refine zAA ?_
  refine qM (I6 (zBp t)) rfl ?_
  refine qA (.bool false) rfl ?_
  refine qA (I6 (zBp t)) rfl ?_
  refine zAB (zAQ (zAI ?_))
  refine zFK Tryz.results12 (v := (.bool false)) (v' := (.int .i64 (zBp t))) rfl rfl ?_
  exact ⟨by rw [hB, if_neg (by rw [hE, if_pos hf]; exact hf), hE, if_pos hf], E⟩
 have khf := hf
 replace hf := of_decide_eq_false hf
 have hc0 : zBp t = 0 := by omega
 obtain ⟨hok, hsz, hu, hsim, hsimz⟩ := zFP hc0
 refine zAR (zAC (zAP (zAA ?_)))
 refine qM (.slice xa text.length xc) rfl ?_
 refine qV (zAV (ad := xa) (n := text.length) (cap := xc) Tryz.underlying26 rfl) ?_
 refine qV (zCM (k := .i64) (a := (text.length : Int)) (b := 100) rfl rfl) ?_
 refine zAB ?_
 refine zAM (b := decide ((100 : Int) < (text.length : Int))) rfl (fun hl => ?_) (fun hl => ?_)
 ·have khl := hl
  replace hl := of_decide_eq_true hl
  have hEl : zCn t text = 2 := by rw [hE, if_neg hf, if_pos (by omega)]
  refine zAA ?_
  refine qA (.bool false) rfl ?_
  refine qA (I6 2) rfl ?_
  refine zAB (zAQ (zAI ?_))
  refine zFK Tryz.results12 (v := (.bool false)) (v' := (.int .i64 2)) rfl rfl ?_
  exact ⟨by rw [hB, hEl, if_neg (by decide)], E⟩
 have khl := hl
 replace hl := of_decide_eq_false hl
 refine zAR (zAC (zAP (zAA ?_)))
 refine qM (.slice xa text.length xc) rfl ?_
 refine zAL rfl rfl (by decide) (zAT (vs := [(.slice xa text.length xc)]) Tryz.func62 nm62 bd62 rfl) (zPo _ _ text (hx.ext E)) ?_
 rintro _ w19 ⟨rfl, X19⟩
 replace Br := X19.keep Br
 replace E := E.ext X19
 refine qV (zCV (b := !(text.any fun r => !zCe r)) rfl) ?_
 refine zAB ?_
 refine zAM (b := !(!(text.any fun r => !zCe r))) rfl (fun hr => ?_) (fun hr => ?_)
 ·have khr := hr
  replace hr := by simpa using hr
  replace hr := by simpa using hr
  have hr1 : (text.any fun r => !zCe r) = true := by simpa using hr
  have hEl : zCn t text = 1 := by rw [hE, if_neg hf, if_neg (by omega), if_pos hr1]
  refine zAA ?_
  refine qA (.bool false) rfl ?_
  refine qA (I6 1) rfl ?_
  refine zAB (zAQ (zAI ?_))
  refine zFK Tryz.results12 (v := (.bool false)) (v' := (.int .i64 1)) rfl rfl ?_
  exact ⟨by rw [hB, hEl, if_neg (by decide)], E⟩
 have khr := hr
 replace hr := by simpa using hr
 replace hr := by simpa using hr
 have hr1 : ¬ (text.any fun r => !zCe r) = true := by simpa using hr
 have hE2 : zCn t text = if (zIG (zCU t) text).isNone = true then 2 else 0 := by rw [hE, if_neg hf, if_neg (by omega), if_neg hr1]
 clear hE
 obtain ⟨M, hM⟩ : ∃ M, M = zCU t := ⟨_, rfl⟩
 rw [← hM] at hE2 hB hsim hsimz
 refine zAR (zAC (zAA ?_))
 refine qV (zAG (vs := [(I6 t.kind), (.slice sa t.set.length sc), (.slice aa t.args.length ac), (I6 t.mn), (I6 t.mx), (.bool t.neg)]) rfl zAb zAH rfl (Br.cells rfl)) ?_
 refine zAL rfl rfl (by decide) (zAT (vs := [(.agg (R6 t sa sc aa ac))]) Tryz.func58 nm58 bd58 rfl) ((zNG 300 t _ S _ hsz (by omega) hok hu (zAc.ext E t ht0) (fun y hy => by have := hS y hy; have := E.size; omega)).mono (R' := fun r w => reG (fun _ => True) M r w ∧ Ext w19 w) (fun r w h => ⟨zBd (S' := fun b => S b ∨ w19.heap.size ≤ b) (fun b hb => trivial) (by rw [hM]; exact h.1), h.2⟩)) ?_
 rintro _ w29 ⟨⟨ma, mc, na, nc, rfl, hR4⟩, X29⟩
 replace Br := X29.keep Br
 replace E := E.ext X29
 have hR6 := zAc.lt M hR4
 obtain ⟨h29, hh29⟩ : ∃ h, h = w29.heap.size := ⟨_, rfl⟩
 rw [← hh29] at hR6
 have E3 : Chg zAh w29 w29 := Chg.refl _ _
 refine zAi (v := (.agg (R6 M ma mc na nc))) (c := (R6 M ma mc na nc)) (n := 6) (by decide) zAs rfl zAH rfl rfl rfl (by simp [Value.oneCell']) ?_
 intro bq wq Nq
 have Fq := Nq.ge E
 have Fq_E3 := Nq.ge E3
 have Oq_br := Nq.lt Br
 replace Br := Nq.keep Br
 replace hR6 := zAc.ext Nq.ext _ hR6
 replace E := E.ext Nq.ext
 have Bq := Nq.blk
 replace E3 := E3.ext Nq.ext
 refine zAB (zAP (zAA ?_))
 refine qM (.slice xa text.length xc) rfl ?_
 refine qV (zAV (ad := xa) (n := text.length) (cap := xc) Tryz.underlying26 rfl) ?_
 refine qM (I6 0) rfl ?_
 refine zAB (zAZ ?_)
 refine zBA (fun nn_ σ W4 => ∃ (k : Nat) (D : Re) (da : Option Addr) (dc : Nat) (ea : Option Addr) (ec : Nat), (∃ jj_, σ = zCl jj_ [(7, (P6 bq 0)), (23, (.slice xa text.length xc)), (24, (I6 (text.length : Int))), (25, (I6 (k : Int)))]) ∧ Chg zAh w0 W4 ∧ Chg zAh w29 W4 ∧ Blk W4 br (R6 t sa sc aa ac) 25 ∧ Blk W4 bq (#[.int .i64 D.kind, .slice da D.set.length dc, .slice ea D.args.length ec, .int .i64 D.mn, .int .i64 D.mx, .bool D.neg]) 25 ∧ (k ≤ text.length) ∧ (zAc (fun b => b ≠ bq) W4 D [.int .i64 D.kind, .slice da D.set.length dc, .slice ea D.args.length ec, .int .i64 D.mn, .int .i64 D.mx, .bool D.neg]) ∧ (zAq D) ∧ (D.size ≤ 300) ∧ (zIG M text = zIG D (text.drop k)) ∧ nn_ = text.length - k) (n := text.length - 0) ?_ ?_
 ·exact ⟨0, M, ma, mc, na, nc, zBG.out ⟨rfl, rfl, rfl, rfl, trivial⟩, E, E3, Br, Bq, Nat.zero_le _, zAc.mono (fun y hy => by have := hy.2; omega) _ hR6, hsim, hsimz, rfl, rfl⟩
 clear E E3 Br Bq
 rintro _ _ W4 ⟨k, D, da, dc, ea, ec, ⟨j4, rfl⟩, E, E3, Br, Bq, hk, hRk, hDo, hDz, hrun, rfl⟩
 refine zAA ?_
 refine qV (zBS (k := .i64) (a := (k : Int)) (b := (text.length : Int)) rfl rfl) ?_
 refine zAB (zAP ?_)
 refine zAM (b := decide (((k : Int) : Int) < (text.length : Int))) rfl (fun hlt => ?_) (fun hlt => ?_)
 ·have khlt := hlt
  replace hlt := of_decide_eq_true hlt
  obtain ⟨c, hc⟩ := zAa (l := text) (i := k) (by omega)
  obtain ⟨xb, xo, rfl, hcl⟩ := zBv (n := text.length) hx (by omega)
  refine zAR (zAC (zAP (zAZ (zAA ?_))))
  refine qV (zAO (b := xb) (o := xo) (len := text.length) (cap := xc) (i := k) (o' := xo + k) rfl rfl rfl Tryz.underlying26 zAw (by omega) (by omega)) ?_
  refine qV (zAK (v := (I6 c)) rfl zAf (E.cell (fun f => f) (hcl k c hc))) ?_
  obtain ⟨F, hF⟩ : ∃ F, F = zBK c D := ⟨_, rfl⟩
  have hFo : zAq F := by rw [hF]; exact zDN c hDo
  have hFz : F.size ≤ 200000 := by rw [hF]; exact zCY hDo hDz
  have hdr : text.drop k = c :: text.drop (k + 1) := by obtain ⟨hlt9, rfl⟩ := List.getElem?_eq_some_iff.1 hc; exact List.drop_eq_getElem_cons hlt9
  have hbqW : bq < (W4).heap.size := Bq.lt
  refine qA (I6 c) rfl ?_
  refine zAB (zAA ?_)
  refine qV (zAG (vs := [(I6 D.kind), (.slice da D.set.length dc), (.slice ea D.args.length ec), (I6 D.mn), (I6 D.mx), (.bool D.neg)]) rfl zAb zAH rfl (Bq.cells rfl)) ?_
  refine qM (I6 c) rfl ?_
  refine zAL rfl rfl (by decide) (zAT (vs := [(.agg (R6 D da dc ea ec)), (I6 c)]) Tryz.func60 zQL zQu rfl) ((zLr c 301 (by omega) D _ _ _ (by omega) hDo (zAc.lt _ hRk) (fun y hy => hy.2)).mono (R' := fun r w => reG (fun b => b ≠ bq) F r w ∧ Ext _ w) (fun r w h => ⟨zBd (S' := fun b => (b ≠ bq ∧ b < _) ∨ _ ≤ b) (fun b hb => by rcases hb with h1 | h1; exact h1.1; exact fun e => by rw [e] at h1; exact absurd hbqW (Nat.not_lt.2 h1)) (by rw [hF]; exact h.1), h.2⟩)) ?_
  rintro _ w39 ⟨⟨fa, fc, ga, gc, rfl, hR5⟩, X39⟩
  replace Br := X39.keep Br
  replace Bq := X39.keep Bq
  replace E := E.ext X39
  replace E3 := E3.ext X39
  refine qW (R6 F fa fc ga gc) rfl rfl zAH Bq ?_
  intro w6 S6
  replace hR5 := zAc.chg S6.chg (fun y hy h => hy h) _ hR5
  replace Br := S6.keep (by omega) Br
  replace E := S6.stp E
  replace E3 := S6.step E3 (Or.inl (by omega))
  replace Bq := S6.blk
  refine zAB (zAA ?_)
  refine qV (zAG (vs := [(I6 F.kind), (.slice fa F.set.length fc), (.slice ga F.args.length gc), (I6 F.mn), (I6 F.mx), (.bool F.neg)]) rfl zAb zAH rfl (Bq.cells rfl)) ?_
  refine zAL rfl rfl (by decide) (zAT (vs := [(.agg (R6 F fa fc ga gc))]) Tryz.func61 nm61 bd61 rfl) (zOx _ F _ (zAc.at F hR5) (by omega)) ?_
  rintro _ w49 ⟨rfl, X49⟩
  replace Br := X49.keep Br
  replace Bq := X49.keep Bq
  replace hR5 := zAc.ext X49 _ hR5
  replace E := E.ext X49
  replace E3 := E3.ext X49
  refine qV (zCM (k := .i64) (a := (F.size : Int)) (b := 300) rfl rfl) ?_
  refine zAB ?_
  refine zAM (b := decide ((300 : Int) < (F.size : Int))) rfl (fun hz => ?_) (fun hz => ?_)
  ·have khz := hz
   replace hz := of_decide_eq_true hz
   have hn9 : zIG M text = none := by rw [hrun, hdr, zIZ, if_pos (by rw [← hF]; omega)]
   have hE9 : zCn t text = 2 := by rw [hE2, hn9]; rfl
   refine zAA ?_
   refine qA (.bool false) rfl ?_
   refine qA (I6 2) rfl ?_
   refine zAB (zAQ (zAY (zAI (zAI (zAY (zAI ?_))))))
   refine zFK Tryz.results12 (v := (.bool false)) (v' := (.int .i64 2)) rfl rfl ?_
   exact ⟨by rw [hB, hE9, if_neg (by decide)], E⟩
  have khz := hz
  replace hz := of_decide_eq_false hz
  refine zAR (zAU (zAC (zAW ?_)))
  refine qV (zBQ (k := .i64) (a := (k : Int)) (b := 1) (c := (k : Int) + 1) rfl rfl (zBs (by omega))) ?_
  refine qM (I6 ((k : Int) + 1)) rfl ?_
  refine zAB (zAC ?_)
  exact ⟨text.length - (k + 1), by omega, k + 1, F, fa, fc, ga, gc, zBG.out ⟨rfl, rfl, rfl, rfl, trivial⟩, E, E3, Br, Bq, (by omega), hR5, hFo, (by omega), (by rw [hrun, hdr, zIZ, if_neg (by rw [← hF]; omega), ← hF]), rfl⟩
 have khlt := hlt
 replace hlt := of_decide_eq_false hlt
 have hkk : k = text.length := by omega
 have hn9 : zIG M text = some D := by rw [hrun, hkk, List.drop_length]; rfl
 have hE9 : zCn t text = 0 := by rw [hE2, hn9]; rfl
 refine zBB (zAe (zAe (zAr (zAC (zAA ?_)))))
 refine qV (zAG (vs := [(I6 D.kind), (.slice da D.set.length dc), (.slice ea D.args.length ec), (I6 D.mn), (I6 D.mx), (.bool D.neg)]) rfl zAb zAH rfl (Bq.cells rfl)) ?_
 refine zAL rfl rfl (by decide) (zAT (vs := [(.agg (R6 D da dc ea ec))]) Tryz.func63 nm63 bd63 rfl) (zPM 300 D _ _ hDz (by omega) (zAc.at D hRk)) ?_
 rintro _ w59 ⟨rfl, X59⟩
 replace Br := X59.keep Br
 replace Bq := X59.keep Bq
 replace E := E.ext X59
 replace E3 := E3.ext X59
 refine qA (.bool (zBg D)) rfl ?_
 refine qA (I6 0) rfl ?_
 refine zAB (zAQ ?_)
 refine zFK Tryz.results12 (v := (.bool (zBg D))) (v' := (.int .i64 0)) rfl rfl ?_
 exact ⟨by rw [hB, hE9, if_pos rfl, hn9]; rfl, E⟩
end Go.Proofs
namespace Go.Proofs
open Go Go.Eng Go.Sort
set_option maxRecDepth 100000
def zOn : Re := .mk 3 [] [zKM 97, zKM 98] 0 0 false
theorem zQs : byE zOn 97 = 0 ∧ byD zOn 97 = zKM 98 := ⟨by decide +kernel, (zBb _ _).1 (by decide +kernel)⟩
end Go.Proofs
namespace Go.Proofs
open Go Go.Eng Go.Sort
set_option maxRecDepth 100000
theorem sp2_c (w0 : World) (lo hi : Int) : Ret Tryz.prog 124 #[.int .i64 lo, .int .i64 hi] w0 fun v w => v = .agg #[.int .i64 lo, .int .i64 hi] ∧ Ext w0 w := by
 refine zAk Tryz.func124 rfl Tryz.ntmps124 (Nat.le_of_ble_eq_true rfl) ?_
 have E : Chg zAh w0 w0 := Chg.refl _ _
 refine zAA ?_
 refine zBD (c := #[(I6 0), (I6 0)]) (by decide) zEz rfl ?_
 intro b1 w1 N1
 have F1 := N1.ge E
 replace E := E.ext N1.ext
 have B1 := N1.blk
 refine zAB (zAA ?_)
 refine qM (I6 lo) rfl ?_
 refine qM (I6 hi) rfl ?_
 refine qV (zBW (ps := [(0, (I6 lo)), (1, (I6 hi))]) (v := (.agg #[(I6 lo), (I6 hi)])) rfl (by kernel_rfl)) ?_
 refine qW (#[(I6 lo), (I6 hi)]) rfl rfl zBX B1 ?_
 intro w2 S2
 replace E := S2.stp E
 replace B1 := S2.blk
 refine zAB (zAQ ?_)
 refine zAm Tryz.results124 (vs := [(.int .i64 lo), (.int .i64 hi)]) (b := b1) rfl zDG zBX rfl (B1.cells rfl) ?_
 exact ⟨rfl, E⟩
theorem zJe (w0 : World) (r : Int) : Ret Tryz.prog 64 #[.int .i64 r] w0 fun v w => (∃ b, v = .agg #[.int .i64 2, .slice (some ⟨b, 0, none⟩) 1 1, .slice none 0 0, .int .i64 0, .int .i64 0, .bool false] ∧ zBC w (zKM r) [.int .i64 2, .slice (some ⟨b, 0, none⟩) 1 1, .slice none 0 0, .int .i64 0, .int .i64 0, .bool false]) ∧ Ext w0 w := by
 refine zAk Tryz.func64 rfl Tryz.ntmps64 (Nat.le_of_ble_eq_true rfl) ?_
 have E : Chg zAh w0 w0 := Chg.refl _ _
 refine zAA ?_
 refine zBD (c := #[(I6 0), (.slice none 0 0), (.slice none 0 0), (I6 0), (I6 0), (.bool false)]) (by decide) zAs rfl ?_
 intro bo wo No
 have Fo := No.ge E
 replace E := E.ext No.ext
 have Bo := No.blk
 refine zAB (zAA ?_)
 refine qM (I6 r) rfl ?_
 refine qM (I6 r) rfl ?_
 refine zAL rfl rfl (by decide) (zAT (vs := [(I6 r), (I6 r)]) Tryz.func124 nm124 bd124 rfl) (sp2_c _ r r) ?_
 rintro _ w9 ⟨rfl, X9⟩
 replace Bo := X9.keep Bo
 replace E := E.ext X9
 refine zAu (ps := [(0, (.agg #[(I6 r), (I6 r)]))]) (c := #[(I6 r), (I6 r)]) (by decide) rfl Tryz.underlying22 zBX zEz (by decide) (by decide) (by kernel_rfl) ?_
 intro bs ws Ns
 have Fs := Ns.ge E
 have Os_bo := Ns.lt Bo
 replace Bo := Ns.keep Bo
 replace E := E.ext Ns.ext
 have Bs := Ns.blk
 refine qV (zBW (ps := [(0, (I6 2)), (1, (.slice (some ⟨bs, 0, none⟩) 1 1))]) (v := (.agg #[(I6 2), (.slice (some ⟨bs, 0, none⟩) 1 1), (.slice none 0 0), (I6 0), (I6 0), (.bool false)])) rfl (by kernel_rfl)) ?_
 refine qW (#[(I6 2), (.slice (some ⟨bs, 0, none⟩) 1 1), (.slice none 0 0), (I6 0), (I6 0), (.bool false)]) rfl rfl zAH Bo ?_
 intro w1 S1
 replace Bs := S1.keep (by omega) Bs
 replace E := S1.stp E
 replace Bo := S1.blk
 refine zAB (zAQ ?_)
 refine zAm Tryz.results64 (vs := [(.int .i64 2), (.slice (some ⟨bs, 0, none⟩) 1 1), (.slice none 0 0), (.int .i64 0), (.int .i64 0), (.bool false)]) (b := bo) rfl zAb zAH rfl (Bo.cells rfl) ?_
 exact ⟨⟨bs, rfl, one_at (zIU [(r, r)] Bs (by simp) (by simp))⟩, E⟩
theorem begD_m : zCn zOn [97, 98] = 0 ∧ zEB zOn [97, 98] = true := ⟨by decide +kernel, by decide +kernel⟩
theorem zFD {w : World} {t u : Re} {us vs : List Value} (ht : zBC w t us) (hu : zBC w u vs) (h : t = u) :
  Ret Tryz.prog 15 #[.agg us.toArray, .agg vs.toArray] w fun v w' => (Fact.eq (.bool true)).In v w' ∧ Ext w w' :=
 (zHi t.size t u w us vs (Nat.le_refl _) ht hu).mono fun v w' ⟨h1, h2⟩ => ⟨h1.trans (zAt ((zBb t u).2 h)), h2⟩
set_option maxHeartbeats 1000000 in
theorem zNK (w0 : World) : Ret Tryz.prog 13 #[] w0 fun v w => v = .bool true ∧ Ext w0 w := by
 obtain ⟨hb1, hb2⟩ := zQs
 obtain ⟨hm1, hm2⟩ := begD_m
 refine zAk Tryz.func13 rfl Tryz.ntmps13 (Nat.le_of_ble_eq_true rfl) ?_
 have E : Chg zAh w0 w0 := Chg.refl _ _
 refine zAA ?_
 refine qA (.bool false) rfl ?_
 refine zAB (zAA ?_)
 refine zAL rfl rfl (by decide) (zAT (vs := [(I6 97)]) Tryz.func64 nm64 bd64 rfl) (zJe _ 97) ?_
 rintro _ w9 ⟨⟨b, rfl, hsp⟩, X9⟩
 replace E := E.ext X9
 refine zAL rfl rfl (by decide) (zAT (vs := [(I6 98)]) Tryz.func64 nm64 bd64 rfl) (zJe _ 98) ?_
 rintro _ w19 ⟨⟨b2, rfl, hsp2⟩, X19⟩
 replace E := E.ext X19
 refine zAu (ps := [(0, (.agg #[(I6 2), (.slice (some ⟨b, 0, none⟩) 1 1), (.slice none 0 0), (I6 0), (I6 0), (.bool false)])), (1, (.agg #[(I6 2), (.slice (some ⟨b2, 0, none⟩) 1 1), (.slice none 0 0), (I6 0), (I6 0), (.bool false)]))]) (c := #[(I6 2), (.slice (some ⟨b, 0, none⟩) 1 1), (.slice none 0 0), (I6 0), (I6 0), (.bool false), (I6 2), (.slice (some ⟨b2, 0, none⟩) 1 1), (.slice none 0 0), (I6 0), (I6 0), (.bool false)]) (by decide) rfl Tryz.underlying23 zAH zAs (by decide) (by decide) (by kernel_rfl) ?_
 intro bp wp Np
 have Fp := Np.ge E
 replace E := E.ext Np.ext
 have Bp := Np.blk
 refine qV (zBW (ps := [(0, (I6 3)), (2, (.slice (some ⟨bp, 0, none⟩) 2 2))]) (v := (.agg #[(I6 3), (.slice none 0 0), (.slice (some ⟨bp, 0, none⟩) 2 2), (I6 0), (I6 0), (.bool false)])) rfl (by kernel_rfl)) ?_
 refine zAi (v := (.agg #[(I6 3), (.slice none 0 0), (.slice (some ⟨bp, 0, none⟩) 2 2), (I6 0), (I6 0), (.bool false)])) (c := #[(I6 3), (.slice none 0 0), (.slice (some ⟨bp, 0, none⟩) 2 2), (I6 0), (I6 0), (.bool false)]) (n := 6) (by decide) zAs rfl zAH rfl rfl rfl (by simp [Value.oneCell']) ?_
 intro br wr Nr
 have Fr := Nr.ge E
 have Or_bp := Nr.lt Bp
 replace Bp := Nr.keep Bp
 replace E := E.ext Nr.ext
 have Br := Nr.blk
 refine zAB (zAA ?_)
 refine qV (zAG (vs := [(I6 3), (.slice none 0 0), (.slice (some ⟨bp, 0, none⟩) 2 2), (I6 0), (I6 0), (.bool false)]) rfl zAb zAH rfl (Br.cells rfl)) ?_
 have hat : zBC wr zOn [.int .i64 3, .slice none 0 0, .slice (some ⟨bp, 0, none⟩) 2 2, .int .i64 0, .int .i64 0, .bool false] := zBC.of (set := []) (args := [zKM 97, zKM 98]) (zCA.nil _ _ _ _) (by simp) (.inr ⟨bp, 0, rfl, by simp only [zBw]; exact ⟨⟨_, Bp.cells rfl, zBC.ext Nr.ext _ (zBC.ext Np.ext _ (zBC.ext X19 _ hsp))⟩, ⟨_, Bp.cells rfl, zBC.ext Nr.ext _ (zBC.ext Np.ext _ hsp2)⟩, trivial⟩⟩)
 refine zAL rfl rfl (by decide) (zAT (vs := [(.agg #[(I6 3), (.slice none 0 0), (.slice (some ⟨bp, 0, none⟩) 2 2), (I6 0), (I6 0), (.bool false)]), (I6 97)]) Tryz.func11 nm11 bd11 rfl) ((dby_c _ (fun x => x < wr.heap.size) zOn _ 97 (zAc.of_at zOn hat) (fun y hy => hy)).mono (R' := fun r w => (∃ sa sc aa ac, r = .tuple #[.agg #[.int .i64 2, .slice sa 1 sc, .slice aa 0 ac, .int .i64 0, .int .i64 0, .bool false], .int .i64 0] ∧ zBC w (zKM 98) [.int .i64 2, .slice sa 1 sc, .slice aa 0 ac, .int .i64 0, .int .i64 0, .bool false]) ∧ Ext wr w) (fun r w h => ⟨by obtain ⟨⟨us, h1, h2⟩, _⟩ := h; rw [hb2] at h2; rw [hb1] at h1; obtain ⟨sa, sc, aa, ac, rfl, _⟩ := h2.form; exact ⟨sa, sc, aa, ac, h1, zAc.at _ h2⟩, h.2⟩)) ?_
 rintro _ w39 ⟨⟨sa, sc, aa, ac, rfl, hR⟩, X39⟩
 replace Bp := X39.keep Bp
 replace Br := X39.keep Br
 replace E := E.ext X39
 replace hat := zBC.ext X39 _ hat
 refine qM (.tuple #[(.agg #[(I6 2), (.slice sa 1 sc), (.slice aa 0 ac), (I6 0), (I6 0), (.bool false)]), (I6 0)]) rfl ?_
 refine qV (zCP (vs := #[(.agg #[(I6 2), (.slice sa 1 sc), (.slice aa 0 ac), (I6 0), (I6 0), (.bool false)]), (I6 0)]) (v := (.agg #[(I6 2), (.slice sa 1 sc), (.slice aa 0 ac), (I6 0), (I6 0), (.bool false)])) rfl rfl) ?_
 refine qV (zCP (vs := #[(.agg #[(I6 2), (.slice sa 1 sc), (.slice aa 0 ac), (I6 0), (I6 0), (.bool false)]), (I6 0)]) (v := (I6 0)) rfl rfl) ?_
 refine zAi (v := (.agg #[(I6 2), (.slice sa 1 sc), (.slice aa 0 ac), (I6 0), (I6 0), (.bool false)])) (c := #[(I6 2), (.slice sa 1 sc), (.slice aa 0 ac), (I6 0), (I6 0), (.bool false)]) (n := 6) (by decide) zAs rfl zAH rfl rfl rfl (by simp [Value.oneCell']) ?_
 intro bq wq Nq
 have Fq := Nq.ge E
 have Oq_bp := Nq.lt Bp
 have Oq_br := Nq.lt Br
 replace Bp := Nq.keep Bp
 replace Br := Nq.keep Br
 replace hR := zBC.ext Nq.ext _ hR
 replace hat := zBC.ext Nq.ext _ hat
 replace E := E.ext Nq.ext
 have Bq := Nq.blk
 refine qA (I6 0) rfl ?_
 refine zAB (zAA ?_)
 refine qV (zAG (vs := [(I6 3), (.slice none 0 0), (.slice (some ⟨bp, 0, none⟩) 2 2), (I6 0), (I6 0), (.bool false)]) rfl zAb zAH rfl (Br.cells rfl)) ?_
 refine zAu (ps := [(0, (I6 97)), (1, (I6 98))]) (c := #[(I6 97), (I6 98)]) (by decide) rfl Tryz.underlying26 zAw zJN (by decide) (by decide) (by kernel_rfl) ?_
 intro bk wk Nk
 have Fk := Nk.ge E
 have Ok_bp := Nk.lt Bp
 have Ok_br := Nk.lt Br
 have Ok_bq := Nk.lt Bq
 replace Bp := Nk.keep Bp
 replace Br := Nk.keep Br
 replace Bq := Nk.keep Bq
 replace hR := zBC.ext Nk.ext _ hR
 replace hat := zBC.ext Nk.ext _ hat
 replace E := E.ext Nk.ext
 have Bk := Nk.blk
 refine zAL rfl rfl (by decide) (zAT (vs := [(.agg #[(I6 3), (.slice none 0 0), (.slice (some ⟨bp, 0, none⟩) 2 2), (I6 0), (I6 0), (.bool false)]), (.slice (some ⟨bk, 0, none⟩) 2 2)]) Tryz.func12 nm12 bd12 rfl) ((zPN _ (fun x => x < wk.heap.size) zOn _ _ [97, 98] (zAc.of_at zOn hat) (fun y hy => hy) (zDV [97, 98] Bk (by simp) (by simp))).mono (R' := fun r w => r = .tuple #[.bool true, .int .i64 0] ∧ Ext wk w) (fun r w h => ⟨by rw [h.1, hm1, hm2], h.2⟩)) ?_
 rintro _ w49 ⟨rfl, X49⟩
 replace Bp := X49.keep Bp
 replace Br := X49.keep Br
 replace Bq := X49.keep Bq
 replace Bk := X49.keep Bk
 replace hR := zBC.ext X49 _ hR
 replace hat := zBC.ext X49 _ hat
 replace E := E.ext X49
 refine qM (.tuple #[(.bool true), (I6 0)]) rfl ?_
 refine qV (zCP (vs := #[(.bool true), (I6 0)]) (v := (.bool true)) rfl rfl) ?_
 refine qV (zCP (vs := #[(.bool true), (I6 0)]) (v := (I6 0)) rfl rfl) ?_
 refine qA (.bool true) rfl ?_
 refine qA (I6 0) rfl ?_
 refine zAB (zAP ?_)
 obtain ⟨Fs1, hFs1⟩ : ∃ Fs : List Fact, Fs = [.eq (I6 0), .eq (.bool true), .eq (.bool true), .eq (I6 0), .eq (.bool true), .eq (.bool true), .eq (.bool true), .eq (.bool true), .eq (.bool true), .eq (.bool true), .re (zKM 98), .re (zKM 98), .eq (.bool true), .eq (.bool true), .eq (.bool true)] := ⟨_, rfl⟩
 refine zEF [21, 22, 23, 24, 25, 26, 27, 28, 29, 30, 31, 32, 33, 34, 0] [[], [0], [1], [2], [2, 3], [2, 4], [2, 5], [6], [6, 7], [6, 8], [9], [9], [9, 10, 11], [9, 12], [0, 1, 2, 3, 4, 5, 6, 7, 8, 9, 10, 11, 12, 13]] Fs1 hFs1 mixed (by kernel_rfl) (by kernel_rfl) ?_ ?_
 ·intro wd X0
  refine DagSteps.cons (fun s' w' X U H => Or.inl ⟨?_, ?_⟩) ?_
  ·exact zAE rfl
  ·exact zAJ (zAn (v := (I6 0)) (U 3 rfl)) (Ext.refl _) rfl
  refine DagSteps.cons (fun s' w' X U H => Or.inl ⟨?_, ?_⟩) ?_
  ·exact zAE rfl
  ·have e21 : s' 21 = (.int .i64 0) := H 0 rfl 21 (.eq (.int .i64 0)) rfl (by rw [hFs1]; rfl)
   exact zAJ (zAg (k := .i64) (a := 0) (b := 0) e21 rfl) (Ext.refl _) rfl
  refine DagSteps.cons (fun s' w' X U H => Or.inl ⟨?_, ?_⟩) ?_
  ·exact zAE rfl
  ·have e22 : s' 22 = (.bool true) := H 1 rfl 22 (.eq (.bool true)) rfl (by rw [hFs1]; rfl)
   exact zAJ (zAn (v := (.bool true)) e22) (Ext.refl _) rfl
  refine DagSteps.cons (fun s' w' X U H => Or.inl ⟨?_, ?_⟩) ?_
  ·exact zBV rfl rfl (d := 23) (H 2 rfl 23 (.eq (.bool true)) rfl (by rw [hFs1]; rfl))
  ·exact zAJ (zAn (v := (I6 0)) (U 5 rfl)) (Ext.refl _) rfl
  refine DagSteps.cons (fun s' w' X U H => Or.inl ⟨?_, ?_⟩) ?_
  ·exact zBV rfl rfl (d := 23) (H 2 rfl 23 (.eq (.bool true)) rfl (by rw [hFs1]; rfl))
  ·have e24 : s' 24 = (.int .i64 0) := H 3 rfl 24 (.eq (.int .i64 0)) rfl (by rw [hFs1]; rfl)
   exact zAJ (zAg (k := .i64) (a := 0) (b := 0) e24 rfl) (Ext.refl _) rfl
  refine DagSteps.cons (fun s' w' X U H => Or.inl ⟨?_, ?_⟩) ?_
  ·exact zAE rfl
  ·have e23 : s' 23 = (.bool true) := H 2 rfl 23 (.eq (.bool true)) rfl (by rw [hFs1]; rfl)
   have e25 : s' 25 = (.bool true) := H 4 rfl 25 (.eq (.bool true)) rfl (by rw [hFs1]; rfl)
   exact zAJ (zAd (b := true) (v := (.bool true)) e23 e25) (Ext.refl _) rfl
  refine DagSteps.cons (fun s' w' X U H => Or.inl ⟨?_, ?_⟩) ?_
  ·exact zAE rfl
  ·have e26 : s' 26 = (.bool true) := H 5 rfl 26 (.eq (.bool true)) rfl (by rw [hFs1]; rfl)
   exact zAJ (zAn (v := (.bool true)) e26) (Ext.refl _) rfl
  refine DagSteps.cons (fun s' w' X U H => Or.inl ⟨?_, ?_⟩) ?_
  ·exact zBV rfl rfl (d := 27) (H 6 rfl 27 (.eq (.bool true)) rfl (by rw [hFs1]; rfl))
  ·exact zAJ (zAn (v := (.bool true)) (U 4 rfl)) (Ext.refl _) rfl
  refine DagSteps.cons (fun s' w' X U H => Or.inl ⟨?_, ?_⟩) ?_
  ·exact zAE rfl
  ·have e27 : s' 27 = (.bool true) := H 6 rfl 27 (.eq (.bool true)) rfl (by rw [hFs1]; rfl)
   have e28 : s' 28 = (.bool true) := H 7 rfl 28 (.eq (.bool true)) rfl (by rw [hFs1]; rfl)
   exact zAJ (zAd (b := true) (v := (.bool true)) e27 e28) (Ext.refl _) rfl
  refine DagSteps.cons (fun s' w' X U H => Or.inl ⟨?_, ?_⟩) ?_
  ·exact zAE rfl
  ·have e29 : s' 29 = (.bool true) := H 8 rfl 29 (.eq (.bool true)) rfl (by rw [hFs1]; rfl)
   exact zAJ (zAn (v := (.bool true)) e29) (Ext.refl _) rfl
  refine DagSteps.cons (fun s' w' X U H => Or.inl ⟨?_, ?_⟩) ?_
  ·exact zBV rfl rfl (d := 30) (H 9 rfl 30 (.eq (.bool true)) rfl (by rw [hFs1]; rfl))
  ·exact zAJ (zAG (vs := [(I6 2), (.slice sa 1 sc), (.slice aa 0 ac), (I6 0), (I6 0), (.bool false)]) (U 2 rfl) zAb zAH rfl ((X0.trans X).keep Bq |>.cells rfl)) (Ext.refl _) ⟨_, rfl, zBC.ext (X0.trans X) _ hR⟩
  refine DagSteps.cons (fun s' w' X U H => Or.inl ⟨?_, ?_⟩) ?_
  ·exact zBV rfl rfl (d := 30) (H 9 rfl 30 (.eq (.bool true)) rfl (by rw [hFs1]; rfl))
  ·exact zAp (zAT (vs := [(I6 98)]) Tryz.func64 nm64 bd64 (zLg rfl)) ((zJe _ 98).mono (fun v w h => by obtain ⟨⟨b, h1, h2⟩, h3⟩ := h; exact ⟨⟨_, h1, h2⟩, h3⟩))
  refine DagSteps.cons (fun s' w' X U H => Or.inl ⟨?_, ?_⟩) ?_
  ·exact zBV rfl rfl (d := 30) (H 9 rfl 30 (.eq (.bool true)) rfl (by rw [hFs1]; rfl))
  ·obtain ⟨v31, e31, r31⟩ : (Fact.re (zKM 98)).In (s' 31) w' := H 10 rfl 31 (.re (zKM 98)) rfl (by rw [hFs1]; rfl)
   obtain ⟨v32, e32, r32⟩ : (Fact.re (zKM 98)).In (s' 32) w' := H 11 rfl 32 (.re (zKM 98)) rfl (by rw [hFs1]; rfl)
   exact zAp (zAT (vs := [(.agg v31.toArray), (.agg v32.toArray)]) Tryz.func15 zPI zPT (zGt e31 e32)) (zFD r31 r32 rfl)
  refine DagSteps.cons (fun s' w' X U H => Or.inl ⟨?_, ?_⟩) ?_
  ·exact zAE rfl
  ·have e30 : s' 30 = (.bool true) := H 9 rfl 30 (.eq (.bool true)) rfl (by rw [hFs1]; rfl)
   have e33 : s' 33 = (.bool true) := H 12 rfl 33 (.eq (.bool true)) rfl (by rw [hFs1]; rfl)
   exact zAJ (zAd (b := true) (v := (.bool true)) e30 e33) (Ext.refl _) rfl
  refine DagSteps.cons (fun s' w' X U H => Or.inl ⟨?_, ?_⟩) ?_
  ·exact zAE rfl
  ·have e34 : s' 34 = (.bool true) := H 13 rfl 34 (.eq (.bool true)) rfl (by rw [hFs1]; rfl)
   exact zAJ (zDf (v := (.bool true)) e34) (Ext.refl _) rfl
  exact DagSteps.nil
 intro s' w1 X1 U H
 obtain ⟨j1, rfl⟩ := zBG.out (σ := s') (l := [(0, (.bool true))]) ⟨(show s' 0 = (.bool true) from H 14 0 (.eq (.bool true)) rfl (by rw [hFs1]; rfl)), trivial⟩
 clear U H
 replace Bp := X1.keep Bp
 replace Br := X1.keep Br
 replace Bq := X1.keep Bq
 replace Bk := X1.keep Bk
 replace hR := zBC.ext X1 _ hR
 replace hat := zBC.ext X1 _ hat
 replace E := E.ext X1
 refine zAC (zAQ ?_)
 refine zAS Tryz.results13 (v := (.bool true)) rfl ?_
 exact ⟨rfl, E⟩
end Go.Proofs
namespace Go.Proofs
open Go Go.Eng Go.Sort
set_option maxRecDepth 100000
def zRK (S : Nat → Prop) (x : Re) (e : Int) : Fct := fun v w => ∃ sa sc aa ac, v = .tuple #[.agg #[.int .i64 x.kind, .slice sa x.set.length sc, .slice aa x.args.length ac, .int .i64 x.mn, .int .i64 x.mx, .bool x.neg], .int .i64 e] ∧ zAc S w x [.int .i64 x.kind, .slice sa x.set.length sc, .slice aa x.args.length ac, .int .i64 x.mn, .int .i64 x.mx, .bool x.neg]
theorem zJQ {S : Nat → Prop} {x : Re} {c : Int} {v : Value} {w : World} {n : Nat} (e : w.heap.size = n) (h : zRK S x c v w) : zRK (fun y => S y ∧ y ≠ n) x c v w := by
 obtain ⟨sa, sc, aa, ac, h1, h2⟩ := h
 exact ⟨sa, sc, aa, ac, h1, zAc.mono (fun y hy => ⟨hy.1, by omega⟩) x (zAc.lt x h2)⟩
theorem zLo {S S' : Nat → Prop} {x : Re} {e : Int} {v : Value} {w : World} (hS : ∀ b, S' b → S b) (h : ∃ us : List Value, v = .tuple #[.agg us.toArray, .int .i64 e] ∧ zAc S' w x us) : zRK S x e v w := by
 obtain ⟨us, rfl, h⟩ := h
 have h2 := zAc.mono hS x h
 obtain ⟨sa, sc, aa, ac, rfl, _⟩ := h2.form
 exact ⟨sa, sc, aa, ac, rfl, h2⟩
end Go.Proofs
