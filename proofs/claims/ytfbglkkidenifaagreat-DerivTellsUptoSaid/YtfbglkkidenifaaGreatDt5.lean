/- Contracts and plain lemmas, part 5. -/
import Derived.Tactics
import Derived.Deep.Quiet
import Derived.Laws.AppendOwn
import Derived.KernelRfl
import Derived.Laws.Entries
import Derived.Laws.Build
import Derived.Below
import Derived.RowKit3
import Derived.StillTail
import Derived.Sort.Grow
import Derived.Deep.Draws
import Derived.Test.YtfbglkkidenifaaGreatChecked
import Derived.Laws.StructEq
import Derived.MapKept
import Derived.Laws.BytesArg
import Derived.Shelf.SlSortCmp.WholeK
import Derived.Shelf.Sort.Plain
import Derived.Shelf.Slices.CompactI
import Derived.Test.YtfbglkkidenifaaGreatProg
import Derived.OpenShut
import Derived.ChangeSlices
import Derived.Test.YtfbglkkidenifaaGreatRows
import Derived.Test.YtfbglkkidenifaaGreatDt4
namespace Go.Proofs
open Go Go.Eng Go.Sort
set_option maxRecDepth 100000
/-- What is kept behind an element. -/
def kdR : Option Re → List Re → List Re
  | _, [] => []
  | none, x :: l => x :: kdR (some x) l
  | some y, x :: l => if zBT x y = true then kdR (some x) l else x :: kdR (some x) l
theorem zMB (x y : Re) : zBT x y = zBT y x := by
 rw [Bool.eq_iff_iff, zBb, zBb]
 exact eq_comm
theorem zNJ : ∀ (x : Re) (l : List Re), zFQ (x :: l) = x :: kdR (some x) l
  | x, [] => rfl
  | x, y :: l => by
    simp only [zFQ, kdR, zMB y x]
    split
    · rename_i h
      rw [zNJ y l, (zBb x y).1 h]
    · rw [zNJ y l]
theorem zQe (l : List Re) : zFQ l = kdR none l := by
  cases l with
  | nil => rfl
  | cons x l => exact zNJ x l
theorem zMm : ∀ (l : List Re) (p : Option Re) (x : Re), kdR p (l ++ [x]) = kdR p l ++ (match l.getLast?.or p with | some y => if zBT x y = true then [] else [x] | none => [x])
  | [], none, x => rfl
  | [], some y, x => by
    simp only [List.nil_append, kdR, List.getLast?_nil, Option.none_or]
  | z :: l, p, x => by
    have ih := zMm l (some z) x
    have hg : (z :: l).getLast?.or p = l.getLast?.or (some z) := by cases l <;> simp [List.getLast?_cons]
    rw [hg]
    cases p with
    | none => simp only [List.cons_append, kdR, ih]
    | some y =>
      simp only [List.cons_append, kdR]
      split
      · exact ih
      · rw [ih]; rfl
theorem zMl {l : List Re} {j : Nat} {x y : Re} (h0 : 0 < j) (hx : l[j]? = some x) (hy : l[j - 1]? = some y) : kdR none (l.take (j + 1)) = kdR none (l.take j) ++ (if zBT x y = true then [] else [x]) := by
 rw [List.take_add_one, hx, Option.toList_some, zMm]
 have hl := zAo hx
 have : (l.take j).getLast? = some y := by rw [List.getLast?_take, if_neg (by omega), hy]; rfl
 rw [this]
 rfl
theorem zMn : ∀ (l : List Re) (p : Option Re), (kdR p l).length ≤ l.length
  | [], _ => by simp [kdR]
  | x :: l, none => by simp only [kdR, List.length_cons]; have := zMn l (some x); omega
  | x :: l, some y => by
    simp only [kdR]
    have := zMn l (some x)
    split <;> simp only [List.length_cons] <;> omega
theorem zNx {w w' : World} {base g n c : Nat} {rows : List (List Value)} {rest : List Value} (h : w.ownsRow base TRe 6 (.slice (some ⟨g, 0, none⟩) n c) n rows.flatten) (hB : Blk w' g (rows.flatten ++ rest).toArray TRe) (hn : n ≤ c) (hc : c ≤ maxLen) (hz : (rows.flatten ++ rest).length = c * 6) : w'.ownsRow base TRe 6 (.slice (some ⟨g, 0, none⟩) n c) n rows.flatten := by
 have h1 := h.1
 rcases h.2 with ⟨h2, _⟩ | ⟨g', cap, cur, hv, hbg, hg, hnc, hcm, hcs, htake⟩
 ·simp at h2
 simp only [Value.slice.injEq, Option.some.injEq, Addr.mk.injEq, and_true, true_and] at hv
 obtain ⟨rfl, _⟩ := hv
 exact ⟨h1, .inr ⟨g, c, _, rfl, hbg, hB, hn, hc, by rw [List.size_toArray, hz], by rw [List.toList_toArray, List.take_append_of_le_length (by omega), List.take_of_length_le (by omega)]⟩⟩
set_option maxHeartbeats 4000000 in
theorem zQk (wb w0 : World) (base : Nat) (S : Nat → Prop) (v fv : Value) (ts : List Re) (rows : List (List Value)) (hE : Ext wb w0) (hown : w0.ownsRow base TRe 6 v ts.length rows.flatten) (hr : zAj S wb ts rows) (hS : ∀ x, S x → x < base) (hlen : ts.length ≤ 1000000)
  (hf : ∀ (w : World) (x y : Re) (xs ys : List Value), zBC w x xs → zBC w y ys → zBu Tryz.prog fv #[.agg xs.toArray, .agg ys.toArray] w fun r w' => r = .bool (zBT x y) ∧ Ext w w') :
  Ret Tryz.prog 185 #[v, fv] w0 fun r w => ∃ la lc rows', r = .slice la (zFQ ts).length lc ∧ w.ownsRow base TRe 6 r (zFQ ts).length rows'.flatten ∧ zAj S wb (zFQ ts) rows' ∧ Chg (fun x => base ≤ x) w0 w := by
 have hown0 := hown
 obtain ⟨a, c, rfl⟩ := zBY hown
 rw [zQe]
 refine zAk Tryz.func185 rfl Tryz.ntmps185 (Nat.le_of_ble_eq_true rfl) ?_
 have E : Chg (fun x => base ≤ x) w0 w0 := Chg.refl _ _
 refine zAA ?_
 refine qA (.slice none 0 0) rfl ?_
 refine zAB (zAP (zAA ?_))
 refine qM (.slice a ts.length c) rfl ?_
 refine qV (zAV (ad := a) (n := ts.length) (cap := c) Tryz.underlying23 rfl) ?_
 refine qV (zBS (k := .i64) (a := (ts.length : Int)) (b := 2) rfl rfl) ?_
 refine zAB ?_
 refine zAM (b := decide (((ts.length : Int) : Int) < 2)) rfl (fun h2 => ?_) (fun h2 => ?_)
 ·have kh2 := h2
  replace h2 := of_decide_eq_true h2
  have hsm : kdR none ts = ts := by match ts, h2 with | [], _ => rfl | [x], _ => rfl | x :: y :: l, h => simp at h; omega
  refine zAA ?_
  refine qM (.slice a ts.length c) rfl ?_
  refine qA (.slice a ts.length c) rfl ?_
  refine zAB (zAQ (zAI ?_))
  refine zAS Tryz.results185 (v := (.slice a ts.length c)) rfl ?_
  rw [hsm]; exact ⟨a, c, rows, rfl, hown0, hr, E⟩
 ·have kh2 := h2
  replace h2 := of_decide_eq_false h2
  rcases hown0.2 with ⟨_, hbad⟩ | ⟨g, cap, cur0, hv0, hgb, hgB, hcap1, hcap2, hcap3, hcap4⟩
  ·omega
  simp only [Value.slice.injEq] at hv0
  obtain ⟨rfl, _, rfl⟩ := hv0
  obtain ⟨rest, hrest⟩ : ∃ rest, rest = cur0.toList.drop (ts.length * 6) := ⟨_, rfl⟩
  have hgB2 : Blk w0 g (rows.flatten ++ rest).toArray TRe := by rw [hrest, ← hcap4, List.take_append_drop]; exact hgB
  have hszz : (rows.flatten ++ rest).length = c * 6 := by rw [hrest, ← hcap4, List.take_append_drop]; simpa using hcap3
  have hrl := hr.len
  have hr6 := hr.six
  have hrestl : rest.length = c * 6 - ts.length * 6 := by rw [List.length_append, zBn hr6, hrl] at hszz; omega
  refine zAR (zAC (zAP (zAA ?_)))
  refine qA (I6 1) rfl ?_
  refine zAB (zAZ ?_)
  refine zBA (fun nn_ σ W2 => ∃ (k : Nat), (∃ jj_, σ = zCl jj_ [(0, (.slice (some ⟨g, 0, none⟩) ts.length c)), (1, fv), (5, (I6 (k : Int)))]) ∧ Chg (fun x => base ≤ x) w0 W2 ∧ Blk W2 g ((rows.flatten ++ rest).toArray) TRe ∧ (1 ≤ k ∧ k ≤ ts.length) ∧ (kdR none (ts.take k) = ts.take k) ∧ nn_ = ts.length - k) (n := ts.length - 1) ?_ ?_
  ·exact ⟨1, zBG.out ⟨rfl, rfl, rfl, trivial⟩, E, hgB2, ⟨by omega, by omega⟩, (by match ts, h2 with | [], h => simp at h | x :: l, _ => rfl), rfl⟩
  ·clear E hgB2
   rintro _ _ W2 ⟨k, ⟨j2, rfl⟩, E, hgB2, hk, hkd, rfl⟩
   refine zAP (zAA ?_)
   refine qM (I6 (k : Int)) rfl ?_
   refine qM (.slice (some ⟨g, 0, none⟩) ts.length c) rfl ?_
   refine qV (zAV (ad := some ⟨g, 0, none⟩) (n := ts.length) (cap := c) Tryz.underlying23 rfl) ?_
   refine qV (zBS (k := .i64) (a := (k : Int)) (b := (ts.length : Int)) rfl rfl) ?_
   refine zAB ?_
   refine zAM (b := decide (((k : Int) : Int) < (ts.length : Int))) rfl (fun hlt => ?_) (fun hlt => ?_)
   ·have khlt := hlt
    replace hlt := of_decide_eq_true hlt
    obtain ⟨x, hx⟩ := zAa (l := ts) (i := k) (by omega)
    obtain ⟨y, hy⟩ := zAa (l := ts) (i := k - 1) (by omega)
    obtain ⟨r, hrr, hrx⟩ := hr.get hx
    obtain ⟨s, hrs, hry⟩ := hr.get hy
    have hkt := zMl (by omega) hx hy
    have hrx2 : zBC (W2) x r := zAc.at x (zAc.chg E (fun y hy hb => by have := hS y hy; have hb' : base ≤ y := hb; omega) x (zAc.ext hE x hrx))
    have hry2 : zBC (W2) y s := zAc.at y (zAc.chg E (fun y hy hb => by have := hS y hy; have hb' : base ≤ y := hb; omega) y (zAc.ext hE y hry))
    have hcx := zEt hgB2 hr6 hrr
    have hcy := zEt hgB2 hr6 hrs
    obtain ⟨sa, sc, aa, ac, rfl, _, _, _⟩ := hrx2.form
    obtain ⟨sa2, sc2, aa2, ac2, rfl, _, _, _⟩ := hry2.form
    refine zAR (zAC (zAP (zAZ (zAP ?_))))
    obtain ⟨Fs4, hFs4⟩ : ∃ Fs : List Fact, Fs = [.eq fv, .eq (.slice (some ⟨g, 0, none⟩) ts.length c), .eq (I6 (k : Int)), .eq (.pointer (some ⟨g, 0 + k * 6, none⟩)), .eq (.agg (R6 x sa sc aa ac)), .eq (.slice (some ⟨g, 0, none⟩) ts.length c), .eq (I6 (k : Int)), .eq (I6 ((k : Int) - 1)), .eq (.pointer (some ⟨g, 0 + (k - 1) * 6, none⟩)), .eq (.agg (R6 y sa2 sc2 aa2 ac2)), .eq (.bool (zBT x y))] := ⟨_, rfl⟩
    refine zEF [18, 19, 20, 21, 22, 23, 24, 25, 26, 27, 28] [[], [], [], [1, 2], [3], [], [], [6], [5, 7], [8], [0, 4, 9]] Fs4 hFs4 mixed (by kernel_rfl) (by kernel_rfl) ?_ ?_
    ·intro wd X0
     refine DagSteps.cons (fun s' w' X U H => Or.inl ⟨?_, ?_⟩) ?_
     ·exact zAE rfl
     ·exact zAJ (zAn (v := fv) (U 1 rfl)) (Ext.refl _) rfl
     refine DagSteps.cons (fun s' w' X U H => Or.inl ⟨?_, ?_⟩) ?_
     ·exact zAE rfl
     ·exact zAJ (zAn (v := (.slice (some ⟨g, 0, none⟩) ts.length c)) (U 0 rfl)) (Ext.refl _) rfl
     refine DagSteps.cons (fun s' w' X U H => Or.inl ⟨?_, ?_⟩) ?_
     ·exact zAE rfl
     ·exact zAJ (zAn (v := (I6 (k : Int))) (U 5 rfl)) (Ext.refl _) rfl
     refine DagSteps.cons (fun s' w' X U H => Or.inl ⟨?_, ?_⟩) ?_
     ·exact zAE rfl
     ·have e19 : s' 19 = (.slice (some ⟨g, 0, none⟩) ts.length c) := H 1 rfl 19 (.eq (.slice (some ⟨g, 0, none⟩) ts.length c)) rfl (by rw [hFs4]; rfl)
      have e20 : s' 20 = (.int .i64 ((k : Nat) : Int)) := H 2 rfl 20 (.eq (.int .i64 ((k : Nat) : Int))) rfl (by rw [hFs4]; rfl)
      exact zAJ (zAO (b := g) (o := 0) (len := ts.length) (cap := c) (i := k) (o' := 0 + k * 6) e19 e20 rfl Tryz.underlying23 zAH (by omega) (by omega)) (Ext.refl _) rfl
     refine DagSteps.cons (fun s' w' X U H => Or.inl ⟨?_, ?_⟩) ?_
     ·exact zAE rfl
     ·have e21 : s' 21 = (.pointer (some ⟨g, 0 + k * 6, none⟩)) := H 3 rfl 21 (.eq (.pointer (some ⟨g, 0 + k * 6, none⟩))) rfl (by rw [hFs4]; rfl)
      exact zAJ (zAG (vs := [(I6 x.kind), (.slice sa x.set.length sc), (.slice aa x.args.length ac), (I6 x.mn), (I6 x.mx), (.bool x.neg)]) e21 zAb zAH rfl (by rw [Nat.zero_add]; exact hcx.ext (X0.trans X))) (Ext.refl _) rfl
     refine DagSteps.cons (fun s' w' X U H => Or.inl ⟨?_, ?_⟩) ?_
     ·exact zAE rfl
     ·exact zAJ (zAn (v := (.slice (some ⟨g, 0, none⟩) ts.length c)) (U 0 rfl)) (Ext.refl _) rfl
     refine DagSteps.cons (fun s' w' X U H => Or.inl ⟨?_, ?_⟩) ?_
     ·exact zAE rfl
     ·exact zAJ (zAn (v := (I6 (k : Int))) (U 5 rfl)) (Ext.refl _) rfl
     refine DagSteps.cons (fun s' w' X U H => Or.inl ⟨?_, ?_⟩) ?_
     ·exact zAE rfl
     ·have e24 : s' 24 = (.int .i64 ((k : Nat) : Int)) := H 6 rfl 24 (.eq (.int .i64 ((k : Nat) : Int))) rfl (by rw [hFs4]; rfl)
      exact zAJ (zEh (k := .i64) (a := (k : Int)) (b := 1) (c := (k : Int) - 1) e24 rfl (zBs (by omega))) (Ext.refl _) rfl
     refine DagSteps.cons (fun s' w' X U H => Or.inl ⟨?_, ?_⟩) ?_
     ·exact zAE rfl
     ·have e23 : s' 23 = (.slice (some ⟨g, 0, none⟩) ts.length c) := H 5 rfl 23 (.eq (.slice (some ⟨g, 0, none⟩) ts.length c)) rfl (by rw [hFs4]; rfl)
      have e25 : s' 25 = (.int .i64 (((k : Nat) : Int) - 1)) := H 7 rfl 25 (.eq (.int .i64 (((k : Nat) : Int) - 1))) rfl (by rw [hFs4]; rfl)
      exact zAJ (zAO (b := g) (o := 0) (len := ts.length) (cap := c) (i := k - 1) (o' := 0 + (k - 1) * 6) e23 e25 (by omega) Tryz.underlying23 zAH (by omega) (by omega)) (Ext.refl _) rfl
     refine DagSteps.cons (fun s' w' X U H => Or.inl ⟨?_, ?_⟩) ?_
     ·exact zAE rfl
     ·have e26 : s' 26 = (.pointer (some ⟨g, 0 + (k - 1) * 6, none⟩)) := H 8 rfl 26 (.eq (.pointer (some ⟨g, 0 + (k - 1) * 6, none⟩))) rfl (by rw [hFs4]; rfl)
      exact zAJ (zAG (vs := [(I6 y.kind), (.slice sa2 y.set.length sc2), (.slice aa2 y.args.length ac2), (I6 y.mn), (I6 y.mx), (.bool y.neg)]) e26 zAb zAH rfl (by rw [Nat.zero_add]; exact hcy.ext (X0.trans X))) (Ext.refl _) rfl
     refine DagSteps.cons (fun s' w' X U H => Or.inl ⟨?_, ?_⟩) ?_
     ·exact zAE rfl
     ·have e22 : s' 22 = (.agg #[(.int .i64 x.kind), (.slice sa x.set.length sc), (.slice aa x.args.length ac), (.int .i64 x.mn), (.int .i64 x.mx), (.bool x.neg)]) := H 4 rfl 22 (.eq (.agg #[(.int .i64 x.kind), (.slice sa x.set.length sc), (.slice aa x.args.length ac), (.int .i64 x.mn), (.int .i64 x.mx), (.bool x.neg)])) rfl (by rw [hFs4]; rfl)
      have e27 : s' 27 = (.agg #[(.int .i64 y.kind), (.slice sa2 y.set.length sc2), (.slice aa2 y.args.length ac2), (.int .i64 y.mn), (.int .i64 y.mx), (.bool y.neg)]) := H 9 rfl 27 (.eq (.agg #[(.int .i64 y.kind), (.slice sa2 y.set.length sc2), (.slice aa2 y.args.length ac2), (.int .i64 y.mn), (.int .i64 y.mx), (.bool y.neg)])) rfl (by rw [hFs4]; rfl)
      have e18 : s' 18 = fv := H 0 rfl 18 (.eq fv) rfl (by rw [hFs4]; rfl)
      exact zHY e18 (zGt e22 e27) (hf _ x y _ _ (zBC.ext (X0.trans X) x hrx2) (zBC.ext (X0.trans X) y hry2))
     exact DagSteps.nil
    ·intro s' w4 X4 U H
     obtain ⟨j4, rfl⟩ := zBG.out (σ := s') (l := [(0, (.slice (some ⟨g, 0, none⟩) ts.length c)), (1, fv), (5, (.int .i64 ((k : Nat) : Int))), (28, (.bool (zBT x y)))]) ⟨U 0 rfl, U 1 rfl, U 5 rfl, (show s' 28 = (.bool (zBT x y)) from H 10 28 (.eq (.bool (zBT x y))) rfl (by rw [hFs4]; rfl)), trivial⟩
     clear U H
     replace hgB2 := X4.keep hgB2
     replace E := E.ext X4
     refine zAC ?_
     refine zAM (b := zBT x y) rfl (fun hsm => ?_) (fun hsm => ?_)
     ·have khsm := hsm
      refine zAA ?_
      refine qM (.slice (some ⟨g, 0, none⟩) ts.length c) rfl ?_
      refine qM (I6 (k : Int)) rfl ?_
      obtain ⟨sl, hsl⟩ : ∃ a' : Option Addr, (if c = k then (some ⟨g, 0, none⟩) else Option.map (fun q : Addr => q.add (k * 6)) (some ⟨g, 0, none⟩)) = a' := ⟨_, rfl⟩
      refine qV (zDR (a := (some ⟨g, 0, none⟩)) (len := ts.length) (cap := c) (lo := k) (l := (k : Int)) (n' := (ts.length - k)) (c' := (c - k)) Tryz.underlying23 zAH rfl rfl (by omega) (by omega) hsl (by omega) (by omega)) ?_
      have hsl2 : sl = some ⟨g, k * 6, none⟩ := by rw [← hsl, if_neg (by omega)]; simp [Addr.add]; omega
      subst hsl2
      refine qA (.slice (some ⟨g, k * 6, none⟩) (ts.length - k) (c - k)) rfl ?_
      refine zAB (zAP (zAA ?_))
      refine qA (I6 1) rfl ?_
      refine zAB (zAZ ?_)
      refine zBA (fun nn_ σ W6 => ∃ (m : Nat) (i : Nat) (cur : List (List Value)), (∃ jj_, σ = zCl jj_ [(0, (.slice (some ⟨g, 0, none⟩) ts.length c)), (1, fv), (6, (.slice (some ⟨g, k * 6, none⟩) (ts.length - k) (c - k))), (7, (I6 (m : Int))), (5, (I6 (i : Int)))]) ∧ Chg (fun x => base ≤ x) w0 W6 ∧ Blk W6 g ((cur.flatten ++ rest).toArray) TRe ∧ (1 ≤ m ∧ m ≤ ts.length - k) ∧ (i < k + m) ∧ (cur.length = ts.length) ∧ (∀ r ∈ cur, r.length = 6) ∧ (cur.drop (k + m - 1) = rows.drop (k + m - 1)) ∧ (zAj S wb (kdR none (ts.take (k + m))) (cur.take i)) ∧ (i = (kdR none (ts.take (k + m))).length) ∧ nn_ = ts.length - k - m) (n := ts.length - k - 1) ?_ ?_
      ·exact ⟨1, k, rows, zBG.out ⟨rfl, rfl, rfl, rfl, rfl, trivial⟩, E, hgB2, ⟨by omega, by omega⟩, (by omega), hrl, hr6, rfl, (by rw [hkt, hsm, hkd]; simpa using hr.take k), (by rw [hkt, hsm, hkd]; simp; omega), rfl⟩
      ·clear E hgB2
       rintro _ _ W6 ⟨m, i, cur, ⟨j6, rfl⟩, E, hgB2, hm, hij, hcl, hc6, hdr, hin, hil, rfl⟩
       refine zAP (zAA ?_)
       refine qM (I6 (m : Int)) rfl ?_
       refine qM (.slice (some ⟨g, k * 6, none⟩) (ts.length - k) (c - k)) rfl ?_
       refine qV (zAV (ad := some ⟨g, k * 6, none⟩) (n := ts.length - k) (cap := c - k) Tryz.underlying23 rfl) ?_
       refine qV (zBS (k := .i64) (a := (m : Int)) (b := ((ts.length - k : Nat) : Int)) rfl rfl) ?_
       refine zAB ?_
       refine zAM (b := decide (((m : Int) : Int) < ((ts.length - k : Nat) : Int))) rfl (fun hlt2 => ?_) (fun hlt2 => ?_)
       ·have khlt2 := hlt2
        replace hlt2 := of_decide_eq_true hlt2
        obtain ⟨j, hj⟩ : ∃ j, j = k + m := ⟨_, rfl⟩
        obtain ⟨x, hx⟩ := zAa (l := ts) (i := j) (by omega)
        obtain ⟨y, hy⟩ := zAa (l := ts) (i := j - 1) (by omega)
        obtain ⟨r, hrr, hrx⟩ := hr.get hx
        obtain ⟨s, hrs, hry⟩ := hr.get hy
        have hkt := zMl (by omega) hx hy
        rw [← hj] at hdr hin hil hij
        have hcr : cur[j]? = some r := by rw [zHw hdr (by omega)]; exact hrr
        have hcs : cur[j - 1]? = some s := by rw [zHw hdr (Nat.le_refl _)]; exact hrs
        have hdr2 : cur.drop j = rows.drop j := by have := congrArg (List.drop 1) hdr; rw [List.drop_drop, List.drop_drop, show j - 1 + 1 = j by omega] at this; exact this
        have hrx2 : zBC (W6) x r := zAc.at x (zAc.chg E (fun y hy hb => by have := hS y hy; have hb' : base ≤ y := hb; omega) x (zAc.ext hE x hrx))
        have hry2 : zBC (W6) y s := zAc.at y (zAc.chg E (fun y hy hb => by have := hS y hy; have hb' : base ≤ y := hb; omega) y (zAc.ext hE y hry))
        have hcx := zEt hgB2 hc6 hcr
        have hcy := zEt hgB2 hc6 hcs
        obtain ⟨sa, sc, aa, ac, rfl, _, _, _⟩ := hrx2.form
        obtain ⟨sa2, sc2, aa2, ac2, rfl, _, _, _⟩ := hry2.form
        refine zAR (zAC (zAP (zAZ (zAP ?_))))
        obtain ⟨Fs8, hFs8⟩ : ∃ Fs : List Fact, Fs = [.eq fv, .eq (.slice (some ⟨g, k * 6, none⟩) (ts.length - k) (c - k)), .eq (I6 (m : Int)), .eq (.pointer (some ⟨g, k * 6 + m * 6, none⟩)), .eq (.agg (R6 x sa sc aa ac)), .eq (.slice (some ⟨g, k * 6, none⟩) (ts.length - k) (c - k)), .eq (I6 (m : Int)), .eq (I6 ((m : Int) - 1)), .eq (.pointer (some ⟨g, k * 6 + (m - 1) * 6, none⟩)), .eq (.agg (R6 y sa2 sc2 aa2 ac2)), .eq (.bool (zBT x y)), .eq (.bool (!(zBT x y)))] := ⟨_, rfl⟩
        refine zEF [38, 39, 40, 41, 42, 43, 44, 45, 46, 47, 48, 49] [[], [], [], [1, 2], [3], [], [], [6], [5, 7], [8], [0, 4, 9], [10]] Fs8 hFs8 mixed (by kernel_rfl) (by kernel_rfl) ?_ ?_
        ·intro wd X0
         refine DagSteps.cons (fun s' w' X U H => Or.inl ⟨?_, ?_⟩) ?_
         ·exact zAE rfl
         ·exact zAJ (zAn (v := fv) (U 1 rfl)) (Ext.refl _) rfl
         refine DagSteps.cons (fun s' w' X U H => Or.inl ⟨?_, ?_⟩) ?_
         ·exact zAE rfl
         ·exact zAJ (zAn (v := (.slice (some ⟨g, k * 6, none⟩) (ts.length - k) (c - k))) (U 6 rfl)) (Ext.refl _) rfl
         refine DagSteps.cons (fun s' w' X U H => Or.inl ⟨?_, ?_⟩) ?_
         ·exact zAE rfl
         ·exact zAJ (zAn (v := (I6 (m : Int))) (U 7 rfl)) (Ext.refl _) rfl
         refine DagSteps.cons (fun s' w' X U H => Or.inl ⟨?_, ?_⟩) ?_
         ·exact zAE rfl
         ·have e39 : s' 39 = (.slice (some ⟨g, k * 6, none⟩) (ts.length - k) (c - k)) := H 1 rfl 39 (.eq (.slice (some ⟨g, k * 6, none⟩) (ts.length - k) (c - k))) rfl (by rw [hFs8]; rfl)
          have e40 : s' 40 = (.int .i64 ((m : Nat) : Int)) := H 2 rfl 40 (.eq (.int .i64 ((m : Nat) : Int))) rfl (by rw [hFs8]; rfl)
          exact zAJ (zAO (b := g) (o := k * 6) (len := ts.length - k) (cap := c - k) (i := m) (o' := k * 6 + m * 6) e39 e40 rfl Tryz.underlying23 zAH (by omega) (by omega)) (Ext.refl _) rfl
         refine DagSteps.cons (fun s' w' X U H => Or.inl ⟨?_, ?_⟩) ?_
         ·exact zAE rfl
         ·have e41 : s' 41 = (.pointer (some ⟨g, k * 6 + m * 6, none⟩)) := H 3 rfl 41 (.eq (.pointer (some ⟨g, k * 6 + m * 6, none⟩))) rfl (by rw [hFs8]; rfl)
          exact zAJ (zAG (vs := [(I6 x.kind), (.slice sa x.set.length sc), (.slice aa x.args.length ac), (I6 x.mn), (I6 x.mx), (.bool x.neg)]) e41 zAb zAH rfl (by rw [show k * 6 + m * 6 = j * 6 by omega]; exact hcx.ext (X0.trans X))) (Ext.refl _) rfl
         refine DagSteps.cons (fun s' w' X U H => Or.inl ⟨?_, ?_⟩) ?_
         ·exact zAE rfl
         ·exact zAJ (zAn (v := (.slice (some ⟨g, k * 6, none⟩) (ts.length - k) (c - k))) (U 6 rfl)) (Ext.refl _) rfl
         refine DagSteps.cons (fun s' w' X U H => Or.inl ⟨?_, ?_⟩) ?_
         ·exact zAE rfl
         ·exact zAJ (zAn (v := (I6 (m : Int))) (U 7 rfl)) (Ext.refl _) rfl
         refine DagSteps.cons (fun s' w' X U H => Or.inl ⟨?_, ?_⟩) ?_
         ·exact zAE rfl
         ·have e44 : s' 44 = (.int .i64 ((m : Nat) : Int)) := H 6 rfl 44 (.eq (.int .i64 ((m : Nat) : Int))) rfl (by rw [hFs8]; rfl)
          exact zAJ (zEh (k := .i64) (a := (m : Int)) (b := 1) (c := (m : Int) - 1) e44 rfl (zBs (by omega))) (Ext.refl _) rfl
         refine DagSteps.cons (fun s' w' X U H => Or.inl ⟨?_, ?_⟩) ?_
         ·exact zAE rfl
         ·have e43 : s' 43 = (.slice (some ⟨g, k * 6, none⟩) (ts.length - k) (c - k)) := H 5 rfl 43 (.eq (.slice (some ⟨g, k * 6, none⟩) (ts.length - k) (c - k))) rfl (by rw [hFs8]; rfl)
          have e45 : s' 45 = (.int .i64 (((m : Nat) : Int) - 1)) := H 7 rfl 45 (.eq (.int .i64 (((m : Nat) : Int) - 1))) rfl (by rw [hFs8]; rfl)
          exact zAJ (zAO (b := g) (o := k * 6) (len := ts.length - k) (cap := c - k) (i := m - 1) (o' := k * 6 + (m - 1) * 6) e43 e45 (by omega) Tryz.underlying23 zAH (by omega) (by omega)) (Ext.refl _) rfl
         refine DagSteps.cons (fun s' w' X U H => Or.inl ⟨?_, ?_⟩) ?_
         ·exact zAE rfl
         ·have e46 : s' 46 = (.pointer (some ⟨g, k * 6 + (m - 1) * 6, none⟩)) := H 8 rfl 46 (.eq (.pointer (some ⟨g, k * 6 + (m - 1) * 6, none⟩))) rfl (by rw [hFs8]; rfl)
          exact zAJ (zAG (vs := [(I6 y.kind), (.slice sa2 y.set.length sc2), (.slice aa2 y.args.length ac2), (I6 y.mn), (I6 y.mx), (.bool y.neg)]) e46 zAb zAH rfl (by rw [show k * 6 + (m - 1) * 6 = (j - 1) * 6 by omega]; exact hcy.ext (X0.trans X))) (Ext.refl _) rfl
         refine DagSteps.cons (fun s' w' X U H => Or.inl ⟨?_, ?_⟩) ?_
         ·exact zAE rfl
         ·have e42 : s' 42 = (.agg #[(.int .i64 x.kind), (.slice sa x.set.length sc), (.slice aa x.args.length ac), (.int .i64 x.mn), (.int .i64 x.mx), (.bool x.neg)]) := H 4 rfl 42 (.eq (.agg #[(.int .i64 x.kind), (.slice sa x.set.length sc), (.slice aa x.args.length ac), (.int .i64 x.mn), (.int .i64 x.mx), (.bool x.neg)])) rfl (by rw [hFs8]; rfl)
          have e47 : s' 47 = (.agg #[(.int .i64 y.kind), (.slice sa2 y.set.length sc2), (.slice aa2 y.args.length ac2), (.int .i64 y.mn), (.int .i64 y.mx), (.bool y.neg)]) := H 9 rfl 47 (.eq (.agg #[(.int .i64 y.kind), (.slice sa2 y.set.length sc2), (.slice aa2 y.args.length ac2), (.int .i64 y.mn), (.int .i64 y.mx), (.bool y.neg)])) rfl (by rw [hFs8]; rfl)
          have e38 : s' 38 = fv := H 0 rfl 38 (.eq fv) rfl (by rw [hFs8]; rfl)
          exact zHY e38 (zGt e42 e47) (hf _ x y _ _ (zBC.ext (X0.trans X) x hrx2) (zBC.ext (X0.trans X) y hry2))
         refine DagSteps.cons (fun s' w' X U H => Or.inl ⟨?_, ?_⟩) ?_
         ·exact zAE rfl
         ·have e48 : s' 48 = (.bool (zBT x y)) := H 10 rfl 48 (.eq (.bool (zBT x y))) rfl (by rw [hFs8]; rfl)
          exact zAJ (zCV (b := zBT x y) e48) (Ext.refl _) rfl
         exact DagSteps.nil
        ·intro s' w8 X8 U H
         obtain ⟨j8, rfl⟩ := zBG.out (σ := s') (l := [(0, (.slice (some ⟨g, 0, none⟩) ts.length c)), (1, fv), (5, (.int .i64 ((i : Nat) : Int))), (6, (.slice (some ⟨g, k * 6, none⟩) (ts.length - k) (c - k))), (7, (.int .i64 ((m : Nat) : Int))), (49, (.bool (!(zBT x y))))]) ⟨U 0 rfl, U 1 rfl, U 5 rfl, U 6 rfl, U 7 rfl, (show s' 49 = (.bool (!(zBT x y))) from H 11 49 (.eq (.bool (!(zBT x y)))) rfl (by rw [hFs8]; rfl)), trivial⟩
         clear U H
         replace hgB2 := X8.keep hgB2
         replace hcx := hcx.ext X8
         replace E := E.ext X8
         refine zAC ?_
         refine zAM (b := !(zBT x y)) rfl (fun hne => ?_) (fun hne => ?_)
         ·have khne := hne
          replace hne := by simpa using hne
          have hsf : zBT x y = false := by simpa using hne
          refine zAA ?_
          refine qM (.slice (some ⟨g, 0, none⟩) ts.length c) rfl ?_
          refine qM (I6 (i : Int)) rfl ?_
          refine qM (.slice (some ⟨g, k * 6, none⟩) (ts.length - k) (c - k)) rfl ?_
          refine qM (I6 (m : Int)) rfl ?_
          refine qV (zAO (b := g) (o := k * 6) (len := ts.length - k) (cap := c - k) (i := m) (o' := k * 6 + m * 6) rfl rfl rfl Tryz.underlying23 zAH (by omega) (by omega)) ?_
          refine qV (zAG (vs := [(I6 x.kind), (.slice sa x.set.length sc), (.slice aa x.args.length ac), (I6 x.mn), (I6 x.mx), (.bool x.neg)]) rfl zAb zAH rfl (by rw [show k * 6 + m * 6 = j * 6 by omega]; exact hcx)) ?_
          refine qV (zAO (b := g) (o := 0) (len := ts.length) (cap := c) (i := i) (o' := 0 + i * 6) rfl rfl rfl Tryz.underlying23 zAH (by omega) (by omega)) ?_
          refine zFZ (b := g) (o := 0 + i * 6) (n := 6) (c' := ((cur.set i [.int .i64 x.kind, .slice sa x.set.length sc, .slice aa x.args.length ac, .int .i64 x.mn, .int .i64 x.mx, .bool x.neg]).flatten ++ rest).toArray) (vs := (R6 x sa sc aa ac)) rfl rfl (by simp [Value.oneCell']) zAH (rfl) hgB2 (by have := zBn hc6; simp only [List.size_toArray, List.length_append]; omega) (by rw [Nat.zero_add]; exact congrArg List.toArray (zHg (k := 6) (v := [.int .i64 x.kind, .slice sa x.set.length sc, .slice aa x.args.length ac, .int .i64 x.mn, .int .i64 x.mx, .bool x.neg]) (rows := cur) (i := i) (rest := rest) rfl hc6 (by omega))) ?_
          intro w10 S10
          replace E := S10.stp E
          replace hgB2 := S10.blk
          refine zAB (zAW ?_)
          refine qM (I6 (i : Int)) rfl ?_
          refine qV (zBQ (k := .i64) (a := (i : Int)) (b := 1) (c := (i : Int) + 1) rfl rfl (zBs (by omega))) ?_
          refine qA (I6 ((i : Int) + 1)) rfl ?_
          refine zAB (zAU (zAC (zAW ?_)))
          refine qM (I6 (m : Int)) rfl ?_
          refine qV (zBQ (k := .i64) (a := (m : Int)) (b := 1) (c := (m : Int) + 1) rfl rfl (zBs (by omega))) ?_
          refine qA (I6 ((m : Int) + 1)) rfl ?_
          refine zAB (zAC ?_)
          exact ⟨ts.length - k - (m + 1), by omega, m + 1, i + 1, cur.set i [.int .i64 x.kind, .slice sa x.set.length sc, .slice aa x.args.length ac, .int .i64 x.mn, .int .i64 x.mx, .bool x.neg], zBG.out ⟨rfl, rfl, rfl, rfl, rfl, trivial⟩, E, hgB2, ⟨by omega, by omega⟩, (by omega), (by simpa using hcl), (fun r hr => by rcases List.mem_or_eq_of_mem_set hr with h | h; exact hc6 r h; rw [h]; rfl), (by rw [show k + (m + 1) - 1 = j by omega, List.drop_set_of_lt (by omega)]; exact hdr2), (by rw [show k + (m + 1) = j + 1 by omega, hkt, hsf, List.take_add_one, List.take_set_of_le (Nat.le_refl _), List.getElem?_set_self (by omega)]; exact zAj.append (zAj.single hrx) hin), (by rw [show k + (m + 1) = j + 1 by omega, hkt, hsf, List.length_append, ← hil]; rfl), rfl⟩
         ·have khne := hne
          replace hne := by simpa using hne
          have hst : zBT x y = true := by simpa using hne
          refine zAR (zAU (zAC (zAW ?_)))
          refine qM (I6 (m : Int)) rfl ?_
          refine qV (zBQ (k := .i64) (a := (m : Int)) (b := 1) (c := (m : Int) + 1) rfl rfl (zBs (by omega))) ?_
          refine qA (I6 ((m : Int) + 1)) rfl ?_
          refine zAB (zAC ?_)
          exact ⟨ts.length - k - (m + 1), by omega, m + 1, i, cur, zBG.out ⟨rfl, rfl, rfl, rfl, rfl, trivial⟩, E, hgB2, ⟨by omega, by omega⟩, (by omega), hcl, hc6, (by rw [show k + (m + 1) - 1 = j by omega]; exact hdr2), (by rw [show k + (m + 1) = j + 1 by omega, hkt, hst]; simpa using hin), (by rw [show k + (m + 1) = j + 1 by omega, hkt, hst]; simpa using hil), rfl⟩
       ·have khlt2 := hlt2
        replace hlt2 := of_decide_eq_false hlt2
        have hjj : k + m = ts.length := by omega
        rw [hjj, List.take_length] at hin hil
        have hil2 : i ≤ ts.length := by rw [hil]; exact zMn _ _
        refine zBB (zAe (zAe (zAr (zAC (zAA ?_)))))
        refine qM (.slice (some ⟨g, 0, none⟩) ts.length c) rfl ?_
        refine qM (I6 (i : Int)) rfl ?_
        obtain ⟨sk, hsk⟩ : ∃ a' : Option Addr, (if c = i then (some ⟨g, 0, none⟩) else Option.map (fun q : Addr => q.add (i * 6)) (some ⟨g, 0, none⟩)) = a' := ⟨_, rfl⟩
        refine qV (zDR (a := (some ⟨g, 0, none⟩)) (len := ts.length) (cap := c) (lo := i) (l := (i : Int)) (n' := (ts.length - i)) (c' := (c - i)) Tryz.underlying23 zAH rfl rfl (by omega) (by omega) hsk (by omega) (by omega)) ?_
        have hsk2 : sk = some ⟨g, i * 6, none⟩ := by rw [← hsk, if_neg (by omega)]; simp [Addr.add]; omega
        subst hsk2
        obtain ⟨cz, hcz⟩ : ∃ cz, cz = ((cur.flatten ++ rest).toArray.toList.take (i * 6) ++ (Builtin.zeroCells (Value.cells (.agg #[(.int .i64 0), (.slice none 0 0), (.slice none 0 0), (.int .i64 0), (.int .i64 0), (.bool false)])) (ts.length - i)).toList ++ (cur.flatten ++ rest).toArray.toList.drop (i * 6 + (ts.length - i) * 6)).toArray := ⟨_, rfl⟩
        refine zMD (b := g) (o := i * 6) (m := (ts.length - i)) (cc := (c - i)) (c' := cz) Tryz.underlying23 zAs rfl (by omega) hgB2 zJr (by show i * 6 + (ts.length - i) * 6 ≤ _; simp only [List.size_toArray, List.length_append, zBn hc6, hcl]; omega) (hcz.symm) ?_
        intro w11 S11
        replace E := S11.stp E
        replace hgB2 := S11.blk
        refine zAB (zAA ?_)
        refine qM (.slice (some ⟨g, 0, none⟩) ts.length c) rfl ?_
        refine qM (I6 (i : Int)) rfl ?_
        obtain ⟨sm, hsm⟩ : ∃ a' : Option Addr, (if c = 0 then (some ⟨g, 0, none⟩) else Option.map (fun q : Addr => q.add (0 * 6)) (some ⟨g, 0, none⟩)) = a' := ⟨_, rfl⟩
        refine qV (zGQ (a := (some ⟨g, 0, none⟩)) (len := ts.length) (cap := c) (hi := i) (l := (i : Int)) Tryz.underlying23 zAH rfl rfl (by omega) (by omega) hsm) ?_
        refine qA (.slice sm i c) rfl ?_
        refine zAB (zAQ (zAY (zAI (zAI (zAY (zAI ?_))))))
        refine zAS Tryz.results185 (v := (.slice sm i c)) rfl ?_
        have hsm2 : sm = some ⟨g, 0, none⟩ := by rw [← hsm]; split <;> simp [Addr.add]
        subst hsm2
        have hfl : (cur.take i).flatten.length = i * 6 := by rw [zBn (fun r hr => hc6 r (List.mem_of_mem_take hr))]; simp; omega
        have htk : (cur.flatten ++ rest).take (i * 6) = (cur.take i).flatten := by
         have : cur.flatten = (cur.take i).flatten ++ (cur.drop i).flatten := by rw [← List.flatten_append, List.take_append_drop]
         rw [this, List.append_assoc, List.take_append_of_le_length (by omega), List.take_of_length_le (by omega)]
        have hz : (Builtin.zeroCells (Value.cells (.agg #[(.int .i64 0), (.slice none 0 0), (.slice none 0 0), (.int .i64 0), (.int .i64 0), (.bool false)])) (ts.length - i)).toList.length = (ts.length - i) * 6 := by simp [Builtin.zeroCells, Value.cells]
        have hcl6 : (cur.flatten ++ rest).length = c * 6 := by rw [List.length_append, zBn hc6, hcl]; omega
        refine ⟨some ⟨g, 0, none⟩, c, cur.take i, by rw [← hil], ⟨by rw [hfl, ← hil], .inr ⟨g, c, cz, by rw [← hil], hgb, hgB2, by omega, hcap2, ?_, ?_⟩⟩, hin, E⟩
        ·rw [hcz]
         simp only [List.size_toArray, List.length_append, List.length_take, List.length_drop, hz]
         simp only [List.length_append] at hcl6
         omega
        ·rw [hcz, ← hil]
         show List.take (i * 6) (List.take (i * 6) (cur.flatten ++ rest) ++ _ ++ _) = _
         rw [htk, List.append_assoc, List.take_append_of_le_length (by omega), List.take_of_length_le (by omega)]
     ·have khsm := hsm
      have hsf : zBT x y = false := by simpa using hsm
      refine zAR (zAU (zAC (zAW ?_)))
      refine qM (I6 (k : Int)) rfl ?_
      refine qV (zBQ (k := .i64) (a := (k : Int)) (b := 1) (c := (k : Int) + 1) rfl rfl (zBs (by omega))) ?_
      refine qA (I6 ((k : Int) + 1)) rfl ?_
      refine zAB (zAC ?_)
      exact ⟨ts.length - (k + 1), by omega, k + 1, zBG.out ⟨rfl, rfl, rfl, trivial⟩, E, hgB2, ⟨by omega, by omega⟩, (by rw [hkt, hsf, hkd, List.take_add_one, hx]; rfl), rfl⟩
   ·have khlt := hlt
    replace hlt := of_decide_eq_false hlt
    have hkk : k = ts.length := by omega
    rw [hkk, List.take_length] at hkd
    refine zBB (zAe (zAe (zAr (zAC (zAA ?_)))))
    refine qM (.slice (some ⟨g, 0, none⟩) ts.length c) rfl ?_
    refine qA (.slice (some ⟨g, 0, none⟩) ts.length c) rfl ?_
    refine zAB (zAQ ?_)
    refine zAS Tryz.results185 (v := (.slice (some ⟨g, 0, none⟩) ts.length c)) rfl ?_
    rw [hkd]; exact ⟨_, c, rows, rfl, zNx hown0 hgB2 hcap1 hcap2 hszz, hr, E⟩
end Go.Proofs
namespace Go.Proofs
open Go Go.Eng Go.Sort
set_option maxRecDepth 100000
theorem zLv {us D : List Re} (hp : us.Perm D) (hs : us.Pairwise fun x y => zCB x y ≤ 0) (hn : ∀ x ∈ D, zEA x = true) : us = zDO D := by
 have hp2 : us.Perm (zDO D) := hp.trans (List.mergeSort_perm D leR).symm
 refine List.Perm.eq_of_pairwise (le := fun x y => zCB x y ≤ 0) (fun a b ha hb h1 h2 => ?_) hs (zEq D) hp2
 have h3 := zBf a b
 have h4 := zBf b a
 exact (zGA (hn a (hp.mem_iff.1 ha)) (hn b (zFB.1 hb))).1 (by omega)
theorem zOb {p : Re → Bool} {l : List Re} : (0 ≤ idx p l → ∃ i x, idx p l = ((i : Nat) : Int) ∧ l[i]? = some x ∧ l.find? p = some x) ∧ (¬ 0 ≤ idx p l → l.find? p = none) := by
  unfold idx
  cases h : l.findIdx? p with
  | none =>
    refine ⟨fun h1 => by simp at h1, fun _ => ?_⟩
    rw [List.find?_eq_none]
    intro x hx
    have := (List.findIdx?_eq_none_iff.1 h) x hx
    simp [this]
  | some i =>
    refine ⟨fun _ => ?_, fun h1 => by simp at h1⟩
    obtain ⟨hi, h1, h2⟩ := List.findIdx?_eq_some_iff_getElem.1 h
    refine ⟨i, l[i], rfl, List.getElem?_eq_getElem hi, ?_⟩
    rw [List.find?_eq_some_iff_getElem]
    exact ⟨h1, i, hi, rfl, fun j hj => by simpa using h2 j hj⟩
set_option maxHeartbeats 4000000 in
theorem zKk (w0 : World) (S : Nat → Prop) (k : Int) (v sf gf : Value) (ts : List Re) (strong weak : Re → Bool) (zt : Re) (zv : List Value) (h : zCJ S w0 v ts) (hz : zAc S w0 zt zv) (hS : ∀ x, S x → x < w0.heap.size) (hne : ∀ x ∈ ts, x.kind = k → x.args ≠ []) (hsz : Re.sizes ts ≤ 1000000) (hnn : ∀ x ∈ zBO k ts, zEA x = true)
  (hs : ∀ (w : World) (x : Re) (vs : List Value), x ∈ ts → zBC w x vs → zBu Tryz.prog sf #[.agg vs.toArray] w fun r w' => r = .bool (strong x) ∧ Ext w w')
  (hw : ∀ (w : World) (x : Re) (vs : List Value), x ∈ zBO k ts → zBC w x vs → zBu Tryz.prog gf #[.agg vs.toArray] w fun r w' => r = .bool (weak x) ∧ Ext w w') :
  Ret Tryz.prog 161 #[.int .i64 k, v, sf, gf, .agg zv.toArray] w0 fun r w => (∃ vs, r = .agg vs.toArray ∧ zAc (fun b => S b ∨ w0.heap.size ≤ b) w (zHz k ts strong weak zt) vs) ∧ Ext w0 w := by
 have h0 := h
 have hz0 := hz
 obtain ⟨zsa, zsc, zaa, zac, rfl, _, _, _⟩ := hz.form
 obtain ⟨aa0, ac0, rfl, hac0, _⟩ := h
 have hls := zCg ts
 have hfle := zHu k ts ts.length
 rw [List.take_length] at hfle
 have hin0 := h0
 obtain ⟨hfi1, hfi2⟩ := zOb (p := strong) (l := ts)
 obtain ⟨q, hq⟩ : ∃ q : Int, q = idx strong ts := ⟨_, rfl⟩
 rw [← hq] at hfi1 hfi2
 obtain ⟨D, hD⟩ : ∃ D, D = zEm weak (zBO k ts) := ⟨_, rfl⟩
 have hDl : D.length ≤ (zBO k ts).length := by rw [hD]; exact List.length_filter_le _ _
 have hDn : ∀ x ∈ D, zEA x = true := fun x hx => hnn x (zGe.1 (by rw [← hD]; exact hx)).1
 obtain ⟨G, hG⟩ : ∃ G, G = zFQ (zDO D) := ⟨_, rfl⟩
 have hcho : zHz k ts strong weak zt = match ts.find? strong with | some x => x | none => zBy k zt G := by rw [hG, hD]; rfl
 rw [hcho]
 obtain ⟨hw0, hw1, hw2⟩ := zEV k zt G
 refine zAk Tryz.func161 rfl Tryz.ntmps161 (Nat.le_of_ble_eq_true rfl) ?_
 have E : Chg zAh w0 w0 := Chg.refl _ _
 refine zAA ?_
 refine zBL (v := (.agg (R6 zt zsa zsc zaa zac))) (c := (R6 zt zsa zsc zaa zac)) (by decide) rfl rfl ?_
 intro bz wz Nz
 have Fz := Nz.ge E
 replace E := E.ext Nz.ext
 have Bz := Nz.blk
 refine zBD (c := #[(I6 0), (.slice none 0 0), (.slice none 0 0), (I6 0), (I6 0), (.bool false)]) (by decide) zAs rfl ?_
 intro bo wo No
 have Fo := No.ge E
 have Oo_bz := No.lt Bz
 replace Bz := No.keep Bz
 replace E := E.ext No.ext
 have Bo := No.blk
 refine zAB (zAP (zAA ?_))
 refine qM (.slice aa0 ts.length ac0) rfl ?_
 refine qM sf rfl ?_
 obtain ⟨base, hbase⟩ : ∃ base, base = wo.heap.size := ⟨_, rfl⟩
 have hob : bo < base ∧ bz < base := ⟨by rw [hbase]; exact Bo.lt, by rw [hbase]; exact Bz.lt⟩
 have hwb : w0.heap.size ≤ base := by omega
 have E2 : Chg zAh wo wo := Chg.refl _ _
 refine zAL rfl rfl (by decide) (zAT (vs := [(.slice aa0 ts.length ac0), sf]) Tryz.func82 nm82 bd82 rfl) ((zGO _ _ sf ts strong (zPq (h0.ext E)) (fun w x vs _ hm hx => hs w x vs hm hx)).mono (R' := fun r w => r = .int .i64 q ∧ Ext wo w) (fun r w h9 => ⟨by rw [h9.1, hq], h9.2⟩)) ?_
 rintro _ w9 ⟨rfl, X9⟩
 replace Bz := X9.keep Bz
 replace Bo := X9.keep Bo
 replace E := E.ext X9
 refine qA (I6 q) rfl ?_
 refine zAB (zAA ?_)
 refine qM (I6 q) rfl ?_
 refine qV (zFE (k := .i64) (a := q) (b := 0) rfl rfl) ?_
 refine zAB ?_
 refine zAM (b := decide ((0 : Int) ≤ q)) rfl (fun hge => ?_) (fun hge => ?_)
 ·have khge := hge
  replace hge := of_decide_eq_true hge
  obtain ⟨i, x, hi, hx, hf⟩ := hfi1 hge
  have hilt := zAo hx
  have hin : zCJ S (w9) (.slice aa0 ts.length ac0) ts := hin0.ext E
  obtain ⟨lb, lo, rfl, hcl⟩ := hin.cells (by omega)
  obtain ⟨xs, hcx, hrx⟩ := hcl i x hx
  have hrx0 := hrx
  obtain ⟨sa, sc, aa, ac, rfl, _, _, _⟩ := hrx.form
  refine zAA ?_
  refine qM (.slice (some ⟨lb, lo, none⟩) ts.length ac0) rfl ?_
  refine qM (I6 q) rfl ?_
  refine qV (zAO (b := lb) (o := lo) (len := ts.length) (cap := ac0) (i := i) (o' := lo + i * 6) rfl rfl (by omega) Tryz.underlying23 zAH (by omega) (by omega)) ?_
  have hS5 : Chg (fun y => y = bo) (w9) (w9) := Chg.refl _ _
  refine qV (zAG (vs := [(I6 x.kind), (.slice sa x.set.length sc), (.slice aa x.args.length ac), (I6 x.mn), (I6 x.mx), (.bool x.neg)]) rfl zAb zAH rfl (hcx)) ?_
  refine qW (R6 x sa sc aa ac) rfl rfl zAH Bo ?_
  intro w2 S2
  replace hS5 := S2.chg
  replace Bz := S2.keep (by omega) Bz
  replace E := S2.stp E
  replace Bo := S2.blk
  refine zAB (zAQ (zAI ?_))
  refine zAm Tryz.results161 (vs := [(.int .i64 x.kind), (.slice sa x.set.length sc), (.slice aa x.args.length ac), (.int .i64 x.mn), (.int .i64 x.mx), (.bool x.neg)]) (b := bo) rfl zAb zAH rfl (Bo.cells rfl) ?_
  exact ⟨⟨_, rfl, by rw [hf]; exact zAc.mono (fun y hy => .inl hy) x (zAc.chg hS5 (fun y hy h => by have h1 := hS y hy; have h2 : y = bo := h; omega) x hrx0)⟩, E⟩
 have khge := hge
 replace hge := of_decide_eq_false hge
 rw [hfi2 hge]
 obtain ⟨base2, hbase2⟩ : ∃ base2, base2 = w9.heap.size := ⟨_, rfl⟩
 have hob2 : bo < base2 ∧ bz < base2 ∧ w0.heap.size ≤ base2 := by have := X9.size; omega
 refine zAR (zAC (zAA ?_))
 refine qM (I6 k) rfl ?_
 refine qM (.slice aa0 ts.length ac0) rfl ?_
 refine zAL rfl rfl (by decide) (zAT (vs := [(I6 k), (.slice aa0 ts.length ac0)]) Tryz.func167 nm167 bd167 rfl) (zPL _ S k _ ts (hin0.ext E) hne hsz) ?_
 rintro _ wf ⟨la, lc, rows, rfl, hown, hrs, Xf⟩
 replace Bz := Xf.keep Bz
 replace Bo := Xf.keep Bo
 replace E := E.ext Xf
 rw [← hbase2] at hown
 have E3 : Ext w9 wf := Xf
 have hSb : ∀ x, S x → x < base2 := fun x hx => by have := hS x hx; omega
 refine qM gf rfl ?_
 refine zAL rfl rfl (by decide) (zAT (vs := [(.slice la ((zBO k ts).length) lc), gf]) Tryz.func166 nm166 bd166 rfl) ((del_c w9 _ base2 S _ _ (zBO k ts) rows weak E3 hown hrs hSb (by omega) hw).mono (R' := fun r w => ∃ la lc rows', r = .slice la D.length lc ∧ w.ownsRow base2 TRe 6 r D.length rows'.flatten ∧ zAj S w9 D rows' ∧ Chg (fun x => base2 ≤ x) wf w) (fun r w h9 => by rw [hD]; exact h9)) ?_
 rintro _ wd ⟨la2, lc2, rows2, rfl, hown2, hrs2, Cd⟩
 replace Bz := Cd.keep (by omega) Bz
 replace Bo := Cd.keep (by omega) Bo
 replace E := E.step Cd (by intro x hx hm; omega)
 replace E3 := E3.step Cd (by intro x hx hm; omega)
 refine qA (.slice la2 D.length lc2) rfl ?_
 refine zAB (zAA ?_)
 refine qM (.slice la2 D.length lc2) rfl ?_
 refine zAL rfl rfl (by decide) (zAT (vs := [(.slice la2 D.length lc2), (.func (.func 184) #[] #[])]) Tryz.func183 nm183 bd183 rfl) ((zPh w9 _ S base2 _ D rows2 E3 hown2 hrs2 hSb (by omega)).mono (R' := fun r w => r = .tuple #[] ∧ (∃ qs, w.ownsRow base2 TRe 6 (.slice la2 D.length lc2) (zDO D).length qs.flatten ∧ zAj S w9 (zDO D) qs) ∧ Chg (fun x => base2 ≤ x) wd w) (fun r w h9 => by obtain ⟨h1, ⟨us, qs, hp, hpw, h3, h4⟩, h5⟩ := h9; have h6 := zLv hp hpw hDn; subst h6; exact ⟨h1, ⟨qs, h3, h4⟩, h5.mono fun x _ hx => (hown2.lt x hx).1⟩)) ?_
 rintro _ ws ⟨rfl, ⟨qs, hown3, hrs3⟩, Cs⟩
 replace Bz := Cs.keep (by omega) Bz
 replace Bo := Cs.keep (by omega) Bo
 replace E := E.step Cs (by intro x hx hm; omega)
 replace E3 := E3.step Cs (by intro x hx hm; omega)
 have hsl : (zDO D).length = D.length := List.length_mergeSort D
 rw [← hsl] at hown3
 rw [← hsl]
 refine zAB (zAA ?_)
 refine qM (.slice la2 ((zDO D).length) lc2) rfl ?_
 refine zAL rfl rfl (by decide) (zAT (vs := [(.slice la2 ((zDO D).length) lc2), (.func (.func 25) #[] #[])]) Tryz.func185 nm185 bd185 rfl) ((zQk w9 _ base2 S _ _ (zDO D) qs E3 hown3 hrs3 hSb (by omega) (fun w x y xs ys hx hy => zBu.mk (first := #[]) (cap := #[]) Tryz.func25 nm25 bd25 rfl (zNs _ x y w xs ys (Nat.le_refl _) hx hy))).mono (R' := fun r w => ∃ la lc rows', r = .slice la G.length lc ∧ w.ownsRow base2 TRe 6 r G.length rows'.flatten ∧ zAj S w9 G rows' ∧ Chg (fun x => base2 ≤ x) ws w) (fun r w h9 => by rw [hG]; exact h9)) ?_
 rintro _ wc ⟨la4, lc4, rows4, rfl, hown4, hrs4, Cc⟩
 replace Bz := Cc.keep (by omega) Bz
 replace Bo := Cc.keep (by omega) Bo
 replace E := E.step Cc (by intro x hx hm; omega)
 replace E3 := E3.step Cc (by intro x hx hm; omega)
 obtain ⟨hoc, hocl⟩ := zDz hown4 (hrs4.ext E3) rfl
 refine qA (.slice la4 G.length lc4) rfl ?_
 refine zAB (zAP (zAA ?_))
 refine qM (.slice la4 G.length lc4) rfl ?_
 refine qV (zAV (ad := la4) (n := G.length) (cap := lc4) Tryz.underlying23 rfl) ?_
 refine zAB (zAZ (zAA ?_))
 refine qV (zAg (k := .i64) (a := (G.length : Int)) (b := 0) rfl rfl) ?_
 refine qA (.bool (decide (((G.length : Int) : Int) = 0))) rfl ?_
 refine zAB ?_
 refine zAM (b := decide (((G.length : Int) : Int) = 0)) rfl (fun h0l => ?_) (fun h0l => ?_)
 ·have kh0l := h0l
  replace h0l := of_decide_eq_true h0l
  have hS5 : Chg (fun y => y = bo) (wc) (wc) := Chg.refl _ _
  have hz9 := zAc.ext E zt hz0
  refine zAA ?_
  refine qV (zAG (vs := [(I6 zt.kind), (.slice zsa zt.set.length zsc), (.slice zaa zt.args.length zac), (I6 zt.mn), (I6 zt.mx), (.bool zt.neg)]) rfl zAb zAH rfl (Bz.cells rfl)) ?_
  refine qW (R6 zt zsa zsc zaa zac) rfl rfl zAH Bo ?_
  intro w4 S4
  replace hS5 := S4.chg
  replace Bz := S4.keep (by omega) Bz
  replace E := S4.stp E
  replace Bo := S4.blk
  refine zAB (zAQ (zAY (zAI ?_)))
  refine zAm Tryz.results161 (vs := [(.int .i64 zt.kind), (.slice zsa zt.set.length zsc), (.slice zaa zt.args.length zac), (.int .i64 zt.mn), (.int .i64 zt.mx), (.bool zt.neg)]) (b := bo) rfl zAb zAH rfl (Bo.cells rfl) ?_
  exact ⟨⟨_, rfl, by show zAc _ _ (zBy k zt G) _; rw [hw0 (by omega)]; exact zAc.mono (fun y hy => .inl hy) zt (zAc.chg hS5 (fun y hy h => by have h1 := hS y hy; have h2 : y = bo := h; omega) zt hz9)⟩, E⟩
 have kh0l := h0l
 replace h0l := of_decide_eq_false h0l
 refine zAA ?_
 refine qV (zAg (k := .i64) (a := (G.length : Int)) (b := 1) rfl rfl) ?_
 refine qA (.bool (decide (((G.length : Int) : Int) = 1))) rfl ?_
 refine zAB ?_
 refine zAM (b := decide (((G.length : Int) : Int) = 1)) rfl (fun h1l => ?_) (fun h1l => ?_)
 ·have kh1l := h1l
  replace h1l := of_decide_eq_true h1l
  obtain ⟨x, hx⟩ := zAa (l := G) (i := 0) (by omega)
  obtain ⟨lb, hlb1, hlb2, hlb3, hcl⟩ := hocl.resolve_left (fun h => by rw [h] at hx; simp at hx)
  subst hlb3
  obtain ⟨xs, hcx, hrx⟩ := hcl 0 x hx
  have hrx0 := hrx
  obtain ⟨sa, sc, aa, ac, rfl, _, _, _⟩ := hrx.form
  have hS5 : Chg (fun y => y = bo) (wc) (wc) := Chg.refl _ _
  refine zAA ?_
  refine qM (.slice (some ⟨lb, 0, none⟩) G.length lc4) rfl ?_
  refine qV (zAO (b := lb) (o := 0) (len := G.length) (cap := lc4) (i := 0) (o' := 0) rfl rfl rfl Tryz.underlying23 zAH (by omega) (by omega)) ?_
  refine qV (zAG (vs := [(I6 x.kind), (.slice sa x.set.length sc), (.slice aa x.args.length ac), (I6 x.mn), (I6 x.mx), (.bool x.neg)]) rfl zAb zAH rfl (hcx)) ?_
  refine qW (R6 x sa sc aa ac) rfl rfl zAH Bo ?_
  intro w6 S6
  replace hS5 := S6.chg
  replace Bz := S6.keep (by omega) Bz
  replace E := S6.stp E
  replace Bo := S6.blk
  refine zAB (zAQ (zAY (zAI ?_)))
  refine zAm Tryz.results161 (vs := [(.int .i64 x.kind), (.slice sa x.set.length sc), (.slice aa x.args.length ac), (.int .i64 x.mn), (.int .i64 x.mx), (.bool x.neg)]) (b := bo) rfl zAb zAH rfl (Bo.cells rfl) ?_
  exact ⟨⟨_, rfl, by show zAc _ _ (zBy k zt G) _; rw [hw1 x (by omega) hx]; exact zAc.mono (fun y hy => .inl hy) x (zAc.chg hS5 (fun y hy h => by have h1 := hS y hy; have h2 : y = bo := h; omega) x hrx0)⟩, E⟩
 have kh1l := h1l
 replace h1l := of_decide_eq_false h1l
 have hS5 : Chg (fun y => y = bo) (wc) (wc) := Chg.refl _ _
 refine zAR (zAU (zAC (zAA ?_)))
 refine qM (I6 k) rfl ?_
 refine qM (.slice la4 G.length lc4) rfl ?_
 refine qV (zBW (ps := [(0, (I6 k)), (2, (.slice la4 G.length lc4))]) (v := (.agg #[(I6 k), (.slice none 0 0), (.slice la4 G.length lc4), (I6 0), (I6 0), (.bool false)])) rfl (by kernel_rfl)) ?_
 refine qW (#[(I6 k), (.slice none 0 0), (.slice la4 G.length lc4), (I6 0), (I6 0), (.bool false)]) rfl rfl zAH Bo ?_
 intro w7 S7
 replace hS5 := S7.chg
 replace Bz := S7.keep (by omega) Bz
 replace E := S7.stp E
 replace Bo := S7.blk
 refine zAB (zAQ ?_)
 refine zAm Tryz.results161 (vs := [(.int .i64 k), (.slice none 0 0), (.slice la4 G.length lc4), (.int .i64 0), (.int .i64 0), (.bool false)]) (b := bo) rfl zAb zAH rfl (Bo.cells rfl) ?_
 refine ⟨⟨_, rfl, ?_⟩, E⟩
 show zAc _ _ (zBy k zt G) _
 rw [hw2 (by omega)]
 refine zAc.of (set := []) (zDE.nil _ _ _ _ _) hoc ?_
 rcases hocl with h | ⟨ob, hob1, hob2, hob3, hclo⟩
 ·exact .inl h
 refine .inr ⟨ob, 0, .inr (by omega), hob3, zCx fun i t ht => ?_⟩
 obtain ⟨vs, h6, h7⟩ := hclo i t ht
 exact ⟨vs, h6.chg hS5 (fun h => by have h' : ob = bo := h; omega), zAc.mono (fun y hy => .inl hy) t (zAc.chg hS5 (fun y hy h => by have h1 := hS y hy; have h2 : y = bo := h; omega) t h7)⟩
end Go.Proofs
namespace Go.Eng
open Go
def zIw (l : List Oper) (t u : Nat) : Bool := match l[t]? with
  | some o => o.after.any fun e => Region.binds .any e && Nat.beq e.on u
  | none => false
def zKV (hd : List Bool) (o : Oper) : Bool := match o.guard with | some p => hd.getD p.1 false | none => true
def zEi (N : Nat) (hd : List Bool) : Nat → List Oper → List Nat → List (List Nat) → List Bool → Bool
  | _, [], [], [], [] => true
  | i, o :: l, d :: ds, ws :: wss, h :: hs => (bif h then zDk N i o d ws && ((o.after.all fun e => !Region.binds .any e || hd.getD e.on false) && zKV hd o) else Nat.ble N d) && zEi N hd (i + 1) l ds wss hs
  | _, _, _, _, _ => false
/-- Each operation is of the head or of the tail, and one of the tail waits for the whole head or for another of the tail. -/
def zRM (l : List Oper) (hd : List Bool) (ts : List Nat) : Bool :=
 (List.range l.length).all fun i => hd.getD i false || (ts.contains i && ((List.range l.length).all (fun u => !hd.getD u false || zIw l i u) || ts.any fun p => !hd.getD p true && zIw l i p))
def zJb (ops : Array Oper) : List Nat → Array Bool → Bool
  | [], listed => (Region.ready .any ops listed).isEmpty
  | k :: ks, listed => decide (Region.ready .any ops listed = [k]) && zJb ops ks (listed.setIfInBounds k true)
theorem zDI {P : Program} {ops : Array Oper} {Q' : Exit → Act → World → Prop} : ∀ (ks : List Nat) (listed : Array Bool) (a : Act) (w : World), zJb ops ks listed = true → wpList P ops Q' (ks.filterMap fun k => ops[k]?) a w → wpAny P .any ops Q' ks.length listed a w
  | [], _, _, _, hB, h => ⟨by simpa [zJb] using hB, h⟩
  | k :: ks, listed, a, w, hB, h => by
    simp only [zJb, Bool.and_eq_true, decide_eq_true_eq] at hB
    refine ⟨fun h1 => (by rw [hB.1] at h1; cases h1), fun i hi => ?_⟩
    have hi0 := hi
    rw [hB.1] at hi
    have hik : i = k := by simpa using hi
    subst hik
    obtain ⟨_, o, h0, _⟩ := mem_ready.1 hi0
    have hw : wpOp P ops Q' i (wpList P ops Q' (ks.filterMap fun k => ops[k]?)) a w := by
      rw [List.filterMap_cons, h0] at h
      unfold wpOp; simp only [h0]; exact h
    exact wpOp_mono (fun a' w' h' => zDI ks _ a' w' hB.2 h') hw
theorem zDW {N : Nat} {hd : List Bool} : ∀ {i : Nat} {l : List Oper} {ds : List Nat} {wss : List (List Nat)} {hs : List Bool}, zEi N hd i l ds wss hs = true → ∀ {j : Nat} {o : Oper}, l[j]? = some o → ∃ d ws h, ds[j]? = some d ∧ wss[j]? = some ws ∧ hs[j]? = some h ∧ (bif h then zDk N (i + j) o d ws && ((o.after.all fun e => !Region.binds .any e || hd.getD e.on false) && zKV hd o) else Nat.ble N d) = true
  | _, [], _, _, _, _, j, o, h => by simp at h
  | i, x :: l, [], _, _, hB, _, _, _ => by simp [zEi] at hB
  | i, x :: l, d :: ds, [], _, hB, _, _, _ => by simp [zEi] at hB
  | i, x :: l, d :: ds, ws :: wss, [], hB, _, _, _ => by simp [zEi] at hB
  | i, x :: l, d :: ds, ws :: wss, h0 :: hs, hB, j, o, h => by
    simp only [zEi, Bool.and_eq_true] at hB
    cases j with
    | zero => simp at h; subst h; exact ⟨d, ws, h0, rfl, rfl, rfl, hB.1⟩
    | succ j =>
      simp at h
      obtain ⟨d', ws', h', h1, h2, h3, h4⟩ := zDW hB.2 h
      exact ⟨d', ws', h', by simpa using h1, by simpa using h2, by simpa using h3, by rw [show i + (j + 1) = i + 1 + j from by omega]; exact h4⟩
theorem zGg {N : Nat} {hd : List Bool} : ∀ {i : Nat} {l : List Oper} {ds : List Nat} {wss : List (List Nat)} {hs : List Bool}, zEi N hd i l ds wss hs = true → ds.length = l.length ∧ hs.length = l.length
  | _, [], [], [], [], _ => ⟨rfl, rfl⟩
  | _, [], [], [], _ :: _, hB => by simp [zEi] at hB
  | _, [], [], _ :: _, _, hB => by simp [zEi] at hB
  | _, [], _ :: _, _, _, hB => by simp [zEi] at hB
  | i, x :: l, [], _, _, hB => by simp [zEi] at hB
  | i, x :: l, d :: ds, [], _, hB => by simp [zEi] at hB
  | i, x :: l, d :: ds, ws :: wss, [], hB => by simp [zEi] at hB
  | i, x :: l, d :: ds, ws :: wss, h0 :: hs, hB => by
    simp only [zEi, Bool.and_eq_true] at hB
    have := zGg hB.2
    simp [this.1, this.2]
inductive DagStepsP (P : Program) (N : Nat) (ds : List Nat) (Fs : List Fact) (σ : Env) (w : World) : List Oper → List (List Nat) → List Bool → List Fact → Prop where
  | nil : DagStepsP P N ds Fs σ w [] [] [] []
  | cons {o : Oper} {ws : List Nat} {F : Fact} {l : List Oper} {wss : List (List Nat)} {hs : List Bool} {Gs : List Fact} : zIF P N ds Fs σ w o ws F → DagStepsP P N ds Fs σ w l wss hs Gs → DagStepsP P N ds Fs σ w (o :: l) (ws :: wss) (true :: hs) (F :: Gs)
  | tail {o : Oper} {ws : List Nat} {F : Fact} {l : List Oper} {wss : List (List Nat)} {hs : List Bool} {Gs : List Fact} : DagStepsP P N ds Fs σ w l wss hs Gs → DagStepsP P N ds Fs σ w (o :: l) (ws :: wss) (false :: hs) (F :: Gs)
theorem DagStepsP.get {P : Program} {N : Nat} {ds : List Nat} {Fs : List Fact} {σ : Env} {w : World} : ∀ {l : List Oper} {wss : List (List Nat)} {hs : List Bool} {Gs : List Fact}, DagStepsP P N ds Fs σ w l wss hs Gs → ∀ {j : Nat} {o : Oper}, l[j]? = some o → hs[j]? = some true → ∃ ws F, wss[j]? = some ws ∧ Gs[j]? = some F ∧ zIF P N ds Fs σ w o ws F
  | _, _, _, _, .nil, j, o, h, _ => by simp at h
  | _, _, _, _, .cons h1 h2, 0, o, h, _ => by simp at h; subst h; exact ⟨_, _, rfl, rfl, h1⟩
  | _, _, _, _, .tail h2, 0, o, h, ht => by simp at ht
  | _, _, _, _, .cons h1 h2, j + 1, o, h, ht => by
    obtain ⟨ws, F, a, b, c⟩ := h2.get (j := j) (by simpa using h) (by simpa using ht)
    exact ⟨ws, F, by simpa using a, by simpa using b, c⟩
  | _, _, _, _, .tail h2, j + 1, o, h, ht => by
    obtain ⟨ws, F, a, b, c⟩ := h2.get (j := j) (by simpa using h) (by simpa using ht)
    exact ⟨ws, F, by simpa using a, by simpa using b, c⟩
/-- How many of the head are yet to come. -/
def zDU (hd : List Bool) (listed : List Bool) : Nat := ((hd.zip listed).filter fun p => p.1 && !p.2).length
theorem zFI : ∀ {hd listed : List Bool} {i : Nat}, hd[i]? = some true → listed[i]? = some false → zDU hd (listed.set i true) + 1 = zDU hd listed
  | [], _, _, h, _ => by simp at h
  | _ :: _, [], _, _, h => by simp at h
  | h :: hd, x :: listed, 0, h1, h2 => by
    simp at h1 h2
    subst h1; subst h2
    simp [zDU]
  | h :: hd, x :: listed, i + 1, h1, h2 => by
    have := zFI (hd := hd) (listed := listed) (i := i) (by simpa using h1) (by simpa using h2)
    simp only [zDU, List.set_cons_succ, List.zip_cons_cons, List.filter_cons] at this ⊢
    split
    · simp only [List.length_cons]; omega
    · exact this
theorem zFe : ∀ {hd listed : List Bool}, hd.length = listed.length → zDU hd listed = 0 → (∀ (i : Nat), hd[i]? = some false → listed[i]? = some false) → listed = hd
  | [], [], _, _, _ => rfl
  | [], _ :: _, h, _, _ => by simp at h
  | _ :: _, [], h, _, _ => by simp at h
  | h :: hd, x :: listed, hl, h0, ht => by
    have e1 : zDU hd listed = 0 := by
      simp only [zDU, List.zip_cons_cons, List.filter_cons] at h0 ⊢
      split at h0
      · simp at h0
      · exact h0
    have e2 := zFe (by simpa using hl) e1 fun i hi => by have := ht (i + 1) (by simpa using hi); simpa using this
    have e3 : x = h := by
      cases h with
      | false => have := ht 0 rfl; simpa using this
      | true =>
        cases x with
        | true => rfl
        | false => simp [zDU] at h0
    rw [e2, e3]
theorem zGY : ∀ {hd listed : List Bool}, 0 < zDU hd listed → ∃ i : Nat, hd[i]? = some true ∧ listed[i]? = some false
  | [], _, h => by simp [zDU] at h
  | _ :: _, [], h => by simp [zDU] at h
  | h :: hd, x :: listed, hp => by
    simp only [zDU, List.zip_cons_cons, List.filter_cons] at hp
    split at hp
    · rename_i hc
      simp at hc
      exact ⟨0, by simp [hc.1], by simp [hc.2]⟩
    · obtain ⟨i, h1, h2⟩ := zGY (hd := hd) (listed := listed) hp
      exact ⟨i + 1, by simpa using h1, by simpa using h2⟩
theorem zCS {listed : Array Bool} {i : Nat} {b d : Bool} (h : listed.toList[i]? = some b) : listed.getD i d = b := by
 have : listed[i]? = some b := by simpa using h
 simp [Array.getD_eq_getD_getElem?, this]
theorem zDo {P : Program} {N : Nat} {Q : zFl} {σ : Env} {w : World} {id : Nat} {l : List Oper} (hd : List Bool) (ts : List Nat) (ds : List Nat) (wss : List (List Nat)) (Fs : List Fact) {Gs : List Fact} (hG : Fs = Gs) (hm : P.follows .mixedOrders = true) (hB : zEi N hd 0 l ds wss hd = true) (hn : zGU ds = true)
    (hT : (zRM l hd ts && zJb l.toArray ts hd.toArray) = true) (hN : Nat.beq (zDU hd (List.replicate l.length false) + ts.length) l.length = true)
    (steps : ∀ w1, Ext w w1 → DagStepsP P N ds Fs σ w1 l wss hd Gs)
    (k : ∀ σ' w', Ext w w' → (∀ t, ds.contains t = false → σ' t = σ t) → (∀ j, hd[j]? = some true → zFm ds Fs j σ' w') → WpL P N l.toArray (Q .normal) Q (ts.filterMap fun k => l[k]?) σ' w') : Wp P N (.region id l.toArray true) Q σ w := by
  intro a ha he
  have eQ : zFG N (thn (Q .normal) Q) = zFG N Q := by funext e a w; cases e <;> rfl
  refine wp_region_any hm ?_
  obtain ⟨w1, hw1⟩ : ∃ w1 : World, w1 = { w with drawn := w.drawn + 1 } := ⟨_, rfl⟩
  have hE1 : Ext w w1 := by rw [hw1]; exact zFL w
  rw [← hw1]
  have hst := steps w1 hE1
  rw [← hG] at hst
  rw [Bool.and_eq_true] at hT
  obtain ⟨hT1, hT2⟩ := hT
  obtain ⟨hlen, hlen2⟩ := zGg hB
  have key : ∀ (m : Nat) (listed : Array Bool) (a : Act) (w' : World), zDU hd listed.toList = m → listed.size = l.length → (∀ (t : Nat), hd[t]? = some false → listed.toList[t]? = some false) → Ok N a → Ext w1 w' → (∀ t, ds.contains t = false → env a t = σ t) → (∀ j, hd[j]? = some true → listed.getD j false = true → zFm ds Fs j (env a) w') →
      wpAny P .any l.toArray (zFG N Q) (m + ts.length) listed a w' := by
    intro m
    induction m with
    | zero =>
      intro listed a w' hc0 hsz htl ha hx hu hh
      have hl : listed = hd.toArray := by
        apply Array.ext'
        exact zFe (by simp; omega) hc0 htl
      rw [Nat.zero_add]
      have h1 := k (env a) w' (hE1.trans hx) hu (fun j hj => hh j hj (zCS (by rw [hl]; exact hj))) a ha rfl
      rw [eQ] at h1
      exact zDI ts listed a w' (by rw [hl]; exact hT2) (by simpa using h1)
    | succ m ih =>
      intro listed a w' hcm hsz htl ha hx hu hh
      obtain ⟨i0, hi0, hi1⟩ := zGY (hd := hd) (listed := listed.toList) (by omega)
      rw [show m + 1 + ts.length = (m + ts.length) + 1 by omega]
      refine ⟨fun hr => ?_, fun i hi => ?_⟩
      · exfalso
        have hall : ∀ i : Nat, hd[i]? = some true → listed.getD i true = true := by
          intro i
          induction i using Nat.strongRecOn with
          | _ i ihi =>
            intro hi
            cases hv : listed.getD i true with
            | true => rfl
            | false =>
              exfalso
              obtain ⟨o, ho⟩ := zAa (l := l) (i := i) (by have := zAo hi; omega)
              obtain ⟨d, ws, h, _, _, h2, h3⟩ := zDW hB ho
              rw [hi] at h2
              cases h2
              simp only [cond_true, Bool.and_eq_true, Nat.zero_add] at h3
              have : i ∈ Region.ready .any l.toArray listed := by
                refine mem_ready.2 ⟨hv, o, by simpa using ho, fun e he hb => ?_⟩
                have h4 := h3.1
                simp only [zDk, Bool.and_eq_true, Array.all_eq_true_iff_forall_mem, Bool.or_eq_true, Bool.not_eq_true'] at h4
                have h5 := h3.2.1
                simp only [Array.all_eq_true_iff_forall_mem, Bool.or_eq_true, Bool.not_eq_true'] at h5
                have h6 := (h4.1.2 e he).resolve_left (by simp [hb])
                have hlt : e.on < i := by simpa [Nat.blt_eq] using h6
                have h7 := (h5 e he).resolve_left (by simp [hb])
                have hj0 : e.on < hd.length := by have := zAo hi; omega
                have h8 : hd[e.on]? = some true := by
                  rw [List.getD_eq_getElem?_getD, List.getElem?_eq_getElem hj0, Option.getD_some] at h7
                  rw [List.getElem?_eq_getElem hj0, h7]
                have h9 := ihi e.on hlt h8
                have hj : e.on < listed.size := by omega
                simpa only [Array.getD_eq_getD_getElem?, Array.getElem?_eq_getElem hj, Option.getD_some] using h9
              rw [hr] at this
              cases this
        have := hall i0 hi0
        rw [zCS hi1] at this
        cases this
      · obtain ⟨h1, o, h2, h3⟩ := mem_ready.1 hi
        have ho : l[i]? = some o := by simpa using h2
        have hil : i < l.length := zAo ho
        have hih : hd[i]? = some true := by
          obtain ⟨b, hb⟩ := zAa (l := hd) (i := i) (by omega)
          cases b with
          | true => exact hb
          | false =>
            exfalso
            have h4 := List.all_eq_true.1 hT1 i (List.mem_range.2 hil)
            rw [List.getD_eq_getElem?_getD, hb, Option.getD_some, Bool.false_or, Bool.and_eq_true, Bool.or_eq_true] at h4
            have edge : ∀ u, zIw l i u = true → listed.getD u false = true := fun u hu' => by
              unfold zIw at hu'
              rw [ho] at hu'
              simp only [Array.any_eq_true', Bool.and_eq_true] at hu'
              obtain ⟨e, he, hb1, hb2⟩ := hu'
              have := Nat.eq_of_beq_eq_true hb2
              rw [← this]
              exact h3 e he hb1
            rcases h4.2 with h5 | h5
            · have h6 := List.all_eq_true.1 h5 i0 (List.mem_range.2 (by have := zAo hi0; omega))
              rw [List.getD_eq_getElem?_getD, hi0, Option.getD_some, Bool.not_true, Bool.false_or] at h6
              have := edge i0 h6
              rw [zCS hi1] at this
              cases this
            · obtain ⟨p, _, h6⟩ := List.any_eq_true.1 h5
              rw [Bool.and_eq_true, Bool.not_eq_true'] at h6
              have h7 := edge p h6.2
              have hp : hd[p]? = some false := by
                have h8 := h6.1
                rw [List.getD_eq_getElem?_getD] at h8
                cases h9 : hd[p]? with
                | none => rw [h9] at h8; cases h8
                | some b => rw [h9, Option.getD_some] at h8; rw [h8]
              rw [zCS (htl p hp)] at h7
              cases h7
        obtain ⟨d, ws, h, hd', hws, hhs, h4⟩ := zDW hB ho
        rw [hih] at hhs
        cases hhs
        obtain ⟨ws', F, hws', hF, hstep⟩ := hst.get ho hih
        rw [hws] at hws'
        cases hws'
        simp only [cond_true, Bool.and_eq_true, Nat.zero_add] at h4
        have hgB := h4.2.2
        have h4 := h4.1
        simp only [zDk, Bool.and_eq_true, List.all_eq_true, Array.any_eq_true', Array.all_eq_true_iff_forall_mem, Bool.or_eq_true, Bool.not_eq_true'] at h4
        obtain ⟨⟨⟨hdst, hdN⟩, _⟩, hwait⟩ := h4
        have hdst : o.dst = some d := by
          split at hdst
          · rename_i d' h; rw [h, Nat.eq_of_beq_eq_true hdst]
          · cases hdst
        have hdN : d < N := by simpa [Nat.blt_eq] using hdN
        have hH : ∀ j, ws.contains j = true → zFm ds Fs j (env a) w' := by
          intro j hj
          have hj' : j ∈ ws := by simpa using hj
          obtain ⟨e, he, hb⟩ := hwait j hj'
          obtain ⟨hb1, hb2⟩ := hb
          have hej : e.on = j := Nat.eq_of_beq_eq_true hb2
          have hl1 := h3 e he hb1
          rw [hej] at hl1
          refine hh j ?_ hl1
          obtain ⟨b, hb⟩ := zAa (l := hd) (i := j) (by
            rcases Nat.lt_or_ge j listed.size with h9 | h9
            · omega
            · simp [Array.getD_eq_getD_getElem?, Array.getElem?_eq_none h9] at hl1)
          cases b with
          | true => exact hb
          | false => rw [zCS (htl j hb)] at hl1; cases hl1
        have gd : ∀ j b, o.guard = some (j, b) → ∀ dj, ds[j]? = some dj → (∃ oj, l[j]? = some oj ∧ oj.dst = some dj) ∧ dj < N := fun j b hgd dj hdj => by
          obtain ⟨oj, hoj⟩ := zAa (l := l) (i := j) (by have := zAo hdj; omega)
          obtain ⟨dj', _, hj, hdj', _, h5, h6⟩ := zDW hB hoj
          rw [hdj] at hdj'
          cases hdj'
          unfold zKV at hgB
          rw [hgd] at hgB
          simp only at hgB
          have h7 : hj = true := by rw [List.getD_eq_getElem?_getD, h5, Option.getD_some] at hgB; exact hgB
          rw [h7] at h6
          simp only [cond_true, Bool.and_eq_true, zDk] at h6
          obtain ⟨⟨⟨hdst2, hdN2⟩, _⟩, _⟩ := h6.1
          refine ⟨⟨oj, hoj, ?_⟩, by simpa [Nat.blt_eq] using hdN2⟩
          split at hdst2
          · rename_i d' h; rw [h, Nat.eq_of_beq_eq_true hdst2]
          · cases hdst2
        have cont : ∀ v w2, Ext w' w2 → F.In v w2 → wpAny P .any l.toArray (zFG N Q) (m + ts.length) (listed.setIfInBounds i true) (a.put o.dst v) w2 := by
          intro v w2 hx2 hv
          have henv : env (a.put o.dst v) = upd (env a) d v := by rw [hdst]; exact zEC ha hdN v
          have hlf : listed.toList[i]? = some false := by
            have hj : i < listed.size := by omega
            simp only [Array.getD_eq_getD_getElem?, Array.getElem?_eq_getElem hj, Option.getD_some] at h1
            rw [Array.getElem?_toList, Array.getElem?_eq_getElem hj, h1]
          refine ih _ _ _ ?_ (by simpa using hsz) (fun t ht => ?_) (ha.put _ _) (hx.trans hx2) ?_ ?_
          · rw [Array.toList_setIfInBounds]
            have := zFI hih hlf
            omega
          · rw [Array.toList_setIfInBounds, List.getElem?_set]
            have hne : i ≠ t := fun e => by rw [← e, hih] at ht; cases ht
            rw [if_neg hne]
            exact htl t ht
          · intro t ht
            rw [henv, ← hu t ht]
            simp only [upd]
            cases hb : Nat.beq t d
            · rfl
            · exfalso
              have : t = d := Nat.eq_of_beq_eq_true hb
              subst this
              have := List.mem_of_getElem? hd'
              simp [this] at ht
          · intro j hjh hj d' F' hd'' hF'
            rw [henv]
            by_cases hij : j = i
            · subst hij
              rw [hd'] at hd''; cases hd''
              rw [hF] at hF'; cases hF'
              simp only [upd, Nat.beq_refl, cond_true]
              exact hv
            · have hne : Nat.beq d' d = false := by
                cases hb : Nat.beq d' d
                · rfl
                · exfalso
                  have : d' = d := Nat.eq_of_beq_eq_true hb
                  subst this
                  exact hij (zDL hn hd'' hd')
              simp only [upd, hne, cond_false]
              rw [getD_set_ne _ (Ne.symm hij)] at hj
              exact Fact.ext (hh j hjh hj d' F' hd'' hF') hx2
        rcases hstep (env a) w' hx hu hH with ⟨hg, hdo⟩ | ⟨⟨j, b, dj, hgd, hdj, hvj⟩, hund⟩
        · have hw : Region.wanted o (yielded l.toArray a.tmps) = true := by
            cases hgd : o.guard with
            | none => simp [Region.wanted, hgd]
            | some p =>
              obtain ⟨j, b⟩ := p
              obtain ⟨dj, hdj, hvj⟩ := hg j b hgd
              obtain ⟨hdst2, hdN2⟩ := gd j b hgd dj hdj
              have h6 : a.tmps[dj]? = some (Value.bool b) := by
                have h2 : a.tmps.getD dj undef = .bool b := hvj
                have hlt : dj < a.tmps.size := by rw [ha.size]; exact hdN2
                rw [Array.getElem?_eq_getElem hlt]
                simpa [hlt] using h2
              obtain ⟨oj, hoj, hdst2⟩ := hdst2
              simp [Region.wanted, hgd, yielded, hoj, hdst2, h6]
          unfold wpOp
          simp only [h2, hw, if_true]
          exact Or.inl (hdo a ha rfl _ _ cont)
        · have hw : Region.wanted o (yielded l.toArray a.tmps) = false := by
            obtain ⟨hdst2, hdN2⟩ := gd j b hgd dj hdj
            have hlt : dj < a.tmps.size := by rw [ha.size]; exact hdN2
            have h6 : a.tmps[dj]? = some (env a dj) := by
              rw [Array.getElem?_eq_getElem hlt]
              simp [env, hlt]
            obtain ⟨oj, hoj, hdst2⟩ := hdst2
            rcases hvj with hvj | hvj
            · rw [hvj] at h6
              cases b <;> simp [Region.wanted, hgd, yielded, hoj, hdst2, h6]
            · rw [hvj] at h6
              simp [Region.wanted, hgd, yielded, hoj, hdst2, h6, undef]
          unfold wpOp
          simp only [h2, hw, Bool.false_eq_true, if_false]
          exact cont undef w' (Ext.refl _) hund
  have h1 := key (zDU hd (Array.replicate l.toArray.size false).toList) (Array.replicate l.toArray.size false) a w1 rfl (by simp) (fun t ht => by have h9 := zAo ht; rw [Array.toList_replicate, List.getElem?_replicate, if_pos (by rw [List.size_toArray]; omega)]) ha (Ext.refl _) (fun t _ => by rw [he]) (fun j _ hj => by rw [getD_replicate_false] at hj; cases hj)
  have e3 : zDU hd (Array.replicate l.toArray.size false).toList + ts.length = l.toArray.size := by have h9 := Nat.eq_of_beq_eq_true hN; simpa using h9
  rw [e3] at h1
  exact h1
theorem lst5 {x y z u p a b c d e : Value} (h : x = a) (h' : y = b) (h'' : z = c) (h3 : u = d) (h4 : p = e) : [x, y, z, u, p] = [a, b, c, d, e] := by rw [h, h', h'', h3, h4]
section
variable {P : Program} {N : Nat} {σ : Env} {w : World} {dst : Option Tmp} {ty : TypeId} {pos : String} {af : Array Edge} {g : Option (Nat × Bool)} {t : TypeId} {x y z u : Operand} {a b c d : Value} {i j k m : Nat}
/-- A new variable, with its cells. -/
def alF (e : Nat) (c : Array Value) (hs : Nat) : Fct := fun v w => ∃ b, v = .pointer (some ⟨b, 0, none⟩) ∧ Blk w b c e ∧ hs ≤ b
theorem zFk (e : Nat) (c : Array Value) (hs : Nat) : zGn (alF e c hs) := by
 rintro v w w' x ⟨b, h1, h2, h3⟩
 exact ⟨b, h1, Ext.keep x h2, h3⟩
theorem zFn {d hs : Nat} {z : Value} {c : Array Value} (hz : Zer P t z) (hc : z.cells = c) (hh : hs ≤ w.heap.size) : zLf P N ⟨some d, .alloc t, ty, pos, af, g⟩ (alF t c hs) σ w := by
 subst hc
 have hn := New.mk' w z.cells t
 exact zAJ (v := .pointer (some ⟨w.heap.size, 0, none⟩)) (by simp [execOp, Instr.alloc, hz.run, newVar, newRow]) hn.ext ⟨_, rfl, hn.blk, hh⟩
end
end Go.Eng
namespace Go.Proofs
open Go Go.Eng Go.Sort
set_option maxRecDepth 100000
/-- A value that is an expression within some blocks. -/
def reG (S : Nat → Prop) (x : Re) : Fct := fun v w => ∃ sa sc aa ac, v = .agg #[.int .i64 x.kind, .slice sa x.set.length sc, .slice aa x.args.length ac, .int .i64 x.mn, .int .i64 x.mx, .bool x.neg] ∧ zAc S w x [.int .i64 x.kind, .slice sa x.set.length sc, .slice aa x.args.length ac, .int .i64 x.mn, .int .i64 x.mx, .bool x.neg]
theorem zAy (S : Nat → Prop) (x : Re) : zGn (reG S x) := by
 rintro v w w' e ⟨sa, sc, aa, ac, h1, h2⟩
 exact ⟨sa, sc, aa, ac, h1, zAc.ext e x h2⟩
theorem zBd {S S' : Nat → Prop} {x : Re} {v : Value} {w : World} (hS : ∀ b, S' b → S b) (h : ∃ us : List Value, v = .agg us.toArray ∧ zAc S' w x us) : reG S x v w := by
 obtain ⟨us, rfl, h⟩ := h
 have h2 := zAc.mono hS x h
 obtain ⟨sa, sc, aa, ac, rfl, _⟩ := h2.form
 exact ⟨sa, sc, aa, ac, rfl, h2⟩
theorem zEs {S : Nat → Prop} {w : World} {t : Re} {sa aa : Option Addr} {k m x : Int} {n sc n' ac : Nat} {ng : Bool} (h : zAc S w t [.int .i64 k, .slice sa n sc, .slice aa n' ac, .int .i64 m, .int .i64 x, .bool ng]) : zCJ S w (.slice aa n' ac) t.args := by
 obtain ⟨sa', sc', aa', ac', h1, _, h2, h3⟩ := h.form
 simp only [List.cons.injEq, Value.slice.injEq, and_true] at h1
 obtain ⟨_, _, ⟨rfl, rfl, rfl⟩, _⟩ := h1
 exact ⟨_, _, rfl, h2, h3⟩
theorem zFa {S S' : Nat → Prop} {w : World} {v : Value} {ts : List Re} (hs : ∀ b, S b → S' b) (h : zCJ S w v ts) : zCJ S' w v ts := by
 obtain ⟨aa, ac, h1, h2, h3⟩ := h
 refine ⟨aa, ac, h1, h2, ?_⟩
 rcases h3 with h | ⟨b, o, h4, h5, h6⟩
 ·exact .inl h
 exact .inr ⟨b, o, hs b h4, h5, zBM.mono hs ts h6⟩
theorem zQf (w0 : World) : Ret Tryz.prog 163 #[] w0 fun v w => reG (fun b => w0.heap.size ≤ b) zEy v w ∧ Ext w0 w := by
 refine zAk Tryz.func163 rfl Tryz.ntmps163 (Nat.le_of_ble_eq_true rfl) ?_
 have E : Chg zAh w0 w0 := Chg.refl _ _
 refine zAA ?_
 refine zBD (c := #[(I6 0), (.slice none 0 0), (.slice none 0 0), (I6 0), (I6 0), (.bool false)]) (by decide) zAs rfl ?_
 intro bo wo No
 have Fo := No.ge E
 replace E := E.ext No.ext
 have Bo := No.blk
 refine zAB (zAA ?_)
 refine zAL rfl rfl (by decide) (zAT (vs := []) Tryz.func120 zMf zNZ rfl) (zGc _) ?_
 rintro _ w9 ⟨rfl, X9⟩
 replace Bo := X9.keep Bo
 replace E := E.ext X9
 refine zAu (ps := [(0, (.agg #[(I6 0), (.slice none 0 0), (.slice none 0 0), (I6 0), (I6 0), (.bool false)]))]) (c := #[(I6 0), (.slice none 0 0), (.slice none 0 0), (I6 0), (I6 0), (.bool false)]) (by decide) rfl Tryz.underlying23 zAH zAs (by decide) (by decide) (by kernel_rfl) ?_
 intro bp wp Np
 have Fp := Np.ge E
 have Op_bo := Np.lt Bo
 replace Bo := Np.keep Bo
 replace E := E.ext Np.ext
 have Bp := Np.blk
 refine qV (zBW (ps := [(0, (I6 8)), (2, (.slice (some ⟨bp, 0, none⟩) 1 1))]) (v := (.agg #[(I6 8), (.slice none 0 0), (.slice (some ⟨bp, 0, none⟩) 1 1), (I6 0), (I6 0), (.bool false)])) rfl (by kernel_rfl)) ?_
 refine qW (#[(I6 8), (.slice none 0 0), (.slice (some ⟨bp, 0, none⟩) 1 1), (I6 0), (I6 0), (.bool false)]) rfl rfl zAH Bo ?_
 intro w1 S1
 replace Bp := S1.keep (by omega) Bp
 replace E := S1.stp E
 replace Bo := S1.blk
 refine zAB (zAQ ?_)
 refine zAm Tryz.results163 (vs := [(.int .i64 8), (.slice none 0 0), (.slice (some ⟨bp, 0, none⟩) 1 1), (.int .i64 0), (.int .i64 0), (.bool false)]) (b := bo) rfl zAb zAH rfl (Bo.cells rfl) ?_
 exact ⟨⟨_, _, _, _, rfl, zAc.of (set := []) (args := [zBH]) (zDE.nil _ _ _ _ _) (by simp) (.inr ⟨bp, 0, by show w0.heap.size ≤ bp; omega, rfl, zBM.one (Bp.cells rfl) (zBN _ _ 0)⟩)⟩, E⟩
theorem zHS {k : Int} {l : List Re} (h : ∀ x ∈ l, zAq x) : ∀ x ∈ zBO k l, zEA x = true := fun x hx => by
 obtain ⟨y, hy, ⟨_, h4⟩ | ⟨_, rfl⟩⟩ := zCy.1 hx
 ·exact zDr ((h y hy).a x h4)
 exact zDr (h x hy)
theorem zBk {x : Re} (h : zAq x) : (x.kind = 3 ∨ x.kind = 4 ∨ x.kind = 7 → x.args ≠ []) ∧ (x.kind = 8 → x.args ≠ []) := by
 refine ⟨fun hk e => ?_, fun hk e => ?_⟩
 ·have hn := h.n
  rcases hk with hk | hk | hk
  ·have := (hn.k3 hk).1; rw [e] at this; simp at this
  ·have := (hn.k4 hk).1; rw [e] at this; simp at this
  have := (hn.k7 hk).1; rw [e] at this; simp at this
 obtain ⟨y, hy, _⟩ := h.n.k8 hk
 rw [e] at hy; cases hy
theorem zKY {k : Int} {l : List Re} (h : ∀ x ∈ l, zAq x) : ∀ x ∈ zBO k l, zAq x := fun x hx => by
 obtain ⟨y, hy, ⟨_, h4⟩ | ⟨_, rfl⟩⟩ := zCy.1 hx
 ·exact (h y hy).a x h4
 exact h x hy
theorem zDi (t : Re) : zCt t = zCf t.kind t.set t.args t.mn t.mx t.neg := by cases t; rfl
section
variable {t : Re}
theorem ns3 (h : t.kind = 3) : zCt t = zEd t.args := by rw [zDi]; unfold zCf; simp [h]
theorem ns4 (h : t.kind = 4) : zCt t = zHz t.kind t.args zCb zBU zBH := by rw [zDi]; unfold zCf; simp [h]
theorem ns7 (h : t.kind = 7) : zCt t = zHz t.kind t.args zBU zCb zEy := by rw [zDi]; unfold zCf; simp [h]
theorem ns5 {x : Re} (h : t.kind = 5) (hx : t.args.headD zBH = x) : zCt t = if x.kind = 0 ∨ x.kind = 1 then zBJ else if x.kind = 5 then x else t := by rw [zDi]; unfold zCf; rw [hx]; simp [h]; cases t; simp [Re.kind] at h; subst h; rfl
theorem ns6 {x : Re} (h : t.kind = 6) (hx : t.args.headD zBH = x) : zCt t = if t.mx = 0 ∨ x.kind = 1 ∨ (x.kind = 0 ∧ t.mn = 0) then zBJ else if x.kind = 0 ∨ (t.mn = 1 ∧ t.mx = 1) then x else t := by rw [zDi]; unfold zCf; rw [hx]; simp [h]; cases t; simp [Re.kind] at h; subst h; rfl
theorem ns8 {x : Re} (h : t.kind = 8) (hx : t.args.headD zBH = x) : zCt t = if x.kind = 8 then x.args.headD zBH else t := by rw [zDi]; unfold zCf; rw [hx]; simp [h]; cases t; simp [Re.kind] at h; subst h; rfl
theorem nsn (h : t.kind ≠ 3 ∧ t.kind ≠ 4 ∧ t.kind ≠ 5 ∧ t.kind ≠ 6 ∧ t.kind ≠ 7 ∧ t.kind ≠ 8) : zCt t = t := by rw [zDi]; unfold zCf; simp [h]; cases t; rfl
end
set_option maxHeartbeats 4000000 in
theorem zHx (w0 : World) (S : Nat → Prop) (t : Re) (vs : List Value) (ht : zAc S w0 t vs) (hS : ∀ x, S x → x < w0.heap.size) (hp : PreN t.kind t.set t.args t.mn t.mx t.neg) (ha : ∀ y ∈ t.args, zAq y) (hsz : Re.sizes t.args ≤ 1000000) :
  Ret Tryz.prog 115 #[.agg vs.toArray] w0 fun r w => (∃ us, r = .agg us.toArray ∧ zAc (fun b => S b ∨ w0.heap.size ≤ b) w (zCt t) us) ∧ Ext w0 w := by
 have ht0 := ht
 obtain ⟨sa, sc, aa, ac, rfl, hset, hlen, hargs⟩ := ht.form
 have hRs : zCJ S w0 (.slice aa t.args.length ac) t.args := zEs ht0
 obtain ⟨N, hN⟩ : ∃ N, N = zCt t := ⟨_, rfl⟩
 rw [← hN]
 refine zAk Tryz.func115 rfl Tryz.ntmps115 (Nat.le_of_ble_eq_true rfl) ?_
 have E : Chg zAh w0 w0 := Chg.refl _ _
 refine zAA ?_
 refine zBL (v := (.agg (R6 t sa sc aa ac))) (c := (R6 t sa sc aa ac)) (by decide) rfl rfl ?_
 intro br wr Nr
 have Fr := Nr.ge E
 replace E := E.ext Nr.ext
 have Br := Nr.blk
 refine zBD (c := #[(I6 0), (.slice none 0 0), (.slice none 0 0), (I6 0), (I6 0), (.bool false)]) (by decide) zAs rfl ?_
 intro bo wo No
 have Fo := No.ge E
 have Oo_br := No.lt Br
 replace Br := No.keep Br
 replace E := E.ext No.ext
 have Bo := No.blk
 refine zAB (zAP (zAA ?_))
 refine qF br 0 0 rfl Tryz.underlying25 rfl zAw rfl ?_
 refine qV (zAK (v := (I6 t.kind)) rfl zAf (Br.cell rfl)) ?_
 refine zAB (zAZ (zAA ?_))
 refine qV (zAg (k := .i64) (a := t.kind) (b := 3) rfl rfl) ?_
 refine qA (.bool (decide ((t.kind : Int) = 3))) rfl ?_
 refine zAB ?_
 obtain ⟨n1, hn1⟩ : ∃ n1, n1 = wo.heap.size := ⟨_, rfl⟩
 have hob : br < n1 ∧ bo < n1 ∧ w0.heap.size ≤ bo ∧ w0.heap.size ≤ n1 := ⟨by rw [hn1]; exact Br.lt, by rw [hn1]; exact Bo.lt, by omega, by rw [hn1]; exact E.size⟩
 refine zAM (b := decide ((t.kind : Int) = 3)) rfl (fun h3 => ?_) (fun h3 => ?_)
 ·have kh3 := h3
  replace h3 := of_decide_eq_true h3
  have hN3 : N = zEd t.args := hN.trans (ns3 h3)
  refine zAA ?_
  refine qF br 0 2 rfl Tryz.underlying25 rfl zBI rfl ?_
  refine qV (zAK (v := (.slice aa t.args.length ac)) rfl zAv (Br.cell rfl)) ?_
  refine zAL rfl rfl (by decide) (zAT (vs := [(.slice aa t.args.length ac)]) Tryz.func118 zMg zNa rfl) ((zIy _ S _ t.args (hRs.ext E) (fun x hx => by have := hS x hx; have := E.size; omega) (fun x hm hk => (zBk (ha x hm)).1 (.inl hk)) hsz).mono (R' := fun r w => reG (fun b => S b ∨ n1 ≤ b) N r w ∧ Ext wo w) (fun r w h => ⟨zBd (S' := fun b => S b ∨ wo.heap.size ≤ b) (fun b hb => by rcases hb with h1 | h1; exact .inl h1; exact .inr (by omega)) (by rw [hN3]; exact h.1), h.2⟩)) ?_
  rintro _ w9 ⟨⟨xa, xc, ya, yc, rfl, hR⟩, X9⟩
  replace Br := X9.keep Br
  replace Bo := X9.keep Bo
  replace E := E.ext X9
  refine qW (R6 N xa xc ya yc) rfl rfl zAH Bo ?_
  intro w2 S2
  replace hR := zAc.chg S2.chg (fun y hy h => by have h2 : y = bo := h; rcases hy with h1 | h1; have := hS y h1; omega; omega) _ hR
  replace Br := S2.keep (by omega) Br
  replace E := S2.stp E
  replace Bo := S2.blk
  refine zAB (zAQ (zAY (zAI ?_)))
  refine zAm Tryz.results115 (vs := [(.int .i64 N.kind), (.slice xa N.set.length xc), (.slice ya N.args.length yc), (.int .i64 N.mn), (.int .i64 N.mx), (.bool N.neg)]) (b := bo) rfl zAb zAH rfl (Bo.cells rfl) ?_
  exact ⟨⟨_, rfl, zAc.mono (fun y hy => by rcases hy with h1 | h1; exact .inl h1; exact .inr (by omega)) _ hR⟩, E⟩
 have kh3 := h3
 replace h3 := of_decide_eq_false h3
 refine zAA ?_
 refine qV (zAg (k := .i64) (a := t.kind) (b := 4) rfl rfl) ?_
 refine qA (.bool (decide ((t.kind : Int) = 4))) rfl ?_
 refine zAB ?_
 refine zAM (b := decide ((t.kind : Int) = 4)) rfl (fun h4 => ?_) (fun h4 => ?_)
 ·have kh4 := h4
  replace h4 := of_decide_eq_true h4
  have hN4 : N = zHz t.kind t.args zCb zBU zBH := hN.trans (ns4 h4)
  have hz_4 : w0.heap.size ≤ wo.heap.size := E.size
  have lz_4_br : br < wo.heap.size := Br.lt
  have lz_4_bo : bo < wo.heap.size := Bo.lt
  refine zAP ?_
  obtain ⟨Fs4, hFs4⟩ : ∃ Fs : List Fact, Fs = [.eq (P6 br 0), .eq (I6 t.kind), .eq (P6 br 2), .eq (.slice aa t.args.length ac), .eq (.agg #[(I6 0), (.slice none 0 0), (.slice none 0 0), (I6 0), (I6 0), (.bool false)]), .gen (reG (fun b => S b ∨ n1 ≤ b) N) (zAy _ _), .eq undef] := ⟨_, rfl⟩
  refine zDo [true, true, true, true, true, true, false] [6] [15, 16, 17, 18, 19, 20, 105] [[], [0], [], [2], [], [1, 3, 4], []] Fs4 hFs4 mixed (by kernel_rfl) (by kernel_rfl) (by kernel_rfl) (by kernel_rfl) ?_ ?_
  ·intro wd X0
   refine DagStepsP.cons (fun s' w' X U H => Or.inl ⟨?_, ?_⟩) ?_
   ·exact zAE rfl
   ·exact zAJ (zAN (b := br) (o := 0) (o' := 0) (U 1 rfl) Tryz.underlying25 rfl zAw rfl) (Ext.refl _) rfl
   refine DagStepsP.cons (fun s' w' X U H => Or.inl ⟨?_, ?_⟩) ?_
   ·exact zAE rfl
   ·have e15 : s' 15 = (.pointer (some ⟨br, 0, none⟩)) := H 0 rfl 15 (.eq (.pointer (some ⟨br, 0, none⟩))) rfl (by rw [hFs4]; rfl)
    exact zAJ (zAK (v := (I6 t.kind)) e15 zAf (((X0.trans X).keep Br).cell rfl)) (Ext.refl _) rfl
   refine DagStepsP.cons (fun s' w' X U H => Or.inl ⟨?_, ?_⟩) ?_
   ·exact zAE rfl
   ·exact zAJ (zAN (b := br) (o := 0) (o' := 2) (U 1 rfl) Tryz.underlying25 rfl zBI rfl) (Ext.refl _) rfl
   refine DagStepsP.cons (fun s' w' X U H => Or.inl ⟨?_, ?_⟩) ?_
   ·exact zAE rfl
   ·have e17 : s' 17 = (.pointer (some ⟨br, 2, none⟩)) := H 2 rfl 17 (.eq (.pointer (some ⟨br, 2, none⟩))) rfl (by rw [hFs4]; rfl)
    exact zAJ (zAK (v := (.slice aa t.args.length ac)) e17 zAv (((X0.trans X).keep Br).cell rfl)) (Ext.refl _) rfl
   refine DagStepsP.cons (fun s' w' X U H => Or.inl ⟨?_, ?_⟩) ?_
   ·exact zAE rfl
   ·exact zAp (zAT (vs := []) Tryz.func120 zMf zNZ rfl) (zGc _)
   refine DagStepsP.cons (fun s' w' X U H => Or.inl ⟨?_, ?_⟩) ?_
   ·exact zAE rfl
   ·have e16 : s' 16 = (.int .i64 t.kind) := H 1 rfl 16 (.eq (.int .i64 t.kind)) rfl (by rw [hFs4]; rfl)
    have e18 : s' 18 = (.slice aa t.args.length ac) := H 3 rfl 18 (.eq (.slice aa t.args.length ac)) rfl (by rw [hFs4]; rfl)
    have e19 : s' 19 = (.agg #[(.int .i64 0), (.slice none 0 0), (.slice none 0 0), (.int .i64 0), (.int .i64 0), (.bool false)]) := H 4 rfl 19 (.eq (.agg #[(.int .i64 0), (.slice none 0 0), (.slice none 0 0), (.int .i64 0), (.int .i64 0), (.bool false)])) rfl (by rw [hFs4]; rfl)
    exact zAp (zAT (vs := [(I6 t.kind), (.slice aa t.args.length ac), (.func (.func 162) #[] #[]), (.func (.func 136) #[] #[]), (.agg #[(I6 0), (.slice none 0 0), (.slice none 0 0), (I6 0), (I6 0), (.bool false)])]) Tryz.func161 nm161 bd161 (lst5 e16 e18 rfl rfl e19)) ((zKk _ S t.kind _ _ _ t.args zCb zBU zBH _ (hRs.ext (Ext.trans E (X0.trans X))) (zBN _ _ _) (fun x hx => by have := hS x hx; have := E.size; have := X0.size; have := X.size; omega) (fun x hm hk => (zBk (ha x hm)).1 (by omega)) hsz (zHS ha) (fun w x vs hm hx => zBu.mk (first := #[]) (cap := #[]) Tryz.func162 nm162 bd162 rfl (zKe w x vs hx (zBk (ha x hm)).2)) (fun w x vs hm hx => zBu.mk (first := #[]) (cap := #[]) Tryz.func136 zQO zQx rfl (zGd w x vs hx))).mono (fun r w h => ⟨zBd (S' := fun b => S b ∨ w'.heap.size ≤ b) (fun b hb => by rcases hb with h1 | h1; exact .inl h1; exact .inr (by have := X0.size; have := X.size; omega)) (by rw [hN4]; exact h.1), h.2⟩))
   refine DagStepsP.tail ?_
   exact DagStepsP.nil
  intro s' w4 X4 U H
  obtain ⟨xa20, xc20, ya20, yc20, e20, r20⟩ := H 5 rfl 20 (.gen (reG (fun b => S b ∨ n1 ≤ b) N) (zAy _ _)) rfl (by rw [hFs4]; rfl)
  obtain ⟨j4, rfl⟩ := zBG.out (σ := s') (l := [(2, (.pointer (some ⟨bo, 0, none⟩))), (20, (.agg #[(.int .i64 N.kind), (.slice xa20 N.set.length xc20), (.slice ya20 N.args.length yc20), (.int .i64 N.mn), (.int .i64 N.mx), (.bool N.neg)]))]) ⟨U 2 rfl, e20, trivial⟩
  clear U H
  replace Br := X4.keep Br
  replace Bo := X4.keep Bo
  replace E := E.ext X4
  refine qW (R6 N xa20 xc20 ya20 yc20) rfl rfl zAH Bo ?_
  intro w5 S5
  replace r20 := zAc.chg S5.chg (fun y hy h => by have h2 : y = bo := h; rcases hy with h1 | h1; have := hS y h1; omega; omega) _ r20
  replace Br := S5.keep (by omega) Br
  replace E := S5.stp E
  replace Bo := S5.blk
  refine zAB (zAC (zAQ (zAY (zAI ?_))))
  refine zAm Tryz.results115 (vs := [(.int .i64 N.kind), (.slice xa20 N.set.length xc20), (.slice ya20 N.args.length yc20), (.int .i64 N.mn), (.int .i64 N.mx), (.bool N.neg)]) (b := bo) rfl zAb zAH rfl (Bo.cells rfl) ?_
  exact ⟨⟨_, rfl, zAc.mono (fun y hy => by rcases hy with h1 | h1; exact .inl h1; exact .inr (by omega)) _ r20⟩, E⟩
 have kh4 := h4
 replace h4 := of_decide_eq_false h4
 refine zAA ?_
 refine qV (zAg (k := .i64) (a := t.kind) (b := 7) rfl rfl) ?_
 refine qA (.bool (decide ((t.kind : Int) = 7))) rfl ?_
 refine zAB ?_
 refine zAM (b := decide ((t.kind : Int) = 7)) rfl (fun h7 => ?_) (fun h7 => ?_)
 ·have kh7 := h7
  replace h7 := of_decide_eq_true h7
  have hN7 : N = zHz t.kind t.args zBU zCb zEy := hN.trans (ns7 h7)
  have hz_7 : w0.heap.size ≤ wo.heap.size := E.size
  have lz_7_br : br < wo.heap.size := Br.lt
  have lz_7_bo : bo < wo.heap.size := Bo.lt
  refine zAP ?_
  obtain ⟨Fs7, hFs7⟩ : ∃ Fs : List Fact, Fs = [.eq (P6 br 0), .eq (I6 t.kind), .eq (P6 br 2), .eq (.slice aa t.args.length ac), .gen (reG (fun b => S b ∨ n1 ≤ b) zEy) (zAy _ _), .gen (reG (fun b => S b ∨ n1 ≤ b) N) (zAy _ _), .eq undef] := ⟨_, rfl⟩
  refine zDo [true, true, true, true, true, true, false] [6] [23, 24, 25, 26, 27, 28, 105] [[], [0], [], [2], [], [1, 3, 4], []] Fs7 hFs7 mixed (by kernel_rfl) (by kernel_rfl) (by kernel_rfl) (by kernel_rfl) ?_ ?_
  ·intro wd X0
   refine DagStepsP.cons (fun s' w' X U H => Or.inl ⟨?_, ?_⟩) ?_
   ·exact zAE rfl
   ·exact zAJ (zAN (b := br) (o := 0) (o' := 0) (U 1 rfl) Tryz.underlying25 rfl zAw rfl) (Ext.refl _) rfl
   refine DagStepsP.cons (fun s' w' X U H => Or.inl ⟨?_, ?_⟩) ?_
   ·exact zAE rfl
   ·have e23 : s' 23 = (.pointer (some ⟨br, 0, none⟩)) := H 0 rfl 23 (.eq (.pointer (some ⟨br, 0, none⟩))) rfl (by rw [hFs7]; rfl)
    exact zAJ (zAK (v := (I6 t.kind)) e23 zAf (((X0.trans X).keep Br).cell rfl)) (Ext.refl _) rfl
   refine DagStepsP.cons (fun s' w' X U H => Or.inl ⟨?_, ?_⟩) ?_
   ·exact zAE rfl
   ·exact zAJ (zAN (b := br) (o := 0) (o' := 2) (U 1 rfl) Tryz.underlying25 rfl zBI rfl) (Ext.refl _) rfl
   refine DagStepsP.cons (fun s' w' X U H => Or.inl ⟨?_, ?_⟩) ?_
   ·exact zAE rfl
   ·have e25 : s' 25 = (.pointer (some ⟨br, 2, none⟩)) := H 2 rfl 25 (.eq (.pointer (some ⟨br, 2, none⟩))) rfl (by rw [hFs7]; rfl)
    exact zAJ (zAK (v := (.slice aa t.args.length ac)) e25 zAv (((X0.trans X).keep Br).cell rfl)) (Ext.refl _) rfl
   refine DagStepsP.cons (fun s' w' X U H => Or.inl ⟨?_, ?_⟩) ?_
   ·exact zAE rfl
   ·exact zAp (zAT (vs := []) Tryz.func163 nm163 bd163 rfl) ((zQf _).mono (fun r w h => ⟨(by obtain ⟨⟨a1, a2, a3, a4, h1, h2⟩, _⟩ := h; exact ⟨a1, a2, a3, a4, h1, zAc.mono (fun b hb => .inr (by have := X0.size; have := X.size; have hb' : _ ≤ b := hb; omega)) _ h2⟩ : reG (fun b => S b ∨ n1 ≤ b) zEy r w), h.2⟩))
   refine DagStepsP.cons (fun s' w' X U H => Or.inl ⟨?_, ?_⟩) ?_
   ·exact zAE rfl
   ·have e24 : s' 24 = (.int .i64 t.kind) := H 1 rfl 24 (.eq (.int .i64 t.kind)) rfl (by rw [hFs7]; rfl)
    have e26 : s' 26 = (.slice aa t.args.length ac) := H 3 rfl 26 (.eq (.slice aa t.args.length ac)) rfl (by rw [hFs7]; rfl)
    obtain ⟨za27, zc27, ua27, uc27, e27, r27⟩ := H 4 rfl 27 (.gen (reG (fun b => S b ∨ n1 ≤ b) zEy) (zAy _ _)) rfl (by rw [hFs7]; rfl)
    exact zAp (zAT (vs := [(I6 t.kind), (.slice aa t.args.length ac), (.func (.func 136) #[] #[]), (.func (.func 162) #[] #[]), (.agg (R6 zEy za27 zc27 ua27 uc27))]) Tryz.func161 nm161 bd161 (lst5 e24 e26 rfl rfl e27)) ((zKk _ (fun b => (S b ∨ n1 ≤ b) ∧ b < w'.heap.size) t.kind _ _ _ t.args zBU zCb zEy _ (zCJ.lt (zFa (fun b hb => .inl hb) (hRs.ext (Ext.trans E (X0.trans X))))) (zAc.lt _ r27) (fun x hx => hx.2) (fun x hm hk => (zBk (ha x hm)).1 (by omega)) hsz (zHS ha) (fun w x vs hm hx => zBu.mk (first := #[]) (cap := #[]) Tryz.func136 zQO zQx rfl (zGd w x vs hx)) (fun w x vs hm hx => zBu.mk (first := #[]) (cap := #[]) Tryz.func162 nm162 bd162 rfl (zKe w x vs hx (zBk (zKY ha x hm)).2))).mono (fun r w h => ⟨zBd (S' := fun b => ((S b ∨ n1 ≤ b) ∧ b < w'.heap.size) ∨ w'.heap.size ≤ b) (fun b hb => by rcases hb with h1 | h1; exact h1.1; exact .inr (by have := X0.size; have := X.size; omega)) (by rw [hN7]; exact h.1), h.2⟩))
   refine DagStepsP.tail ?_
   exact DagStepsP.nil
  intro s' w7 X7 U H
  obtain ⟨xa28, xc28, ya28, yc28, e28, r28⟩ := H 5 rfl 28 (.gen (reG (fun b => S b ∨ n1 ≤ b) N) (zAy _ _)) rfl (by rw [hFs7]; rfl)
  obtain ⟨j7, rfl⟩ := zBG.out (σ := s') (l := [(2, (.pointer (some ⟨bo, 0, none⟩))), (28, (.agg #[(.int .i64 N.kind), (.slice xa28 N.set.length xc28), (.slice ya28 N.args.length yc28), (.int .i64 N.mn), (.int .i64 N.mx), (.bool N.neg)]))]) ⟨U 2 rfl, e28, trivial⟩
  clear U H
  replace Br := X7.keep Br
  replace Bo := X7.keep Bo
  replace E := E.ext X7
  refine qW (R6 N xa28 xc28 ya28 yc28) rfl rfl zAH Bo ?_
  intro w8 S8
  replace r28 := zAc.chg S8.chg (fun y hy h => by have h2 : y = bo := h; rcases hy with h1 | h1; have := hS y h1; omega; omega) _ r28
  replace Br := S8.keep (by omega) Br
  replace E := S8.stp E
  replace Bo := S8.blk
  refine zAB (zAC (zAQ (zAY (zAI ?_))))
  refine zAm Tryz.results115 (vs := [(.int .i64 N.kind), (.slice xa28 N.set.length xc28), (.slice ya28 N.args.length yc28), (.int .i64 N.mn), (.int .i64 N.mx), (.bool N.neg)]) (b := bo) rfl zAb zAH rfl (Bo.cells rfl) ?_
  exact ⟨⟨_, rfl, zAc.mono (fun y hy => by rcases hy with h1 | h1; exact .inl h1; exact .inr (by omega)) _ r28⟩, E⟩
 have kh7 := h7
 replace h7 := of_decide_eq_false h7
 refine zAA ?_
 refine qV (zAg (k := .i64) (a := t.kind) (b := 5) rfl rfl) ?_
 refine qA (.bool (decide ((t.kind : Int) = 5))) rfl ?_
 refine zAB ?_
 refine zAM (b := decide ((t.kind : Int) = 5)) rfl (fun h5 => ?_) (fun h5 => ?_)
 ·have kh5 := h5
  replace h5 := of_decide_eq_true h5
  have hone := hp.one (by omega)
  obtain ⟨x, hx⟩ := zAa (l := t.args) (i := 0) (by omega)
  have hxm := List.mem_of_getElem? hx
  have hxo := ha x hxm
  have hhd : t.args.headD zBH = x := zCE hx
  obtain ⟨ab, ao, hab, rfl, hres⟩ := hargs.resolve_left (fun h => by rw [h] at hx; cases hx)
  obtain ⟨us, hus, hxt⟩ := hres.get hx
  have hxt0 := hxt
  obtain ⟨xsa, xsc, xaa, xac, rfl, _, hxlen, hxargs⟩ := hxt.form
  refine zAA ?_
  refine qF br 0 2 rfl Tryz.underlying25 rfl zBI rfl ?_
  refine qV (zAK (v := (.slice (some ⟨ab, ao, none⟩) t.args.length ac)) rfl zAv (Br.cell rfl)) ?_
  refine qV (zAO (b := ab) (o := ao) (len := t.args.length) (cap := ac) (i := 0) (o' := ao + 0 * 6) rfl rfl rfl Tryz.underlying23 zAH (by omega) (by omega)) ?_
  refine qV (zAG (vs := [(I6 x.kind), (.slice xsa x.set.length xsc), (.slice xaa x.args.length xac), (I6 x.mn), (I6 x.mx), (.bool x.neg)]) rfl zAb zAH rfl (hus.ext E)) ?_
  have hN5 := hN.trans (ns5 h5 hhd)
  refine zAi (v := (.agg (R6 x xsa xsc xaa xac))) (c := (R6 x xsa xsc xaa xac)) (n := 6) (by decide) zAs rfl zAH rfl rfl rfl (by simp [Value.oneCell']) ?_
  intro bx wx Nx
  have Fx := Nx.ge E
  have Ox_br := Nx.lt Br
  have Ox_bo := Nx.lt Bo
  replace Br := Nx.keep Br
  replace Bo := Nx.keep Bo
  replace E := E.ext Nx.ext
  have Bx := Nx.blk
  refine zAB (zAA ?_)
  refine qF bx 0 0 rfl Tryz.underlying25 rfl zAw rfl ?_
  refine qV (zAK (v := (I6 x.kind)) rfl zAf (Bx.cell rfl)) ?_
  refine zAB (zAZ (zAP (zAA ?_)))
  refine qV (zAg (k := .i64) (a := x.kind) (b := 0) rfl rfl) ?_
  refine qA (.bool (decide ((x.kind : Int) = 0))) rfl ?_
  refine zAB ?_
  refine zAM (b := decide ((x.kind : Int) = 0)) rfl (fun k0 => ?_) (fun k0 => ?_)
  ·have kk0 := k0
   replace k0 := of_decide_eq_true k0
   have hN1 : N = zBJ := by rw [hN5, if_pos (.inl k0)]
   refine zAR (zAC ?_)
   refine zAl (congrArg Value.bool kk0) ?_
   refine zAA ?_
   refine zAL rfl rfl (by decide) (zAT (vs := []) Tryz.func117 zJd zJl rfl) (zED _) ?_
   rintro _ w29 ⟨rfl, X29⟩
   replace Br := X29.keep Br
   replace Bo := X29.keep Bo
   replace Bx := X29.keep Bx
   replace E := E.ext X29
   refine qW (#[(I6 1), (.slice none 0 0), (.slice none 0 0), (I6 0), (I6 0), (.bool false)]) rfl rfl zAH Bo ?_
   intro w11 S11
   replace Br := S11.keep (by omega) Br
   replace Bx := S11.keep (by omega) Bx
   replace E := S11.stp E
   replace Bo := S11.blk
   refine zAB (zAQ (zAY (zAY (zAI ?_))))
   refine zAm Tryz.results115 (vs := [(.int .i64 1), (.slice none 0 0), (.slice none 0 0), (.int .i64 0), (.int .i64 0), (.bool false)]) (b := bo) rfl zAb zAH rfl (Bo.cells rfl) ?_
   exact ⟨⟨_, rfl, by rw [hN1]; exact zBN _ _ _⟩, E⟩
  have kk0 := k0
  replace k0 := of_decide_eq_false k0
  refine zAW ?_
  refine qV (zAg (k := .i64) (a := x.kind) (b := 1) rfl rfl) ?_
  refine qA (.bool (decide ((x.kind : Int) = 1))) rfl ?_
  refine zAB (zAC ?_)
  refine zAM (b := decide ((x.kind : Int) = 1)) rfl (fun k1 => ?_) (fun k1 => ?_)
  ·have kk1 := k1
   replace k1 := of_decide_eq_true k1
   have hN1 : N = zBJ := by rw [hN5, if_pos (.inr k1)]
   refine zAA ?_
   refine zAL rfl rfl (by decide) (zAT (vs := []) Tryz.func117 zJd zJl rfl) (zED _) ?_
   rintro _ w29 ⟨rfl, X29⟩
   replace Br := X29.keep Br
   replace Bo := X29.keep Bo
   replace Bx := X29.keep Bx
   replace E := E.ext X29
   refine qW (#[(I6 1), (.slice none 0 0), (.slice none 0 0), (I6 0), (I6 0), (.bool false)]) rfl rfl zAH Bo ?_
   intro w13 S13
   replace Br := S13.keep (by omega) Br
   replace Bx := S13.keep (by omega) Bx
   replace E := S13.stp E
   replace Bo := S13.blk
   refine zAB (zAQ (zAY (zAY (zAI ?_))))
   refine zAm Tryz.results115 (vs := [(.int .i64 1), (.slice none 0 0), (.slice none 0 0), (.int .i64 0), (.int .i64 0), (.bool false)]) (b := bo) rfl zAb zAH rfl (Bo.cells rfl) ?_
   exact ⟨⟨_, rfl, by rw [hN1]; exact zBN _ _ _⟩, E⟩
  have kk1 := k1
  replace k1 := of_decide_eq_false k1
  refine zAA ?_
  refine qV (zAg (k := .i64) (a := x.kind) (b := 5) rfl rfl) ?_
  refine qA (.bool (decide ((x.kind : Int) = 5))) rfl ?_
  refine zAB ?_
  refine zAM (b := decide ((x.kind : Int) = 5)) rfl (fun k5 => ?_) (fun k5 => ?_)
  ·have kk5 := k5
   replace k5 := of_decide_eq_true k5
   have hN1 : N = x := by rw [hN5, if_neg (by omega), if_pos k5]
   have hR : zAc S (wx) x _ := zAc.ext E x hxt0
   refine zAA ?_
   refine qV (zAG (vs := [(I6 x.kind), (.slice xsa x.set.length xsc), (.slice xaa x.args.length xac), (I6 x.mn), (I6 x.mx), (.bool x.neg)]) rfl zAb zAH rfl (Bx.cells rfl)) ?_
   refine qW (R6 x xsa xsc xaa xac) rfl rfl zAH Bo ?_
   intro w15 S15
   replace hR := zAc.chg S15.chg (fun y hy h => by have h2 : y = bo := h; have := hS y hy; omega) x hR
   replace Br := S15.keep (by omega) Br
   replace Bx := S15.keep (by omega) Bx
   replace E := S15.stp E
   replace Bo := S15.blk
   refine zAB (zAQ (zAY (zAY (zAI ?_))))
   refine zAm Tryz.results115 (vs := [(.int .i64 x.kind), (.slice xsa x.set.length xsc), (.slice xaa x.args.length xac), (.int .i64 x.mn), (.int .i64 x.mx), (.bool x.neg)]) (b := bo) rfl zAb zAH rfl (Bo.cells rfl) ?_
   exact ⟨⟨_, rfl, by rw [hN1]; exact zAc.mono (fun y hy => .inl hy) x hR⟩, E⟩
  have kk5 := k5
  replace k5 := of_decide_eq_false k5
  have hN1 : N = t := by rw [hN5, if_neg (by omega), if_neg k5]
  have hR : zAc S (wx) t _ := zAc.ext E t ht0
  refine zAR (zAU (zAU (zAC (zAA ?_))))
  refine qV (zAG (vs := [(I6 t.kind), (.slice sa t.set.length sc), (.slice (some ⟨ab, ao, none⟩) t.args.length ac), (I6 t.mn), (I6 t.mx), (.bool t.neg)]) rfl zAb zAH rfl (Br.cells rfl)) ?_
  refine qW (R6 t sa sc (some ⟨ab, ao, none⟩) ac) rfl rfl zAH Bo ?_
  intro w16 S16
  replace hR := zAc.chg S16.chg (fun y hy h => by have h2 : y = bo := h; have := hS y hy; omega) t hR
  replace Br := S16.keep (by omega) Br
  replace Bx := S16.keep (by omega) Bx
  replace E := S16.stp E
  replace Bo := S16.blk
  refine zAB (zAQ ?_)
  refine zAm Tryz.results115 (vs := [(.int .i64 t.kind), (.slice sa t.set.length sc), (.slice (some ⟨ab, ao, none⟩) t.args.length ac), (.int .i64 t.mn), (.int .i64 t.mx), (.bool t.neg)]) (b := bo) rfl zAb zAH rfl (Bo.cells rfl) ?_
  exact ⟨⟨_, rfl, by rw [hN1]; exact zAc.mono (fun y hy => .inl hy) t hR⟩, E⟩
 have kh5 := h5
 replace h5 := of_decide_eq_false h5
 refine zAA ?_
 refine qV (zAg (k := .i64) (a := t.kind) (b := 6) rfl rfl) ?_
 refine qA (.bool (decide ((t.kind : Int) = 6))) rfl ?_
 refine zAB ?_
 refine zAM (b := decide ((t.kind : Int) = 6)) rfl (fun h6 => ?_) (fun h6 => ?_)
 ·have kh6 := h6
  replace h6 := of_decide_eq_true h6
  have hone := hp.one (by omega)
  obtain ⟨x, hx⟩ := zAa (l := t.args) (i := 0) (by omega)
  have hxm := List.mem_of_getElem? hx
  have hxo := ha x hxm
  have hhd : t.args.headD zBH = x := zCE hx
  obtain ⟨ab, ao, hab, rfl, hres⟩ := hargs.resolve_left (fun h => by rw [h] at hx; cases hx)
  obtain ⟨us, hus, hxt⟩ := hres.get hx
  have hxt0 := hxt
  obtain ⟨xsa, xsc, xaa, xac, rfl, _, hxlen, hxargs⟩ := hxt.form
  refine zAA ?_
  refine qF br 0 2 rfl Tryz.underlying25 rfl zBI rfl ?_
  refine qV (zAK (v := (.slice (some ⟨ab, ao, none⟩) t.args.length ac)) rfl zAv (Br.cell rfl)) ?_
  refine qV (zAO (b := ab) (o := ao) (len := t.args.length) (cap := ac) (i := 0) (o' := ao + 0 * 6) rfl rfl rfl Tryz.underlying23 zAH (by omega) (by omega)) ?_
  refine qV (zAG (vs := [(I6 x.kind), (.slice xsa x.set.length xsc), (.slice xaa x.args.length xac), (I6 x.mn), (I6 x.mx), (.bool x.neg)]) rfl zAb zAH rfl (hus.ext E)) ?_
  have hN6 := hN.trans (ns6 h6 hhd)
  refine zAi (v := (.agg (R6 x xsa xsc xaa xac))) (c := (R6 x xsa xsc xaa xac)) (n := 6) (by decide) zAs rfl zAH rfl rfl rfl (by simp [Value.oneCell']) ?_
  intro bx wx Nx
  have Fx := Nx.ge E
  have Ox_br := Nx.lt Br
  have Ox_bo := Nx.lt Bo
  replace Br := Nx.keep Br
  replace Bo := Nx.keep Bo
  replace E := E.ext Nx.ext
  have Bx := Nx.blk
  refine zAB (zAZ (zAA ?_))
  refine qF br 0 4 rfl Tryz.underlying25 rfl zAw rfl ?_
  refine qV (zAK (v := (I6 t.mx)) rfl zAf (Br.cell rfl)) ?_
  refine qV (zAg (k := .i64) (a := t.mx) (b := 0) rfl rfl) ?_
  refine qM (.bool (decide ((t.mx : Int) = 0))) rfl ?_
  rcases Bool.eq_false_or_eq_true (decide ((t.mx : Int) = 0)) with gm | gm
  ·have kgm := gm
   replace kgm := of_decide_eq_true kgm
   have hN1 : N = zBJ := by rw [hN6, if_pos (.inl kgm)]
   refine zAD (oj := _) rfl rfl (by decide) (v := .bool true) (congrArg Value.bool gm) (Or.inl rfl) ?_
   refine zAD (oj := _) rfl rfl (by decide) (v := .bool true) (congrArg Value.bool gm) (Or.inl rfl) ?_
   refine zAD (oj := _) rfl rfl (by decide) (v := .bool true) (congrArg Value.bool gm) (Or.inl rfl) ?_
   refine qV (zAd (b := decide ((t.mx : Int) = 0)) (v := (.bool true)) rfl (by rw [gm]; rfl)) ?_
   refine qM (.bool true) rfl ?_
   refine zAD (oj := _) rfl rfl (by decide) (v := .bool true) rfl (Or.inl rfl) ?_
   refine zAD (oj := _) rfl rfl (by decide) (v := .bool true) rfl (Or.inl rfl) ?_
   refine zAD (oj := _) rfl rfl (by decide) (v := .bool true) rfl (Or.inl rfl) ?_
   refine zAD (oj := _) rfl rfl (by decide) (v := .bool true) rfl (Or.inl rfl) ?_
   refine zAD (oj := _) rfl rfl (by decide) (v := undef) rfl (Or.inr rfl) ?_
   refine zAD (oj := _) rfl rfl (by decide) (v := undef) rfl (Or.inr rfl) ?_
   refine zAD (oj := _) rfl rfl (by decide) (v := undef) rfl (Or.inr rfl) ?_
   refine zAD (oj := _) rfl rfl (by decide) (v := .bool true) rfl (Or.inl rfl) ?_
   refine qV (zAd (b := true) (v := (.bool true)) rfl rfl) ?_
   refine qA (.bool true) rfl ?_
   refine zAB ?_
   refine zAl rfl ?_
   refine zAA ?_
   refine zAL rfl rfl (by decide) (zAT (vs := []) Tryz.func117 zJd zJl rfl) (zED _) ?_
   rintro _ w29 ⟨rfl, X29⟩
   replace Br := X29.keep Br
   replace Bo := X29.keep Bo
   replace Bx := X29.keep Bx
   replace E := E.ext X29
   refine qW (#[(I6 1), (.slice none 0 0), (.slice none 0 0), (I6 0), (I6 0), (.bool false)]) rfl rfl zAH Bo ?_
   intro w19 S19
   replace Br := S19.keep (by omega) Br
   replace Bx := S19.keep (by omega) Bx
   replace E := S19.stp E
   replace Bo := S19.blk
   refine zAB (zAQ (zAY (zAY (zAI ?_))))
   refine zAm Tryz.results115 (vs := [(.int .i64 1), (.slice none 0 0), (.slice none 0 0), (.int .i64 0), (.int .i64 0), (.bool false)]) (b := bo) rfl zAb zAH rfl (Bo.cells rfl) ?_
   exact ⟨⟨_, rfl, by rw [hN1]; exact zBN _ _ _⟩, E⟩
  have kgm := gm
  replace kgm := of_decide_eq_false kgm
  refine zAF (oj := _) rfl rfl (by decide) (congrArg Value.bool gm) ?_
  refine qF bx 0 0 rfl Tryz.underlying25 rfl zAw rfl ?_
  refine zAF (oj := _) rfl rfl (by decide) (congrArg Value.bool gm) ?_
  refine qV (zAK (v := (I6 x.kind)) rfl zAf (Bx.cell rfl)) ?_
  refine zAF (oj := _) rfl rfl (by decide) (congrArg Value.bool gm) ?_
  refine qV (zAg (k := .i64) (a := x.kind) (b := 1) rfl rfl) ?_
  refine qV (zAd (b := decide ((t.mx : Int) = 0)) (v := (.bool (decide ((x.kind : Int) = 1)))) rfl (by rw [gm]; rfl)) ?_
  refine qM (.bool (decide ((x.kind : Int) = 1))) rfl ?_
  rcases Bool.eq_false_or_eq_true (decide ((x.kind : Int) = 1)) with g1 | g1
  ·have kg1 := g1
   replace kg1 := of_decide_eq_true kg1
   have hN1 : N = zBJ := by rw [hN6, if_pos (.inr (.inl kg1))]
   refine zAD (oj := _) rfl rfl (by decide) (v := .bool true) (congrArg Value.bool g1) (Or.inl rfl) ?_
   refine zAD (oj := _) rfl rfl (by decide) (v := .bool true) (congrArg Value.bool g1) (Or.inl rfl) ?_
   refine zAD (oj := _) rfl rfl (by decide) (v := .bool true) (congrArg Value.bool g1) (Or.inl rfl) ?_
   refine zAD (oj := _) rfl rfl (by decide) (v := .bool true) (congrArg Value.bool g1) (Or.inl rfl) ?_
   refine zAD (oj := _) rfl rfl (by decide) (v := undef) rfl (Or.inr rfl) ?_
   refine zAD (oj := _) rfl rfl (by decide) (v := undef) rfl (Or.inr rfl) ?_
   refine zAD (oj := _) rfl rfl (by decide) (v := undef) rfl (Or.inr rfl) ?_
   refine zAD (oj := _) rfl rfl (by decide) (v := .bool true) (congrArg Value.bool g1) (Or.inl rfl) ?_
   refine qV (zAd (b := decide ((x.kind : Int) = 1)) (v := (.bool true)) rfl (by rw [g1]; rfl)) ?_
   refine qA (.bool true) rfl ?_
   refine zAB ?_
   refine zAl rfl ?_
   refine zAA ?_
   refine zAL rfl rfl (by decide) (zAT (vs := []) Tryz.func117 zJd zJl rfl) (zED _) ?_
   rintro _ w29 ⟨rfl, X29⟩
   replace Br := X29.keep Br
   replace Bo := X29.keep Bo
   replace Bx := X29.keep Bx
   replace E := E.ext X29
   refine qW (#[(I6 1), (.slice none 0 0), (.slice none 0 0), (I6 0), (I6 0), (.bool false)]) rfl rfl zAH Bo ?_
   intro w21 S21
   replace Br := S21.keep (by omega) Br
   replace Bx := S21.keep (by omega) Bx
   replace E := S21.stp E
   replace Bo := S21.blk
   refine zAB (zAQ (zAY (zAY (zAI ?_))))
   refine zAm Tryz.results115 (vs := [(.int .i64 1), (.slice none 0 0), (.slice none 0 0), (.int .i64 0), (.int .i64 0), (.bool false)]) (b := bo) rfl zAb zAH rfl (Bo.cells rfl) ?_
   exact ⟨⟨_, rfl, by rw [hN1]; exact zBN _ _ _⟩, E⟩
  have kg1 := g1
  replace kg1 := of_decide_eq_false kg1
  refine zAF (oj := _) rfl rfl (by decide) (congrArg Value.bool g1) ?_
  refine qF bx 0 0 rfl Tryz.underlying25 rfl zAw rfl ?_
  refine zAF (oj := _) rfl rfl (by decide) (congrArg Value.bool g1) ?_
  refine qV (zAK (v := (I6 x.kind)) rfl zAf (Bx.cell rfl)) ?_
  refine zAF (oj := _) rfl rfl (by decide) (congrArg Value.bool g1) ?_
  refine qV (zAg (k := .i64) (a := x.kind) (b := 0) rfl rfl) ?_
  refine zAF (oj := _) rfl rfl (by decide) (congrArg Value.bool g1) ?_
  refine qM (.bool (decide ((x.kind : Int) = 0))) rfl ?_
  rcases Bool.eq_false_or_eq_true (decide ((x.kind : Int) = 0)) with g0 | g0
  ·have kg0 := g0
   replace kg0 := of_decide_eq_true kg0
   refine zAF (oj := _) rfl rfl (by decide) (congrArg Value.bool g0) ?_
   refine qF br 0 3 rfl Tryz.underlying25 rfl zAw rfl ?_
   refine zAF (oj := _) rfl rfl (by decide) (congrArg Value.bool g0) ?_
   refine qV (zAK (v := (I6 t.mn)) rfl zAf (Br.cell rfl)) ?_
   refine zAF (oj := _) rfl rfl (by decide) (congrArg Value.bool g0) ?_
   refine qV (zAg (k := .i64) (a := t.mn) (b := 0) rfl rfl) ?_
   refine zAF (oj := _) rfl rfl (by decide) (congrArg Value.bool g1) ?_
   refine qV (zAd (b := decide ((x.kind : Int) = 0)) (v := (.bool (decide ((t.mn : Int) = 0)))) rfl (by rw [g0]; rfl)) ?_
   refine qV (zAd (b := decide ((x.kind : Int) = 1)) (v := (.bool (decide ((t.mn : Int) = 0)))) rfl (by rw [g1]; rfl)) ?_
   refine qA (.bool (decide ((t.mn : Int) = 0))) rfl ?_
   refine zAB ?_
   refine zAM (b := decide ((t.mn : Int) = 0)) rfl (fun gz => ?_) (fun gz => ?_)
   ·have kgz := gz
    replace gz := of_decide_eq_true gz
    have hN1 : N = zBJ := by rw [hN6, if_pos (.inr (.inr ⟨kg0, gz⟩))]
    refine zAA ?_
    refine zAL rfl rfl (by decide) (zAT (vs := []) Tryz.func117 zJd zJl rfl) (zED _) ?_
    rintro _ w29 ⟨rfl, X29⟩
    replace Br := X29.keep Br
    replace Bo := X29.keep Bo
    replace Bx := X29.keep Bx
    replace E := E.ext X29
    refine qW (#[(I6 1), (.slice none 0 0), (.slice none 0 0), (I6 0), (I6 0), (.bool false)]) rfl rfl zAH Bo ?_
    intro w24 S24
    replace Br := S24.keep (by omega) Br
    replace Bx := S24.keep (by omega) Bx
    replace E := S24.stp E
    replace Bo := S24.blk
    refine zAB (zAQ (zAY (zAY (zAI ?_))))
    refine zAm Tryz.results115 (vs := [(.int .i64 1), (.slice none 0 0), (.slice none 0 0), (.int .i64 0), (.int .i64 0), (.bool false)]) (b := bo) rfl zAb zAH rfl (Bo.cells rfl) ?_
    exact ⟨⟨_, rfl, by rw [hN1]; exact zBN _ _ _⟩, E⟩
   have kgz := gz
   replace gz := of_decide_eq_false gz
   refine zAA ?_
   refine qF bx 0 0 rfl Tryz.underlying25 rfl zAw rfl ?_
   refine qV (zAK (v := (I6 x.kind)) rfl zAf (Bx.cell rfl)) ?_
   refine qV (zAg (k := .i64) (a := x.kind) (b := 0) rfl rfl) ?_
   refine qM (.bool (decide ((x.kind : Int) = 0))) rfl ?_
   refine zAD (oj := _) rfl rfl (by decide) (v := .bool true) (congrArg Value.bool g0) (Or.inl rfl) ?_
   refine zAD (oj := _) rfl rfl (by decide) (v := .bool true) (congrArg Value.bool g0) (Or.inl rfl) ?_
   refine zAD (oj := _) rfl rfl (by decide) (v := .bool true) (congrArg Value.bool g0) (Or.inl rfl) ?_
   refine zAD (oj := _) rfl rfl (by decide) (v := .bool true) (congrArg Value.bool g0) (Or.inl rfl) ?_
   refine zAD (oj := _) rfl rfl (by decide) (v := undef) rfl (Or.inr rfl) ?_
   refine zAD (oj := _) rfl rfl (by decide) (v := undef) rfl (Or.inr rfl) ?_
   refine zAD (oj := _) rfl rfl (by decide) (v := undef) rfl (Or.inr rfl) ?_
   refine zAD (oj := _) rfl rfl (by decide) (v := .bool true) (congrArg Value.bool g0) (Or.inl rfl) ?_
   refine qV (zAd (b := decide ((x.kind : Int) = 0)) (v := (.bool true)) rfl (by rw [g0]; rfl)) ?_
   refine qA (.bool true) rfl ?_
   refine zAB ?_
   refine zAl rfl ?_
   refine zAA ?_
   refine qV (zAG (vs := [(I6 x.kind), (.slice xsa x.set.length xsc), (.slice xaa x.args.length xac), (I6 x.mn), (I6 x.mx), (.bool x.neg)]) rfl zAb zAH rfl (Bx.cells rfl)) ?_
   refine qW (R6 x xsa xsc xaa xac) rfl rfl zAH Bo ?_
   intro w25 S25
   replace Br := S25.keep (by omega) Br
   replace Bx := S25.keep (by omega) Bx
   replace E := S25.stp E
   replace Bo := S25.blk
   refine zAB (zAQ (zAY (zAY (zAI ?_))))
   refine zAm Tryz.results115 (vs := [(.int .i64 x.kind), (.slice xsa x.set.length xsc), (.slice xaa x.args.length xac), (.int .i64 x.mn), (.int .i64 x.mx), (.bool x.neg)]) (b := bo) rfl zAb zAH rfl (Bo.cells rfl) ?_
   have hN1 : N = x := by rw [hN6, if_neg (by omega), if_pos (.inl kg0)]
   have hR : zAc S (w25) x _ := zAc.ext E x hxt0
   exact ⟨⟨_, rfl, by rw [hN1]; exact zAc.mono (fun y hy => .inl hy) x hR⟩, E⟩
  have kg0 := g0
  replace kg0 := of_decide_eq_false kg0
  refine zAD (oj := _) rfl rfl (by decide) (v := .bool false) (congrArg Value.bool g0) (Or.inl rfl) ?_
  refine zAD (oj := _) rfl rfl (by decide) (v := .bool false) (congrArg Value.bool g0) (Or.inl rfl) ?_
  refine zAD (oj := _) rfl rfl (by decide) (v := .bool false) (congrArg Value.bool g0) (Or.inl rfl) ?_
  refine zAF (oj := _) rfl rfl (by decide) (congrArg Value.bool g1) ?_
  refine qV (zAd (b := decide ((x.kind : Int) = 0)) (v := (.bool false)) rfl (by rw [g0]; rfl)) ?_
  refine qV (zAd (b := decide ((x.kind : Int) = 1)) (v := (.bool false)) rfl (by rw [g1]; rfl)) ?_
  refine qA (.bool false) rfl ?_
  refine zAB ?_
  refine zAX rfl ?_
  refine zAA ?_
  refine qF bx 0 0 rfl Tryz.underlying25 rfl zAw rfl ?_
  refine qV (zAK (v := (I6 x.kind)) rfl zAf (Bx.cell rfl)) ?_
  refine qV (zAg (k := .i64) (a := x.kind) (b := 0) rfl rfl) ?_
  refine qM (.bool (decide ((x.kind : Int) = 0))) rfl ?_
  refine zAF (oj := _) rfl rfl (by decide) (congrArg Value.bool g0) ?_
  refine qF br 0 3 rfl Tryz.underlying25 rfl zAw rfl ?_
  refine zAF (oj := _) rfl rfl (by decide) (congrArg Value.bool g0) ?_
  refine qV (zAK (v := (I6 t.mn)) rfl zAf (Br.cell rfl)) ?_
  refine zAF (oj := _) rfl rfl (by decide) (congrArg Value.bool g0) ?_
  refine qV (zAg (k := .i64) (a := t.mn) (b := 1) rfl rfl) ?_
  refine zAF (oj := _) rfl rfl (by decide) (congrArg Value.bool g0) ?_
  refine qM (.bool (decide ((t.mn : Int) = 1))) rfl ?_
  rcases Bool.eq_false_or_eq_true (decide ((t.mn : Int) = 1)) with g2 | g2
  ·have kg2 := g2
   replace kg2 := of_decide_eq_true kg2
   refine zAF (oj := _) rfl rfl (by decide) (congrArg Value.bool g2) ?_
   refine qF br 0 4 rfl Tryz.underlying25 rfl zAw rfl ?_
   refine zAF (oj := _) rfl rfl (by decide) (congrArg Value.bool g2) ?_
   refine qV (zAK (v := (I6 t.mx)) rfl zAf (Br.cell rfl)) ?_
   refine zAF (oj := _) rfl rfl (by decide) (congrArg Value.bool g2) ?_
   refine qV (zAg (k := .i64) (a := t.mx) (b := 1) rfl rfl) ?_
   refine zAF (oj := _) rfl rfl (by decide) (congrArg Value.bool g0) ?_
   refine qV (zAd (b := decide ((t.mn : Int) = 1)) (v := (.bool (decide ((t.mx : Int) = 1)))) rfl (by rw [g2]; rfl)) ?_
   refine qV (zAd (b := decide ((x.kind : Int) = 0)) (v := (.bool (decide ((t.mx : Int) = 1)))) rfl (by rw [g0]; rfl)) ?_
   refine qA (.bool (decide ((t.mx : Int) = 1))) rfl ?_
   refine zAB ?_
   refine zAM (b := decide ((t.mx : Int) = 1)) rfl (fun g3 => ?_) (fun g3 => ?_)
   ·have kg3 := g3
    replace g3 := of_decide_eq_true g3
    have hN1 : N = x := by rw [hN6, if_neg (by omega), if_pos (.inr ⟨kg2, g3⟩)]
    have hR : zAc S (wx) x _ := zAc.ext E x hxt0
    refine zAA ?_
    refine qV (zAG (vs := [(I6 x.kind), (.slice xsa x.set.length xsc), (.slice xaa x.args.length xac), (I6 x.mn), (I6 x.mx), (.bool x.neg)]) rfl zAb zAH rfl (Bx.cells rfl)) ?_
    refine qW (R6 x xsa xsc xaa xac) rfl rfl zAH Bo ?_
    intro w28 S28
    replace hR := zAc.chg S28.chg (fun y hy h => by have h2 : y = bo := h; have := hS y hy; omega) x hR
    replace Br := S28.keep (by omega) Br
    replace Bx := S28.keep (by omega) Bx
    replace E := S28.stp E
    replace Bo := S28.blk
    refine zAB (zAQ (zAY (zAY (zAI ?_))))
    refine zAm Tryz.results115 (vs := [(.int .i64 x.kind), (.slice xsa x.set.length xsc), (.slice xaa x.args.length xac), (.int .i64 x.mn), (.int .i64 x.mx), (.bool x.neg)]) (b := bo) rfl zAb zAH rfl (Bo.cells rfl) ?_
    exact ⟨⟨_, rfl, by rw [hN1]; exact zAc.mono (fun y hy => .inl hy) x hR⟩, E⟩
   have kg3 := g3
   replace g3 := of_decide_eq_false g3
   have hN1 : N = t := by rw [hN6, if_neg (by omega), if_neg (by omega)]
   have hR : zAc S (wx) t _ := zAc.ext E t ht0
   refine zAR (zAU (zAU (zAC (zAA ?_))))
   refine qV (zAG (vs := [(I6 t.kind), (.slice sa t.set.length sc), (.slice (some ⟨ab, ao, none⟩) t.args.length ac), (I6 t.mn), (I6 t.mx), (.bool t.neg)]) rfl zAb zAH rfl (Br.cells rfl)) ?_
   refine qW (R6 t sa sc (some ⟨ab, ao, none⟩) ac) rfl rfl zAH Bo ?_
   intro w29 S29
   replace hR := zAc.chg S29.chg (fun y hy h => by have h2 : y = bo := h; have := hS y hy; omega) t hR
   replace Br := S29.keep (by omega) Br
   replace Bx := S29.keep (by omega) Bx
   replace E := S29.stp E
   replace Bo := S29.blk
   refine zAB (zAQ ?_)
   refine zAm Tryz.results115 (vs := [(.int .i64 t.kind), (.slice sa t.set.length sc), (.slice (some ⟨ab, ao, none⟩) t.args.length ac), (.int .i64 t.mn), (.int .i64 t.mx), (.bool t.neg)]) (b := bo) rfl zAb zAH rfl (Bo.cells rfl) ?_
   exact ⟨⟨_, rfl, by rw [hN1]; exact zAc.mono (fun y hy => .inl hy) t hR⟩, E⟩
  have kg2 := g2
  replace kg2 := of_decide_eq_false kg2
  have hN1 : N = t := by rw [hN6, if_neg (by omega), if_neg (by omega)]
  have hR : zAc S (wx) t _ := zAc.ext E t ht0
  refine zAD (oj := _) rfl rfl (by decide) (v := .bool false) (congrArg Value.bool g2) (Or.inl rfl) ?_
  refine zAD (oj := _) rfl rfl (by decide) (v := .bool false) (congrArg Value.bool g2) (Or.inl rfl) ?_
  refine zAD (oj := _) rfl rfl (by decide) (v := .bool false) (congrArg Value.bool g2) (Or.inl rfl) ?_
  refine zAF (oj := _) rfl rfl (by decide) (congrArg Value.bool g0) ?_
  refine qV (zAd (b := decide ((t.mn : Int) = 1)) (v := (.bool false)) rfl (by rw [g2]; rfl)) ?_
  refine qV (zAd (b := decide ((x.kind : Int) = 0)) (v := (.bool false)) rfl (by rw [g0]; rfl)) ?_
  refine qA (.bool false) rfl ?_
  refine zAB ?_
  refine zAX rfl ?_
  refine zAR (zAU (zAU (zAC (zAA ?_))))
  refine qV (zAG (vs := [(I6 t.kind), (.slice sa t.set.length sc), (.slice (some ⟨ab, ao, none⟩) t.args.length ac), (I6 t.mn), (I6 t.mx), (.bool t.neg)]) rfl zAb zAH rfl (Br.cells rfl)) ?_
  refine qW (R6 t sa sc (some ⟨ab, ao, none⟩) ac) rfl rfl zAH Bo ?_
  intro w30 S30
  replace hR := zAc.chg S30.chg (fun y hy h => by have h2 : y = bo := h; have := hS y hy; omega) t hR
  replace Br := S30.keep (by omega) Br
  replace Bx := S30.keep (by omega) Bx
  replace E := S30.stp E
  replace Bo := S30.blk
  refine zAB (zAQ ?_)
  refine zAm Tryz.results115 (vs := [(.int .i64 t.kind), (.slice sa t.set.length sc), (.slice (some ⟨ab, ao, none⟩) t.args.length ac), (.int .i64 t.mn), (.int .i64 t.mx), (.bool t.neg)]) (b := bo) rfl zAb zAH rfl (Bo.cells rfl) ?_
  exact ⟨⟨_, rfl, by rw [hN1]; exact zAc.mono (fun y hy => .inl hy) t hR⟩, E⟩
 have kh6 := h6
 replace h6 := of_decide_eq_false h6
 refine zAA ?_
 refine qV (zAg (k := .i64) (a := t.kind) (b := 8) rfl rfl) ?_
 refine qA (.bool (decide ((t.kind : Int) = 8))) rfl ?_
 refine zAB ?_
 refine zAM (b := decide ((t.kind : Int) = 8)) rfl (fun h8 => ?_) (fun h8 => ?_)
 ·have kh8 := h8
  replace h8 := of_decide_eq_true h8
  have hone := hp.one (by omega)
  obtain ⟨x, hx⟩ := zAa (l := t.args) (i := 0) (by omega)
  have hxm := List.mem_of_getElem? hx
  have hxo := ha x hxm
  have hhd : t.args.headD zBH = x := zCE hx
  obtain ⟨ab, ao, hab, rfl, hres⟩ := hargs.resolve_left (fun h => by rw [h] at hx; cases hx)
  obtain ⟨us, hus, hxt⟩ := hres.get hx
  have hxt0 := hxt
  obtain ⟨xsa, xsc, xaa, xac, rfl, _, hxlen, hxargs⟩ := hxt.form
  refine zAA ?_
  refine qF br 0 2 rfl Tryz.underlying25 rfl zBI rfl ?_
  refine qV (zAK (v := (.slice (some ⟨ab, ao, none⟩) t.args.length ac)) rfl zAv (Br.cell rfl)) ?_
  refine qV (zAO (b := ab) (o := ao) (len := t.args.length) (cap := ac) (i := 0) (o' := ao + 0 * 6) rfl rfl rfl Tryz.underlying23 zAH (by omega) (by omega)) ?_
  refine qV (zAG (vs := [(I6 x.kind), (.slice xsa x.set.length xsc), (.slice xaa x.args.length xac), (I6 x.mn), (I6 x.mx), (.bool x.neg)]) rfl zAb zAH rfl (hus.ext E)) ?_
  have hN8 := hN.trans (ns8 h8 hhd)
  refine zAi (v := (.agg (R6 x xsa xsc xaa xac))) (c := (R6 x xsa xsc xaa xac)) (n := 6) (by decide) zAs rfl zAH rfl rfl rfl (by simp [Value.oneCell']) ?_
  intro bx wx Nx
  have Fx := Nx.ge E
  have Ox_br := Nx.lt Br
  have Ox_bo := Nx.lt Bo
  replace Br := Nx.keep Br
  replace Bo := Nx.keep Bo
  replace E := E.ext Nx.ext
  have Bx := Nx.blk
  refine zAB (zAA ?_)
  refine qF bx 0 0 rfl Tryz.underlying25 rfl zAw rfl ?_
  refine qV (zAK (v := (I6 x.kind)) rfl zAf (Bx.cell rfl)) ?_
  refine qV (zAg (k := .i64) (a := x.kind) (b := 8) rfl rfl) ?_
  refine zAB ?_
  refine zAM (b := decide ((x.kind : Int) = 8)) rfl (fun k8 => ?_) (fun k8 => ?_)
  ·have kk8 := k8
   replace k8 := of_decide_eq_true k8
   obtain ⟨y, hy⟩ := zAa (l := x.args) (i := 0) (List.length_pos_iff.2 ((zBk hxo).2 k8))
   obtain ⟨yb, yo, hyb, rfl, hyres⟩ := hxargs.resolve_left ((zBk hxo).2 k8)
   have hypl := zAo hy
   obtain ⟨ys, hyc, hyt⟩ := hyres.get hy
   have hyt0 := hyt
   obtain ⟨ysa, ysc, yaa, yac, rfl, _, _, _⟩ := hyt.form
   refine zAA ?_
   refine qF bx 0 2 rfl Tryz.underlying25 rfl zBI rfl ?_
   refine qV (zAK (v := (.slice (some ⟨yb, yo, none⟩) x.args.length xac)) rfl zAv (Bx.cell rfl)) ?_
   refine qV (zAO (b := yb) (o := yo) (len := x.args.length) (cap := xac) (i := 0) (o' := yo + 0 * 6) rfl rfl rfl Tryz.underlying23 zAH (by omega) (by omega)) ?_
   refine qV (zAG (vs := [(I6 y.kind), (.slice ysa y.set.length ysc), (.slice yaa y.args.length yac), (I6 y.mn), (I6 y.mx), (.bool y.neg)]) rfl zAb zAH rfl (hyc.ext E)) ?_
   have hN1 : N = y := by rw [hN8, if_pos k8, zCE hy]
   have hR : zAc S (wx) y _ := zAc.ext E y hyt0
   refine qW (R6 y ysa ysc yaa yac) rfl rfl zAH Bo ?_
   intro w33 S33
   replace hR := zAc.chg S33.chg (fun y hy h => by have h2 : y = bo := h; have := hS y hy; omega) y hR
   replace Br := S33.keep (by omega) Br
   replace Bx := S33.keep (by omega) Bx
   replace E := S33.stp E
   replace Bo := S33.blk
   refine zAB (zAQ (zAY (zAI ?_)))
   refine zAm Tryz.results115 (vs := [(.int .i64 y.kind), (.slice ysa y.set.length ysc), (.slice yaa y.args.length yac), (.int .i64 y.mn), (.int .i64 y.mx), (.bool y.neg)]) (b := bo) rfl zAb zAH rfl (Bo.cells rfl) ?_
   exact ⟨⟨_, rfl, by rw [hN1]; exact zAc.mono (fun y hy => .inl hy) y hR⟩, E⟩
  have kk8 := k8
  replace k8 := of_decide_eq_false k8
  have hN1 : N = t := by rw [hN8, if_neg k8]
  have hR : zAc S (wx) t _ := zAc.ext E t ht0
  refine zAR (zAU (zAC (zAA ?_)))
  refine qV (zAG (vs := [(I6 t.kind), (.slice sa t.set.length sc), (.slice (some ⟨ab, ao, none⟩) t.args.length ac), (I6 t.mn), (I6 t.mx), (.bool t.neg)]) rfl zAb zAH rfl (Br.cells rfl)) ?_
  refine qW (R6 t sa sc (some ⟨ab, ao, none⟩) ac) rfl rfl zAH Bo ?_
  intro w34 S34
  replace hR := zAc.chg S34.chg (fun y hy h => by have h2 : y = bo := h; have := hS y hy; omega) t hR
  replace Br := S34.keep (by omega) Br
  replace Bx := S34.keep (by omega) Bx
  replace E := S34.stp E
  replace Bo := S34.blk
  refine zAB (zAQ ?_)
  refine zAm Tryz.results115 (vs := [(.int .i64 t.kind), (.slice sa t.set.length sc), (.slice (some ⟨ab, ao, none⟩) t.args.length ac), (.int .i64 t.mn), (.int .i64 t.mx), (.bool t.neg)]) (b := bo) rfl zAb zAH rfl (Bo.cells rfl) ?_
  exact ⟨⟨_, rfl, by rw [hN1]; exact zAc.mono (fun y hy => .inl hy) t hR⟩, E⟩
 have kh8 := h8
 replace h8 := of_decide_eq_false h8
 have hN1 : N = t := hN.trans (nsn ⟨h3, h4, h5, h6, h7, h8⟩)
 have hR : zAc S (wo) t _ := zAc.ext E t ht0
 refine zAR (zAU (zAC (zAA ?_)))
 refine qV (zAG (vs := [(I6 t.kind), (.slice sa t.set.length sc), (.slice aa t.args.length ac), (I6 t.mn), (I6 t.mx), (.bool t.neg)]) rfl zAb zAH rfl (Br.cells rfl)) ?_
 refine qW (R6 t sa sc aa ac) rfl rfl zAH Bo ?_
 intro w35 S35
 replace hR := zAc.chg S35.chg (fun y hy h => by have h2 : y = bo := h; have := hS y hy; omega) t hR
 replace Br := S35.keep (by omega) Br
 replace E := S35.stp E
 replace Bo := S35.blk
 refine zAB (zAQ ?_)
 refine zAm Tryz.results115 (vs := [(.int .i64 t.kind), (.slice sa t.set.length sc), (.slice aa t.args.length ac), (.int .i64 t.mn), (.int .i64 t.mx), (.bool t.neg)]) (b := bo) rfl zAb zAH rfl (Bo.cells rfl) ?_
 exact ⟨⟨_, rfl, by rw [hN1]; exact zAc.mono (fun y hy => .inl hy) t hR⟩, E⟩
end Go.Proofs
namespace Go.Proofs
open Go Go.Eng Go.Sort
set_option maxRecDepth 100000
theorem zOO {l : List Re} {a x : Re} {k : Nat} (hx : l[k]? = some x) (h1 : zCB a x ≠ 0) (h2 : ¬ zCB a x < 0) (h : zDa l a = l.take k ++ zDa (l.drop k) a) : zDa l a = l.take (k + 1) ++ zDa (l.drop (k + 1)) a := by
 rw [h, zBP hx, List.take_add_one, hx]
 simp only [zDa]
 rw [if_neg h1, if_neg h2, Option.toList_some, List.append_assoc]
 rfl
theorem zOQ {l : List Re} {a x : Re} {k : Nat} (hx : l[k]? = some x) (h1 : zCB a x ≠ 0) (h2 : zCB a x < 0) (h : zDa l a = l.take k ++ zDa (l.drop k) a) : zDa l a = l.take k ++ [a] ++ l.drop k := by
 rw [h, zBP hx]
 simp only [zDa]
 rw [if_neg h1, if_pos h2, List.append_assoc]
 rfl
theorem zOP {l : List Re} {a x : Re} {k : Nat} (hx : l[k]? = some x) (h1 : zCB a x = 0) (h : zDa l a = l.take k ++ zDa (l.drop k) a) : zDa l a = l := by
 rw [h, zBP hx]
 simp only [zDa]
 rw [if_pos h1, ← zBP hx, List.take_append_drop]
theorem zQV {l : List Re} {a : Re} (h : zDa l a = l.take l.length ++ zDa (l.drop l.length) a) : zDa l a = l ++ [a] := by
 rw [h, List.take_length, List.drop_length]
 rfl
theorem zPr {S : Nat → Prop} {w : World} {aa : Option Addr} {n ac : Nat} {l : List Re} (h : zCJ S w (.slice aa n ac) l) : ∃ rows, zAj S w l rows ∧ (0 < n → ∃ b o, aa = some ⟨b, o, none⟩ ∧ zAx w b o rows.flatten) := by
 obtain ⟨a, c, h1, _, h3⟩ := h
 simp only [Value.slice.injEq] at h1
 obtain ⟨rfl, rfl, rfl⟩ := h1
 rcases h3 with rfl | ⟨b, o, _, h4, h5⟩
 ·exact ⟨[], rfl, fun h => by simp at h⟩
 obtain ⟨rows, h6, h7⟩ := zBM.rows h5
 exact ⟨rows, h6, fun _ => ⟨b, o, h4, h7⟩⟩
def zNg (x : Re) : Prop := zGr x ∧ (zCX x).length ≤ 100000000
theorem zJC {x : Re} (h : zAq x) (hs : x.size ≤ 1000000) : zNg x := ⟨zJx h, by have := zKi h; omega⟩
theorem zLC (w0 : World) (t u : Re) (vs us : List Value) (ht : zBC w0 t vs) (hu : zBC w0 u us) (h1 : zNg t) (h2 : zNg u) :
  Ret Tryz.prog 171 #[.agg vs.toArray, .agg us.toArray] w0 fun v w => v = .int .i64 (zCB t u) ∧ Ext w0 w :=
 (zLD w0 t u vs us ht hu h1.2 h2.2).mono fun v w h => ⟨by rw [h.1, zOf h1.1 h2.1], h.2⟩
set_option maxHeartbeats 2000000 in
theorem zLS (w0 : World) (S : Nat → Prop) (v : Value) (l : List Re) (a : Re) (us : List Value) (h : zCJ S w0 v l) (ha : zAc S w0 a us) (hS : ∀ b, S b → b < w0.heap.size) (hl : l.length ≤ 1000000) (hc : ∀ x ∈ l, zNg x) (hca : zNg a) :
  Ret Tryz.prog 131 #[v, .agg us.toArray] w0 fun r w => (∃ a' c, r = .slice a' (zDa l a).length c ∧ zCJ (fun b => S b ∨ w0.heap.size ≤ b) w r (zDa l a)) ∧ Ext w0 w := by
 have h0 := h
 have ha0 := ha
 obtain ⟨la, lc, rfl, hlc, hres⟩ := h
 obtain ⟨sa, sc, aa, ac, rfl, _, _, _⟩ := ha.form
 obtain ⟨rows, hR, hcr⟩ := zPr h0
 have h6 := hR.six
 have hrl := hR.len
 have hone := hR.one
 refine zAk Tryz.func131 rfl Tryz.ntmps131 (Nat.le_of_ble_eq_true rfl) ?_
 have E : Chg zAh w0 w0 := Chg.refl _ _
 refine zAA ?_
 refine zBL (v := (.agg (R6 a sa sc aa ac))) (c := (R6 a sa sc aa ac)) (by decide) rfl rfl ?_
 intro br wr Nr
 have Fr := Nr.ge E
 replace E := E.ext Nr.ext
 have Br := Nr.blk
 refine qA (.slice none 0 0) rfl ?_
 refine zAB (zAA ?_)
 refine qA (.slice none 0 0) rfl ?_
 refine zAB (zAP (zAA ?_))
 refine qM (.slice la l.length lc) rfl ?_
 refine qV (zAV (ad := la) (n := l.length) (cap := lc) Tryz.underlying23 rfl) ?_
 refine qM (I6 0) rfl ?_
 refine zAB (zAZ ?_)
 obtain ⟨base, hbase⟩ : ∃ base, base = wr.heap.size := ⟨_, rfl⟩
 have hb0 : w0.heap.size ≤ base := by have := Nr.ext.size; omega
 have hbr : br < base := by have := Nr.size; have := Nr.eq; omega
 have hbsq : base ≤ wr.heap.size := by omega
 refine zBA (fun nn_ σ W1 => ∃ (k : Nat) (oa : Option Addr) (oc : Nat), (∃ jj_, σ = zCl jj_ [(0, (.slice la l.length lc)), (3, (P6 br 0)), (9, (.slice la l.length lc)), (10, (I6 (l.length : Int))), (11, (I6 (k : Int))), (5, (.slice oa k oc))]) ∧ Chg zAh w0 W1 ∧ Blk W1 br (R6 a sa sc aa ac) 25 ∧ (k ≤ l.length) ∧ (zDa l a = l.take k ++ zDa (l.drop k) a) ∧ (W1.ownsRow base TRe 6 (.slice oa k oc) k (rows.take k).flatten) ∧ (base ≤ W1.heap.size) ∧ nn_ = l.length - k) (n := l.length - 0) ?_ ?_
 ·exact ⟨0, none, 0, zBG.out ⟨rfl, rfl, rfl, rfl, rfl, rfl, trivial⟩, E, Br, Nat.zero_le _, rfl, World.ownsRow_nil _ _ _ _, hbsq, rfl⟩
 clear E Br
 rintro _ _ W1 ⟨k, oa, oc, ⟨j1, rfl⟩, E, Br, hk, hp, hown, hbs, rfl⟩
 refine zAA ?_
 refine qV (zBS (k := .i64) (a := (k : Int)) (b := (l.length : Int)) rfl rfl) ?_
 refine zAB (zAP ?_)
 refine zAM (b := decide (((k : Int) : Int) < (l.length : Int))) rfl (fun hlt => ?_) (fun hlt => ?_)
 ·have khlt := hlt
  replace hlt := of_decide_eq_true hlt
  obtain ⟨x, hx⟩ := zAa (l := l) (i := k) (by omega)
  obtain ⟨b, o, rfl, hcr2⟩ := hcr (by omega)
  obtain ⟨xs, hxr, hrx⟩ := hR.get hx
  have htl : (rows.take k).length = k := by simp; omega
  have hdl : (rows.drop k).length = l.length - k := by simp; omega
  have hfl : (rows.take k).flatten.length = k * 6 := by rw [zBn (fun r hr => h6 r (List.mem_of_mem_take hr)), htl]
  have hc2 : zAx w0 b (o + k * 6) (rows.drop k).flatten := by rw [← hfl]; exact zJk (xs := (rows.take k).flatten) (by rw [← zHR]; exact hcr2)
  have hcx : zAx w0 b (o + k * 6) xs := zLY (ys := (rows.drop (k + 1)).flatten) (by rw [zBP hxr, List.flatten_cons] at hc2; exact hc2)
  have hcx3 : (rows.take (k + 1)).flatten = (rows.take k).flatten ++ xs := by rw [List.take_add_one, hxr, List.flatten_append]; simp
  have hrx0 := hrx
  obtain ⟨xsa, xsc, xaa, xac, rfl, _, _, _⟩ := hrx.form
  have hxm := List.mem_of_getElem? hx
  have hO0 := fun k h => (hown.lt k h).2
  refine zAR (zAC (zAP (zAZ (zAA ?_))))
  refine qM (I6 (k : Int)) rfl ?_
  refine qV (zAO (b := b) (o := o) (len := l.length) (cap := lc) (i := k) (o' := o + k * 6) rfl rfl rfl Tryz.underlying23 zAH (by omega) (by omega)) ?_
  refine qV (zAG (vs := [(I6 x.kind), (.slice xsa x.set.length xsc), (.slice xaa x.args.length xac), (I6 x.mn), (I6 x.mx), (.bool x.neg)]) rfl zAb zAH rfl (hcx.ext E)) ?_
  refine zBD (c := #[(I6 0), (.slice none 0 0), (.slice none 0 0), (I6 0), (I6 0), (.bool false)]) (by decide) zAs rfl ?_
  intro bz wz Nz
  have Fz := Nz.ge E
  have Oz_br := Nz.lt Br
  replace Br := Nz.keep Br
  replace hown := zBE hown Nz.ext
  replace hbs := Nat.le_trans hbs Nz.ext.size
  replace E := E.ext Nz.ext
  have Bz := Nz.blk
  refine qA (I6 (k : Int)) rfl ?_
  refine qW (R6 x xsa xsc xaa xac) rfl rfl zAH Bz ?_
  intro w3 S3
  replace hown := zCs hown S3.chg (fun y hy h => by have h2 : y = bz := h; have := hO0 y hy; have := Nz.eq; omega)
  replace hbs := Nat.le_trans hbs S3.chg.size
  replace Br := S3.keep (by omega) Br
  replace E := S3.stp E
  replace Bz := S3.blk
  refine zAB (zAA ?_)
  refine qV (zAG (vs := [(I6 a.kind), (.slice sa a.set.length sc), (.slice aa a.args.length ac), (I6 a.mn), (I6 a.mx), (.bool a.neg)]) rfl zAb zAH rfl (Br.cells rfl)) ?_
  refine qV (zAG (vs := [(I6 x.kind), (.slice xsa x.set.length xsc), (.slice xaa x.args.length xac), (I6 x.mn), (I6 x.mx), (.bool x.neg)]) rfl zAb zAH rfl (Bz.cells rfl)) ?_
  refine zAL rfl rfl (by decide) (zAT (vs := [(.agg (R6 a sa sc aa ac)), (.agg (R6 x xsa xsc xaa xac))]) Tryz.func171 nm171 bd171 rfl) (zLC _ a x _ _ (zAc.at a (zAc.ext E a ha0)) (zAc.at x (zAc.ext E x hrx0)) hca (hc x hxm)) ?_
  rintro _ w9 ⟨rfl, X9⟩
  replace Br := X9.keep Br
  replace Bz := X9.keep Bz
  replace hown := zBE hown X9
  replace hbs := Nat.le_trans hbs X9.size
  replace E := E.ext X9
  refine qA (I6 (zCB a x)) rfl ?_
  refine zAB (zAP (zAA ?_))
  refine qM (I6 (zCB a x)) rfl ?_
  refine qV (zAg (k := .i64) (a := zCB a x) (b := 0) rfl rfl) ?_
  refine zAB ?_
  refine zAM (b := decide ((zCB a x : Int) = 0)) rfl (fun c0 => ?_) (fun c0 => ?_)
  ·have kc0 := c0
   replace c0 := of_decide_eq_true c0
   refine zAA ?_
   refine qM (.slice (some ⟨b, o, none⟩) l.length lc) rfl ?_
   refine qA (.slice (some ⟨b, o, none⟩) l.length lc) rfl ?_
   refine zAB (zAQ (zAI (zAY (zAI (zAI (zAY (zAI ?_)))))))
   refine zAS Tryz.results131 (v := (.slice (some ⟨b, o, none⟩) l.length lc)) rfl ?_
   rw [zOP hx c0 hp]; exact ⟨⟨_, _, rfl, zFa (fun y hy => .inl hy) (h0.ext E)⟩, E⟩
  have kc0 := c0
  replace c0 := of_decide_eq_false c0
  refine zAR (zAC (zAP (zAA ?_)))
  refine qM (I6 (zCB a x)) rfl ?_
  refine qV (zBS (k := .i64) (a := zCB a x) (b := 0) rfl rfl) ?_
  refine zAB ?_
  refine zAM (b := decide ((zCB a x : Int) < 0)) rfl (fun c1 => ?_) (fun c1 => ?_)
  ·have kc1 := c1
   replace c1 := of_decide_eq_true c1
   have hsl2 : (if lc = k then (some ⟨b, o, none⟩ : Option Addr) else Option.map (fun q : Addr => q.add (k * 6)) (some ⟨b, o, none⟩)) = some ⟨b, o + k * 6, none⟩ := by rw [if_neg (by omega)]; simp [Addr.add]
   refine zAP ?_
   obtain ⟨Fs6, hFs6⟩ : ∃ Fs : List (FactT ((fun y => (Value.slice oa k oc).ownBlock = some y))), Fs = [.eq (.slice oa k oc), .eq (.agg (R6 a sa sc aa ac)), .till (zRC TRe #[.int .i64 a.kind, .slice sa a.set.length sc, .slice aa a.args.length ac, .int .i64 a.mn, .int .i64 a.mx, .bool a.neg] 0) (zHp _ _ _), .own (zRD base TRe 6 (k + 1) ((rows.take k).flatten ++ zPt a sa sc aa ac) (.slice oa k oc) base) (zIA _ _ _ _ _ _ _), .eq (.slice (some ⟨b, o, none⟩) l.length lc), .eq (I6 (k : Int)), .eq (.slice (some ⟨b, (o + k * 6), none⟩) (l.length - k) (lc - k))] := ⟨_, rfl⟩
   refine zNb ((fun y => (Value.slice oa k oc).ownBlock = some y)) 7 3 [24, 25, 26, 27, 28, 29, 30] [[], [], [1], [0, 2], [], [], [4, 5]] Fs6 hFs6 rfl mixed (by kernel_rfl) (by kernel_rfl) (by kernel_rfl) ?_ ?_
   ·intro wd X0
    refine DagStepsT.cons (fun s' w' X U H => ?_) ?_
    ·exact zCN (zAn (v := (.slice oa k oc)) (U 5 rfl)) (Chg.refl _ _) rfl
    refine DagStepsT.cons (fun s' w' X U H => ?_) ?_
    ·exact zCN (zAG (vs := [(I6 a.kind), (.slice sa a.set.length sc), (.slice aa a.args.length ac), (I6 a.mn), (I6 a.mx), (.bool a.neg)]) (U 3 rfl) zAb zAH rfl ((Chg.keep X (fun h => by have := (hown.lt _ h).1; omega) (X0.keep Br)).cells rfl)) (Chg.refl _ _) rfl
    refine DagStepsT.cons (fun s' w' X U H => ?_) ?_
    ·have e25 : s' 25 = (.agg #[(.int .i64 a.kind), (.slice sa a.set.length sc), (.slice aa a.args.length ac), (.int .i64 a.mn), (.int .i64 a.mx), (.bool a.neg)]) := H 1 rfl 25 (.eq (.agg #[(.int .i64 a.kind), (.slice sa a.set.length sc), (.slice aa a.args.length ac), (.int .i64 a.mn), (.int .i64 a.mx), (.bool a.neg)])) rfl (by rw [hFs6]; rfl)
     exact zNf Tryz.underlying23 zAH zAs e25 (by decide) (by decide) (by kernel_rfl) (Nat.zero_le _)
    refine DagStepsT.cons (fun s' w' X U H => ?_) ?_
    ·have e24 : s' 24 = (.slice oa k oc) := H 0 rfl 24 (.eq (.slice oa k oc)) rfl (by rw [hFs6]; rfl)
     obtain ⟨b26, e26, B26, _⟩ := (show (.till (zRC TRe #[.int .i64 a.kind, .slice sa a.set.length sc, .slice aa a.args.length ac, .int .i64 a.mn, .int .i64 a.mx, .bool a.neg] 0) (zHp _ _ _) : FactT ((fun y => (Value.slice oa k oc).ownBlock = some y))).In (s' 26) w' from FactT.at_false (H 2 rfl 26 (.till (zRC TRe #[.int .i64 a.kind, .slice sa a.set.length sc, .slice aa a.args.length ac, .int .i64 a.mn, .int .i64 a.mx, .bool a.neg] 0) (zHp _ _ _)) rfl (by rw [hFs6]; rfl)))
     exact zJM Tryz.underlying23 zAH zEj zAs rfl (by decide) e24 (zBE (zBE hown X0) X) e26 rfl (B26.cells rfl) (by simp [Value.oneCell']) (by unfold maxLen; omega) (by omega) (by have := X0.size; have := X.size; omega) (fun y h => h) (by have := X0.size; have := X.size; omega)
    refine DagStepsT.cons (fun s' w' X U H => ?_) ?_
    ·exact zCN (zAn (v := (.slice (some ⟨b, o, none⟩) l.length lc)) (U 0 rfl)) (Chg.refl _ _) rfl
    refine DagStepsT.cons (fun s' w' X U H => ?_) ?_
    ·exact zCN (zAn (v := (I6 (k : Int))) (U 6 rfl)) (Chg.refl _ _) rfl
    refine DagStepsT.cons (fun s' w' X U H => ?_) ?_
    ·have e28 : s' 28 = (.slice (some ⟨b, o, none⟩) l.length lc) := H 4 rfl 28 (.eq (.slice (some ⟨b, o, none⟩) l.length lc)) rfl (by rw [hFs6]; rfl)
     have e29 : s' 29 = (.int .i64 ((k : Nat) : Int)) := H 5 rfl 29 (.eq (.int .i64 ((k : Nat) : Int))) rfl (by rw [hFs6]; rfl)
     exact zCN (zDR (a := some ⟨b, o, none⟩) (len := l.length) (cap := lc) (lo := k) (l := (k : Int)) (n' := l.length - k) (c' := lc - k) Tryz.underlying23 zAH e28 e29 rfl (by omega) hsl2 rfl rfl) (Chg.refl _ _) rfl
    exact DagStepsT.nil
   intro s' wd6 w6 X0 X6 U H
   obtain ⟨⟨a27, c27, e27⟩, O27, D27⟩ := (show (.own (zRD base TRe 6 (k + 1) ((rows.take k).flatten ++ zPt a sa sc aa ac) (.slice oa k oc) base) (zIA _ _ _ _ _ _ _) : FactT ((fun y => (Value.slice oa k oc).ownBlock = some y))).In (s' 27) w6 from H 3 27 (.own (zRD base TRe 6 (k + 1) ((rows.take k).flatten ++ zPt a sa sc aa ac) (.slice oa k oc) base) (zIA _ _ _ _ _ _ _)) rfl (by rw [hFs6]; rfl))
   have e30 : s' 30 = (.slice (some ⟨b, (o + k * 6), none⟩) (l.length - k) (lc - k)) := H 6 30 (.eq (.slice (some ⟨b, (o + k * 6), none⟩) (l.length - k) (lc - k))) rfl (by rw [hFs6]; rfl)
   obtain ⟨j6, rfl⟩ := zBG.out (σ := s') (l := [(27, (.slice a27 (k + 1) c27)), (30, (.slice (some ⟨b, (o + k * 6), none⟩) (l.length - k) (lc - k)))]) ⟨e27, e30, trivial⟩
   clear U H
   replace Br := Chg.keep X6 (fun h => by have := (hown.lt _ h).1; omega) (X0.keep Br)
   replace hown := zBE hown X0
   replace hbs := Nat.le_trans hbs X0.size
   have hXm := X6
   replace E := (E.ext X0).step X6 (fun y hy h => by have := (hown.lt _ h).1; omega)
   have O9 : (w6).ownsRow base TRe 6 (.slice a27 (k + 1) c27) (k + 1) ((rows.take k).flatten ++ zPt a sa sc aa ac) := O27
   refine zBh (base := base) (n := (k + 1)) (m := (l.length - k)) (xs := ((rows.take k).flatten ++ zPt a sa sc aa ac)) (news := (rows.drop k).flatten) (size := 6) (bytes := 80) (v := (.slice a27 (k + 1) c27)) (by decide) Tryz.underlying23 zAH zEj zAs rfl (by decide) rfl O9 rfl (by rw [zBn (fun r hr => h6 r (List.mem_of_mem_drop hr)), hdl]) (hc2.ext E) ((fun u hu => hone u (by rw [zHR rows k]; exact List.mem_append_right _ hu))) (by unfold maxLen; omega) (by omega) (Nat.le_trans hbs hXm.size) ?_
   intro v7 w27 Ov7 Cv7 Dv7
   replace Br := Cv7.keep (fun h => by have := (O9.lt _ h).1; omega) Br
   replace E := E.step Cv7 (fun x hx h => absurd (O9.lt x h).1 (by omega))
   obtain ⟨oa3, oc3, rfl⟩ := zBY Ov7
   refine qA (.slice oa3 ((k + 1) + (l.length - k)) oc3) rfl ?_
   refine zAB (zAC (zAQ (zAI (zAY (zAI (zAI (zAY (zAI ?_))))))))
   refine zAS Tryz.results131 (v := (.slice oa3 ((k + 1) + (l.length - k)) oc3)) rfl ?_
   have hi := zOQ hx c0 c1 hp
   have hil : (zDa l a).length = k + 1 + (l.length - k) := by rw [hi]; simp; omega
   have hR9 := zAj.ext E (zAj.append (hR.drop k) (zAj.append (zAj.single ha0) (hR.take k)))
   rw [← hi] at hR9
   exact ⟨⟨_, _, by rw [hil], zMG (n0 := base) (by rw [List.flatten_append, List.flatten_append, List.flatten_singleton]; exact Ov7) hR9 hil (fun y h => .inl h) (fun y h => .inr (by omega))⟩, E⟩
  have kc1 := c1
  replace c1 := of_decide_eq_false c1
  refine zAR (zAC (zAW ?_))
  refine qM (.slice oa k oc) rfl ?_
  refine qV (zAG (vs := [(I6 x.kind), (.slice xsa x.set.length xsc), (.slice xaa x.args.length xac), (I6 x.mn), (I6 x.mx), (.bool x.neg)]) rfl zAb zAH rfl (Bz.cells rfl)) ?_
  refine zAu (ps := [(0, (.agg (R6 x xsa xsc xaa xac)))]) (c := (R6 x xsa xsc xaa xac)) (by decide) rfl Tryz.underlying23 zAH zAs (by decide) (by decide) (by kernel_rfl) ?_
  intro bq wq Nq
  have Fq := Nq.ge E
  have Oq_br := Nq.lt Br
  have Oq_bz := Nq.lt Bz
  replace Br := Nq.keep Br
  replace Bz := Nq.keep Bz
  replace hown := zBE hown Nq.ext
  replace hbs := Nat.le_trans hbs Nq.ext.size
  replace E := E.ext Nq.ext
  have Bq := Nq.blk
  refine zBh (base := base) (n := k) (m := 1) (xs := (rows.take k).flatten) (news := [(I6 x.kind), (.slice xsa x.set.length xsc), (.slice xaa x.args.length xac), (I6 x.mn), (I6 x.mx), (.bool x.neg)]) (size := 6) (bytes := 80) (v := (.slice oa k oc)) (by decide) Tryz.underlying23 zAH zEj zAs rfl (by decide) rfl hown rfl (rfl) (Bq.cells rfl) (by simp [Value.oneCell']) (by unfold maxLen; omega) (by omega) (hbs) ?_
  intro v8 w28 Ov8 Cv8 Dv8
  replace Br := Cv8.keep (fun h => by have := (hown.lt _ h).1; omega) Br
  replace Bz := Cv8.keep (fun h => by have := hO0 _ h; have := Nz.eq; omega) Bz
  replace E := E.step Cv8 (fun x hx h => absurd (hown.lt x h).1 (by omega))
  obtain ⟨oa2, oc2, rfl⟩ := zBY Ov8
  refine qA (.slice oa2 (k + 1) oc2) rfl ?_
  refine zAB (zAU (zAC (zAW ?_)))
  refine qV (zBQ (k := .i64) (a := (k : Int)) (b := 1) (c := (k : Int) + 1) rfl rfl (zBs (by omega))) ?_
  refine qM (I6 ((k : Int) + 1)) rfl ?_
  refine zAB (zAC ?_)
  exact ⟨l.length - (k + 1), by omega, k + 1, oa2, oc2, zBG.out ⟨rfl, rfl, rfl, rfl, rfl, rfl, trivial⟩, E, Br, (by omega), zOO hx c0 c1 hp, (by rw [hcx3]; exact Ov8), Nat.le_trans hbs Cv8.size, rfl⟩
 have khlt := hlt
 replace hlt := of_decide_eq_false hlt
 have hkk : k = l.length := by omega
 refine zBB (zAe (zAe (zAr (zAC (zAA ?_)))))
 refine qM (.slice oa k oc) rfl ?_
 refine qV (zAG (vs := [(I6 a.kind), (.slice sa a.set.length sc), (.slice aa a.args.length ac), (I6 a.mn), (I6 a.mx), (.bool a.neg)]) rfl zAb zAH rfl (Br.cells rfl)) ?_
 refine zAu (ps := [(0, (.agg (R6 a sa sc aa ac)))]) (c := (R6 a sa sc aa ac)) (by decide) rfl Tryz.underlying23 zAH zAs (by decide) (by decide) (by kernel_rfl) ?_
 intro bq wq Nq
 have Fq := Nq.ge E
 have Oq_br := Nq.lt Br
 replace Br := Nq.keep Br
 replace hown := zBE hown Nq.ext
 replace hbs := Nat.le_trans hbs Nq.ext.size
 replace E := E.ext Nq.ext
 have Bq := Nq.blk
 refine zBh (base := base) (n := k) (m := 1) (xs := (rows.take k).flatten) (news := [(I6 a.kind), (.slice sa a.set.length sc), (.slice aa a.args.length ac), (I6 a.mn), (I6 a.mx), (.bool a.neg)]) (size := 6) (bytes := 80) (v := (.slice oa k oc)) (by decide) Tryz.underlying23 zAH zEj zAs rfl (by decide) rfl hown rfl (rfl) (Bq.cells rfl) (by simp [Value.oneCell']) (by unfold maxLen; omega) (by omega) (hbs) ?_
 intro v6 w26 Ov6 Cv6 Dv6
 replace Br := Cv6.keep (fun h => by have := (hown.lt _ h).1; omega) Br
 replace E := E.step Cv6 (fun x hx h => absurd (hown.lt x h).1 (by omega))
 obtain ⟨oa4, oc4, rfl⟩ := zBY Ov6
 refine qA (.slice oa4 (k + 1) oc4) rfl ?_
 refine zAB (zAQ ?_)
 refine zAS Tryz.results131 (v := (.slice oa4 (k + 1) oc4)) rfl ?_
 have hi : zDa l a = l.take k ++ [a] := by rw [hkk, List.take_length]; exact zQV (by rw [hkk] at hp; exact hp)
 have hil : (zDa l a).length = k + 1 := by rw [hi]; simp; omega
 have hR9 := zAj.ext E (zAj.append (zAj.single ha0) (hR.take k))
 rw [← hi] at hR9
 exact ⟨⟨_, _, by rw [hil], zMG (n0 := base) (by rw [List.flatten_append, List.flatten_singleton]; exact Ov6) hR9 hil (fun y h => .inl h) (fun y h => .inr (by omega))⟩, E⟩
end Go.Proofs
namespace Go.Proofs
open Go Go.Eng Go.Sort
set_option maxRecDepth 100000
theorem zIu (w0 : World) : Ret Tryz.prog 130 #[] w0 fun v w => reG (fun b => w0.heap.size ≤ b) zEy v w ∧ Ext w0 w := by
 refine zAk Tryz.func130 rfl Tryz.ntmps130 (Nat.le_of_ble_eq_true rfl) ?_
 have E : Chg zAh w0 w0 := Chg.refl _ _
 refine zAA ?_
 refine zBD (c := #[(I6 0), (.slice none 0 0), (.slice none 0 0), (I6 0), (I6 0), (.bool false)]) (by decide) zAs rfl ?_
 intro bo wo No
 have Fo := No.ge E
 replace E := E.ext No.ext
 have Bo := No.blk
 refine zAB (zAA ?_)
 refine zAL rfl rfl (by decide) (zAT (vs := []) Tryz.func129 zMe zNY rfl) (zGN _) ?_
 rintro _ w9 ⟨rfl, X9⟩
 replace Bo := X9.keep Bo
 replace E := E.ext X9
 refine zAu (ps := [(0, (.agg #[(I6 0), (.slice none 0 0), (.slice none 0 0), (I6 0), (I6 0), (.bool false)]))]) (c := #[(I6 0), (.slice none 0 0), (.slice none 0 0), (I6 0), (I6 0), (.bool false)]) (by decide) rfl Tryz.underlying23 zAH zAs (by decide) (by decide) (by kernel_rfl) ?_
 intro bp wp Np
 have Fp := Np.ge E
 have Op_bo := Np.lt Bo
 replace Bo := Np.keep Bo
 replace E := E.ext Np.ext
 have Bp := Np.blk
 refine qV (zBW (ps := [(0, (I6 8)), (2, (.slice (some ⟨bp, 0, none⟩) 1 1))]) (v := (.agg #[(I6 8), (.slice none 0 0), (.slice (some ⟨bp, 0, none⟩) 1 1), (I6 0), (I6 0), (.bool false)])) rfl (by kernel_rfl)) ?_
 refine qW (#[(I6 8), (.slice none 0 0), (.slice (some ⟨bp, 0, none⟩) 1 1), (I6 0), (I6 0), (.bool false)]) rfl rfl zAH Bo ?_
 intro w1 S1
 replace Bp := S1.keep (by omega) Bp
 replace E := S1.stp E
 replace Bo := S1.blk
 refine zAB (zAQ ?_)
 refine zAm Tryz.results130 (vs := [(.int .i64 8), (.slice none 0 0), (.slice (some ⟨bp, 0, none⟩) 1 1), (.int .i64 0), (.int .i64 0), (.bool false)]) (b := bo) rfl zAb zAH rfl (Bo.cells rfl) ?_
 exact ⟨⟨_, _, _, _, rfl, zAc.of (set := []) (args := [zBH]) (zDE.nil _ _ _ _ _) (by simp) (.inr ⟨bp, 0, by show w0.heap.size ≤ bp; omega, rfl, zBM.one (Bp.cells rfl) (zBN _ _ 0)⟩)⟩, E⟩
theorem zKo (l : List Re) : (zGx l).length ≤ Re.sizes l := by
  induction l with
  | nil => simp [zGx, Re.sizes]
  | cons x l ih =>
    have h1 := x.size_eq
    have h2 := zCg x.args
    unfold zGx at *
    rw [List.flatMap_cons, List.length_append]
    simp only [Re.sizes]
    split
    · omega
    · split
      · simp only [List.length_nil]; omega
      · simp only [List.length_cons, List.length_nil]; omega
theorem zNW {l : List Re} {k : Nat} {x : Re} (h : l[k]? = some x) : zGx (l.take (k + 1)) = zGx (l.take k) ++ (if x.kind = 3 then x.args else if x.kind = 1 then [] else [x]) := by
 unfold zGx
 rw [List.take_add_one, h, List.flatMap_append]
 simp
theorem zKy (l : List Re) (k : Nat) : Re.sizes (l.take k) ≤ Re.sizes l := by
 conv => rhs; rw [← List.take_append_drop k l, Re.sizes_append]
 omega
theorem zGm {l : List Re} {k : Nat} {x : Re} (h : l[k]? = some x) (h0 : x.kind ≠ 0) (h1 : ((l.take k).any fun a => decide (a.kind = 0)) = false) : ((l.take (k + 1)).any fun a => decide (a.kind = 0)) = false := by
 rw [List.take_add_one, h, List.any_append, h1]
 simp [h0]
set_option maxHeartbeats 2000000 in
theorem scat_c (w0 : World) (S : Nat → Prop) (v : Value) (ts : List Re) (h : zCJ S w0 v ts) (hS : ∀ b, S b → b < w0.heap.size) (hok : ∀ x ∈ ts, zAq x) (hsz : Re.sizes ts ≤ 1000000) :
  Ret Tryz.prog 70 #[v] w0 fun r w => (∃ us, r = .agg us.toArray ∧ zAc (fun b => S b ∨ w0.heap.size ≤ b) w (zQp ts) us) ∧ Ext w0 w := by
 have h0 := h
 obtain ⟨la0, lc0, rfl, hlc, _⟩ := h
 have hls := zCg ts
 have hfl := zKo ts
 obtain ⟨hw0, hw1, hw2⟩ := zEV 3 zBJ (zGx ts)
 refine zAk Tryz.func70 rfl Tryz.ntmps70 (Nat.le_of_ble_eq_true rfl) ?_
 have E : Chg zAh w0 w0 := Chg.refl _ _
 refine zAA ?_
 refine zBD (c := #[(I6 0), (.slice none 0 0), (.slice none 0 0), (I6 0), (I6 0), (.bool false)]) (by decide) zAs rfl ?_
 intro bo wo No
 have Fo := No.ge E
 replace E := E.ext No.ext
 have Bo := No.blk
 refine zAB (zAA ?_)
 refine qA (.slice none 0 0) rfl ?_
 refine zAB (zAP (zAA ?_))
 refine qM (.slice la0 ts.length lc0) rfl ?_
 refine qV (zAV (ad := la0) (n := ts.length) (cap := lc0) Tryz.underlying23 rfl) ?_
 refine qM (I6 0) rfl ?_
 refine zAB (zAZ ?_)
 obtain ⟨base, hbase⟩ : ∃ base, base = wo.heap.size := ⟨_, rfl⟩
 have hob : bo < base := by rw [hbase]; exact Bo.lt
 have hwb : w0.heap.size ≤ bo := by have := No.eq; omega
 have hbs0 : base ≤ wo.heap.size := by omega
 refine zBA (fun nn_ σ W1 => ∃ (k : Nat) (oa : Option Addr) (oc : Nat) (m : Nat) (rw9 : List (List Value)), (∃ jj_, σ = zCl jj_ [(2, (P6 bo 0)), (6, (.slice la0 ts.length lc0)), (7, (I6 (ts.length : Int))), (8, (I6 (k : Int))), (3, (.slice oa m oc))]) ∧ Chg zAh w0 W1 ∧ Blk W1 bo #[(I6 0), (.slice none 0 0), (.slice none 0 0), (I6 0), (I6 0), (.bool false)] 25 ∧ (k ≤ ts.length) ∧ (m = (zGx (ts.take k)).length) ∧ (((ts.take k).any fun a => decide (a.kind = 0)) = false) ∧ (zAj S w0 (zGx (ts.take k)) rw9) ∧ (W1.ownsRow base TRe 6 (.slice oa m oc) m rw9.flatten) ∧ (base ≤ W1.heap.size) ∧ nn_ = ts.length - k) (n := ts.length - 0) ?_ ?_
 ·exact ⟨0, none, 0, 0, [], zBG.out ⟨rfl, rfl, rfl, rfl, rfl, trivial⟩, E, Bo, Nat.zero_le _, rfl, rfl, rfl, World.ownsRow_nil _ _ _ _, hbs0, rfl⟩
 clear E Bo
 rintro _ _ W1 ⟨k, oa, oc, m, rw9, ⟨j1, rfl⟩, E, Bo, hk, hm, hno, hR, hown, hbs, rfl⟩
 refine zAA ?_
 refine qV (zBS (k := .i64) (a := (k : Int)) (b := (ts.length : Int)) rfl rfl) ?_
 refine zAB (zAP ?_)
 refine zAM (b := decide (((k : Int) : Int) < (ts.length : Int))) rfl (fun hlt => ?_) (fun hlt => ?_)
 ·have khlt := hlt
  replace hlt := of_decide_eq_true hlt
  obtain ⟨x, hx⟩ := zAa (l := ts) (i := k) (by omega)
  obtain ⟨b, o, rfl, hcl⟩ := zCJ.cells h0 (by omega)
  obtain ⟨xs, hcx, hrx⟩ := hcl k x hx
  have hrx0 := hrx
  obtain ⟨xsa, xsc, xaa, xac, rfl, _, _, hxa⟩ := hrx.form
  have hxm := List.mem_of_getElem? hx
  have hxo := hok x hxm
  have hct := zNW hx
  have hcl2 := zKo (ts.take (k + 1))
  have hst := zKy ts (k + 1)
  have hO0 := fun k h => (hown.lt k h).2
  refine zAR (zAC (zAP (zAZ (zAA ?_))))
  refine qV (zAO (b := b) (o := o) (len := ts.length) (cap := lc0) (i := k) (o' := o + k * 6) rfl rfl rfl Tryz.underlying23 zAH (by omega) (by omega)) ?_
  refine qV (zAG (vs := [(I6 x.kind), (.slice xsa x.set.length xsc), (.slice xaa x.args.length xac), (I6 x.mn), (I6 x.mx), (.bool x.neg)]) rfl zAb zAH rfl (hcx.ext E)) ?_
  refine zAi (v := (.agg (R6 x xsa xsc xaa xac))) (c := (R6 x xsa xsc xaa xac)) (n := 6) (by decide) zAs rfl zAH rfl rfl rfl (by simp [Value.oneCell']) ?_
  intro bz wz Nz
  have Fz := Nz.ge E
  have Oz_bo := Nz.lt Bo
  replace Bo := Nz.keep Bo
  replace hown := zBE hown Nz.ext
  replace hbs := Nat.le_trans hbs Nz.ext.size
  replace E := E.ext Nz.ext
  have Bz := Nz.blk
  refine zAB (zAP (zAA ?_))
  refine qF bz 0 0 rfl Tryz.underlying25 rfl zAw rfl ?_
  refine qV (zAK (v := (I6 x.kind)) rfl zAf (Bz.cell rfl)) ?_
  refine qV (zAg (k := .i64) (a := x.kind) (b := 0) rfl rfl) ?_
  refine zAB ?_
  refine zAM (b := decide ((x.kind : Int) = 0)) rfl (fun c0 => ?_) (fun c0 => ?_)
  ·have kc0 := c0
   replace c0 := of_decide_eq_true c0
   refine zAA ?_
   refine zAL rfl rfl (by decide) (zAT (vs := []) Tryz.func129 zMe zNY rfl) (zGN _) ?_
   rintro _ w9 ⟨rfl, X9⟩
   replace Bo := X9.keep Bo
   replace Bz := X9.keep Bz
   replace hown := zBE hown X9
   replace hbs := Nat.le_trans hbs X9.size
   replace E := E.ext X9
   refine qW (#[(I6 0), (.slice none 0 0), (.slice none 0 0), (I6 0), (I6 0), (.bool false)]) rfl rfl zAH Bo ?_
   intro w4 S4
   replace Bz := S4.keep (by omega) Bz
   replace E := S4.stp E
   replace Bo := S4.blk
   refine zAB (zAQ (zAI (zAY (zAI (zAI (zAY (zAI ?_)))))))
   refine zAm Tryz.results70 (vs := [(.int .i64 0), (.slice none 0 0), (.slice none 0 0), (.int .i64 0), (.int .i64 0), (.bool false)]) (b := bo) rfl zAb zAH rfl (Bo.cells rfl) ?_
   refine ⟨⟨_, rfl, ?_⟩, E⟩
   unfold zQp
   rw [if_pos (List.any_eq_true.2 ⟨x, hxm, by simpa using c0⟩)]
   exact zBN _ _ _
  have kc0 := c0
  replace c0 := of_decide_eq_false c0
  refine zAR (zAC (zAA ?_))
  refine qF bz 0 0 rfl Tryz.underlying25 rfl zAw rfl ?_
  refine qV (zAK (v := (I6 x.kind)) rfl zAf (Bz.cell rfl)) ?_
  refine qV (zAg (k := .i64) (a := x.kind) (b := 3) rfl rfl) ?_
  refine zAB ?_
  refine zAM (b := decide ((x.kind : Int) = 3)) rfl (fun c3 => ?_) (fun c3 => ?_)
  ·have kc3 := c3
   replace c3 := of_decide_eq_true c3
   obtain ⟨xb, xo, _, rfl, hxres⟩ := hxa.resolve_left ((zBk hxo).1 (.inl c3))
   obtain ⟨qs, hqs, hqc⟩ := zBM.rows hxres
   rw [if_pos c3] at hct
   have hcll : (zGx (ts.take (k + 1))).length = (zGx (ts.take k)).length + x.args.length := by rw [hct, List.length_append]
   refine zAW ?_
   refine qM (.slice oa m oc) rfl ?_
   refine qF bz 0 2 rfl Tryz.underlying25 rfl zBI rfl ?_
   refine qV (zAK (v := (.slice (some ⟨xb, xo, none⟩) x.args.length xac)) rfl zAv (Bz.cell rfl)) ?_
   refine zBh (base := base) (n := m) (m := x.args.length) (xs := rw9.flatten) (news := qs.flatten) (size := 6) (bytes := 80) (v := (.slice oa m oc)) (by decide) Tryz.underlying23 zAH zEj zAs rfl (by decide) rfl hown rfl (by rw [zBn hqs.six, hqs.len]) (hqc.ext E) (hqs.one) (by unfold maxLen; omega) (by omega) (hbs) ?_
   intro v8 w28 Ov8 Cv8 Dv8
   replace Bo := Cv8.keep (fun h => by have := (hown.lt _ h).1; omega) Bo
   replace E := E.step Cv8 (fun x hx h => absurd (hown.lt x h).1 (by omega))
   obtain ⟨oa2, oc2, rfl⟩ := zBY Ov8
   refine qA (.slice oa2 (m + x.args.length) oc2) rfl ?_
   refine zAB (zAU (zAC (zAW ?_)))
   refine qV (zBQ (k := .i64) (a := (k : Int)) (b := 1) (c := (k : Int) + 1) rfl rfl (zBs (by omega))) ?_
   refine qM (I6 ((k : Int) + 1)) rfl ?_
   refine zAB (zAC ?_)
   exact ⟨ts.length - (k + 1), by omega, k + 1, oa2, oc2, m + x.args.length, rw9 ++ qs, zBG.out ⟨rfl, rfl, rfl, rfl, rfl, trivial⟩, E, Bo, (by omega), (by rw [hcll, hm]), zGm hx c0 hno, (by rw [hct]; exact zAj.append hqs hR), (by rw [List.flatten_append]; exact Ov8), Nat.le_trans hbs Cv8.size, rfl⟩
  have kc3 := c3
  replace c3 := of_decide_eq_false c3
  rw [if_neg c3] at hct
  refine zAA ?_
  refine qF bz 0 0 rfl Tryz.underlying25 rfl zAw rfl ?_
  refine qV (zAK (v := (I6 x.kind)) rfl zAf (Bz.cell rfl)) ?_
  refine qV (zBz (k := .i64) (a := x.kind) (b := 1) rfl rfl) ?_
  refine zAB ?_
  refine zAM (b := decide ((x.kind : Int) ≠ 1)) rfl (fun c1 => ?_) (fun c1 => ?_)
  ·have kc1 := c1
   replace c1 := of_decide_eq_true c1
   rw [if_neg c1] at hct
   have hcll : (zGx (ts.take (k + 1))).length = (zGx (ts.take k)).length + 1 := by rw [hct, List.length_append]; rfl
   refine zAW ?_
   refine qM (.slice oa m oc) rfl ?_
   refine qV (zAG (vs := [(I6 x.kind), (.slice xsa x.set.length xsc), (.slice xaa x.args.length xac), (I6 x.mn), (I6 x.mx), (.bool x.neg)]) rfl zAb zAH rfl (Bz.cells rfl)) ?_
   refine zAu (ps := [(0, (.agg (R6 x xsa xsc xaa xac)))]) (c := (R6 x xsa xsc xaa xac)) (by decide) rfl Tryz.underlying23 zAH zAs (by decide) (by decide) (by kernel_rfl) ?_
   intro bq wq Nq
   have Fq := Nq.ge E
   have Oq_bo := Nq.lt Bo
   have Oq_bz := Nq.lt Bz
   replace Bo := Nq.keep Bo
   replace Bz := Nq.keep Bz
   replace hown := zBE hown Nq.ext
   replace hbs := Nat.le_trans hbs Nq.ext.size
   replace E := E.ext Nq.ext
   have Bq := Nq.blk
   refine zBh (base := base) (n := m) (m := 1) (xs := rw9.flatten) (news := [(I6 x.kind), (.slice xsa x.set.length xsc), (.slice xaa x.args.length xac), (I6 x.mn), (I6 x.mx), (.bool x.neg)]) (size := 6) (bytes := 80) (v := (.slice oa m oc)) (by decide) Tryz.underlying23 zAH zEj zAs rfl (by decide) rfl hown rfl (rfl) (Bq.cells rfl) (by simp [Value.oneCell']) (by unfold maxLen; omega) (by omega) (hbs) ?_
   intro v7 w27 Ov7 Cv7 Dv7
   replace Bo := Cv7.keep (fun h => by have := (hown.lt _ h).1; omega) Bo
   replace Bz := Cv7.keep (fun h => by have := hO0 _ h; have := Nz.eq; omega) Bz
   replace E := E.step Cv7 (fun x hx h => absurd (hown.lt x h).1 (by omega))
   obtain ⟨oa3, oc3, rfl⟩ := zBY Ov7
   refine qA (.slice oa3 (m + 1) oc3) rfl ?_
   refine zAB (zAU (zAC (zAW ?_)))
   refine qV (zBQ (k := .i64) (a := (k : Int)) (b := 1) (c := (k : Int) + 1) rfl rfl (zBs (by omega))) ?_
   refine qM (I6 ((k : Int) + 1)) rfl ?_
   refine zAB (zAC ?_)
   exact ⟨ts.length - (k + 1), by omega, k + 1, oa3, oc3, m + 1, rw9 ++ [zPt x xsa xsc xaa xac], zBG.out ⟨rfl, rfl, rfl, rfl, rfl, trivial⟩, E, Bo, (by omega), (by rw [hcll, hm]), zGm hx c0 hno, (by rw [hct]; exact zAj.append (zAj.single hrx0) hR), (by rw [List.flatten_append, List.flatten_singleton]; exact Ov7), Nat.le_trans hbs Cv7.size, rfl⟩
  have kc1 := c1
  replace c1 := of_decide_eq_false c1
  rw [if_pos (by simpa using c1), List.append_nil] at hct
  refine zAR (zAU (zAC (zAW ?_)))
  refine qV (zBQ (k := .i64) (a := (k : Int)) (b := 1) (c := (k : Int) + 1) rfl rfl (zBs (by omega))) ?_
  refine qM (I6 ((k : Int) + 1)) rfl ?_
  refine zAB (zAC ?_)
  exact ⟨ts.length - (k + 1), by omega, k + 1, oa, oc, m, rw9, zBG.out ⟨rfl, rfl, rfl, rfl, rfl, trivial⟩, E, Bo, (by omega), (by rw [hct, hm]), zGm hx c0 hno, (by rw [hct]; exact hR), hown, hbs, rfl⟩
 have khlt := hlt
 replace hlt := of_decide_eq_false hlt
 have hkk : k = ts.length := by omega
 rw [hkk, List.take_length] at hno hR hm
 have hcq : zQp ts = zBy 3 zBJ (zGx ts) := by unfold zQp; rw [hno]; rfl
 rw [hcq]
 obtain ⟨hoc, hocl⟩ := zDz hown (hR.ext E) hm.symm
 refine zBB (zAe (zAe (zAr (zAC (zAP (zAA ?_))))))
 refine qM (.slice oa m oc) rfl ?_
 refine qV (zAV (ad := oa) (n := m) (cap := oc) Tryz.underlying23 rfl) ?_
 refine qV (zAg (k := .i64) (a := (m : Int)) (b := 0) rfl rfl) ?_
 refine zAB ?_
 refine zAM (b := decide (((m : Int) : Int) = 0)) rfl (fun h0l => ?_) (fun h0l => ?_)
 ·have kh0l := h0l
  replace h0l := of_decide_eq_true h0l
  refine zAA ?_
  refine zAL rfl rfl (by decide) (zAT (vs := []) Tryz.func72 nm72 bd72 rfl) (zFy _) ?_
  rintro _ w29 ⟨rfl, X29⟩
  replace Bo := X29.keep Bo
  replace E := E.ext X29
  refine qW (#[(I6 1), (.slice none 0 0), (.slice none 0 0), (I6 0), (I6 0), (.bool false)]) rfl rfl zAH Bo ?_
  intro w8 S8
  replace E := S8.stp E
  replace Bo := S8.blk
  refine zAB (zAQ (zAI ?_))
  refine zAm Tryz.results70 (vs := [(.int .i64 1), (.slice none 0 0), (.slice none 0 0), (.int .i64 0), (.int .i64 0), (.bool false)]) (b := bo) rfl zAb zAH rfl (Bo.cells rfl) ?_
  exact ⟨⟨_, rfl, by rw [hw0 (by omega)]; exact zBN _ _ _⟩, E⟩
 have kh0l := h0l
 replace h0l := of_decide_eq_false h0l
 refine zAR (zAC (zAP (zAA ?_)))
 refine qM (.slice oa m oc) rfl ?_
 refine qV (zAV (ad := oa) (n := m) (cap := oc) Tryz.underlying23 rfl) ?_
 refine qV (zAg (k := .i64) (a := (m : Int)) (b := 1) rfl rfl) ?_
 refine zAB ?_
 refine zAM (b := decide (((m : Int) : Int) = 1)) rfl (fun h1l => ?_) (fun h1l => ?_)
 ·have kh1l := h1l
  replace h1l := of_decide_eq_true h1l
  obtain ⟨x, hx⟩ := zAa (l := zGx ts) (i := 0) (by omega)
  obtain ⟨lb, hlb1, hlb2, hlb3, hcl⟩ := hocl.resolve_left (fun h => by rw [h] at hx; simp at hx)
  subst hlb3
  obtain ⟨xs, hcx, hrx⟩ := hcl 0 x hx
  have hrx0 := hrx
  obtain ⟨sa, sc, aa, ac, rfl, _, _, _⟩ := hrx.form
  have hS5 : Chg (fun y => y = bo) (W1) (W1) := Chg.refl _ _
  refine zAA ?_
  refine qM (.slice (some ⟨lb, 0, none⟩) m oc) rfl ?_
  refine qV (zAO (b := lb) (o := 0) (len := m) (cap := oc) (i := 0) (o' := 0) rfl rfl rfl Tryz.underlying23 zAH (by omega) (by omega)) ?_
  refine qV (zAG (vs := [(I6 x.kind), (.slice sa x.set.length sc), (.slice aa x.args.length ac), (I6 x.mn), (I6 x.mx), (.bool x.neg)]) rfl zAb zAH rfl (hcx)) ?_
  refine qW (R6 x sa sc aa ac) rfl rfl zAH Bo ?_
  intro w10 S10
  replace hS5 := S10.chg
  replace E := S10.stp E
  replace Bo := S10.blk
  refine zAB (zAQ (zAI ?_))
  refine zAm Tryz.results70 (vs := [(.int .i64 x.kind), (.slice sa x.set.length sc), (.slice aa x.args.length ac), (.int .i64 x.mn), (.int .i64 x.mx), (.bool x.neg)]) (b := bo) rfl zAb zAH rfl (Bo.cells rfl) ?_
  exact ⟨⟨_, rfl, by rw [hw1 x (by omega) hx]; exact zAc.mono (fun y hy => .inl hy) x (zAc.chg hS5 (fun y hy h => by have h1 := hS y hy; have h2 : y = bo := h; omega) x hrx0)⟩, E⟩
 have kh1l := h1l
 replace h1l := of_decide_eq_false h1l
 have hS5 : Chg (fun y => y = bo) (W1) (W1) := Chg.refl _ _
 refine zAR (zAC (zAA ?_))
 refine qM (.slice oa m oc) rfl ?_
 refine qV (zBW (ps := [(0, (I6 3)), (2, (.slice oa m oc))]) (v := (.agg #[(I6 3), (.slice none 0 0), (.slice oa m oc), (I6 0), (I6 0), (.bool false)])) rfl (by kernel_rfl)) ?_
 refine qW (#[(I6 3), (.slice none 0 0), (.slice oa m oc), (I6 0), (I6 0), (.bool false)]) rfl rfl zAH Bo ?_
 intro w11 S11
 replace hS5 := S11.chg
 replace E := S11.stp E
 replace Bo := S11.blk
 refine zAB (zAQ ?_)
 refine zAm Tryz.results70 (vs := [(.int .i64 3), (.slice none 0 0), (.slice oa m oc), (.int .i64 0), (.int .i64 0), (.bool false)]) (b := bo) rfl zAb zAH rfl (Bo.cells rfl) ?_
 refine ⟨⟨_, rfl, ?_⟩, E⟩
 rw [hw2 (by omega)]
 subst hm
 refine zAc.of (set := []) (zDE.nil _ _ _ _ _) hoc ?_
 rcases hocl with h | ⟨ob, hob1, hob2, hob3, hclo⟩
 ·exact .inl h
 refine .inr ⟨ob, 0, .inr (by omega), hob3, zCx fun i t ht => ?_⟩
 obtain ⟨vs, h6, h7⟩ := hclo i t ht
 exact ⟨vs, h6.chg hS5 (fun h => by have h' : ob = bo := h; omega), zAc.mono (fun y hy => .inl hy) t (zAc.chg hS5 (fun y hy h => by have h1 := hS y hy; have h2 : y = bo := h; omega) t h7)⟩
end Go.Proofs
namespace Go.Proofs
open Go Go.Eng Go.Sort
set_option maxRecDepth 100000
def zEL (y : Re) (m x : Int) : Re := if y.kind = 0 ∧ 0 < m then y else if y.kind ≤ 1 ∨ x = 0 then zBJ else if m = 1 ∧ x = 1 then y else .mk 6 [] [y] m x false
set_option maxHeartbeats 2000000 in
theorem zNm (w0 : World) (S : Nat → Prop) (y : Re) (m x : Int) (vs : List Value) (hy : zAc S w0 y vs) (hS : ∀ b, S b → b < w0.heap.size) :
  Ret Tryz.prog 73 #[.agg vs.toArray, .int .i64 m, .int .i64 x] w0 fun r w => (∃ us, r = .agg us.toArray ∧ zAc (fun b => S b ∨ w0.heap.size ≤ b) w (zEL y m x) us) ∧ Ext w0 w := by
 have hy0 := hy
 obtain ⟨sa, sc, aa, ac, rfl, _, _, _⟩ := hy.form
 refine zAk Tryz.func73 rfl Tryz.ntmps73 (Nat.le_of_ble_eq_true rfl) ?_
 have E : Chg zAh w0 w0 := Chg.refl _ _
 refine zAA ?_
 refine zBL (v := (.agg (R6 y sa sc aa ac))) (c := (R6 y sa sc aa ac)) (by decide) rfl rfl ?_
 intro br wr Nr
 have Fr := Nr.ge E
 replace E := E.ext Nr.ext
 have Br := Nr.blk
 refine zBD (c := #[(I6 0), (.slice none 0 0), (.slice none 0 0), (I6 0), (I6 0), (.bool false)]) (by decide) zAs rfl ?_
 intro bo wo No
 have Fo := No.ge E
 have Oo_br := No.lt Br
 replace Br := No.keep Br
 replace E := E.ext No.ext
 have Bo := No.blk
 refine zAB (zAP (zAA ?_))
 refine qF br 0 0 rfl Tryz.underlying25 rfl zAw rfl ?_
 refine qV (zAK (v := (I6 y.kind)) rfl zAf (Br.cell rfl)) ?_
 obtain ⟨e1, he1⟩ : ∃ e, (decide ((y.kind : Int) = 0)) = e := ⟨_, rfl⟩
 refine qV ((zAg (k := .i64) (a := y.kind) (b := 0) rfl rfl).trans (by rw [he1]; try rfl)) ?_
 refine qM (.bool e1) rfl ?_
 refine qG (.bool e1) (yU e1 (I6 m)) (by cases e1 <;> first | exact gA | exact gB | exact .inl ⟨rfl, zAn (v := (I6 m)) rfl⟩) ?_
 obtain ⟨e2, he2⟩ : ∃ e, (decide ((0 : Int) < m)) = e := ⟨_, rfl⟩
 refine qG (.bool e1) (yU e1 (.bool e2)) (by cases e1 <;> first | exact gA | exact gB | exact .inl ⟨rfl, (zCM (k := .i64) (a := m) (b := 0) rfl rfl).trans (by rw [he2]; try rfl)⟩) ?_
 obtain ⟨e3, he3⟩ : ∃ e, (e1 && e2) = e := ⟨_, rfl⟩
 refine qV (zAd (b := e1) (v := .bool e3) rfl (by rw [← he3]; cases e1 <;> rfl)) ?_
 refine zAB ?_
 subst he3
 subst he2
 subst he1
 have hob : w0.heap.size ≤ bo := by have := No.eq; have := Nr.ext.size; omega
 refine zAM (b := ((decide ((y.kind : Int) = 0)) && (decide ((0 : Int) < m)))) rfl (fun g0 => ?_) (fun g0 => ?_)
 ·have kg0 := g0
  have hN1 : zEL y m x = y := by unfold zEL; simp at g0; rw [if_pos g0]
  have hR : zAc S (wo) y _ := zAc.ext E y hy0
  refine zAA ?_
  refine qV (zAG (vs := [(I6 y.kind), (.slice sa y.set.length sc), (.slice aa y.args.length ac), (I6 y.mn), (I6 y.mx), (.bool y.neg)]) rfl zAb zAH rfl (Br.cells rfl)) ?_
  refine qW (R6 y sa sc aa ac) rfl rfl zAH Bo ?_
  intro w5 S5
  replace hR := zAc.chg S5.chg (fun z hz h => by have h2 : z = bo := h; have := hS z hz; omega) y hR
  replace Br := S5.keep (by omega) Br
  replace E := S5.stp E
  replace Bo := S5.blk
  refine zAB (zAQ (zAI ?_))
  refine zAm Tryz.results73 (vs := [(.int .i64 y.kind), (.slice sa y.set.length sc), (.slice aa y.args.length ac), (.int .i64 y.mn), (.int .i64 y.mx), (.bool y.neg)]) (b := bo) rfl zAb zAH rfl (Bo.cells rfl) ?_
  exact ⟨⟨_, rfl, by rw [hN1]; exact zAc.mono (fun z hz => .inl hz) y hR⟩, E⟩
 ·have kg0 := g0
  refine zAR (zAC (zAP (zAA ?_)))
  refine qF br 0 0 rfl Tryz.underlying25 rfl zAw rfl ?_
  refine qV (zAK (v := (I6 y.kind)) rfl zAf (Br.cell rfl)) ?_
  obtain ⟨e6, he6⟩ : ∃ e, (decide ((y.kind : Int) ≤ 1)) = e := ⟨_, rfl⟩
  refine qV ((zDu (k := .i64) (a := y.kind) (b := 1) rfl rfl).trans (by rw [he6]; try rfl)) ?_
  refine qM (.bool e6) rfl ?_
  refine qG (.bool e6) (nU e6 (I6 x)) (by cases e6 <;> first | exact gA | exact gB | exact .inl ⟨rfl, zAn (v := (I6 x)) rfl⟩) ?_
  obtain ⟨e7, he7⟩ : ∃ e, (decide ((x : Int) = 0)) = e := ⟨_, rfl⟩
  refine qG (.bool e6) (nU e6 (.bool e7)) (by cases e6 <;> first | exact gA | exact gB | exact .inl ⟨rfl, (zAg (k := .i64) (a := x) (b := 0) rfl rfl).trans (by rw [he7]; try rfl)⟩) ?_
  obtain ⟨e8, he8⟩ : ∃ e, (e6 || e7) = e := ⟨_, rfl⟩
  refine qV (zAd (b := e6) (v := .bool e8) rfl (by rw [← he8]; cases e6 <;> rfl)) ?_
  refine zAB ?_
  subst he8
  subst he7
  subst he6
  refine zAM (b := ((decide ((y.kind : Int) ≤ 1)) || (decide ((x : Int) = 0)))) rfl (fun g1 => ?_) (fun g1 => ?_)
  ·have kg1 := g1
   have hN1 : zEL y m x = zBJ := by unfold zEL; simp at g0 g1; rw [if_neg (by omega), if_pos g1]
   refine zAA ?_
   refine zAL rfl rfl (by decide) (zAT (vs := []) Tryz.func72 nm72 bd72 rfl) (zFy _) ?_
   rintro _ w29 ⟨rfl, X29⟩
   replace Br := X29.keep Br
   replace Bo := X29.keep Bo
   replace E := E.ext X29
   refine qW (#[(I6 1), (.slice none 0 0), (.slice none 0 0), (I6 0), (I6 0), (.bool false)]) rfl rfl zAH Bo ?_
   intro w10 S10
   replace Br := S10.keep (by omega) Br
   replace E := S10.stp E
   replace Bo := S10.blk
   refine zAB (zAQ (zAI ?_))
   refine zAm Tryz.results73 (vs := [(.int .i64 1), (.slice none 0 0), (.slice none 0 0), (.int .i64 0), (.int .i64 0), (.bool false)]) (b := bo) rfl zAb zAH rfl (Bo.cells rfl) ?_
   exact ⟨⟨_, rfl, by rw [hN1]; exact zBN _ _ _⟩, E⟩
  ·have kg1 := g1
   refine zAR (zAC (zAP (zAA ?_)))
   refine qM (I6 m) rfl ?_
   obtain ⟨e11, he11⟩ : ∃ e, (decide ((m : Int) = 1)) = e := ⟨_, rfl⟩
   refine qV ((zAg (k := .i64) (a := m) (b := 1) rfl rfl).trans (by rw [he11]; try rfl)) ?_
   refine qM (.bool e11) rfl ?_
   refine qG (.bool e11) (yU e11 (I6 x)) (by cases e11 <;> first | exact gA | exact gB | exact .inl ⟨rfl, zAn (v := (I6 x)) rfl⟩) ?_
   obtain ⟨e12, he12⟩ : ∃ e, (decide ((x : Int) = 1)) = e := ⟨_, rfl⟩
   refine qG (.bool e11) (yU e11 (.bool e12)) (by cases e11 <;> first | exact gA | exact gB | exact .inl ⟨rfl, (zAg (k := .i64) (a := x) (b := 1) rfl rfl).trans (by rw [he12]; try rfl)⟩) ?_
   obtain ⟨e13, he13⟩ : ∃ e, (e11 && e12) = e := ⟨_, rfl⟩
   refine qV (zAd (b := e11) (v := .bool e13) rfl (by rw [← he13]; cases e11 <;> rfl)) ?_
   refine zAB ?_
   subst he13
   subst he12
   subst he11
   refine zAM (b := ((decide ((m : Int) = 1)) && (decide ((x : Int) = 1)))) rfl (fun g2 => ?_) (fun g2 => ?_)
   ·have kg2 := g2
    have hN1 : zEL y m x = y := by unfold zEL; simp at g0 g1 g2; rw [if_neg (by omega), if_neg (by omega), if_pos g2]
    have hR : zAc S (wo) y _ := zAc.ext E y hy0
    refine zAA ?_
    refine qV (zAG (vs := [(I6 y.kind), (.slice sa y.set.length sc), (.slice aa y.args.length ac), (I6 y.mn), (I6 y.mx), (.bool y.neg)]) rfl zAb zAH rfl (Br.cells rfl)) ?_
    refine qW (R6 y sa sc aa ac) rfl rfl zAH Bo ?_
    intro w15 S15
    replace hR := zAc.chg S15.chg (fun z hz h => by have h2 : z = bo := h; have := hS z hz; omega) y hR
    replace Br := S15.keep (by omega) Br
    replace E := S15.stp E
    replace Bo := S15.blk
    refine zAB (zAQ (zAI ?_))
    refine zAm Tryz.results73 (vs := [(.int .i64 y.kind), (.slice sa y.set.length sc), (.slice aa y.args.length ac), (.int .i64 y.mn), (.int .i64 y.mx), (.bool y.neg)]) (b := bo) rfl zAb zAH rfl (Bo.cells rfl) ?_
    exact ⟨⟨_, rfl, by rw [hN1]; exact zAc.mono (fun z hz => .inl hz) y hR⟩, E⟩
   ·have kg2 := g2
    have hN1 : zEL y m x = .mk 6 [] [y] m x false := by unfold zEL; simp at g0 g1 g2; rw [if_neg (by omega), if_neg (by omega), if_neg (by omega)]
    have hR : zAc S (wo) y _ := zAc.ext E y hy0
    refine zAR (zAC (zAA ?_))
    refine qM (I6 m) rfl ?_
    refine qM (I6 x) rfl ?_
    refine qV (zAG (vs := [(I6 y.kind), (.slice sa y.set.length sc), (.slice aa y.args.length ac), (I6 y.mn), (I6 y.mx), (.bool y.neg)]) rfl zAb zAH rfl (Br.cells rfl)) ?_
    refine zAu (ps := [(0, (.agg (R6 y sa sc aa ac)))]) (c := (R6 y sa sc aa ac)) (by decide) rfl Tryz.underlying23 zAH zAs (by decide) (by decide) (by kernel_rfl) ?_
    intro bq wq Nq
    have Fq := Nq.ge E
    have Oq_br := Nq.lt Br
    have Oq_bo := Nq.lt Bo
    replace Br := Nq.keep Br
    replace Bo := Nq.keep Bo
    replace hR := zAc.ext Nq.ext y hR
    replace E := E.ext Nq.ext
    have Bq := Nq.blk
    refine qV (zBW (ps := [(0, (I6 6)), (3, (I6 m)), (4, (I6 x)), (2, (.slice (some ⟨bq, 0, none⟩) 1 1))]) (v := (.agg #[(I6 6), (.slice none 0 0), (.slice (some ⟨bq, 0, none⟩) 1 1), (I6 m), (I6 x), (.bool false)])) rfl (by kernel_rfl)) ?_
    refine qW (#[(I6 6), (.slice none 0 0), (.slice (some ⟨bq, 0, none⟩) 1 1), (I6 m), (I6 x), (.bool false)]) rfl rfl zAH Bo ?_
    intro w16 S16
    replace hR := zAc.chg S16.chg (fun z hz h => by have h2 : z = bo := h; have := hS z hz; omega) y hR
    replace Br := S16.keep (by omega) Br
    replace Bq := S16.keep (by omega) Bq
    replace E := S16.stp E
    replace Bo := S16.blk
    refine zAB (zAQ ?_)
    refine zAm Tryz.results73 (vs := [(.int .i64 6), (.slice none 0 0), (.slice (some ⟨bq, 0, none⟩) 1 1), (.int .i64 m), (.int .i64 x), (.bool false)]) (b := bo) rfl zAb zAH rfl (Bo.cells rfl) ?_
    exact ⟨⟨_, rfl, by rw [hN1]; exact zAc.of (set := []) (args := [y]) (zDE.nil _ _ _ _ _) (by simp) (.inr ⟨bq, 0, .inr (by omega), rfl, zBM.one (Bq.cells rfl) (zAc.mono (fun z hz => .inl hz) y hR)⟩)⟩, E⟩
def zNh (k : Int) : Re := if k = 7 then zBH else zEy
def zMh (k : Int) : Re := if k = 7 then zEy else zBH
def jo (N : Re) (acc : List Re) (p : Re) : List Re := if zBT p N = true then acc else zDa acc p
theorem zMt (N : Re) : ∀ (l acc : List Re), l.foldl (jo N) acc = (zEm (fun b => zBT b N) l).foldl zDa acc
  | [], acc => rfl
  | p :: l, acc => by
    have ih := zMt N l (jo N acc p)
    rw [List.foldl_cons, ih]
    unfold jo zEm
    by_cases h : zBT p N = true
    · rw [if_pos h, List.filter_cons_of_neg (by simp [h])]
    · rw [if_neg h, List.filter_cons_of_pos (by simp [h]), List.foldl_cons]
theorem zMv : ∀ {l : List Re} {a x : Re}, x ∈ zDa l a → x = a ∨ x ∈ l
  | [], a, x, h => by simpa [zDa] using h
  | b :: l, a, x, h => by
    simp only [zDa] at h
    split at h
    · exact .inr h
    · split at h
      · rcases List.mem_cons.1 h with h | h
        · exact .inl h
        · exact .inr h
      · rcases List.mem_cons.1 h with h | h
        · exact .inr (by simp [h])
        · rcases zMv h with h | h
          · exact .inl h
          · exact .inr (by simp [h])
theorem zMr {N : Re} : ∀ {l acc : List Re} {x : Re}, x ∈ l.foldl (jo N) acc → x ∈ acc ∨ x ∈ l
  | [], acc, x, h => .inl h
  | p :: l, acc, x, h => by
    rw [List.foldl_cons] at h
    rcases zMr h with h | h
    · unfold jo at h
      split at h
      · exact .inl h
      · rcases zMv h with h | h
        · exact .inr (by simp [h])
        · exact .inl h
    · exact .inr (by simp [h])
theorem zMs {N : Re} : ∀ (l acc : List Re), (l.foldl (jo N) acc).length ≤ acc.length + l.length
  | [], acc => by simp
  | p :: l, acc => by
    have ih := zMs (N := N) l (jo N acc p)
    have h : (jo N acc p).length ≤ acc.length + 1 := by
      unfold jo
      split
      · omega
      · exact zMw
    rw [List.foldl_cons, List.length_cons]
    omega
theorem zIr {k : Int} {l : List Re} (h : ∀ x ∈ l, zAq x) (hz : Re.sizes l ≤ 1000000) : ∀ x ∈ zBO k l, zAq x ∧ x.size ≤ 1000000 := by
 intro x hx
 refine ⟨zKY h x hx, ?_⟩
 obtain ⟨y, hy, ⟨_, h1⟩ | ⟨_, rfl⟩⟩ := zCy.1 hx
 ·have := zDp hy; have := zDp h1; have := y.size_eq; omega
 have := zDp hy; omega
theorem zLT {k : Int} {l : List Re} {i : Nat} {x : Re} (h : l[i]? = some x) : zBO k (l.take (i + 1)) = zBO k (l.take i) ++ (if x.kind = k then x.args else [x]) := by
 unfold zBO
 rw [List.take_add_one, h, List.flatMap_append]
 simp
theorem zOY {k : Int} {l : List Re} {i : Nat} {x : Re} (h : x ∈ zBO k (l.take i)) : x ∈ zBO k l := by
 obtain ⟨y, hy, h1⟩ := zCy.1 h
 exact zCy.2 ⟨y, List.mem_of_mem_take hy, h1⟩
theorem zQT {k : Int} {l : List Re} (h : (l.any fun a => zBT a (zNh k)) = false) : zIn k l (zNh k) (zMh k) = zBy k (zMh k) ((zBO k l).foldl (jo (zMh k)) []) := by
 unfold zIn
 rw [h, zMt]
 rfl
theorem zQU {k : Int} {N : Re} {ts : List Re} (hok : ∀ x ∈ ts, zAq x) (hz : Re.sizes ts ≤ 1000000) {i : Nat} : ∀ x ∈ (zBO k (ts.take i)).foldl (jo N) [], zAq x ∧ x.size ≤ 1000000 := fun x hx => by
 rcases zMr hx with h | h
 ·cases h
 exact zIr hok hz x (zOY h)
theorem zLF {k : Int} {ts P : List Re} {x : Re} (hok : ∀ x ∈ ts, zAq x) (hz : Re.sizes ts ≤ 1000000) (hx : x ∈ ts) (hP : P = if x.kind = k then x.args else [x]) : ∀ y ∈ P, zAq y ∧ y.size ≤ 1000000 := fun y hy => by
 refine zIr (k := k) hok hz y (zCy.2 ⟨x, hx, ?_⟩)
 rw [hP] at hy
 split at hy
 ·rename_i h; exact .inl ⟨h, hy⟩
 rename_i h; exact .inr ⟨h, by simpa using hy⟩
theorem rs_mk2 {w : World} {S : Nat → Prop} {a : Option Addr} {c : Nat} {l : List Re} {k : Int} (h : zCJ S w (.slice a l.length c) l) : zAc S w (.mk k [] l 0 0 false) [.int .i64 k, .slice none 0 0, .slice a l.length c, .int .i64 0, .int .i64 0, .bool false] := by
 obtain ⟨aa, ac, h1, h2, h3⟩ := h
 simp only [Value.slice.injEq, true_and] at h1
 obtain ⟨rfl, rfl⟩ := h1
 exact zAc.of (set := []) (zDE.nil _ _ _ _ _) h2 h3
set_option maxHeartbeats 4000000 in
theorem zLw (w0 : World) (S : Nat → Prop) (k : Int) (v : Value) (ts : List Re) (h : zCJ S w0 v ts) (hS : ∀ b, S b → b < w0.heap.size) (hk : k = 4 ∨ k = 7) (hok : ∀ x ∈ ts, zAq x) (hsz : Re.sizes ts ≤ 1000000) :
  Ret Tryz.prog 71 #[.int .i64 k, v] w0 fun r w => (∃ us, r = .agg us.toArray ∧ zAc (fun b => S b ∨ w0.heap.size ≤ b) w (zIn k ts (zNh k) (zMh k)) us) ∧ Ext w0 w := by
 have h0 := h
 obtain ⟨la0, lc0, rfl, hlc, _⟩ := h
 have hls := zCg ts
 refine zAk Tryz.func71 rfl Tryz.ntmps71 (Nat.le_of_ble_eq_true rfl) ?_
 have E : Chg zAh w0 w0 := Chg.refl _ _
 refine zAA ?_
 refine zBD (c := #[(I6 0), (.slice none 0 0), (.slice none 0 0), (I6 0), (I6 0), (.bool false)]) (by decide) zAs rfl ?_
 intro bo wo No
 have Fo := No.ge E
 replace E := E.ext No.ext
 have Bo := No.blk
 refine zAB (zAA ?_)
 refine zAL rfl rfl (by decide) (zAT (vs := []) Tryz.func129 zMe zNY rfl) (zGN _) ?_
 rintro _ w9 ⟨rfl, X9⟩
 replace Bo := X9.keep Bo
 replace E := E.ext X9
 obtain ⟨T, hT⟩ : ∃ T : Nat → Prop, T = fun b => S b ∨ (w0.heap.size ≤ b ∧ b ≠ bo) := ⟨_, rfl⟩
 have hwo : w0.heap.size ≤ bo := by have := No.eq; omega
 have hST : ∀ b, S b → T b := fun b hb => by rw [hT]; exact .inl hb
 have hTo : ∀ b, T b → b ≠ bo := fun b hb e => by rw [hT] at hb; rcases hb with h1 | h1; have := hS b h1; omega; exact h1.2 e
 have hTn : ∀ b, bo < b → T b := fun b hb => by rw [hT]; exact .inr ⟨by omega, by omega⟩
 have hTr : ∀ b, T b → S b ∨ w0.heap.size ≤ b := fun b hb => by rw [hT] at hb; exact hb.imp id (fun h => h.1)
 refine zAL rfl rfl (by decide) (zAT (vs := []) Tryz.func130 nm130 bd130 rfl) (zIu _) ?_
 rintro _ w19 ⟨⟨za, zc, ya, yc, rfl, hall⟩, X19⟩
 replace Bo := X19.keep Bo
 replace E := E.ext X19
 obtain ⟨n1, hn1⟩ : ∃ n, n = (w19).heap.size := ⟨_, rfl⟩
 have hob : bo < w9.heap.size := by have := X9.size; have := No.eq; have := No.size; omega
 have hn9 : w9.heap.size ≤ n1 := by rw [hn1]; exact X19.size
 replace hall := zAc.mono (S' := fun b => T b ∧ b < n1) (fun b hb => ⟨hTn b (by have : w9.heap.size ≤ b := hb.1; omega), by rw [hn1]; exact hb.2⟩) _ (zAc.lt _ hall)
 refine zBD (c := #[(I6 0), (.slice none 0 0), (.slice none 0 0), (I6 0), (I6 0), (.bool false)]) (by decide) zAs rfl ?_
 intro bp wp Np
 have Fp := Np.ge E
 have Op_bo := Np.lt Bo
 replace Bo := Np.keep Bo
 replace hall := zAc.ext Np.ext _ hall
 replace E := E.ext Np.ext
 have Bp := Np.blk
 refine zBD (c := #[(I6 0), (.slice none 0 0), (.slice none 0 0), (I6 0), (I6 0), (.bool false)]) (by decide) zAs rfl ?_
 intro bq wq Nq
 have Fq := Nq.ge E
 have Oq_bo := Nq.lt Bo
 have Oq_bp := Nq.lt Bp
 replace Bo := Nq.keep Bo
 replace Bp := Nq.keep Bp
 replace hall := zAc.ext Nq.ext _ hall
 replace E := E.ext Nq.ext
 have Bq := Nq.blk
 refine qW (#[(I6 0), (.slice none 0 0), (.slice none 0 0), (I6 0), (I6 0), (.bool false)]) rfl rfl zAH Bp ?_
 intro w1 S1
 replace hall := zAc.chg S1.chg (fun b hb h => by have h2 : b = _ := h; have := hb.2; have := Np.eq; have := Nq.eq; have := Np.size; omega) _ hall
 replace Bo := S1.keep (by omega) Bo
 replace Bq := S1.keep (by omega) Bq
 replace E := S1.stp E
 replace Bp := S1.blk
 refine qW (R6 zEy za zc ya yc) rfl rfl zAH Bq ?_
 intro w2 S2
 replace hall := zAc.chg S2.chg (fun b hb h => by have h2 : b = _ := h; have := hb.2; have := Np.eq; have := Nq.eq; have := Np.size; omega) _ hall
 replace Bo := S2.keep (by omega) Bo
 replace Bp := S2.keep (by omega) Bp
 replace E := S2.stp E
 replace Bq := S2.blk
 refine zAB ?_
 refine zHX (fun σ W3 => ∃ (N G : Re) (na : Option Addr) (nc : Nat) (nb : Option Addr) (nd : Nat) (ga : Option Addr) (gc : Nat) (gb : Option Addr) (gd : Nat), (∃ jj_, σ = zCl jj_ [(0, (I6 k)), (1, (.slice la0 ts.length lc0)), (4, (P6 bo 0)), (5, (P6 bp 0)), (6, (P6 bq 0))]) ∧ Chg zAh w0 W3 ∧ Blk W3 bo #[(I6 0), (.slice none 0 0), (.slice none 0 0), (I6 0), (I6 0), (.bool false)] 25 ∧ Blk W3 bp (#[.int .i64 N.kind, .slice na N.set.length nc, .slice nb N.args.length nd, .int .i64 N.mn, .int .i64 N.mx, .bool N.neg]) 25 ∧ Blk W3 bq (#[.int .i64 G.kind, .slice ga G.set.length gc, .slice gb G.args.length gd, .int .i64 G.mn, .int .i64 G.mx, .bool G.neg]) 25 ∧ (N = zMh k ∧ G = zNh k) ∧ (zAc T W3 N [.int .i64 N.kind, .slice na N.set.length nc, .slice nb N.args.length nd, .int .i64 N.mn, .int .i64 N.mx, .bool N.neg]) ∧ (zAc T W3 G [.int .i64 G.kind, .slice ga G.set.length gc, .slice gb G.args.length gd, .int .i64 G.mn, .int .i64 G.mx, .bool G.neg])) ?_ ?_
 ·skip
  refine zAA ?_
  refine qM (I6 k) rfl ?_
  refine qV (zAg (k := .i64) (a := k) (b := 7) rfl rfl) ?_
  refine zAB ?_
  refine zAM (b := decide ((k : Int) = 7)) rfl (fun h7 => ?_) (fun h7 => ?_)
  ·have kh7 := h7
   replace h7 := of_decide_eq_true h7
   refine zAW ?_
   refine qV (zAG (vs := [(I6 zEy.kind), (.slice za zEy.set.length zc), (.slice ya zEy.args.length yc), (I6 zEy.mn), (I6 zEy.mx), (.bool zEy.neg)]) rfl zAb zAH rfl (Bq.cells rfl)) ?_
   refine qV (zAG (vs := [(I6 0), (.slice none 0 0), (.slice none 0 0), (I6 0), (I6 0), (.bool false)]) rfl zAb zAH rfl (Bp.cells rfl)) ?_
   refine qW (R6 zEy za zc ya yc) rfl rfl zAH Bp ?_
   intro w5 S5
   replace hall := zAc.chg S5.chg (fun b hb h => by have h2 : b = _ := h; have := hb.2; have := Np.eq; have := Nq.eq; have := Np.size; omega) _ hall
   replace Bo := S5.keep (by omega) Bo
   replace Bq := S5.keep (by omega) Bq
   replace E := S5.stp E
   replace Bp := S5.blk
   refine qW (#[(I6 0), (.slice none 0 0), (.slice none 0 0), (I6 0), (I6 0), (.bool false)]) rfl rfl zAH Bq ?_
   intro w6 S6
   replace hall := zAc.chg S6.chg (fun b hb h => by have h2 : b = _ := h; have := hb.2; have := Np.eq; have := Nq.eq; have := Np.size; omega) _ hall
   replace Bo := S6.keep (by omega) Bo
   replace Bp := S6.keep (by omega) Bp
   replace E := S6.stp E
   replace Bq := S6.blk
   refine zAB (zAC ?_)
   exact ⟨zEy, zBH, za, zc, ya, yc, none, 0, none, 0, zBG.out ⟨rfl, rfl, rfl, rfl, rfl, trivial⟩, E, Bo, Bp, Bq, ⟨by unfold zMh; rw [if_pos h7], by unfold zNh; rw [if_pos h7]⟩, zAc.mono (fun b hb => hb.1) _ hall, zBN _ _ 0⟩
  have kh7 := h7
  replace h7 := of_decide_eq_false h7
  refine zAR (zAC ?_)
  exact ⟨zBH, zEy, none, 0, none, 0, za, zc, ya, yc, zBG.out ⟨rfl, rfl, rfl, rfl, rfl, trivial⟩, E, Bo, Bp, Bq, ⟨by unfold zMh; rw [if_neg h7], by unfold zNh; rw [if_neg h7]⟩, zBN _ _ 0, zAc.mono (fun b hb => hb.1) _ hall⟩
 clear E Bo Bp Bq
 rintro _ W3 ⟨N, G, na, nc, nb, nd, ga, gc, gb, gd, ⟨j3, rfl⟩, E, Bo, Bp, Bq, hNe, hN, hG⟩
 have hob2 : w0.heap.size ≤ bo ∧ bo < (W3).heap.size := ⟨hwo, Bo.lt⟩
 have E3 : Chg zAh W3 W3 := Chg.refl _ _
 refine zAA ?_
 refine qA (.slice none 0 0) rfl ?_
 refine zAB (zAP (zAA ?_))
 refine qM (.slice la0 ts.length lc0) rfl ?_
 refine qV (zAV (ad := la0) (n := ts.length) (cap := lc0) Tryz.underlying23 rfl) ?_
 refine qM (I6 0) rfl ?_
 refine zAB (zAZ ?_)
 refine zBA (fun nn_ σ W7 => ∃ (i : Nat) (Q : List Re) (oa : Option Addr) (oc : Nat), (∃ jj_, σ = zCl jj_ [(0, (I6 k)), (4, (P6 bo 0)), (5, (P6 bp 0)), (6, (P6 bq 0)), (19, (.slice la0 ts.length lc0)), (20, (I6 (ts.length : Int))), (21, (I6 (i : Int))), (7, (.slice oa Q.length oc))]) ∧ Chg zAh w0 W7 ∧ Chg zAh W3 W7 ∧ Blk W7 bo #[(I6 0), (.slice none 0 0), (.slice none 0 0), (I6 0), (I6 0), (.bool false)] 25 ∧ Blk W7 bp (R6 N na nc nb nd) 25 ∧ Blk W7 bq (R6 G ga gc gb gd) 25 ∧ (i ≤ ts.length) ∧ (Q = (zBO k (ts.take i)).foldl (jo N) []) ∧ (((ts.take i).any fun a => zBT a G) = false) ∧ (zCJ T W7 (.slice oa Q.length oc) Q) ∧ nn_ = ts.length - i) (n := ts.length - 0) ?_ ?_
 ·exact ⟨0, [], none, 0, zBG.out ⟨rfl, rfl, rfl, rfl, rfl, rfl, rfl, rfl, trivial⟩, E, E3, Bo, Bp, Bq, Nat.zero_le _, rfl, rfl, ⟨none, 0, rfl, by simp, .inl rfl⟩, rfl⟩
 clear E E3 Bo Bp Bq
 rintro _ _ W7 ⟨i, Q, oa, oc, ⟨j7, rfl⟩, E, E3, Bo, Bp, Bq, hi, hQ, hnG, hQr, rfl⟩
 refine zAA ?_
 refine qV (zBS (k := .i64) (a := (i : Int)) (b := (ts.length : Int)) rfl rfl) ?_
 refine zAB (zAP ?_)
 refine zAM (b := decide (((i : Int) : Int) < (ts.length : Int))) rfl (fun hlt => ?_) (fun hlt => ?_)
 ·have khlt := hlt
  replace hlt := of_decide_eq_true hlt
  obtain ⟨x, hx⟩ := zAa (l := ts) (i := i) (by omega)
  obtain ⟨b, o, rfl, hcl⟩ := zCJ.cells h0 (by omega)
  obtain ⟨xs, hcx, hrx⟩ := hcl i x hx
  have hrx0 := hrx
  obtain ⟨xsa, xsc, xaa, xac, rfl, _, _, hxa⟩ := hrx.form
  have hxm := List.mem_of_getElem? hx
  have hxR := zEs hrx0
  have hft := zLT (k := k) hx
  have hfl := zHu k ts (i + 1)
  have hQl : ((zBO k (ts.take i)).foldl (jo N) []).length ≤ (zBO k (ts.take i)).length := by simpa using zMs (N := N) (zBO k (ts.take i)) []
  have hQg := zQU (k := k) (N := N) (i := i) hok hsz
  rw [← hQ] at hQl hQg
  refine zAR (zAC (zAP (zAZ (zAA ?_))))
  refine qV (zAO (b := b) (o := o) (len := ts.length) (cap := lc0) (i := i) (o' := o + i * 6) rfl rfl rfl Tryz.underlying23 zAH (by omega) (by omega)) ?_
  refine qV (zAG (vs := [(I6 x.kind), (.slice xsa x.set.length xsc), (.slice xaa x.args.length xac), (I6 x.mn), (I6 x.mx), (.bool x.neg)]) rfl zAb zAH rfl (hcx.ext E)) ?_
  refine zAi (v := (.agg (R6 x xsa xsc xaa xac))) (c := (R6 x xsa xsc xaa xac)) (n := 6) (by decide) zAs rfl zAH rfl rfl rfl (by simp [Value.oneCell']) ?_
  intro bz wz Nz
  have Fz := Nz.ge E
  have Fz_E3 := Nz.ge E3
  have Oz_bo := Nz.lt Bo
  have Oz_bp := Nz.lt Bp
  have Oz_bq := Nz.lt Bq
  replace Bo := Nz.keep Bo
  replace Bp := Nz.keep Bp
  replace Bq := Nz.keep Bq
  replace hQr := zCJ.ext hQr Nz.ext
  replace E := E.ext Nz.ext
  have Bz := Nz.blk
  replace E3 := E3.ext Nz.ext
  refine zAB (zAP (zAA ?_))
  refine qV (zAG (vs := [(I6 x.kind), (.slice xsa x.set.length xsc), (.slice xaa x.args.length xac), (I6 x.mn), (I6 x.mx), (.bool x.neg)]) rfl zAb zAH rfl (Bz.cells rfl)) ?_
  refine qV (zAG (vs := [(I6 G.kind), (.slice ga G.set.length gc), (.slice gb G.args.length gd), (I6 G.mn), (I6 G.mx), (.bool G.neg)]) rfl zAb zAH rfl (Bq.cells rfl)) ?_
  refine zAL rfl rfl (by decide) (zAT (vs := [(.agg (R6 x xsa xsc xaa xac)), (.agg (R6 G ga gc gb gd))]) Tryz.func15 zPI zPT rfl) (zHi x.size x G _ _ _ (Nat.le_refl _) (zAc.at x (zAc.ext E x hrx0)) (zAc.at G (zAc.ext E3 G hG))) ?_
  rintro _ w29 ⟨rfl, X29⟩
  replace Bo := X29.keep Bo
  replace Bp := X29.keep Bp
  replace Bq := X29.keep Bq
  replace Bz := X29.keep Bz
  replace hQr := zCJ.ext hQr X29
  replace E := E.ext X29
  replace E3 := E3.ext X29
  refine zAB ?_
  refine zAM (b := zBT x G) rfl (fun hs => ?_) (fun hs => ?_)
  ·have khs := hs
   have hGr := zAc.ext E3 G hG
   refine zAA ?_
   refine qV (zAG (vs := [(I6 G.kind), (.slice ga G.set.length gc), (.slice gb G.args.length gd), (I6 G.mn), (I6 G.mx), (.bool G.neg)]) rfl zAb zAH rfl (Bq.cells rfl)) ?_
   refine qW (R6 G ga gc gb gd) rfl rfl zAH Bo ?_
   intro w10 S10
   replace hGr := zAc.chg S10.chg (fun b hb h => hTo b hb h) G hGr
   replace Bp := S10.keep (by omega) Bp
   replace Bq := S10.keep (by omega) Bq
   replace Bz := S10.keep (by omega) Bz
   replace E := S10.stp E
   replace Bo := S10.blk
   refine zAB (zAQ (zAI (zAY (zAI (zAI (zAY (zAI ?_)))))))
   refine zAm Tryz.results71 (vs := [(.int .i64 G.kind), (.slice ga G.set.length gc), (.slice gb G.args.length gd), (.int .i64 G.mn), (.int .i64 G.mx), (.bool G.neg)]) (b := bo) rfl zAb zAH rfl (Bo.cells rfl) ?_
   refine ⟨⟨_, rfl, ?_⟩, E⟩
   unfold zIn
   rw [if_pos (List.any_eq_true.2 ⟨x, hxm, by rw [← hNe.2]; exact hs⟩), ← hNe.2]
   exact zAc.mono hTr G hGr
  have khs := hs
  have hnG2 : ((ts.take (i + 1)).any fun a => zBT a G) = false := by rw [List.take_add_one, hx, List.any_append, hnG]; simp [hs]
  refine zAR (zAC (zAA ?_))
  refine qV (zAG (vs := [(I6 x.kind), (.slice xsa x.set.length xsc), (.slice xaa x.args.length xac), (I6 x.mn), (I6 x.mx), (.bool x.neg)]) rfl zAb zAH rfl (Bz.cells rfl)) ?_
  refine zAu (ps := [(0, (.agg (R6 x xsa xsc xaa xac)))]) (c := (R6 x xsa xsc xaa xac)) (by decide) rfl Tryz.underlying23 zAH zAs (by decide) (by decide) (by kernel_rfl) ?_
  intro bu wu Nu
  have Fu := Nu.ge E
  have Fu_E3 := Nu.ge E3
  have Ou_bo := Nu.lt Bo
  have Ou_bp := Nu.lt Bp
  have Ou_bq := Nu.lt Bq
  have Ou_bz := Nu.lt Bz
  replace Bo := Nu.keep Bo
  replace Bp := Nu.keep Bp
  replace Bq := Nu.keep Bq
  replace Bz := Nu.keep Bz
  replace hQr := zCJ.ext hQr Nu.ext
  replace E := E.ext Nu.ext
  have Bu := Nu.blk
  replace E3 := E3.ext Nu.ext
  refine qA (.slice (some ⟨bu, 0, none⟩) 1 1) rfl ?_
  refine zAB ?_
  refine zHX (fun σ W11 => ∃ (P : List Re) (pa : Option Addr) (pc : Nat), (∃ jj_, σ = zCl jj_ [(0, (I6 k)), (4, (P6 bo 0)), (5, (P6 bp 0)), (6, (P6 bq 0)), (7, (.slice oa Q.length oc)), (19, (.slice (some ⟨b, o, none⟩) ts.length lc0)), (20, (I6 (ts.length : Int))), (21, (I6 (i : Int))), (10, (.slice pa P.length pc))]) ∧ Chg zAh w0 W11 ∧ Chg zAh W3 W11 ∧ Blk W11 bo #[(I6 0), (.slice none 0 0), (.slice none 0 0), (I6 0), (I6 0), (.bool false)] 25 ∧ Blk W11 bp (R6 N na nc nb nd) 25 ∧ Blk W11 bq (R6 G ga gc gb gd) 25 ∧ Blk W11 bz (R6 x xsa xsc xaa xac) 25 ∧ Blk W11 bu (R6 x xsa xsc xaa xac) 25 ∧ (P = if x.kind = k then x.args else [x]) ∧ (zCJ T W11 (.slice pa P.length pc) P) ∧ (zCJ T W11 (.slice oa Q.length oc) Q)) ?_ ?_
  ·skip
   refine zAA ?_
   refine qF bz 0 0 rfl Tryz.underlying25 rfl zAw rfl ?_
   refine qV (zAK (v := (I6 x.kind)) rfl zAf (Bz.cell rfl)) ?_
   refine qM (I6 k) rfl ?_
   refine qV (zAg (k := .i64) (a := x.kind) (b := k) rfl rfl) ?_
   refine zAB ?_
   refine zAM (b := decide ((x.kind : Int) = k)) rfl (fun hxk => ?_) (fun hxk => ?_)
   ·have khxk := hxk
    replace hxk := of_decide_eq_true hxk
    refine zAW ?_
    refine qF bz 0 2 rfl Tryz.underlying25 rfl zBI rfl ?_
    refine qV (zAK (v := (.slice xaa x.args.length xac)) rfl zAv (Bz.cell rfl)) ?_
    refine qA (.slice xaa x.args.length xac) rfl ?_
    refine zAB (zAC ?_)
    exact ⟨x.args, xaa, xac, zBG.out ⟨rfl, rfl, rfl, rfl, rfl, rfl, rfl, rfl, rfl, trivial⟩, E, E3, Bo, Bp, Bq, Bz, Bu, (by rw [if_pos hxk]), zFa hST (zCJ.ext hxR E), hQr⟩
   have khxk := hxk
   replace hxk := of_decide_eq_false hxk
   refine zAR (zAC ?_)
   exact ⟨[x], some ⟨bu, 0, none⟩, 1, zBG.out ⟨rfl, rfl, rfl, rfl, rfl, rfl, rfl, rfl, rfl, trivial⟩, E, E3, Bo, Bp, Bq, Bz, Bu, (by rw [if_neg hxk]), ⟨_, _, rfl, by simp, .inr ⟨bu, 0, hTn _ (by omega), rfl, zBM.one (Bu.cells rfl) (zAc.mono hST x (zAc.ext E x hrx0))⟩⟩, hQr⟩
  clear E E3 Bo Bp Bq Bz Bu
  rintro _ W11 ⟨P, pa, pc, ⟨j11, rfl⟩, E, E3, Bo, Bp, Bq, Bz, Bu, hP, hPr, hQr⟩
  have hPg := zLF (k := k) hok hsz hxm hP
  have hPl : (zBO k (ts.take (i + 1))).length = (zBO k (ts.take i)).length + P.length := by rw [hft, List.length_append, hP]
  have E4 : Chg zAh W11 W11 := Chg.refl _ _
  refine zAA ?_
  refine qM (.slice pa P.length pc) rfl ?_
  refine qV (zAV (ad := pa) (n := P.length) (cap := pc) Tryz.underlying23 rfl) ?_
  refine qM (I6 0) rfl ?_
  refine zAB (zAZ ?_)
  refine zBA (fun nn_ σ W13 => ∃ (j : Nat) (R : List Re) (ra : Option Addr) (rc : Nat), (∃ jj_, σ = zCl jj_ [(0, (I6 k)), (4, (P6 bo 0)), (5, (P6 bp 0)), (6, (P6 bq 0)), (19, (.slice (some ⟨b, o, none⟩) ts.length lc0)), (20, (I6 (ts.length : Int))), (21, (I6 (i : Int))), (37, (.slice pa P.length pc)), (38, (I6 (P.length : Int))), (39, (I6 (j : Int))), (7, (.slice ra R.length rc))]) ∧ Chg zAh w0 W13 ∧ Chg zAh W3 W13 ∧ Chg zAh W11 W13 ∧ Blk W13 bo #[(I6 0), (.slice none 0 0), (.slice none 0 0), (I6 0), (I6 0), (.bool false)] 25 ∧ Blk W13 bp (R6 N na nc nb nd) 25 ∧ Blk W13 bq (R6 G ga gc gb gd) 25 ∧ (j ≤ P.length) ∧ (R = (P.take j).foldl (jo N) Q) ∧ (zCJ T W13 (.slice ra R.length rc) R) ∧ nn_ = P.length - j) (n := P.length - 0) ?_ ?_
  ·exact ⟨0, Q, oa, oc, zBG.out ⟨rfl, rfl, rfl, rfl, rfl, rfl, rfl, rfl, rfl, rfl, rfl, trivial⟩, E, E3, E4, Bo, Bp, Bq, Nat.zero_le _, rfl, hQr, rfl⟩
  clear E E3 E4 Bo Bp Bq
  rintro _ _ W13 ⟨j, R, ra, rc, ⟨j13, rfl⟩, E, E3, E4, Bo, Bp, Bq, hj, hRq, hRr, rfl⟩
  refine zAA ?_
  refine qV (zBS (k := .i64) (a := (j : Int)) (b := (P.length : Int)) rfl rfl) ?_
  refine zAB (zAP ?_)
  refine zAM (b := decide (((j : Int) : Int) < (P.length : Int))) rfl (fun hlt2 => ?_) (fun hlt2 => ?_)
  ·have khlt2 := hlt2
   replace hlt2 := of_decide_eq_true hlt2
   obtain ⟨y, hy⟩ := zAa (l := P) (i := j) (by omega)
   obtain ⟨b2, o2, rfl, hcl2⟩ := zCJ.cells hPr (by omega)
   obtain ⟨ys, hcy, hry⟩ := hcl2 j y hy
   have hry0 := hry
   obtain ⟨ysa, ysc, yaa, yac, rfl, _, _, _⟩ := hry.form
   have hym := List.mem_of_getElem? hy
   have hRl := zMs (N := N) (P.take j) Q
   rw [← hRq] at hRl
   have htl : (P.take j).length ≤ P.length := by rw [List.length_take]; omega
   have hRg : ∀ z ∈ R, zAq z ∧ z.size ≤ 1000000 := fun z hz => by rw [hRq] at hz; rcases zMr hz with h | h; exact hQg z h; exact hPg z (List.mem_of_mem_take h)
   have hRn : (P.take (j + 1)).foldl (jo N) Q = jo N R y := by rw [List.take_add_one, hy, Option.toList_some, List.foldl_append, ← hRq]; rfl
   refine zAR (zAC (zAP (zAZ (zAA ?_))))
   refine qV (zAO (b := b2) (o := o2) (len := P.length) (cap := pc) (i := j) (o' := o2 + j * 6) rfl rfl rfl Tryz.underlying23 zAH (by omega) (by omega)) ?_
   refine qV (zAG (vs := [(I6 y.kind), (.slice ysa y.set.length ysc), (.slice yaa y.args.length yac), (I6 y.mn), (I6 y.mx), (.bool y.neg)]) rfl zAb zAH rfl (hcy.ext E4)) ?_
   refine zAi (v := (.agg (R6 y ysa ysc yaa yac))) (c := (R6 y ysa ysc yaa yac)) (n := 6) (by decide) zAs rfl zAH rfl rfl rfl (by simp [Value.oneCell']) ?_
   intro bs ws Ns
   have Fs := Ns.ge E
   have Fs_E3 := Ns.ge E3
   have Fs_E4 := Ns.ge E4
   have Os_bo := Ns.lt Bo
   have Os_bp := Ns.lt Bp
   have Os_bq := Ns.lt Bq
   replace Bo := Ns.keep Bo
   replace Bp := Ns.keep Bp
   replace Bq := Ns.keep Bq
   replace hRr := zCJ.ext hRr Ns.ext
   replace E := E.ext Ns.ext
   have Bs := Ns.blk
   replace E3 := E3.ext Ns.ext
   replace E4 := E4.ext Ns.ext
   refine zAB (zAA ?_)
   refine qV (zAG (vs := [(I6 y.kind), (.slice ysa y.set.length ysc), (.slice yaa y.args.length yac), (I6 y.mn), (I6 y.mx), (.bool y.neg)]) rfl zAb zAH rfl (Bs.cells rfl)) ?_
   refine qV (zAG (vs := [(I6 N.kind), (.slice na N.set.length nc), (.slice nb N.args.length nd), (I6 N.mn), (I6 N.mx), (.bool N.neg)]) rfl zAb zAH rfl (Bp.cells rfl)) ?_
   refine zAL rfl rfl (by decide) (zAT (vs := [(.agg (R6 y ysa ysc yaa yac)), (.agg (R6 N na nc nb nd))]) Tryz.func15 zPI zPT rfl) (zHi y.size y N _ _ _ (Nat.le_refl _) (zAc.at y (zAc.ext E4 y hry0)) (zAc.at N (zAc.ext E3 N hN))) ?_
   rintro _ w39 ⟨rfl, X39⟩
   replace Bo := X39.keep Bo
   replace Bp := X39.keep Bp
   replace Bq := X39.keep Bq
   replace Bs := X39.keep Bs
   replace hRr := zCJ.ext hRr X39
   replace E := E.ext X39
   replace E3 := E3.ext X39
   replace E4 := E4.ext X39
   refine qV (zCV (b := zBT y N) rfl) ?_
   refine zAB ?_
   refine zAM (b := !(zBT y N)) rfl (fun hsn => ?_) (fun hsn => ?_)
   ·have khsn := hsn
    replace hsn := by simpa using hsn
    have hsn2 : zBT y N = false := by simpa using hsn
    refine zAW ?_
    refine qM (.slice ra R.length rc) rfl ?_
    refine qV (zAG (vs := [(I6 y.kind), (.slice ysa y.set.length ysc), (.slice yaa y.args.length yac), (I6 y.mn), (I6 y.mx), (.bool y.neg)]) rfl zAb zAH rfl (Bs.cells rfl)) ?_
    have hRr2 := zCJ.lt hRr
    have hbw : bo < (w39).heap.size := Bo.lt
    refine zAL rfl rfl (by decide) (zAT (vs := [(.slice ra R.length rc), (.agg (R6 y ysa ysc yaa yac))]) Tryz.func131 nm131 bd131 rfl) (zLS _ _ _ R y _ hRr2 (zAc.lt y (zAc.ext E4 y hry0)) (fun b hb => hb.2) (by omega) (fun z hz => zJC (hRg z hz).1 (hRg z hz).2) (zJC (hPg y hym).1 (hPg y hym).2)) ?_
    rintro _ w49 ⟨⟨ia, ic, rfl, hI⟩, X49⟩
    replace Bo := X49.keep Bo
    replace Bp := X49.keep Bp
    replace Bq := X49.keep Bq
    replace Bs := X49.keep Bs
    replace E := E.ext X49
    replace E3 := E3.ext X49
    replace E4 := E4.ext X49
    refine qA (.slice ia ((zDa R y).length) ic) rfl ?_
    refine zAB (zAU (zAC (zAW ?_)))
    refine qV (zBQ (k := .i64) (a := (j : Int)) (b := 1) (c := (j : Int) + 1) rfl rfl (zBs (by omega))) ?_
    refine qM (I6 ((j : Int) + 1)) rfl ?_
    refine zAB (zAC ?_)
    exact ⟨P.length - (j + 1), by omega, j + 1, zDa R y, ia, ic, zBG.out ⟨rfl, rfl, rfl, rfl, rfl, rfl, rfl, rfl, rfl, rfl, rfl, trivial⟩, E, E3, E4, Bo, Bp, Bq, (by omega), (by rw [hRn]; unfold jo; rw [if_neg (by rw [hsn2]; decide)]), zFa (fun b hb => by rcases hb with h1 | h1; exact h1.1; exact hTn b (by omega)) hI, rfl⟩
   have khsn := hsn
   replace hsn := by simpa using hsn
   have hsn2 : zBT y N = true := by simpa using hsn
   refine zAR (zAU (zAC (zAW ?_)))
   refine qV (zBQ (k := .i64) (a := (j : Int)) (b := 1) (c := (j : Int) + 1) rfl rfl (zBs (by omega))) ?_
   refine qM (I6 ((j : Int) + 1)) rfl ?_
   refine zAB (zAC ?_)
   exact ⟨P.length - (j + 1), by omega, j + 1, R, ra, rc, zBG.out ⟨rfl, rfl, rfl, rfl, rfl, rfl, rfl, rfl, rfl, rfl, rfl, trivial⟩, E, E3, E4, Bo, Bp, Bq, (by omega), (by rw [hRn]; unfold jo; rw [if_pos hsn2]), hRr, rfl⟩
  have khlt2 := hlt2
  replace hlt2 := of_decide_eq_false hlt2
  have hjj : j = P.length := by omega
  rw [hjj, List.take_length] at hRq
  refine zBB (zAe (zAe (zAr (zAU (zAC (zAW ?_))))))
  refine qV (zBQ (k := .i64) (a := (i : Int)) (b := 1) (c := (i : Int) + 1) rfl rfl (zBs (by omega))) ?_
  refine qM (I6 ((i : Int) + 1)) rfl ?_
  refine zAB (zAC ?_)
  exact ⟨ts.length - (i + 1), by omega, i + 1, R, ra, rc, zBG.out ⟨rfl, rfl, rfl, rfl, rfl, rfl, rfl, rfl, trivial⟩, E, E3, Bo, Bp, Bq, (by omega), (by rw [hft, List.foldl_append, ← hP, ← hQ, hRq]), hnG2, hRr, rfl⟩
 have khlt := hlt
 replace hlt := of_decide_eq_false hlt
 have hii : i = ts.length := by omega
 rw [hii, List.take_length] at hQ hnG
 have hje : zIn k ts (zNh k) (zMh k) = zBy k N Q := by rw [zQT (by rw [← hNe.2]; exact hnG), ← hNe.1, hQ]
 rw [hje]
 obtain ⟨hw0, hw1, hw2⟩ := zEV k N Q
 refine zBB (zAe (zAe (zAr (zAC (zAP (zAA ?_))))))
 refine qM (.slice oa Q.length oc) rfl ?_
 refine qV (zAV (ad := oa) (n := Q.length) (cap := oc) Tryz.underlying23 rfl) ?_
 refine qV (zAg (k := .i64) (a := (Q.length : Int)) (b := 0) rfl rfl) ?_
 refine zAB ?_
 refine zAM (b := decide (((Q.length : Int) : Int) = 0)) rfl (fun h0l => ?_) (fun h0l => ?_)
 ·have kh0l := h0l
  replace h0l := of_decide_eq_true h0l
  have hNr := zAc.ext E3 N hN
  refine zAA ?_
  refine qV (zAG (vs := [(I6 N.kind), (.slice na N.set.length nc), (.slice nb N.args.length nd), (I6 N.mn), (I6 N.mx), (.bool N.neg)]) rfl zAb zAH rfl (Bp.cells rfl)) ?_
  refine qW (R6 N na nc nb nd) rfl rfl zAH Bo ?_
  intro w17 S17
  replace hNr := zAc.chg S17.chg (fun b hb h => hTo b hb h) N hNr
  replace Bp := S17.keep (by omega) Bp
  replace Bq := S17.keep (by omega) Bq
  replace E := S17.stp E
  replace Bo := S17.blk
  refine zAB (zAQ (zAI ?_))
  refine zAm Tryz.results71 (vs := [(.int .i64 N.kind), (.slice na N.set.length nc), (.slice nb N.args.length nd), (.int .i64 N.mn), (.int .i64 N.mx), (.bool N.neg)]) (b := bo) rfl zAb zAH rfl (Bo.cells rfl) ?_
  exact ⟨⟨_, rfl, by rw [hw0 (by omega)]; exact zAc.mono hTr N hNr⟩, E⟩
 have kh0l := h0l
 replace h0l := of_decide_eq_false h0l
 refine zAR (zAC (zAP (zAA ?_)))
 refine qM (.slice oa Q.length oc) rfl ?_
 refine qV (zAV (ad := oa) (n := Q.length) (cap := oc) Tryz.underlying23 rfl) ?_
 refine qV (zAg (k := .i64) (a := (Q.length : Int)) (b := 1) rfl rfl) ?_
 refine zAB ?_
 refine zAM (b := decide (((Q.length : Int) : Int) = 1)) rfl (fun h1l => ?_) (fun h1l => ?_)
 ·have kh1l := h1l
  replace h1l := of_decide_eq_true h1l
  obtain ⟨x, hx⟩ := zAa (l := Q) (i := 0) (by omega)
  obtain ⟨lb, lo, rfl, hcl⟩ := zCJ.cells hQr (by omega)
  obtain ⟨xs, hcx, hrx⟩ := hcl 0 x hx
  have hrx0 := hrx
  obtain ⟨sa, sc, aa, ac, rfl, _, _, _⟩ := hrx.form
  refine zAA ?_
  refine qM (.slice (some ⟨lb, lo, none⟩) Q.length oc) rfl ?_
  refine qV (zAO (b := lb) (o := lo) (len := Q.length) (cap := oc) (i := 0) (o' := lo + 0 * 6) rfl rfl rfl Tryz.underlying23 zAH (by omega) (by omega)) ?_
  refine qV (zAG (vs := [(I6 x.kind), (.slice sa x.set.length sc), (.slice aa x.args.length ac), (I6 x.mn), (I6 x.mx), (.bool x.neg)]) rfl zAb zAH rfl (hcx)) ?_
  refine qW (R6 x sa sc aa ac) rfl rfl zAH Bo ?_
  intro w19 S19
  replace hrx0 := zAc.chg S19.chg (fun b hb h => hTo b hb h) x hrx0
  replace Bp := S19.keep (by omega) Bp
  replace Bq := S19.keep (by omega) Bq
  replace E := S19.stp E
  replace Bo := S19.blk
  refine zAB (zAQ (zAI ?_))
  refine zAm Tryz.results71 (vs := [(.int .i64 x.kind), (.slice sa x.set.length sc), (.slice aa x.args.length ac), (.int .i64 x.mn), (.int .i64 x.mx), (.bool x.neg)]) (b := bo) rfl zAb zAH rfl (Bo.cells rfl) ?_
  exact ⟨⟨_, rfl, by rw [hw1 x (by omega) hx]; exact zAc.mono hTr x hrx0⟩, E⟩
 have kh1l := h1l
 replace h1l := of_decide_eq_false h1l
 have hQR := rs_mk2 (k := k) hQr
 refine zAR (zAC (zAA ?_))
 refine qM (I6 k) rfl ?_
 refine qM (.slice oa Q.length oc) rfl ?_
 refine qV (zBW (ps := [(0, (I6 k)), (2, (.slice oa Q.length oc))]) (v := (.agg #[(I6 k), (.slice none 0 0), (.slice oa Q.length oc), (I6 0), (I6 0), (.bool false)])) rfl (by kernel_rfl)) ?_
 refine qW (#[(I6 k), (.slice none 0 0), (.slice oa Q.length oc), (I6 0), (I6 0), (.bool false)]) rfl rfl zAH Bo ?_
 intro w20 S20
 replace hQR := zAc.chg S20.chg (fun b hb h => hTo b hb h) _ hQR
 replace Bp := S20.keep (by omega) Bp
 replace Bq := S20.keep (by omega) Bq
 replace E := S20.stp E
 replace Bo := S20.blk
 refine zAB (zAQ ?_)
 refine zAm Tryz.results71 (vs := [(.int .i64 k), (.slice none 0 0), (.slice oa Q.length oc), (.int .i64 0), (.int .i64 0), (.bool false)]) (b := bo) rfl zAb zAH rfl (Bo.cells rfl) ?_
 exact ⟨⟨_, rfl, by rw [hw2 (by omega)]; exact zAc.mono hTr _ hQR⟩, E⟩
end Go.Proofs
