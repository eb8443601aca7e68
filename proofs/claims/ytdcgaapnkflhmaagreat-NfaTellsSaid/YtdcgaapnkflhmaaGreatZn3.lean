/- Contracts and plain lemmas, part 3. -/
import Derived.Tactics
import Derived.Deep.Quiet
import Derived.Laws.AppendOwn
import Derived.KernelRfl
import Derived.Laws.Entries
import Derived.Laws.Build
import Derived.Below
import Derived.RowKit3
import Derived.StillTail
import Derived.Sort.Grow
import Derived.Deep.Draws
import Derived.Test.YtdcgaapnkflhmaaGreatChecked
import Derived.Laws.StructEq
import Derived.MapKept
import Derived.Laws.BytesArg
import Derived.Defers
import Derived.Recover
import Derived.Shelf.SlSortCmp.WholeK
import Derived.Shelf.Sort.Plain
import Derived.Shelf.Slices.CompactI
import Derived.Test.YtdcgaapnkflhmaaGreatProg
import Derived.Shelf.Small.Bits
import Derived.DeepKeys3
import Derived.OpenShut
import Derived.ChangeSlices
import Derived.Test.YtdcgaapnkflhmaaGreatRows
import Derived.SizedLaws
import Derived.Test.YtdcgaapnkflhmaaGreatZn2
namespace Go.Proofs
open Go Go.Eng Go.Sort
set_option maxRecDepth 100000
theorem orL_zero : ∀ {l : List Int}, orL l = 0 ↔ ∀ x ∈ l, x = 0
  | [] => by simp [orL_nil]
  | x :: l => by
    rw [orL_cons]
    have ih := orL_zero (l := l)
    unfold lexI
    split
    · rename_i h
      simp [h]
    · rename_i h
      have hx : x = 0 := by omega
      rw [ih]
      simp [hx]
theorem edO_zero {a b : Ed} : edO a b = 0 ↔ a = b := by
 unfold edO
 rw [orL_zero]
 constructor
 ·intro h
  have h1 := cmpI_zero.1 (h _ List.mem_cons_self)
  have h2 := cmpI_zero.1 (h (cmpI a.2.1 b.2.1) (by simp))
  have h3 := (cmpL_zero fun a b => cmpSp_zero).1 (h (cmpL cmpSp a.2.2 b.2.2) (by simp))
  exact Prod.ext h1 (Prod.ext h2 h3)
 ·rintro rfl x hx
  simp at hx
  rcases hx with rfl | rfl | rfl
  ·exact cmpI_zero.2 rfl
  ·exact cmpI_zero.2 rfl
  ·exact (cmpL_zero fun a b => cmpSp_zero).2 rfl
/-- What is kept behind an element. -/
def kdE : Option Ed → List Ed → List Ed
  | _, [] => []
  | none, x :: l => x :: kdE (some x) l
  | some y, x :: l => if x = y then kdE (some x) l else x :: kdE (some x) l
theorem kdE_snoc : ∀ (l : List Ed) (p : Option Ed) (x : Ed), kdE p (l ++ [x]) = kdE p l ++ (match l.getLast?.or p with | some y => if x = y then [] else [x] | none => [x])
  | [], none, x => rfl
  | [], some y, x => by
    simp only [List.nil_append, kdE, List.getLast?_nil, Option.none_or]
  | z :: l, p, x => by
    have ih := kdE_snoc l (some z) x
    have hg : (z :: l).getLast?.or p = l.getLast?.or (some z) := by cases l <;> simp [List.getLast?_cons]
    rw [hg]
    cases p with
    | none => simp only [List.cons_append, kdE, ih]
    | some y =>
      simp only [List.cons_append, kdE]
      split
      · exact ih
      · rw [ih]; rfl
theorem kdE_take {l : List Ed} {j : Nat} {x y : Ed} (h0 : 0 < j) (hx : l[j]? = some x) (hy : l[j - 1]? = some y) : kdE none (l.take (j + 1)) = kdE none (l.take j) ++ (if x = y then [] else [x]) := by
 rw [List.take_add_one, hx, Option.toList_some, kdE_snoc]
 have hl := lt_of_get hx
 have : (l.take j).getLast? = some y := by rw [List.getLast?_take, if_neg (by omega), hy]; rfl
 rw [this]
 rfl
theorem kdE_len : ∀ (l : List Ed) (p : Option Ed), (kdE p l).length ≤ l.length
  | [], _ => by simp [kdE]
  | x :: l, none => by simp only [kdE, List.length_cons]; have := kdE_len l (some x); omega
  | x :: l, some y => by
    simp only [kdE]
    have := kdE_len l (some x)
    split <;> simp only [List.length_cons] <;> omega
theorem kdE_sorted : ∀ {l : List Ed} {y : Ed}, (∀ x ∈ l, edO y x ≤ 0) → l.Pairwise (fun a b => edO a b ≤ 0) → (kdE (some y) l).Pairwise (fun a b => edO a b < 0) ∧ ∀ x, x ∈ kdE (some y) l ↔ x ∈ l ∧ edO y x < 0
  | [], y, _, _ => ⟨List.Pairwise.nil, fun x => by simp [kdE]⟩
  | z :: l, y, h, hp => by
    have hp2 := List.pairwise_cons.1 hp
    have ih := kdE_sorted (l := l) (y := z) hp2.1 hp2.2
    have hyz := h z List.mem_cons_self
    simp only [kdE]
    split
    · rename_i e
      subst e
      refine ⟨ih.1, fun x => ?_⟩
      rw [ih.2 x, List.mem_cons]
      have hz : edO z z = 0 := edO_zero.2 rfl
      constructor
      · exact fun ⟨h1, h2⟩ => ⟨.inr h1, h2⟩
      · rintro ⟨rfl | h1, h2⟩
        · omega
        · exact ⟨h1, h2⟩
    · rename_i e
      have hlt : edO y z < 0 := by
        have : edO y z ≠ 0 := fun h9 => e (edO_zero.1 h9).symm
        omega
      refine ⟨List.pairwise_cons.2 ⟨fun x hx => ((ih.2 x).1 hx).2, ih.1⟩, fun x => ?_⟩
      rw [List.mem_cons, ih.2 x, List.mem_cons]
      constructor
      · rintro (rfl | ⟨h1, h2⟩)
        · exact ⟨.inl rfl, hlt⟩
        · exact ⟨.inr h1, (tr_ed y z x).2.1 hlt (by omega)⟩
      · rintro ⟨rfl | h1, h2⟩
        · exact .inl rfl
        · by_cases h3 : edO z x < 0
          · exact .inr ⟨h1, h3⟩
          · have h4 := hp2.1 x h1
            exact .inl (edO_zero.1 (by omega)).symm
theorem kdE_strict {l : List Ed} (hp : l.Pairwise (fun a b => edO a b ≤ 0)) : (kdE none l).Pairwise (fun a b => edO a b < 0) ∧ ∀ x, x ∈ kdE none l ↔ x ∈ l := by
  cases l with
  | nil => exact ⟨List.Pairwise.nil, fun x => by simp [kdE]⟩
  | cons z l =>
    have hp2 := List.pairwise_cons.1 hp
    have ih := kdE_sorted (l := l) (y := z) hp2.1 hp2.2
    simp only [kdE]
    refine ⟨List.pairwise_cons.2 ⟨fun x hx => ((ih.2 x).1 hx).2, ih.1⟩, fun x => ?_⟩
    rw [List.mem_cons, ih.2 x, List.mem_cons]
    constructor
    · rintro (h | ⟨h, _⟩)
      · exact .inl h
      · exact .inr h
    · rintro (h | h)
      · exact .inl h
      · by_cases h3 : edO z x < 0
        · exact .inr ⟨h, h3⟩
        · have h4 := hp2.1 x h
          exact .inl (edO_zero.1 (by omega)).symm
theorem own_chgE {w w' : World} {base g n c : Nat} {rows : List (List Value)} {rest : List Value} (h : w.ownsRow base TEd 3 (.slice (some ⟨g, 0, none⟩) n c) n rows.flatten) (hB : Blk w' g (rows.flatten ++ rest).toArray TEd) (hn : n ≤ c) (hc : c ≤ maxLen) (hz : (rows.flatten ++ rest).length = c * 3) : w'.ownsRow base TEd 3 (.slice (some ⟨g, 0, none⟩) n c) n rows.flatten := by
 have h1 := h.1
 rcases h.2 with ⟨h2, _⟩ | ⟨g', cap, cur, hv, hbg, hg, hnc, hcm, hcs, htake⟩
 ·simp at h2
 ·simp only [Value.slice.injEq, Option.some.injEq, Addr.mk.injEq, and_true, true_and] at hv
  obtain ⟨rfl, _⟩ := hv
  exact ⟨h1, .inr ⟨g, c, _, rfl, hbg, hB, hn, hc, by rw [List.size_toArray, hz], by rw [List.toList_toArray, List.take_append_of_le_length (by omega), List.take_of_length_le (by omega)]⟩⟩
theorem zero_oneE {m : Nat} : ∀ v ∈ (Builtin.zeroCells (Value.cells (.agg #[(.int .i64 0), (.int .i64 0), (.slice none 0 0)])) m).toList, v.oneCell' = true := by
  intro v hv
  simp only [Builtin.zeroCells, Value.cells, Array.toList_map, List.mem_map] at hv
  obtain ⟨i, _, rfl⟩ := hv
  have h : i % 3 < 3 := Nat.mod_lt _ (by decide)
  show (#[(Value.int .i64 0), (.int .i64 0), (.slice none 0 0)][i % 3]!).oneCell' = true
  generalize i % 3 = q at h
  match q, h with
  | 0, _ => rfl
  | 1, _ => rfl
  | 2, _ => rfl
  | q + 3, h => omega
theorem drop_getE {α : Type} {l m : List α} {j : Nat} (h : l.drop j = m.drop j) {i : Nat} (hi : j ≤ i) : l[i]? = m[i]? := by
 have := congrArg (fun q => q[i - j]?) h
 simp only [List.getElem?_drop] at this
 rwa [show j + (i - j) = i from by omega] at this
theorem EdsF.get {F : Nat → Prop} {w : World} {es : List Ed} {rows : List (List Value)} (h : EdsF F w es rows) {i : Nat} {e : Ed} (he : es[i]? = some e) : ∃ r, rows[i]? = some r ∧ EdF F w e r := by
 obtain ⟨r, hr⟩ := get_of_lt (l := rows) (i := i) (by rw [h.1]; exact lt_of_get he)
 exact ⟨r, hr, h.2 i e r he hr⟩
theorem EdF.form {F : Nat → Prop} {w : World} {e : Ed} {r : List Value} (h : EdF F w e r) : ∃ ua uc, r = [.int .i64 e.1, .int .i64 e.2.1, .slice ua e.2.2.length uc] ∧ SpansAt w (.slice ua e.2.2.length uc) e.2.2 := by
 obtain ⟨u, h1, h2, _⟩ := h
 obtain ⟨a, c, rfl⟩ := SlAt.form h2
 rw [List.length_map] at h1 h2
 exact ⟨a, c, h1, h2⟩
theorem EdsF.three {F : Nat → Prop} {w : World} {es : List Ed} {rows : List (List Value)} (h : EdsF F w es rows) : ∀ r ∈ rows, r.length = 3 := fun r hr => by
 obtain ⟨i, hi⟩ := List.getElem?_of_mem hr
 obtain ⟨e, he⟩ := get_of_lt (l := es) (i := i) (by rw [← h.1]; exact lt_of_get hi)
 obtain ⟨ua, uc, rfl, _⟩ := (h.2 i e r he hi).form
 rfl
theorem EdsF.take {F : Nat → Prop} {w : World} {es : List Ed} {rows : List (List Value)} (h : EdsF F w es rows) (k : Nat) : EdsF F w (es.take k) (rows.take k) := ⟨by simp [h.1], fun i e r he hr => by
 rw [List.getElem?_take] at he hr
 split at he
 ·rename_i hk
  rw [if_pos hk] at hr
  exact h.2 i e r he hr
 ·cases he⟩
set_option maxHeartbeats 4000000 in
theorem cmpctE_c (w0 : World) (base : Nat) (F : Nat → Prop) (v fv : Value) (ts : List Ed) (rows : List (List Value)) (hown : w0.ownsRow base TEd 3 v ts.length rows.flatten) (hr : EdsF F w0 ts rows) (M : Nat → Prop) (hM : ∀ b, v.ownBlock = some b → M b) (hF : ∀ b, M b → ¬ F b) (hlen : ts.length ≤ 1000000)
  (hf : ∀ (w : World) (x y : Ed) (ua ua2 : Option Addr) (uc uc2 : Nat), SpansAt w (.slice ua x.2.2.length uc) x.2.2 → SpansAt w (.slice ua2 y.2.2.length uc2) y.2.2 → CallV Tryz.prog fv #[.agg #[.int .i64 x.1, .int .i64 x.2.1, .slice ua x.2.2.length uc], .agg #[.int .i64 y.1, .int .i64 y.2.1, .slice ua2 y.2.2.length uc2]] w fun r w' => r = .bool (decide (x = y)) ∧ Ext w w') :
  Ret Tryz.prog 41 #[v, fv] w0 fun r w => ∃ la lc rows', r = .slice la (kdE none ts).length lc ∧ w.ownsRow base TEd 3 r (kdE none ts).length rows'.flatten ∧ EdsF F w (kdE none ts) rows' ∧ (∀ b, r.ownBlock = some b → v.ownBlock = some b) ∧ Chg M w0 w := by
 have hown0 := hown
 obtain ⟨a, c, rfl⟩ := own_form hown
 refine Ret_of Tryz.func41 rfl Tryz.ntmps41 (Nat.le_of_ble_eq_true rfl) ?_
 have E : Chg M w0 w0 := Chg.refl _ _
 refine Wp_seq_region ?_
 refine qA (.slice none 0 0) rfl ?_
 refine WpL_nil (Wp_seq (Wp_seq_region ?_))
 refine qM (.slice a ts.length c) rfl ?_
 refine qV (r_lenSlice (ad := a) (n := ts.length) (cap := c) Tryz.underlying24 rfl) ?_
 refine qV (r_lss (k := .i64) (a := (ts.length : Int)) (b := 2) rfl rfl) ?_
 refine WpL_nil ?_
 refine Wp_cond (b := decide (((ts.length : Int) : Int) < 2)) rfl (fun h2 => ?_) (fun h2 => ?_)
 ·have kh2 := h2
  replace h2 := of_decide_eq_true h2
  have hsm : kdE none ts = ts := by match ts, h2 with | [], _ => rfl | [x], _ => rfl | x :: y :: l, h => simp at h; omega
  refine Wp_seq_region ?_
  refine qM (.slice a ts.length c) rfl ?_
  refine qA (.slice a ts.length c) rfl ?_
  refine WpL_nil (Wp_ret (thn_ret ?_))
  refine fin_tmp Tryz.results41 (v := (.slice a ts.length c)) rfl ?_
  rw [hsm]; exact ⟨a, c, rows, rfl, hown0, hr, fun b h => h, E⟩
 ·have kh2 := h2
  replace h2 := of_decide_eq_false h2
  rcases hown0.2 with ⟨_, hbad⟩ | ⟨g, cap, cur0, hv0, hgb, hgB, hcap1, hcap2, hcap3, hcap4⟩
  ·omega
  simp only [Value.slice.injEq] at hv0
  obtain ⟨rfl, _, rfl⟩ := hv0
  have hFg : ∀ y, F y → ¬ M y := fun y hy h => hF y h hy
  have hMg : M g := hM g rfl
  obtain ⟨rest, hrest⟩ : ∃ rest, rest = cur0.toList.drop (ts.length * 3) := ⟨_, rfl⟩
  have hgB2 : Blk w0 g (rows.flatten ++ rest).toArray TEd := by rw [hrest, ← hcap4, List.take_append_drop]; exact hgB
  have hszz : (rows.flatten ++ rest).length = c * 3 := by rw [hrest, ← hcap4, List.take_append_drop]; simpa using hcap3
  have hrl := hr.1
  have hr6 := hr.three
  have hrestl : rest.length = c * 3 - ts.length * 3 := by rw [List.length_append, rows_len hr6, hrl] at hszz; omega
  refine Wp_skip (thn_normal (Wp_seq (Wp_seq_region ?_)))
  refine qA (I6 1) rfl ?_
  refine WpL_nil (Wp_block ?_)
  refine Wp_loop (fun nn_ σ W2 => ∃ (k : Nat), (∃ jj_, σ = upds jj_ [(0, (.slice (some ⟨g, 0, none⟩) ts.length c)), (1, fv), (5, (I6 (k : Int)))]) ∧ Chg M w0 W2 ∧ Blk W2 g ((rows.flatten ++ rest).toArray) TEd ∧ (1 ≤ k ∧ k ≤ ts.length) ∧ (kdE none (ts.take k) = ts.take k) ∧ nn_ = ts.length - k) (n := ts.length - 1) ?_ ?_
  ·exact ⟨1, Fits.out ⟨rfl, rfl, rfl, trivial⟩, E, hgB2, ⟨by omega, by omega⟩, (by match ts, h2 with | [], h => simp at h | x :: l, _ => rfl), rfl⟩
  ·clear E hgB2
   rintro _ _ W2 ⟨k, ⟨j2, rfl⟩, E, hgB2, hk, hkd, rfl⟩
   refine Wp_seq (Wp_seq_region ?_)
   refine qM (I6 (k : Int)) rfl ?_
   refine qM (.slice (some ⟨g, 0, none⟩) ts.length c) rfl ?_
   refine qV (r_lenSlice (ad := some ⟨g, 0, none⟩) (n := ts.length) (cap := c) Tryz.underlying24 rfl) ?_
   refine qV (r_lss (k := .i64) (a := (k : Int)) (b := (ts.length : Int)) rfl rfl) ?_
   refine WpL_nil ?_
   refine Wp_cond (b := decide (((k : Int) : Int) < (ts.length : Int))) rfl (fun hlt => ?_) (fun hlt => ?_)
   ·have khlt := hlt
    replace hlt := of_decide_eq_true hlt
    obtain ⟨x, hx⟩ := get_of_lt (l := ts) (i := k) (by omega)
    obtain ⟨y, hy⟩ := get_of_lt (l := ts) (i := k - 1) (by omega)
    obtain ⟨r, hrr, hrx⟩ := hr.get hx
    obtain ⟨s, hrs, hry⟩ := hr.get hy
    have hkt := kdE_take (by omega) hx hy
    have hcx := rows_at hgB2 hr6 hrr
    have hcy := rows_at hgB2 hr6 hrs
    obtain ⟨ua, uc, rfl, hux⟩ := (hrx.chg E hFg).form
    obtain ⟨ua2, uc2, rfl, huy⟩ := (hry.chg E hFg).form
    refine Wp_skip (thn_normal (Wp_seq (Wp_block (Wp_seq ?_))))
    obtain ⟨Fs4, hFs4⟩ : ∃ Fs : List Fact, Fs = [.eq fv, .eq (.slice (some ⟨g, 0, none⟩) ts.length c), .eq (I6 (k : Int)), .eq (.pointer (some ⟨g, 0 + k * 3, none⟩)), .eq (.agg #[(I6 x.1), (I6 x.2.1), (.slice ua x.2.2.length uc)]), .eq (.slice (some ⟨g, 0, none⟩) ts.length c), .eq (I6 (k : Int)), .eq (I6 ((k : Int) - 1)), .eq (.pointer (some ⟨g, 0 + (k - 1) * 3, none⟩)), .eq (.agg #[(I6 y.1), (I6 y.2.1), (.slice ua2 y.2.2.length uc2)]), .eq (.bool (decide (x = y)))] := ⟨_, rfl⟩
    refine Wp_dag [18, 19, 20, 21, 22, 23, 24, 25, 26, 27, 28] [[], [], [], [1, 2], [3], [], [], [6], [5, 7], [8], [0, 4, 9]] Fs4 hFs4 mixed (by kernel_rfl) (by kernel_rfl) ?_ ?_
    ·intro wd X0
     refine DagSteps.cons (fun s' w' X U H => Or.inl ⟨?_, ?_⟩) ?_
     ·exact Guarded_none rfl
     ·exact Does_val (r_move (v := fv) (U 1 rfl)) (Ext.refl _) rfl
     refine DagSteps.cons (fun s' w' X U H => Or.inl ⟨?_, ?_⟩) ?_
     ·exact Guarded_none rfl
     ·exact Does_val (r_move (v := (.slice (some ⟨g, 0, none⟩) ts.length c)) (U 0 rfl)) (Ext.refl _) rfl
     refine DagSteps.cons (fun s' w' X U H => Or.inl ⟨?_, ?_⟩) ?_
     ·exact Guarded_none rfl
     ·exact Does_val (r_move (v := (I6 (k : Int))) (U 5 rfl)) (Ext.refl _) rfl
     refine DagSteps.cons (fun s' w' X U H => Or.inl ⟨?_, ?_⟩) ?_
     ·exact Guarded_none rfl
     ·have e19 : s' 19 = (.slice (some ⟨g, 0, none⟩) ts.length c) := H 1 rfl 19 (.eq (.slice (some ⟨g, 0, none⟩) ts.length c)) rfl (by rw [hFs4]; rfl)
      have e20 : s' 20 = (.int .i64 ((k : Nat) : Int)) := H 2 rfl 20 (.eq (.int .i64 ((k : Nat) : Int))) rfl (by rw [hFs4]; rfl)
      exact Does_val (r_indexSlice (b := g) (o := 0) (len := ts.length) (cap := c) (i := k) (o' := 0 + k * 3) e19 e20 rfl Tryz.underlying24 siz39 (by omega) (by omega)) (Ext.refl _) rfl
     refine DagSteps.cons (fun s' w' X U H => Or.inl ⟨?_, ?_⟩) ?_
     ·exact Guarded_none rfl
     ·have e21 : s' 21 = (.pointer (some ⟨g, 0 + k * 3, none⟩)) := H 3 rfl 21 (.eq (.pointer (some ⟨g, 0 + k * 3, none⟩))) rfl (by rw [hFs4]; rfl)
      exact Does_val (r_loadAgg (vs := [(I6 x.1), (I6 x.2.1), (.slice ua x.2.2.length uc)]) e21 agg39 siz39 rfl (by rw [Nat.zero_add]; exact hcx.ext (X0.trans X))) (Ext.refl _) rfl
     refine DagSteps.cons (fun s' w' X U H => Or.inl ⟨?_, ?_⟩) ?_
     ·exact Guarded_none rfl
     ·exact Does_val (r_move (v := (.slice (some ⟨g, 0, none⟩) ts.length c)) (U 0 rfl)) (Ext.refl _) rfl
     refine DagSteps.cons (fun s' w' X U H => Or.inl ⟨?_, ?_⟩) ?_
     ·exact Guarded_none rfl
     ·exact Does_val (r_move (v := (I6 (k : Int))) (U 5 rfl)) (Ext.refl _) rfl
     refine DagSteps.cons (fun s' w' X U H => Or.inl ⟨?_, ?_⟩) ?_
     ·exact Guarded_none rfl
     ·have e24 : s' 24 = (.int .i64 ((k : Nat) : Int)) := H 6 rfl 24 (.eq (.int .i64 ((k : Nat) : Int))) rfl (by rw [hFs4]; rfl)
      exact Does_val (r_sub (k := .i64) (a := (k : Int)) (b := 1) (c := (k : Int) - 1) e24 rfl (wI64 (by omega))) (Ext.refl _) rfl
     refine DagSteps.cons (fun s' w' X U H => Or.inl ⟨?_, ?_⟩) ?_
     ·exact Guarded_none rfl
     ·have e23 : s' 23 = (.slice (some ⟨g, 0, none⟩) ts.length c) := H 5 rfl 23 (.eq (.slice (some ⟨g, 0, none⟩) ts.length c)) rfl (by rw [hFs4]; rfl)
      have e25 : s' 25 = (.int .i64 (((k : Nat) : Int) - 1)) := H 7 rfl 25 (.eq (.int .i64 (((k : Nat) : Int) - 1))) rfl (by rw [hFs4]; rfl)
      exact Does_val (r_indexSlice (b := g) (o := 0) (len := ts.length) (cap := c) (i := k - 1) (o' := 0 + (k - 1) * 3) e23 e25 (by omega) Tryz.underlying24 siz39 (by omega) (by omega)) (Ext.refl _) rfl
     refine DagSteps.cons (fun s' w' X U H => Or.inl ⟨?_, ?_⟩) ?_
     ·exact Guarded_none rfl
     ·have e26 : s' 26 = (.pointer (some ⟨g, 0 + (k - 1) * 3, none⟩)) := H 8 rfl 26 (.eq (.pointer (some ⟨g, 0 + (k - 1) * 3, none⟩))) rfl (by rw [hFs4]; rfl)
      exact Does_val (r_loadAgg (vs := [(I6 y.1), (I6 y.2.1), (.slice ua2 y.2.2.length uc2)]) e26 agg39 siz39 rfl (by rw [Nat.zero_add]; exact hcy.ext (X0.trans X))) (Ext.refl _) rfl
     refine DagSteps.cons (fun s' w' X U H => Or.inl ⟨?_, ?_⟩) ?_
     ·exact Guarded_none rfl
     ·have e22 : s' 22 = (.agg #[(.int .i64 x.1), (.int .i64 x.2.1), (.slice ua x.2.2.length uc)]) := H 4 rfl 22 (.eq (.agg #[(.int .i64 x.1), (.int .i64 x.2.1), (.slice ua x.2.2.length uc)])) rfl (by rw [hFs4]; rfl)
      have e27 : s' 27 = (.agg #[(.int .i64 y.1), (.int .i64 y.2.1), (.slice ua2 y.2.2.length uc2)]) := H 9 rfl 27 (.eq (.agg #[(.int .i64 y.1), (.int .i64 y.2.1), (.slice ua2 y.2.2.length uc2)])) rfl (by rw [hFs4]; rfl)
      have e18 : s' 18 = fv := H 0 rfl 18 (.eq fv) rfl (by rw [hFs4]; rfl)
      exact Does_callV e18 (lst2 e22 e27) (hf _ x y ua ua2 uc uc2 (hux.ext (X0.trans X)) (huy.ext (X0.trans X)))
     exact DagSteps.nil
    ·intro s' w4 X4 U H
     obtain ⟨j4, rfl⟩ := Fits.out (σ := s') (l := [(0, (.slice (some ⟨g, 0, none⟩) ts.length c)), (1, fv), (5, (.int .i64 ((k : Nat) : Int))), (28, (.bool (decide (x = y))))]) ⟨U 0 rfl, U 1 rfl, U 5 rfl, (show s' 28 = (.bool (decide (x = y))) from H 10 28 (.eq (.bool (decide (x = y)))) rfl (by rw [hFs4]; rfl)), trivial⟩
     clear U H
     replace hgB2 := X4.keep hgB2
     replace E := E.ext X4
     refine thn_normal ?_
     refine Wp_cond (b := decide (x = y)) rfl (fun hsm => ?_) (fun hsm => ?_)
     ·have khsm := hsm
      replace hsm := of_decide_eq_true hsm
      refine Wp_seq_region ?_
      refine qM (.slice (some ⟨g, 0, none⟩) ts.length c) rfl ?_
      refine qM (I6 (k : Int)) rfl ?_
      obtain ⟨sl, hsl⟩ : ∃ a' : Option Addr, (if c = k then (some ⟨g, 0, none⟩) else Option.map (fun q : Addr => q.add (k * 3)) (some ⟨g, 0, none⟩)) = a' := ⟨_, rfl⟩
      refine qV (r_sliceLo (a := (some ⟨g, 0, none⟩)) (len := ts.length) (cap := c) (lo := k) (l := (k : Int)) (n' := (ts.length - k)) (c' := (c - k)) Tryz.underlying24 siz39 rfl rfl (by omega) (by omega) hsl (by omega) (by omega)) ?_
      have hsl2 : sl = some ⟨g, k * 3, none⟩ := by rw [← hsl, if_neg (by omega)]; simp [Addr.add]; omega
      subst hsl2
      refine qA (.slice (some ⟨g, k * 3, none⟩) (ts.length - k) (c - k)) rfl ?_
      refine WpL_nil (Wp_seq (Wp_seq_region ?_))
      refine qA (I6 1) rfl ?_
      refine WpL_nil (Wp_block ?_)
      refine Wp_loop (fun nn_ σ W6 => ∃ (m : Nat) (i : Nat) (cur : List (List Value)), (∃ jj_, σ = upds jj_ [(0, (.slice (some ⟨g, 0, none⟩) ts.length c)), (1, fv), (6, (.slice (some ⟨g, k * 3, none⟩) (ts.length - k) (c - k))), (7, (I6 (m : Int))), (5, (I6 (i : Int)))]) ∧ Chg M w0 W6 ∧ Blk W6 g ((cur.flatten ++ rest).toArray) TEd ∧ (1 ≤ m ∧ m ≤ ts.length - k) ∧ (i < k + m) ∧ (cur.length = ts.length) ∧ (∀ r ∈ cur, r.length = 3) ∧ (cur.drop (k + m - 1) = rows.drop (k + m - 1)) ∧ (EdsF F w0 (kdE none (ts.take (k + m))) (cur.take i)) ∧ (i = (kdE none (ts.take (k + m))).length) ∧ nn_ = ts.length - k - m) (n := ts.length - k - 1) ?_ ?_
      ·exact ⟨1, k, rows, Fits.out ⟨rfl, rfl, rfl, rfl, rfl, trivial⟩, E, hgB2, ⟨by omega, by omega⟩, (by omega), hrl, hr6, rfl, (by rw [hkt, if_pos hsm, hkd]; simpa using hr.take k), (by rw [hkt, if_pos hsm, hkd]; simp; omega), rfl⟩
      ·clear E hgB2
       rintro _ _ W6 ⟨m, i, cur, ⟨j6, rfl⟩, E, hgB2, hm, hij, hcl, hc6, hdr, hin, hil, rfl⟩
       refine Wp_seq (Wp_seq_region ?_)
       refine qM (I6 (m : Int)) rfl ?_
       refine qM (.slice (some ⟨g, k * 3, none⟩) (ts.length - k) (c - k)) rfl ?_
       refine qV (r_lenSlice (ad := some ⟨g, k * 3, none⟩) (n := ts.length - k) (cap := c - k) Tryz.underlying24 rfl) ?_
       refine qV (r_lss (k := .i64) (a := (m : Int)) (b := ((ts.length - k : Nat) : Int)) rfl rfl) ?_
       refine WpL_nil ?_
       refine Wp_cond (b := decide (((m : Int) : Int) < ((ts.length - k : Nat) : Int))) rfl (fun hlt2 => ?_) (fun hlt2 => ?_)
       ·have khlt2 := hlt2
        replace hlt2 := of_decide_eq_true hlt2
        obtain ⟨j, hj⟩ : ∃ j, j = k + m := ⟨_, rfl⟩
        obtain ⟨x, hx⟩ := get_of_lt (l := ts) (i := j) (by omega)
        obtain ⟨y, hy⟩ := get_of_lt (l := ts) (i := j - 1) (by omega)
        obtain ⟨r, hrr, hrx⟩ := hr.get hx
        obtain ⟨s, hrs, hry⟩ := hr.get hy
        have hkt := kdE_take (by omega) hx hy
        rw [← hj] at hdr hin hil hij
        have hcr : cur[j]? = some r := by rw [drop_getE hdr (by omega)]; exact hrr
        have hcs : cur[j - 1]? = some s := by rw [drop_getE hdr (Nat.le_refl _)]; exact hrs
        have hdr2 : cur.drop j = rows.drop j := by have := congrArg (List.drop 1) hdr; rw [List.drop_drop, List.drop_drop, show j - 1 + 1 = j by omega] at this; exact this
        have hcx := rows_at hgB2 hc6 hcr
        have hcy := rows_at hgB2 hc6 hcs
        have hrx0 := hrx
        obtain ⟨ua, uc, rfl, hux⟩ := (hrx.chg E hFg).form
        obtain ⟨ua2, uc2, rfl, huy⟩ := (hry.chg E hFg).form
        refine Wp_skip (thn_normal (Wp_seq (Wp_block (Wp_seq ?_))))
        obtain ⟨Fs8, hFs8⟩ : ∃ Fs : List Fact, Fs = [.eq fv, .eq (.slice (some ⟨g, k * 3, none⟩) (ts.length - k) (c - k)), .eq (I6 (m : Int)), .eq (.pointer (some ⟨g, k * 3 + m * 3, none⟩)), .eq (.agg #[(I6 x.1), (I6 x.2.1), (.slice ua x.2.2.length uc)]), .eq (.slice (some ⟨g, k * 3, none⟩) (ts.length - k) (c - k)), .eq (I6 (m : Int)), .eq (I6 ((m : Int) - 1)), .eq (.pointer (some ⟨g, k * 3 + (m - 1) * 3, none⟩)), .eq (.agg #[(I6 y.1), (I6 y.2.1), (.slice ua2 y.2.2.length uc2)]), .eq (.bool (decide (x = y))), .eq (.bool (!(decide (x = y))))] := ⟨_, rfl⟩
        refine Wp_dag [38, 39, 40, 41, 42, 43, 44, 45, 46, 47, 48, 49] [[], [], [], [1, 2], [3], [], [], [6], [5, 7], [8], [0, 4, 9], [10]] Fs8 hFs8 mixed (by kernel_rfl) (by kernel_rfl) ?_ ?_
        ·intro wd X0
         refine DagSteps.cons (fun s' w' X U H => Or.inl ⟨?_, ?_⟩) ?_
         ·exact Guarded_none rfl
         ·exact Does_val (r_move (v := fv) (U 1 rfl)) (Ext.refl _) rfl
         refine DagSteps.cons (fun s' w' X U H => Or.inl ⟨?_, ?_⟩) ?_
         ·exact Guarded_none rfl
         ·exact Does_val (r_move (v := (.slice (some ⟨g, k * 3, none⟩) (ts.length - k) (c - k))) (U 6 rfl)) (Ext.refl _) rfl
         refine DagSteps.cons (fun s' w' X U H => Or.inl ⟨?_, ?_⟩) ?_
         ·exact Guarded_none rfl
         ·exact Does_val (r_move (v := (I6 (m : Int))) (U 7 rfl)) (Ext.refl _) rfl
         refine DagSteps.cons (fun s' w' X U H => Or.inl ⟨?_, ?_⟩) ?_
         ·exact Guarded_none rfl
         ·have e39 : s' 39 = (.slice (some ⟨g, k * 3, none⟩) (ts.length - k) (c - k)) := H 1 rfl 39 (.eq (.slice (some ⟨g, k * 3, none⟩) (ts.length - k) (c - k))) rfl (by rw [hFs8]; rfl)
          have e40 : s' 40 = (.int .i64 ((m : Nat) : Int)) := H 2 rfl 40 (.eq (.int .i64 ((m : Nat) : Int))) rfl (by rw [hFs8]; rfl)
          exact Does_val (r_indexSlice (b := g) (o := k * 3) (len := ts.length - k) (cap := c - k) (i := m) (o' := k * 3 + m * 3) e39 e40 rfl Tryz.underlying24 siz39 (by omega) (by omega)) (Ext.refl _) rfl
         refine DagSteps.cons (fun s' w' X U H => Or.inl ⟨?_, ?_⟩) ?_
         ·exact Guarded_none rfl
         ·have e41 : s' 41 = (.pointer (some ⟨g, k * 3 + m * 3, none⟩)) := H 3 rfl 41 (.eq (.pointer (some ⟨g, k * 3 + m * 3, none⟩))) rfl (by rw [hFs8]; rfl)
          exact Does_val (r_loadAgg (vs := [(I6 x.1), (I6 x.2.1), (.slice ua x.2.2.length uc)]) e41 agg39 siz39 rfl (by rw [show k * 3 + m * 3 = j * 3 by omega]; exact hcx.ext (X0.trans X))) (Ext.refl _) rfl
         refine DagSteps.cons (fun s' w' X U H => Or.inl ⟨?_, ?_⟩) ?_
         ·exact Guarded_none rfl
         ·exact Does_val (r_move (v := (.slice (some ⟨g, k * 3, none⟩) (ts.length - k) (c - k))) (U 6 rfl)) (Ext.refl _) rfl
         refine DagSteps.cons (fun s' w' X U H => Or.inl ⟨?_, ?_⟩) ?_
         ·exact Guarded_none rfl
         ·exact Does_val (r_move (v := (I6 (m : Int))) (U 7 rfl)) (Ext.refl _) rfl
         refine DagSteps.cons (fun s' w' X U H => Or.inl ⟨?_, ?_⟩) ?_
         ·exact Guarded_none rfl
         ·have e44 : s' 44 = (.int .i64 ((m : Nat) : Int)) := H 6 rfl 44 (.eq (.int .i64 ((m : Nat) : Int))) rfl (by rw [hFs8]; rfl)
          exact Does_val (r_sub (k := .i64) (a := (m : Int)) (b := 1) (c := (m : Int) - 1) e44 rfl (wI64 (by omega))) (Ext.refl _) rfl
         refine DagSteps.cons (fun s' w' X U H => Or.inl ⟨?_, ?_⟩) ?_
         ·exact Guarded_none rfl
         ·have e43 : s' 43 = (.slice (some ⟨g, k * 3, none⟩) (ts.length - k) (c - k)) := H 5 rfl 43 (.eq (.slice (some ⟨g, k * 3, none⟩) (ts.length - k) (c - k))) rfl (by rw [hFs8]; rfl)
          have e45 : s' 45 = (.int .i64 (((m : Nat) : Int) - 1)) := H 7 rfl 45 (.eq (.int .i64 (((m : Nat) : Int) - 1))) rfl (by rw [hFs8]; rfl)
          exact Does_val (r_indexSlice (b := g) (o := k * 3) (len := ts.length - k) (cap := c - k) (i := m - 1) (o' := k * 3 + (m - 1) * 3) e43 e45 (by omega) Tryz.underlying24 siz39 (by omega) (by omega)) (Ext.refl _) rfl
         refine DagSteps.cons (fun s' w' X U H => Or.inl ⟨?_, ?_⟩) ?_
         ·exact Guarded_none rfl
         ·have e46 : s' 46 = (.pointer (some ⟨g, k * 3 + (m - 1) * 3, none⟩)) := H 8 rfl 46 (.eq (.pointer (some ⟨g, k * 3 + (m - 1) * 3, none⟩))) rfl (by rw [hFs8]; rfl)
          exact Does_val (r_loadAgg (vs := [(I6 y.1), (I6 y.2.1), (.slice ua2 y.2.2.length uc2)]) e46 agg39 siz39 rfl (by rw [show k * 3 + (m - 1) * 3 = (j - 1) * 3 by omega]; exact hcy.ext (X0.trans X))) (Ext.refl _) rfl
         refine DagSteps.cons (fun s' w' X U H => Or.inl ⟨?_, ?_⟩) ?_
         ·exact Guarded_none rfl
         ·have e42 : s' 42 = (.agg #[(.int .i64 x.1), (.int .i64 x.2.1), (.slice ua x.2.2.length uc)]) := H 4 rfl 42 (.eq (.agg #[(.int .i64 x.1), (.int .i64 x.2.1), (.slice ua x.2.2.length uc)])) rfl (by rw [hFs8]; rfl)
          have e47 : s' 47 = (.agg #[(.int .i64 y.1), (.int .i64 y.2.1), (.slice ua2 y.2.2.length uc2)]) := H 9 rfl 47 (.eq (.agg #[(.int .i64 y.1), (.int .i64 y.2.1), (.slice ua2 y.2.2.length uc2)])) rfl (by rw [hFs8]; rfl)
          have e38 : s' 38 = fv := H 0 rfl 38 (.eq fv) rfl (by rw [hFs8]; rfl)
          exact Does_callV e38 (lst2 e42 e47) (hf _ x y ua ua2 uc uc2 (hux.ext (X0.trans X)) (huy.ext (X0.trans X)))
         refine DagSteps.cons (fun s' w' X U H => Or.inl ⟨?_, ?_⟩) ?_
         ·exact Guarded_none rfl
         ·have e48 : s' 48 = (.bool (decide (x = y))) := H 10 rfl 48 (.eq (.bool (decide (x = y)))) rfl (by rw [hFs8]; rfl)
          exact Does_val (r_not (b := decide (x = y)) e48) (Ext.refl _) rfl
         exact DagSteps.nil
        ·intro s' w8 X8 U H
         obtain ⟨j8, rfl⟩ := Fits.out (σ := s') (l := [(0, (.slice (some ⟨g, 0, none⟩) ts.length c)), (1, fv), (5, (.int .i64 ((i : Nat) : Int))), (6, (.slice (some ⟨g, k * 3, none⟩) (ts.length - k) (c - k))), (7, (.int .i64 ((m : Nat) : Int))), (49, (.bool (!(decide (x = y)))))]) ⟨U 0 rfl, U 1 rfl, U 5 rfl, U 6 rfl, U 7 rfl, (show s' 49 = (.bool (!(decide (x = y)))) from H 11 49 (.eq (.bool (!(decide (x = y))))) rfl (by rw [hFs8]; rfl)), trivial⟩
         clear U H
         replace hgB2 := X8.keep hgB2
         replace hcx := hcx.ext X8
         replace E := E.ext X8
         refine thn_normal ?_
         refine Wp_cond (b := !(decide (x = y))) rfl (fun hne => ?_) (fun hne => ?_)
         ·have khne := hne
          replace hne := by simpa using hne
          have hsf : ¬ x = y := by simpa using hne
          refine Wp_seq_region ?_
          refine qM (.slice (some ⟨g, 0, none⟩) ts.length c) rfl ?_
          refine qM (I6 (i : Int)) rfl ?_
          refine qM (.slice (some ⟨g, k * 3, none⟩) (ts.length - k) (c - k)) rfl ?_
          refine qM (I6 (m : Int)) rfl ?_
          refine qV (r_indexSlice (b := g) (o := k * 3) (len := ts.length - k) (cap := c - k) (i := m) (o' := k * 3 + m * 3) rfl rfl rfl Tryz.underlying24 siz39 (by omega) (by omega)) ?_
          refine qV (r_loadAgg (vs := [(I6 x.1), (I6 x.2.1), (.slice ua x.2.2.length uc)]) rfl agg39 siz39 rfl (by rw [show k * 3 + m * 3 = j * 3 by omega]; exact hcx)) ?_
          refine qV (r_indexSlice (b := g) (o := 0) (len := ts.length) (cap := c) (i := i) (o' := 0 + i * 3) rfl rfl rfl Tryz.underlying24 siz39 (by omega) (by omega)) ?_
          refine s_storeAgg (b := g) (o := 0 + i * 3) (n := 3) (c' := ((cur.set i [.int .i64 x.1, .int .i64 x.2.1, .slice ua x.2.2.length uc]).flatten ++ rest).toArray) (vs := #[(I6 x.1), (I6 x.2.1), (.slice ua x.2.2.length uc)]) rfl rfl (by simp [Value.oneCell']) siz39 (rfl) hgB2 (by have := rows_len hc6; simp only [List.size_toArray, List.length_append]; omega) (by rw [Nat.zero_add]; exact congrArg List.toArray (rows_set (k := 3) (v := [.int .i64 x.1, .int .i64 x.2.1, .slice ua x.2.2.length uc]) (rows := cur) (i := i) (rest := rest) rfl hc6 (by omega))) ?_
          intro w10 S10
          replace E := S10.step E (by first | exact Or.inl (by omega) | exact Or.inr rfl | exact Or.inr (by assumption) | exact Or.inr (by simp) | exact Or.inr (by omega) | exact Or.inr (by dsimp only; omega))
          replace hgB2 := S10.blk
          refine WpL_nil (Wp_region ?_)
          refine qM (I6 (i : Int)) rfl ?_
          refine qV (r_add (k := .i64) (a := (i : Int)) (b := 1) (c := (i : Int) + 1) rfl rfl (wI64 (by omega))) ?_
          refine qA (I6 ((i : Int) + 1)) rfl ?_
          refine WpL_nil (inB_normal (thn_normal (Wp_region ?_)))
          refine qM (I6 (m : Int)) rfl ?_
          refine qV (r_add (k := .i64) (a := (m : Int)) (b := 1) (c := (m : Int) + 1) rfl rfl (wI64 (by omega))) ?_
          refine qA (I6 ((m : Int) + 1)) rfl ?_
          refine WpL_nil (thn_normal ?_)
          exact ⟨ts.length - k - (m + 1), by omega, m + 1, i + 1, cur.set i [.int .i64 x.1, .int .i64 x.2.1, .slice ua x.2.2.length uc], Fits.out ⟨rfl, rfl, rfl, rfl, rfl, trivial⟩, E, hgB2, ⟨by omega, by omega⟩, (by omega), (by simpa using hcl), (fun r hr => by rcases List.mem_or_eq_of_mem_set hr with h | h; exact hc6 r h; rw [h]; rfl), (by rw [show k + (m + 1) - 1 = j by omega, List.drop_set_of_lt (by omega)]; exact hdr2), (by rw [show k + (m + 1) = j + 1 by omega, hkt, if_neg hsf, List.take_add_one, List.take_set_of_le (Nat.le_refl _), List.getElem?_set_self (by omega)]; exact hin.snoc hrx0), (by rw [show k + (m + 1) = j + 1 by omega, hkt, if_neg hsf, List.length_append, ← hil]; rfl), rfl⟩
         ·have khne := hne
          replace hne := by simpa using hne
          have hst : x = y := by simpa using hne
          refine Wp_skip (inB_normal (thn_normal (Wp_region ?_)))
          refine qM (I6 (m : Int)) rfl ?_
          refine qV (r_add (k := .i64) (a := (m : Int)) (b := 1) (c := (m : Int) + 1) rfl rfl (wI64 (by omega))) ?_
          refine qA (I6 ((m : Int) + 1)) rfl ?_
          refine WpL_nil (thn_normal ?_)
          exact ⟨ts.length - k - (m + 1), by omega, m + 1, i, cur, Fits.out ⟨rfl, rfl, rfl, rfl, rfl, trivial⟩, E, hgB2, ⟨by omega, by omega⟩, (by omega), hcl, hc6, (by rw [show k + (m + 1) - 1 = j by omega]; exact hdr2), (by rw [show k + (m + 1) = j + 1 by omega, hkt, if_pos hst]; simpa using hin), (by rw [show k + (m + 1) = j + 1 by omega, hkt, if_pos hst]; simpa using hil), rfl⟩
       ·have khlt2 := hlt2
        replace hlt2 := of_decide_eq_false hlt2
        have hjj : k + m = ts.length := by omega
        rw [hjj, List.take_length] at hin hil
        have hil2 : i ≤ ts.length := by rw [hil]; exact kdE_len _ _
        refine Wp_exit (thn_exit (thn_exit (inB_here (thn_normal (Wp_seq_region ?_)))))
        refine qM (.slice (some ⟨g, 0, none⟩) ts.length c) rfl ?_
        refine qM (I6 (i : Int)) rfl ?_
        obtain ⟨sk, hsk⟩ : ∃ a' : Option Addr, (if c = i then (some ⟨g, 0, none⟩) else Option.map (fun q : Addr => q.add (i * 3)) (some ⟨g, 0, none⟩)) = a' := ⟨_, rfl⟩
        refine qV (r_sliceLo (a := (some ⟨g, 0, none⟩)) (len := ts.length) (cap := c) (lo := i) (l := (i : Int)) (n' := (ts.length - i)) (c' := (c - i)) Tryz.underlying24 siz39 rfl rfl (by omega) (by omega) hsk (by omega) (by omega)) ?_
        have hsk2 : sk = some ⟨g, i * 3, none⟩ := by rw [← hsk, if_neg (by omega)]; simp [Addr.add]; omega
        subst hsk2
        obtain ⟨cz, hcz⟩ : ∃ cz, cz = ((cur.flatten ++ rest).toArray.toList.take (i * 3) ++ (Builtin.zeroCells (Value.cells (.agg #[(.int .i64 0), (.int .i64 0), (.slice none 0 0)])) (ts.length - i)).toList ++ (cur.flatten ++ rest).toArray.toList.drop (i * 3 + (ts.length - i) * 3)).toArray := ⟨_, rfl⟩
        refine s_clear (b := g) (o := i * 3) (m := (ts.length - i)) (cc := (c - i)) (c' := cz) Tryz.underlying24 zer39 rfl (by omega) hgB2 zero_oneE (by show i * 3 + (ts.length - i) * 3 ≤ _; simp only [List.size_toArray, List.length_append, rows_len hc6, hcl]; omega) (hcz.symm) ?_
        intro w11 S11
        replace E := S11.step E (by first | exact Or.inl (by omega) | exact Or.inr rfl | exact Or.inr (by assumption) | exact Or.inr (by simp) | exact Or.inr (by omega) | exact Or.inr (by dsimp only; omega))
        replace hgB2 := S11.blk
        refine WpL_nil (Wp_seq_region ?_)
        refine qM (.slice (some ⟨g, 0, none⟩) ts.length c) rfl ?_
        refine qM (I6 (i : Int)) rfl ?_
        obtain ⟨sm, hsm⟩ : ∃ a' : Option Addr, (if c = 0 then (some ⟨g, 0, none⟩) else Option.map (fun q : Addr => q.add (0 * 3)) (some ⟨g, 0, none⟩)) = a' := ⟨_, rfl⟩
        refine qV (r_sliceHi (a := (some ⟨g, 0, none⟩)) (len := ts.length) (cap := c) (hi := i) (l := (i : Int)) Tryz.underlying24 siz39 rfl rfl (by omega) (by omega) hsm) ?_
        refine qA (.slice sm i c) rfl ?_
        refine WpL_nil (Wp_ret (inB_ret (thn_ret (thn_ret (inB_ret (thn_ret ?_))))))
        refine fin_tmp Tryz.results41 (v := (.slice sm i c)) rfl ?_
        have hsm2 : sm = some ⟨g, 0, none⟩ := by rw [← hsm]; split <;> simp [Addr.add]
        subst hsm2
        have hfl : (cur.take i).flatten.length = i * 3 := by rw [rows_len (fun r hr => hc6 r (List.mem_of_mem_take hr))]; simp; omega
        have htk : (cur.flatten ++ rest).take (i * 3) = (cur.take i).flatten := by
         have : cur.flatten = (cur.take i).flatten ++ (cur.drop i).flatten := by rw [← List.flatten_append, List.take_append_drop]
         rw [this, List.append_assoc, List.take_append_of_le_length (by omega), List.take_of_length_le (by omega)]
        have hz : (Builtin.zeroCells (Value.cells (.agg #[(.int .i64 0), (.int .i64 0), (.slice none 0 0)])) (ts.length - i)).toList.length = (ts.length - i) * 3 := by simp [Builtin.zeroCells, Value.cells]
        have hcl6 : (cur.flatten ++ rest).length = c * 3 := by rw [List.length_append, rows_len hc6, hcl]; omega
        refine ⟨some ⟨g, 0, none⟩, c, cur.take i, by rw [← hil], ⟨by rw [hfl, ← hil], .inr ⟨g, c, cz, by rw [← hil], hgb, hgB2, by omega, hcap2, ?_, ?_⟩⟩, hin.chg E hFg, fun b h => h, E⟩
        ·rw [hcz]
         simp only [List.size_toArray, List.length_append, List.length_take, List.length_drop, hz]
         simp only [List.length_append] at hcl6
         omega
        ·rw [hcz, ← hil]
         show List.take (i * 3) (List.take (i * 3) (cur.flatten ++ rest) ++ _ ++ _) = _
         rw [htk, List.append_assoc, List.take_append_of_le_length (by omega), List.take_of_length_le (by omega)]
     ·have khsm := hsm
      replace hsm := of_decide_eq_false hsm
      refine Wp_skip (inB_normal (thn_normal (Wp_region ?_)))
      refine qM (I6 (k : Int)) rfl ?_
      refine qV (r_add (k := .i64) (a := (k : Int)) (b := 1) (c := (k : Int) + 1) rfl rfl (wI64 (by omega))) ?_
      refine qA (I6 ((k : Int) + 1)) rfl ?_
      refine WpL_nil (thn_normal ?_)
      exact ⟨ts.length - (k + 1), by omega, k + 1, Fits.out ⟨rfl, rfl, rfl, trivial⟩, E, hgB2, ⟨by omega, by omega⟩, (by rw [hkt, if_neg hsm, hkd, List.take_add_one, hx]; rfl), rfl⟩
   ·have khlt := hlt
    replace hlt := of_decide_eq_false hlt
    have hkk : k = ts.length := by omega
    rw [hkk, List.take_length] at hkd
    refine Wp_exit (thn_exit (thn_exit (inB_here (thn_normal (Wp_seq_region ?_)))))
    refine qM (.slice (some ⟨g, 0, none⟩) ts.length c) rfl ?_
    refine qA (.slice (some ⟨g, 0, none⟩) ts.length c) rfl ?_
    refine WpL_nil (Wp_ret ?_)
    refine fin_tmp Tryz.results41 (v := (.slice (some ⟨g, 0, none⟩) ts.length c)) rfl ?_
    rw [hkd]; exact ⟨some ⟨g, 0, none⟩, c, rows, rfl, own_chgE hown0 hgB2 hcap1 hcap2 hszz, hr.chg E hFg, fun b h => h, E⟩
end Go.Proofs
namespace Go.Proofs
open Go Go.Eng Go.Sort
set_option maxRecDepth 100000
theorem bare1_c (w0 : World) (x y : Ed) (ua ua2 : Option Addr) (uc uc2 : Nat) (h1 : SpansAt w0 (.slice ua x.2.2.length uc) x.2.2) (h2 : SpansAt w0 (.slice ua2 y.2.2.length uc2) y.2.2) :
  Ret Tryz.prog 42 #[.agg #[.int .i64 x.1, .int .i64 x.2.1, .slice ua x.2.2.length uc], .agg #[.int .i64 y.1, .int .i64 y.2.1, .slice ua2 y.2.2.length uc2]] w0 fun v w => v = .bool (decide (x = y)) ∧ Ext w0 w := by
 refine Ret_of Tryz.func42 rfl Tryz.ntmps42 (Nat.le_of_ble_eq_true rfl) ?_
 have E : Chg none1 w0 w0 := Chg.refl _ _
 refine Wp_seq_region ?_
 refine s_box (v := (.agg #[(I6 x.1), (I6 x.2.1), (.slice ua x.2.2.length uc)])) (c := #[(I6 x.1), (I6 x.2.1), (.slice ua x.2.2.length uc)]) (by decide) rfl rfl ?_
 intro bp wp Np
 have Fp := Np.ge E
 replace E := E.ext Np.ext
 have Bp := Np.blk
 refine s_box (v := (.agg #[(I6 y.1), (I6 y.2.1), (.slice ua2 y.2.2.length uc2)])) (c := #[(I6 y.1), (I6 y.2.1), (.slice ua2 y.2.2.length uc2)]) (by decide) rfl rfl ?_
 intro bq wq Nq
 have Fq := Nq.ge E
 have Oq_bp := Nq.lt Bp
 replace Bp := Nq.keep Bp
 replace E := E.ext Nq.ext
 have Bq := Nq.blk
 refine qA (.bool false) rfl ?_
 refine WpL_nil (Wp_seq_region ?_)
 refine qV (r_loadAgg (vs := [(I6 x.1), (I6 x.2.1), (.slice ua x.2.2.length uc)]) rfl agg39 siz39 rfl (Bp.cells rfl)) ?_
 refine qV (r_loadAgg (vs := [(I6 y.1), (I6 y.2.1), (.slice ua2 y.2.2.length uc2)]) rfl agg39 siz39 rfl (Bq.cells rfl)) ?_
 refine WpL_enter rfl rfl (by decide) (r_callF (vs := [(.agg #[(I6 x.1), (I6 x.2.1), (.slice ua x.2.2.length uc)]), (.agg #[(I6 y.1), (I6 y.2.1), (.slice ua2 y.2.2.length uc2)])]) Tryz.func40 kQ kQ rfl) (edges2_c _ x y ua ua2 uc uc2 (h1.ext E) (h2.ext E)) ?_
 rintro _ w9 ⟨rfl, X9⟩
 replace Bp := X9.keep Bp
 replace Bq := X9.keep Bq
 replace E := E.ext X9
 refine qV (r_eql (k := .i64) (a := edO x y) (b := 0) rfl rfl) ?_
 refine qA (.bool (decide ((edO x y : Int) = 0))) rfl ?_
 refine WpL_nil (Wp_ret ?_)
 refine fin_tmp Tryz.results42 (v := (.bool (decide ((edO x y : Int) = 0)))) rfl ?_
 exact ⟨bool_eq (by rw [decide_eq_decide]; exact edO_zero), E⟩
theorem bare2_c (w0 : World) (a N g b : Nat) (M : List Bool) (hB : Blk w0 b #[.slice (some ⟨g, 0, none⟩) N N] 72) (hg : Blk w0 g (M.map Value.bool).toArray 4) (hMl : M.length = N) (ha : a < N) :
  Ret Tryz.prog 43 #[.int .i64 ((a : Nat) : Int), .pointer (some ⟨b, 0, none⟩)] w0 fun r w => r = .bool (M.getD a false) ∧ Ext w0 w := by
 obtain ⟨x, hx⟩ := get_of_lt (l := M) (i := a) (by omega)
 refine Ret_of Tryz.func43 rfl Tryz.ntmps43 (Nat.le_of_ble_eq_true rfl) ?_
 have E : Chg none1 w0 w0 := Chg.refl _ _
 refine Wp_seq_region ?_
 refine qA (.bool false) rfl ?_
 refine WpL_nil (Wp_seq_region ?_)
 refine qV (r_load (v := (.slice (some ⟨g, 0, none⟩) N N)) rfl flat72 (hB.cell rfl)) ?_
 refine qM (I6 (a : Int)) rfl ?_
 refine qV (r_indexSlice (b := g) (o := 0) (len := N) (cap := N) (i := a) (o' := 0 + a) rfl rfl rfl Tryz.underlying72 siz4 (by omega) (by omega)) ?_
 refine qV (r_load (v := (.bool x)) rfl flat4 (by rw [Nat.zero_add]; exact hg.cell (by simp [hx]))) ?_
 refine qA (.bool x) rfl ?_
 refine WpL_nil (Wp_ret ?_)
 refine fin_tmp Tryz.results43 (v := (.bool x)) rfl ?_
 exact ⟨bool_eq (by rw [List.getD_eq_getElem?_getD, hx]; rfl), E⟩
--BEGIN
def BareS (n : Nf) (s : Int) (L : List Ed) : Prop := L.Pairwise (fun a b => edO a b < 0) ∧ ∀ x, x ∈ L ↔ ∃ e ∈ n.edges, cloP n.eps (fun t => t = s) e.1 ∧ x = (s, e.2.1, e.2.2)
theorem ed_unique : ∀ {p q : List Ed}, p.Pairwise (fun a b => edO a b < 0) → q.Pairwise (fun a b => edO a b < 0) → (∀ x, x ∈ p ↔ x ∈ q) → p = q
  | [], [], _, _, _ => rfl
  | [], y :: q, _, _, h => absurd ((h y).2 List.mem_cons_self) List.not_mem_nil
  | x :: p, [], _, _, h => absurd ((h x).1 List.mem_cons_self) List.not_mem_nil
  | x :: p, y :: q, hp, hq, h => by
    have h1 := List.pairwise_cons.1 hp
    have h2 := List.pairwise_cons.1 hq
    have irr : ∀ a : Ed, ¬ edO a a < 0 := fun a h9 => by have := edO_zero.2 (rfl : a = a); omega
    have asy : ∀ a b : Ed, edO a b < 0 → ¬ edO b a < 0 := fun a b h8 h9 => by
      have := sy_ed a b
      unfold Sy at this
      omega
    have e : x = y := by
      rcases List.mem_cons.1 ((h x).1 List.mem_cons_self) with h3 | h3
      · exact h3
      · rcases List.mem_cons.1 ((h y).2 List.mem_cons_self) with h4 | h4
        · exact h4.symm
        · exact absurd (h2.1 x h3) (asy _ _ (h1.1 y h4))
    subst e
    rw [ed_unique h1.2 h2.2 fun z => ?_]
    constructor
    · intro hz
      rcases List.mem_cons.1 ((h z).1 (List.mem_cons_of_mem _ hz)) with h3 | h3
      · subst h3; exact absurd (h1.1 z hz) (irr z)
      · exact h3
    · intro hz
      rcases List.mem_cons.1 ((h z).2 (List.mem_cons_of_mem _ hz)) with h3 | h3
      · subst h3; exact absurd (h2.1 z hz) (irr z)
      · exact h3
theorem BareS.uniq {n : Nf} {s : Int} {p q : List Ed} (h : BareS n s p) (k : BareS n s q) : p = q := ed_unique h.1 k.1 fun x => (h.2 x).trans (k.2 x).symm
/-- The reference puts an edge into its place. -/
def putE : List Ed → Ed → List Ed
  | [], x => [x]
  | y :: l, x => if x = y then y :: l else if edO x y < 0 then x :: y :: l else y :: putE l x
theorem putE_mem {x z : Ed} : ∀ {l : List Ed}, z ∈ putE l x ↔ z = x ∨ z ∈ l
  | [] => by simp [putE]
  | y :: l => by
    have ih := putE_mem (x := x) (z := z) (l := l)
    unfold putE
    split
    · rename_i h
      subst h
      simp
    · split
      · simp
      · rw [List.mem_cons, ih, List.mem_cons]
        exact ⟨fun h => by rcases h with h | h | h; exact .inr (.inl h); exact .inl h; exact .inr (.inr h), fun h => by rcases h with h | h | h; exact .inr (.inl h); exact .inl h; exact .inr (.inr h)⟩
theorem putE_sorted {x : Ed} : ∀ {l : List Ed}, l.Pairwise (fun a b => edO a b < 0) → (putE l x).Pairwise (fun a b => edO a b < 0)
  | [], _ => by simp [putE]
  | y :: l, h => by
    have h1 := List.pairwise_cons.1 h
    have ih := putE_sorted (x := x) h1.2
    unfold putE
    split
    · exact h
    · rename_i hne
      split
      · rename_i hlt
        refine List.pairwise_cons.2 ⟨fun z hz => ?_, h⟩
        rcases List.mem_cons.1 hz with rfl | hz
        · exact hlt
        · have := h1.1 z hz
          exact (tr_ed x y z).2.1 hlt (by omega)
      · rename_i hge
        refine List.pairwise_cons.2 ⟨fun z hz => ?_, ih⟩
        rcases putE_mem.1 hz with rfl | hz
        · have h2 := sy_ed z y
          unfold Sy at h2
          have h3 : edO z y ≠ 0 := fun h9 => hne (edO_zero.1 h9)
          omega
        · exact h1.1 z hz
--END
end Go.Proofs
namespace Go.Proofs
open Go Go.Eng Go.Sort
set_option maxRecDepth 100000
def cmpC : List Int → List Int → Int
  | x :: l, y :: m => if x = y then cmpC l m else if x < y then -1 else 1
  | [], m => 0 - (m.length : Int)
  | l, [] => l.length
def spsC : List (Int × Int) → List Int
  | [] => []
  | s :: l => s.1 :: s.2 :: spsC l
mutual
def codeR : Re → List Int
  | .mk k s a m x _ => k :: (spsC s ++ (-1 :: m :: x :: (codeRs a ++ [-1])))
def codeRs : List Re → List Int
  | [] => []
  | t :: ts => codeR t ++ codeRs ts
end
theorem cmpC_cons (x y : Int) (l m : List Int) : cmpC (x :: l) (y :: m) = lexI (cmpI x y) (cmpC l m) := by
 simp only [cmpC]
 unfold lexI cmpI
 by_cases h : x = y
 ·subst h; simp
 ·rw [if_neg h]
  by_cases h2 : x < y
  ·simp [h2]
  ·have h3 : y < x := by omega
   simp [h2, h3]
theorem lexI_assoc (a b c : Int) : lexI (lexI a b) c = lexI a (lexI b c) := by
 unfold lexI
 by_cases h : a = 0 <;> simp [h]
theorem lexI_z (a : Int) : lexI 0 a = a := by simp [lexI]
theorem lexI_nz {a : Int} (b : Int) (h : a ≠ 0) : lexI a b = a := by simp [lexI, h]
theorem cmpI_lt {a b : Int} (h : a < b) : cmpI a b = -1 := by simp [cmpI, h]
theorem cmpI_gt {a b : Int} (h : b < a) : cmpI a b = 1 := by
 unfold cmpI
 rw [if_neg (by omega), if_pos h]
theorem cmpI_same (a : Int) : cmpI a a = 0 := by simp [cmpI]
theorem sps_cmp : ∀ (s s' : List (Int × Int)) (u v : List Int), (∀ p ∈ s, 0 ≤ p.1) → (∀ p ∈ s', 0 ≤ p.1) → cmpC (spsC s ++ -1 :: u) (spsC s' ++ -1 :: v) = lexI (cmpL cmpSp s s') (cmpC u v)
  | [], [], u, v, _, _ => by simp only [spsC, List.nil_append, cmpC_cons, cmpI_same, cmpL]
  | [], p :: s', u, v, _, h' => by
    have h1 := h' p (by simp)
    simp only [spsC, List.nil_append, List.cons_append, cmpC_cons, cmpL]
    rw [cmpI_lt (show (-1 : Int) < p.1 by omega), lexI_nz _ (by decide), lexI_nz _ (by decide)]
  | p :: s, [], u, v, h, _ => by
    have h1 := h p (by simp)
    simp only [spsC, List.nil_append, List.cons_append, cmpC_cons, cmpL]
    rw [cmpI_gt (show (-1 : Int) < p.1 by omega), lexI_nz _ (by decide), lexI_nz _ (by decide)]
  | p :: s, q :: s', u, v, h, h' => by
    have ih := sps_cmp s s' u v (fun r hr => h r (by simp [hr])) (fun r hr => h' r (by simp [hr]))
    simp only [spsC, List.cons_append, cmpC_cons, cmpL, ih, cmpSp, orL_cons, orL_nil, lexI_assoc, lexI_z]
theorem checkL_lo : ∀ (l : List (Int × Int)) (p : Option Int), checkL p l = 0 → ∀ s ∈ l, 0 ≤ s.1 := by
  intro l
  induction l with
  | nil => simp
  | cons a l ih =>
    intro p h s hs
    rw [checkL_cons] at h
    by_cases h1 : validB a = false
    · rw [if_pos h1] at h; simp at h
    rw [if_neg h1] at h
    have h2 : checkL (some a.2) l = 0 := by
      split at h
      · split at h
        · simp at h
        · exact h
      · simpa using h
    replace h := h2
    rcases List.mem_cons.1 hs with rfl | hs
    · simp [validB] at h1
      omega
    · exact ih _ h s hs
end Go.Proofs
namespace Go.Proofs
open Go Go.Eng Go.Sort
set_option maxRecDepth 100000
abbrev TCi : Nat := 3
theorem spsC_append (a b : List (Int × Int)) : spsC (a ++ b) = spsC a ++ spsC b := by
  induction a with
  | nil => rfl
  | cons x a ih => simp only [List.cons_append, spsC, ih]
theorem spsC_len (a : List (Int × Int)) : (spsC a).length = 2 * a.length := by
  induction a with
  | nil => rfl
  | cons x a ih => simp only [spsC, List.length_cons, ih]; omega
theorem codeRs_append (a b : List Re) : codeRs (a ++ b) = codeRs a ++ codeRs b := by
  induction a with
  | nil => rfl
  | cons x a ih => simp only [List.cons_append, codeRs, ih, List.append_assoc]
def codeA (t : Re) (k : Nat) : List Int := t.kind :: spsC (t.set.take k)
def codeB (t : Re) (k : Nat) : List Int := codeA t t.set.length ++ [-1, t.mn, t.mx] ++ codeRs (t.args.take k)
theorem codeA_succ {t : Re} {k : Nat} {s : Int × Int} (h : t.set[k]? = some s) : codeA t (k + 1) = codeA t k ++ [s.1, s.2] := by
 unfold codeA
 rw [List.take_add_one, h, Option.toList_some, spsC_append]
 rfl
theorem codeB_succ {t : Re} {k : Nat} {x : Re} (h : t.args[k]? = some x) : codeB t (k + 1) = codeB t k ++ codeR x := by
 unfold codeB
 rw [List.take_add_one, h, Option.toList_some, codeRs_append, codeRs, codeRs, List.append_nil]
 simp only [List.append_assoc]
theorem codeB_all (t : Re) : codeR t = codeB t t.args.length ++ [-1] := by
 unfold codeB codeA
 rw [List.take_length, List.take_length]
 cases t
 simp [codeR, Re.kind, Re.set, Re.args, Re.mn, Re.mx]
theorem codeA_len (t : Re) {k : Nat} (h : k ≤ t.set.length) : (codeA t k).length = 1 + 2 * k := by
 unfold codeA
 rw [List.length_cons, spsC_len, List.length_take, Nat.min_eq_left h]
 omega
theorem codeB_le (t : Re) (k : Nat) : (codeB t k).length + 1 ≤ (codeR t).length := by
 rw [codeB_all t]
 unfold codeB
 have : (codeRs (t.args.take k)).length ≤ (codeRs t.args).length := by
  conv => rhs; rw [← List.take_append_drop k t.args, codeRs_append, List.length_append]
  omega
 simp only [List.length_append, List.length_cons, List.length_nil, List.take_length]
 omega
theorem codeA_le (t : Re) : 1 + 2 * t.set.length + 3 ≤ (codeR t).length := by
 have h1 := codeB_le t 0
 have h2 := codeA_len t (Nat.le_refl _)
 unfold codeB at h1
 simp only [List.take_zero, codeRs, List.append_nil, List.length_append, List.length_cons, List.length_nil] at h1
 omega
theorem codeB_ge (t : Re) {k : Nat} {x : Re} (h : t.args[k]? = some x) : (codeB t k).length + (codeR x).length + 1 ≤ (codeR t).length := by
 have h1 := codeB_le t (k + 1)
 rw [codeB_succ h, List.length_append] at h1
 exact h1
def ciG (l : List Int) : Fct := fun v w => ∃ a c, v = .slice a l.length c ∧ IntsAt w v l
theorem ciG_ext (l : List Int) : Stable (ciG l) := by
 rintro v w w' e ⟨a, c, rfl, h⟩
 exact ⟨a, c, rfl, h.ext e⟩
theorem own_intsC {w : World} {base n : Nat} {v : Value} {l : List Int} (h : w.ownsRow base TCi 1 v n (l.map (Value.int .i64))) (hn : n = l.length) : IntsAt w v l := by
 rw [← flat_intV l] at h
 exact own_slat h (by intro r hr; obtain ⟨x, _, rfl⟩ := List.mem_map.1 hr; rfl) (by simp [hn]) (by decide)
set_option maxHeartbeats 2000000 in
theorem code_c : ∀ (n : Nat) (t : Re) (w0 : World) (vs : List Value), t.size ≤ n → (codeR t).length ≤ 100000000 → ReAt w0 t vs →
    Ret Tryz.prog 101 #[.agg vs.toArray] w0 fun v w => ciG (codeR t) v w ∧ Ext w0 w := by
  intro n
  induction n with
  | zero => intro t w0 vs hn; have := t.size_pos; omega
  | succ n ih =>
  intro t w0 vs hn hL ht
  have ht0 := ht
  obtain ⟨sa, sc, aa, ac, rfl, hset, hlen, hargs⟩ := ht.form
  have hLa := codeA_le t
  have hal := len_lt_size t
  refine Ret_of Tryz.func101 rfl Tryz.ntmps101 (Nat.le_of_ble_eq_true rfl) ?_
  have E : Chg none1 w0 w0 := Chg.refl _ _
  refine Wp_seq_region ?_
  refine s_box (v := (.agg (R6 t sa sc aa ac))) (c := (R6 t sa sc aa ac)) (by decide) rfl rfl ?_
  intro br wr Nr
  have Fr := Nr.ge E
  replace E := E.ext Nr.ext
  have Br := Nr.blk
  refine qA (.slice none 0 0) rfl ?_
  refine WpL_nil (Wp_seq_region ?_)
  refine qF br 0 0 rfl Tryz.underlying48 rfl siz3 rfl ?_
  refine qV (r_load (v := (I6 t.kind)) rfl flat3 (Br.cell rfl)) ?_
  refine s_buildSlice (ps := [(0, (I6 t.kind))]) (c := #[(I6 t.kind)]) (by decide) rfl Tryz.underlying22 siz3 zer3 (by decide) (by decide) (by kernel_rfl) ?_
  intro bq wq Nq
  have Fq := Nq.ge E
  have Oq_br := Nq.lt Br
  replace Br := Nq.keep Br
  replace E := E.ext Nq.ext
  have Bq := Nq.blk
  refine qA (.slice (some ⟨bq, 0, none⟩) 1 1) rfl ?_
  refine WpL_nil (Wp_seq (Wp_seq_region ?_))
  refine qF br 0 1 rfl Tryz.underlying48 rfl siz37 rfl ?_
  refine qV (r_load (v := (.slice sa t.set.length sc)) rfl flat37 (Br.cell rfl)) ?_
  refine qV (r_lenSlice (ad := sa) (n := t.set.length) (cap := sc) Tryz.underlying37 rfl) ?_
  refine qM (I6 0) rfl ?_
  refine WpL_nil (Wp_block ?_)
  obtain ⟨base, hbase⟩ : ∃ base, base = wr.heap.size := ⟨_, rfl⟩
  have hb0 : w0.heap.size ≤ base := by have := Nr.ext.size; omega
  have hbr : br < base := by have := Nr.size; have := Nr.eq; omega
  have hO1 := own_lit1 (base := base) Bq (by have := Nq.eq; omega)
  have hbsq : base ≤ wq.heap.size := by have := Nq.ext.size; omega
  refine Wp_loop (fun nn_ σ W1 => ∃ (k : Nat) (la : Option Addr) (lc : Nat) (m : Nat), (∃ jj_, σ = upds jj_ [(1, (P6 br 0)), (12, (.slice sa t.set.length sc)), (13, (I6 (t.set.length : Int))), (14, (I6 (k : Int))), (3, (.slice la m lc))]) ∧ Chg none1 w0 W1 ∧ Blk W1 br (R6 t sa sc aa ac) 48 ∧ (k ≤ t.set.length) ∧ (m = 1 + 2 * k) ∧ (W1.ownsRow base TCi 1 (.slice la m lc) m ((codeA t k).map (Value.int .i64))) ∧ (base ≤ W1.heap.size) ∧ nn_ = t.set.length - k) (n := t.set.length - 0) ?_ ?_
  · exact ⟨0, some ⟨bq, 0, none⟩, 1, 1, Fits.out ⟨rfl, rfl, rfl, rfl, rfl, trivial⟩, E, Br, Nat.zero_le _, rfl, hO1, hbsq, rfl⟩
  · clear E Br
    rintro _ _ W1 ⟨k, la, lc, m, ⟨j1, rfl⟩, E, Br, hk, hm, hown, hbs, rfl⟩
    refine Wp_seq_region ?_
    refine qV (r_lss (k := .i64) (a := (k : Int)) (b := (t.set.length : Int)) rfl rfl) ?_
    refine WpL_nil (Wp_seq ?_)
    refine Wp_cond (b := decide (((k : Int) : Int) < (t.set.length : Int))) rfl (fun hlt => ?_) (fun hlt => ?_)
    · have khlt := hlt
      replace hlt := of_decide_eq_true hlt
      obtain ⟨s, hs⟩ := get_of_lt (l := t.set) (i := k) (by omega)
      obtain ⟨b, o, rfl, hcl⟩ := spans_cells hset (by omega)
      refine Wp_skip (thn_normal (Wp_seq (Wp_block (Wp_seq_region ?_))))
      refine qV (r_indexSlice (b := b) (o := o) (len := t.set.length) (cap := sc) (i := k) (o' := o + k * 2) rfl rfl rfl Tryz.underlying37 siz80 (by omega) (by omega)) ?_
      refine qV (r_loadAgg (vs := [(I6 s.1), (I6 s.2)]) rfl agg80 siz80 rfl ((hcl k s hs).ext E)) ?_
      refine s_allocStore (v := (.agg #[(I6 s.1), (I6 s.2)])) (c := #[(I6 s.1), (I6 s.2)]) (n := 2) (by decide) zer80 rfl siz80 rfl rfl rfl (by simp [Value.oneCell']) ?_
      intro bz wz Nz
      have Fz := Nz.ge E
      have Oz_br := Nz.lt Br
      replace Br := Nz.keep Br
      replace hown := own_ext hown Nz.ext
      replace hbs := Nat.le_trans hbs Nz.ext.size
      replace E := E.ext Nz.ext
      have Bz := Nz.blk
      refine WpL_nil (Wp_region ?_)
      refine qM (.slice la m lc) rfl ?_
      refine qF bz 0 0 rfl Tryz.underlying80 rfl siz3 rfl ?_
      refine qV (r_load (v := (I6 s.1)) rfl flat3 (Bz.cell rfl)) ?_
      refine qF bz 0 1 rfl Tryz.underlying80 rfl siz3 rfl ?_
      refine qV (r_load (v := (I6 s.2)) rfl flat3 (Bz.cell rfl)) ?_
      refine s_buildSlice (ps := [(0, (I6 s.1)), (1, (I6 s.2))]) (c := #[(I6 s.1), (I6 s.2)]) (by decide) rfl Tryz.underlying22 siz3 zer3 (by decide) (by decide) (by kernel_rfl) ?_
      intro bg wg Ng
      have Fg := Ng.ge E
      have Og_br := Ng.lt Br
      have Og_bz := Ng.lt Bz
      replace Br := Ng.keep Br
      replace Bz := Ng.keep Bz
      replace hown := own_ext hown Ng.ext
      replace hbs := Nat.le_trans hbs Ng.ext.size
      replace E := E.ext Ng.ext
      have Bg := Ng.blk
      refine s_append (base := base) (n := m) (m := 2) (xs := ((codeA t k).map (Value.int .i64))) (news := [(I6 s.1), (I6 s.2)]) (size := 1) (bytes := 8) (v := (.slice la m lc)) (by decide) Tryz.underlying22 siz3 byt3 zer3 rfl (by decide) rfl hown rfl (rfl) (Bg.cells rfl) (by simp [Value.oneCell']) (by unfold maxLen; omega) (by omega) (hbs) ?_
      intro v9 w29 Ov9 Cv9 Dv9
      replace Br := Cv9.keep (fun h => by have := (hown.lt _ h).1; omega) Br
      replace E := E.step Cv9 (fun x hx h => absurd (hown.lt x h).1 (by omega))
      obtain ⟨la2, lc2, rfl⟩ := own_form Ov9
      refine qA (.slice la2 (m + 2) lc2) rfl ?_
      refine WpL_nil (inB_normal (thn_normal (Wp_region ?_)))
      refine qV (r_add (k := .i64) (a := (k : Int)) (b := 1) (c := (k : Int) + 1) rfl rfl (wI64 (by omega))) ?_
      refine qM (I6 ((k : Int) + 1)) rfl ?_
      refine WpL_nil (thn_normal ?_)
      exact ⟨t.set.length - (k + 1), by omega, k + 1, la2, lc2, m + 2, Fits.out ⟨rfl, rfl, rfl, rfl, rfl, trivial⟩, E, Br, (by omega), (by omega), (by rw [codeA_succ hs, List.map_append]; exact Ov9), Nat.le_trans hbs Cv9.size, rfl⟩
    · have khlt := hlt
      replace hlt := of_decide_eq_false hlt
      have hkk : k = t.set.length := by omega
      rw [hkk] at hown hm
      refine Wp_exit (thn_exit (thn_exit (inB_here (thn_normal (Wp_seq_region ?_)))))
      refine qM (.slice la m lc) rfl ?_
      refine qF br 0 3 rfl Tryz.underlying48 rfl siz3 rfl ?_
      refine qV (r_load (v := (I6 t.mn)) rfl flat3 (Br.cell rfl)) ?_
      refine qF br 0 4 rfl Tryz.underlying48 rfl siz3 rfl ?_
      refine qV (r_load (v := (I6 t.mx)) rfl flat3 (Br.cell rfl)) ?_
      refine s_buildSlice (ps := [(0, (I6 (-1))), (1, (I6 t.mn)), (2, (I6 t.mx))]) (c := #[(I6 (-1)), (I6 t.mn), (I6 t.mx)]) (by decide) rfl Tryz.underlying22 siz3 zer3 (by decide) (by decide) (by kernel_rfl) ?_
      intro bx wx Nx
      have Fx := Nx.ge E
      have Ox_br := Nx.lt Br
      replace Br := Nx.keep Br
      replace hown := own_ext hown Nx.ext
      replace hbs := Nat.le_trans hbs Nx.ext.size
      replace E := E.ext Nx.ext
      have Bx := Nx.blk
      refine s_append (base := base) (n := m) (m := 3) (xs := ((codeA t t.set.length).map (Value.int .i64))) (news := [(I6 (-1)), (I6 t.mn), (I6 t.mx)]) (size := 1) (bytes := 8) (v := (.slice la m lc)) (by decide) Tryz.underlying22 siz3 byt3 zer3 rfl (by decide) rfl hown rfl (rfl) (Bx.cells rfl) (by simp [Value.oneCell']) (by unfold maxLen; omega) (by omega) (hbs) ?_
      intro v8 w28 Ov8 Cv8 Dv8
      replace Br := Cv8.keep (fun h => by have := (hown.lt _ h).1; omega) Br
      replace E := E.step Cv8 (fun x hx h => absurd (hown.lt x h).1 (by omega))
      obtain ⟨la3, lc3, rfl⟩ := own_form Ov8
      have hbs3 := Nat.le_trans hbs Cv8.size
      refine qA (.slice la3 (m + 3) lc3) rfl ?_
      refine WpL_nil (Wp_seq (Wp_seq_region ?_))
      refine qF br 0 2 rfl Tryz.underlying48 rfl siz46 rfl ?_
      refine qV (r_load (v := (.slice aa t.args.length ac)) rfl flat46 (Br.cell rfl)) ?_
      refine qV (r_lenSlice (ad := aa) (n := t.args.length) (cap := ac) Tryz.underlying46 rfl) ?_
      refine qM (I6 0) rfl ?_
      refine WpL_nil (Wp_block ?_)
      refine Wp_loop (fun nn_ σ W3 => ∃ (j : Nat) (da : Option Addr) (dc : Nat) (d : Nat), (∃ jj_, σ = upds jj_ [(34, (.slice aa t.args.length ac)), (35, (I6 (t.args.length : Int))), (36, (I6 (j : Int))), (3, (.slice da d dc))]) ∧ Chg none1 w0 W3 ∧ Blk W3 br (R6 t sa sc aa ac) 48 ∧ (j ≤ t.args.length) ∧ (d = (codeB t j).length) ∧ (W3.ownsRow base TCi 1 (.slice da d dc) d ((codeB t j).map (Value.int .i64))) ∧ (base ≤ W3.heap.size) ∧ nn_ = t.args.length - j) (n := t.args.length - 0) ?_ ?_
      · exact ⟨0, la3, lc3, m + 3, Fits.out ⟨rfl, rfl, rfl, rfl, trivial⟩, E, Br, Nat.zero_le _, (by unfold codeB; simp only [List.take_zero, codeRs, List.append_nil, List.length_append, codeA_len t (Nat.le_refl _), List.length_cons, List.length_nil]; omega), (by unfold codeB; simp only [List.take_zero, codeRs, List.append_nil, List.map_append]; exact Ov8), hbs3, rfl⟩
      · clear E Br
        rintro _ _ W3 ⟨j, da, dc, d, ⟨j3, rfl⟩, E, Br, hj, hd, hownd, hbsd, rfl⟩
        refine Wp_seq_region ?_
        refine qV (r_lss (k := .i64) (a := (j : Int)) (b := (t.args.length : Int)) rfl rfl) ?_
        refine WpL_nil (Wp_seq ?_)
        refine Wp_cond (b := decide (((j : Int) : Int) < (t.args.length : Int))) rfl (fun hlt2 => ?_) (fun hlt2 => ?_)
        · have khlt2 := hlt2
          replace hlt2 := of_decide_eq_true hlt2
          obtain ⟨x, hx⟩ := get_of_lt (l := t.args) (i := j) (by omega)
          obtain ⟨b, o, rfl, hres⟩ := args_at hargs (by omega)
          obtain ⟨us, hus, hxt⟩ := hres.get hx
          have hxt0 := hxt
          obtain ⟨xsa, xsc, xaa, xac, rfl, _, _, _⟩ := hxt.form
          have hge := codeB_ge t hx
          have hxz := Re.size_arg hx
          refine Wp_skip (thn_normal (Wp_seq (Wp_block (Wp_seq_region ?_))))
          refine qV (r_indexSlice (b := b) (o := o) (len := t.args.length) (cap := ac) (i := j) (o' := o + j * 6) rfl rfl rfl Tryz.underlying46 siz48 (by omega) (by omega)) ?_
          refine qV (r_loadAgg (vs := [(I6 x.kind), (.slice xsa x.set.length xsc), (.slice xaa x.args.length xac), (I6 x.mn), (I6 x.mx), (.bool x.neg)]) rfl agg48 siz48 rfl (hus.ext E)) ?_
          refine s_allocStore (v := (.agg (R6 x xsa xsc xaa xac))) (c := (R6 x xsa xsc xaa xac)) (n := 6) (by decide) zer48 rfl siz48 rfl rfl rfl (by simp [Value.oneCell']) ?_
          intro bz wz Nz
          have Fz := Nz.ge E
          have Oz_br := Nz.lt Br
          replace Br := Nz.keep Br
          replace hownd := own_ext hownd Nz.ext
          replace hbsd := Nat.le_trans hbsd Nz.ext.size
          replace E := E.ext Nz.ext
          have Bz := Nz.blk
          refine WpL_nil (Wp_region ?_)
          refine qM (.slice da d dc) rfl ?_
          refine qV (r_loadAgg (vs := [(I6 x.kind), (.slice xsa x.set.length xsc), (.slice xaa x.args.length xac), (I6 x.mn), (I6 x.mx), (.bool x.neg)]) rfl agg48 siz48 rfl (Bz.cells rfl)) ?_
          refine WpL_enter rfl rfl (by decide) (r_callF (vs := [(.agg (R6 x xsa xsc xaa xac))]) Tryz.func101 kQ kQ rfl) (ih x _ _ (by omega) (by omega) (ReAt.ext E x hxt0)) ?_
          rintro _ w9 ⟨⟨ca, cc, rfl, hI⟩, X9⟩
          replace Br := X9.keep Br
          replace Bz := X9.keep Bz
          replace hownd := own_ext hownd X9
          replace hbsd := Nat.le_trans hbsd X9.size
          replace E := E.ext X9
          refine s_appendAny (base := base) (n := d) (m := ((codeR x).length)) (xs := ((codeB t j).map (Value.int .i64))) (news := (codeR x).map (Value.int .i64)) (size := 1) (bytes := 8) (v := (.slice da d dc)) (by decide) Tryz.underlying22 siz3 byt3 zer3 rfl (by decide) rfl hownd rfl (by simp) (ints_any hI) (by simp [Value.oneCell']) (by unfold maxLen; omega) (by omega) (hbsd) ?_
          intro v7 w27 Ov7 Cv7 Dv7
          replace Br := Cv7.keep (fun h => by have := (hownd.lt _ h).1; omega) Br
          replace E := E.step Cv7 (fun x hx h => absurd (hownd.lt x h).1 (by omega))
          obtain ⟨da2, dc2, rfl⟩ := own_form Ov7
          refine qA (.slice da2 (d + (codeR x).length) dc2) rfl ?_
          refine WpL_nil (inB_normal (thn_normal (Wp_region ?_)))
          refine qV (r_add (k := .i64) (a := (j : Int)) (b := 1) (c := (j : Int) + 1) rfl rfl (wI64 (by omega))) ?_
          refine qM (I6 ((j : Int) + 1)) rfl ?_
          refine WpL_nil (thn_normal ?_)
          exact ⟨t.args.length - (j + 1), by omega, j + 1, da2, dc2, d + (codeR x).length, Fits.out ⟨rfl, rfl, rfl, rfl, trivial⟩, E, Br, (by omega), (by rw [codeB_succ hx, List.length_append, hd]), (by rw [codeB_succ hx, List.map_append]; exact Ov7), Nat.le_trans hbsd Cv7.size, rfl⟩
        · have khlt2 := hlt2
          replace hlt2 := of_decide_eq_false hlt2
          have hjj : j = t.args.length := by omega
          rw [hjj] at hownd hd
          have hle := codeB_le t t.args.length
          refine Wp_exit (thn_exit (thn_exit (inB_here (thn_normal (Wp_seq_region ?_)))))
          refine qM (.slice da d dc) rfl ?_
          refine s_buildSlice (ps := [(0, (I6 (-1)))]) (c := #[(I6 (-1))]) (by decide) rfl Tryz.underlying22 siz3 zer3 (by decide) (by decide) (by kernel_rfl) ?_
          intro bg wg Ng
          have Fg := Ng.ge E
          have Og_br := Ng.lt Br
          replace Br := Ng.keep Br
          replace hownd := own_ext hownd Ng.ext
          replace hbsd := Nat.le_trans hbsd Ng.ext.size
          replace E := E.ext Ng.ext
          have Bg := Ng.blk
          refine s_append (base := base) (n := d) (m := 1) (xs := ((codeB t t.args.length).map (Value.int .i64))) (news := [(I6 (-1))]) (size := 1) (bytes := 8) (v := (.slice da d dc)) (by decide) Tryz.underlying22 siz3 byt3 zer3 rfl (by decide) rfl hownd rfl (rfl) (Bg.cells rfl) (by simp [Value.oneCell']) (by unfold maxLen; omega) (by omega) (hbsd) ?_
          intro v6 w26 Ov6 Cv6 Dv6
          replace Br := Cv6.keep (fun h => by have := (hownd.lt _ h).1; omega) Br
          replace E := E.step Cv6 (fun x hx h => absurd (hownd.lt x h).1 (by omega))
          obtain ⟨la4, lc4, rfl⟩ := own_form Ov6
          refine qA (.slice la4 (d + 1) lc4) rfl ?_
          refine WpL_nil (Wp_ret ?_)
          refine fin_tmp Tryz.results101 (v := (.slice la4 (d + 1) lc4)) rfl ?_
          have hcl : (codeR t).length = d + 1 := by rw [codeB_all t, List.length_append, hd]; rfl
          refine ⟨⟨la4, lc4, by rw [hcl], own_intsC (base := base) (n := d + 1) ?_ hcl.symm⟩, E⟩
          rw [codeB_all t, List.map_append]
          exact Ov6
end Go.Proofs
namespace Go.Proofs
open Go Go.Eng Go.Sort
set_option maxRecDepth 100000
theorem dropc {α : Type} {l : List α} {k : Nat} {x : α} (h : l[k]? = some x) : l.drop k = x :: l.drop (k + 1) := by
 have := lt_of_get h
 rw [List.drop_eq_getElem_cons this]
 rw [List.getElem?_eq_getElem this] at h
 rw [Option.some.inj h]
set_option maxHeartbeats 1000000 in
theorem before_c (w0 : World) (v1 v2 : Value) (l1 l2 : List Int) (h1 : IntsAt w0 v1 l1) (h2 : IntsAt w0 v2 l2) :
  Ret Tryz.prog 102 #[v1, v2] w0 fun v w => v = .bool (decide (cmpC l1 l2 < 0)) ∧ Ext w0 w := by
 obtain ⟨a1, c1, rfl⟩ := SlAt.form h1
 obtain ⟨a2, c2, rfl⟩ := SlAt.form h2
 have hl1 : l1.length ≤ 9223372036854775807 := by simpa using SlAt.le h1
 have hl2 : l2.length ≤ 9223372036854775807 := by simpa using SlAt.le h2
 simp only [List.length_map] at h1 h2 ⊢
 refine Ret_of Tryz.func102 rfl Tryz.ntmps102 (Nat.le_of_ble_eq_true rfl) ?_
 have E : Chg none1 w0 w0 := Chg.refl _ _
 refine Wp_seq_region ?_
 refine qA (.bool false) rfl ?_
 refine WpL_nil (Wp_seq (Wp_seq_region ?_))
 refine qA (I6 0) rfl ?_
 refine WpL_nil (Wp_block ?_)
 refine Wp_loop (fun nn_ σ W1 => ∃ (k : Nat), (∃ jj_, σ = upds jj_ [(0, (.slice a1 l1.length c1)), (1, (.slice a2 l2.length c2)), (5, (I6 (k : Int)))]) ∧ Chg none1 w0 W1 ∧ (k ≤ l1.length ∧ k ≤ l2.length) ∧ (cmpC l1 l2 = cmpC (l1.drop k) (l2.drop k)) ∧ nn_ = l1.length - k) (n := l1.length - 0) ?_ ?_
 ·exact ⟨0, Fits.out ⟨rfl, rfl, rfl, trivial⟩, E, ⟨Nat.zero_le _, Nat.zero_le _⟩, rfl, rfl⟩
 ·clear E
  rintro _ _ W1 ⟨k, ⟨j1, rfl⟩, E, hk, heq, rfl⟩
  refine Wp_seq (Wp_seq_region ?_)
  refine qM (I6 (k : Int)) rfl ?_
  refine qM (.slice a1 l1.length c1) rfl ?_
  refine qV (r_lenSlice (ad := a1) (n := l1.length) (cap := c1) Tryz.underlying22 rfl) ?_
  obtain ⟨e2, he2⟩ : ∃ e, (decide ((((k : Nat) : Int) : Int) < ((l1.length : Nat) : Int))) = e := ⟨_, rfl⟩
  refine qV ((r_lss (k := .i64) (a := (k : Int)) (b := (l1.length : Int)) rfl rfl).trans (by rw [he2]; try rfl)) ?_
  refine qM (.bool e2) rfl ?_
  refine qG (.bool e2) (yU e2 (I6 (k : Int))) (by cases e2 <;> first | exact gA | exact gB | exact .inl ⟨rfl, r_move (v := (I6 (k : Int))) rfl⟩) ?_
  refine qG (.bool e2) (yU e2 (.slice a2 l2.length c2)) (by cases e2 <;> first | exact gA | exact gB | exact .inl ⟨rfl, r_move (v := (.slice a2 l2.length c2)) rfl⟩) ?_
  refine qG (.bool e2) (yU e2 (I6 (l2.length : Int))) (by cases e2 <;> first | exact gA | exact gB | exact .inl ⟨rfl, r_lenSlice (ad := a2) (n := l2.length) (cap := c2) Tryz.underlying22 rfl⟩) ?_
  obtain ⟨e3, he3⟩ : ∃ e, (decide ((((k : Nat) : Int) : Int) < ((l2.length : Nat) : Int))) = e := ⟨_, rfl⟩
  refine qG (.bool e2) (yU e2 (.bool e3)) (by cases e2 <;> first | exact gA | exact gB | exact .inl ⟨rfl, (r_lss (k := .i64) (a := (k : Int)) (b := (l2.length : Int)) rfl rfl).trans (by rw [he3]; try rfl)⟩) ?_
  obtain ⟨e4, he4⟩ : ∃ e, (e2 && e3) = e := ⟨_, rfl⟩
  refine qV (r_pick (b := e2) (v := .bool e4) rfl (by rw [← he4]; cases e2 <;> rfl)) ?_
  refine WpL_nil ?_
  subst he4
  subst he3
  subst he2
  refine Wp_cond (b := ((decide (((k : Int) : Int) < (l1.length : Int))) && (decide (((k : Int) : Int) < (l2.length : Int))))) rfl (fun hlt => ?_) (fun hlt => ?_)
  ·have khlt := hlt
   have hlt2 : k < l1.length ∧ k < l2.length := by simp only [Bool.and_eq_true, decide_eq_true_eq] at hlt; omega
   obtain ⟨x, hx⟩ := get_of_lt (l := l1) (i := k) (by omega)
   obtain ⟨y, hy⟩ := get_of_lt (l := l2) (i := k) (by omega)
   obtain ⟨b1, o1, rfl, hc1⟩ := ints_cells h1 (by omega)
   obtain ⟨b2, o2, rfl, hc2⟩ := ints_cells h2 (by omega)
   rw [dropc hx, dropc hy] at heq
   refine Wp_skip (thn_normal (Wp_seq (Wp_block ?_)))
   have hz_6 : w0.heap.size ≤ W1.heap.size := E.size
   refine Wp_seq ?_
   obtain ⟨Fs6, hFs6⟩ : ∃ Fs : List FctS, Fs = [(eF (.slice (some ⟨b1, o1, none⟩) l1.length c1)), (eF (I6 (k : Int))), (eF (.pointer (some ⟨b1, o1 + k, none⟩))), (eF (I6 x)), (eF (.slice (some ⟨b2, o2, none⟩) l2.length c2)), (eF (I6 (k : Int))), (eF (.pointer (some ⟨b2, o2 + k, none⟩))), (eF (I6 y)), (eF (.bool (decide ((x : Int) ≠ y))))] := ⟨_, rfl⟩
   refine Wp_dagS (MsL []) [true, true, true, true, true, true, true, true, true] [] [18, 19, 20, 21, 22, 23, 24, 25, 26] [[], [], [0, 1], [2], [], [], [4, 5], [6], [3, 7]] [[], [], [0, 1], [2, 0, 1], [], [], [4, 5], [6, 4, 5], [3, 2, 0, 1, 7, 6, 4, 5]] Fs6 hFs6 (by kernel_rfl) mixed (by kernel_rfl) (by kernel_rfl) (by kernel_rfl) (by kernel_rfl) ?_ ?_
   ·intro wd X0
    refine qZ (fun S s' w' hi hN X U V H => ?_) ?_
    ·replace X := xN0 X
     exact DoesT_pure (r_move (v := (.slice (some ⟨b1, o1, none⟩) l1.length c1)) (U 0 rfl)) rfl
    refine qZ (fun S s' w' hi hN X U V H => ?_) ?_
    ·replace X := xN0 X
     exact DoesT_pure (r_move (v := (I6 (k : Int))) (U 5 rfl)) rfl
    refine qZ (fun S s' w' hi hN X U V H => ?_) ?_
    ·replace X := xN0 X
     have e18 := (H 0 rfl).2 18 _ rfl (by rw [hFs6]; rfl)
     have e19 := (H 1 rfl).2 19 _ rfl (by rw [hFs6]; rfl)
     exact DoesT_pure (r_indexSlice (b := b1) (o := o1) (len := l1.length) (cap := c1) (i := k) (o' := o1 + k) e18 e19 rfl Tryz.underlying22 siz3 (by omega) (by omega)) rfl
    refine qZ (fun S s' w' hi hN X U V H => ?_) ?_
    ·replace X := xN0 X
     have e20 := (H 2 rfl).2 20 _ rfl (by rw [hFs6]; rfl)
     exact DoesT_pure (r_load (v := (I6 x)) e20 flat3 ((Ext.trans E (X0.trans X)).cell (hc1 k x hx))) rfl
    refine qZ (fun S s' w' hi hN X U V H => ?_) ?_
    ·replace X := xN0 X
     exact DoesT_pure (r_move (v := (.slice (some ⟨b2, o2, none⟩) l2.length c2)) (U 1 rfl)) rfl
    refine qZ (fun S s' w' hi hN X U V H => ?_) ?_
    ·replace X := xN0 X
     exact DoesT_pure (r_move (v := (I6 (k : Int))) (U 5 rfl)) rfl
    refine qZ (fun S s' w' hi hN X U V H => ?_) ?_
    ·replace X := xN0 X
     have e22 := (H 4 rfl).2 22 _ rfl (by rw [hFs6]; rfl)
     have e23 := (H 5 rfl).2 23 _ rfl (by rw [hFs6]; rfl)
     exact DoesT_pure (r_indexSlice (b := b2) (o := o2) (len := l2.length) (cap := c2) (i := k) (o' := o2 + k) e22 e23 rfl Tryz.underlying22 siz3 (by omega) (by omega)) rfl
    refine qZ (fun S s' w' hi hN X U V H => ?_) ?_
    ·replace X := xN0 X
     have e24 := (H 6 rfl).2 24 _ rfl (by rw [hFs6]; rfl)
     exact DoesT_pure (r_load (v := (I6 y)) e24 flat3 ((Ext.trans E (X0.trans X)).cell (hc2 k y hy))) rfl
    refine qZ (fun S s' w' hi hN X U V H => ?_) ?_
    ·replace X := xN0 X
     have e21 := (H 3 rfl).2 21 _ rfl (by rw [hFs6]; rfl)
     have e25 := (H 7 rfl).2 25 _ rfl (by rw [hFs6]; rfl)
     exact DoesT_pure (r_neq (k := .i64) (a := x) (b := y) e21 e25) rfl
    exact DagStepsS.nil
   ·intro s' wd6 w6 X0 X6 U H
    replace X6 := X6.mono (M' := none1) (fun y _ h => by
      obtain ⟨j, hj, h⟩ := h
      exact h.elim)
    have e26 := H 8 rfl 26 _ rfl (by rw [hFs6]; rfl)
    obtain ⟨j6, rfl⟩ := Fits.out (σ := s') (l := [(0, (.slice (some ⟨b1, o1, none⟩) l1.length c1)), (1, (.slice (some ⟨b2, o2, none⟩) l2.length c2)), (5, (.int .i64 ((k : Nat) : Int))), (26, (.bool (decide ((x : Int) ≠ y))))]) ⟨U 0 rfl, U 1 rfl, U 5 rfl, e26, trivial⟩
    clear U H
    replace X6 := X0.trans X6
    replace E := E.ext X6
    refine WpL_nil (thn_normal ?_)
    refine Wp_cond (b := decide ((x : Int) ≠ y)) rfl (fun hne => ?_) (fun hne => ?_)
    ·have khne := hne
     replace hne := of_decide_eq_true hne
     have hz_8 : w0.heap.size ≤ w6.heap.size := E.size
     refine Wp_seq ?_
     obtain ⟨Fs8, hFs8⟩ : ∃ Fs : List FctS, Fs = [(eF (.slice (some ⟨b1, o1, none⟩) l1.length c1)), (eF (I6 (k : Int))), (eF (.pointer (some ⟨b1, o1 + k, none⟩))), (eF (I6 x)), (eF (.slice (some ⟨b2, o2, none⟩) l2.length c2)), (eF (I6 (k : Int))), (eF (.pointer (some ⟨b2, o2 + k, none⟩))), (eF (I6 y)), (eF (.bool (decide ((x : Int) < y)))), (eF undef)] := ⟨_, rfl⟩
     refine Wp_dagS (MsL []) [true, true, true, true, true, true, true, true, true, false] [9] [27, 28, 29, 30, 31, 32, 33, 34, 35, 50] [[], [], [0, 1], [2], [], [], [4, 5], [6], [3, 7], []] [[], [], [0, 1], [2, 0, 1], [], [], [4, 5], [6, 4, 5], [3, 2, 0, 1, 7, 6, 4, 5], []] Fs8 hFs8 (by kernel_rfl) mixed (by kernel_rfl) (by kernel_rfl) (by kernel_rfl) (by kernel_rfl) ?_ ?_
     ·intro wd X0
      refine qZ (fun S s' w' hi hN X U V H => ?_) ?_
      ·replace X := xN0 X
       exact DoesT_pure (r_move (v := (.slice (some ⟨b1, o1, none⟩) l1.length c1)) (U 0 rfl)) rfl
      refine qZ (fun S s' w' hi hN X U V H => ?_) ?_
      ·replace X := xN0 X
       exact DoesT_pure (r_move (v := (I6 (k : Int))) (U 5 rfl)) rfl
      refine qZ (fun S s' w' hi hN X U V H => ?_) ?_
      ·replace X := xN0 X
       have e27 := (H 0 rfl).2 27 _ rfl (by rw [hFs8]; rfl)
       have e28 := (H 1 rfl).2 28 _ rfl (by rw [hFs8]; rfl)
       exact DoesT_pure (r_indexSlice (b := b1) (o := o1) (len := l1.length) (cap := c1) (i := k) (o' := o1 + k) e27 e28 rfl Tryz.underlying22 siz3 (by omega) (by omega)) rfl
      refine qZ (fun S s' w' hi hN X U V H => ?_) ?_
      ·replace X := xN0 X
       have e29 := (H 2 rfl).2 29 _ rfl (by rw [hFs8]; rfl)
       exact DoesT_pure (r_load (v := (I6 x)) e29 flat3 ((Ext.trans E (X0.trans X)).cell (hc1 k x hx))) rfl
      refine qZ (fun S s' w' hi hN X U V H => ?_) ?_
      ·replace X := xN0 X
       exact DoesT_pure (r_move (v := (.slice (some ⟨b2, o2, none⟩) l2.length c2)) (U 1 rfl)) rfl
      refine qZ (fun S s' w' hi hN X U V H => ?_) ?_
      ·replace X := xN0 X
       exact DoesT_pure (r_move (v := (I6 (k : Int))) (U 5 rfl)) rfl
      refine qZ (fun S s' w' hi hN X U V H => ?_) ?_
      ·replace X := xN0 X
       have e31 := (H 4 rfl).2 31 _ rfl (by rw [hFs8]; rfl)
       have e32 := (H 5 rfl).2 32 _ rfl (by rw [hFs8]; rfl)
       exact DoesT_pure (r_indexSlice (b := b2) (o := o2) (len := l2.length) (cap := c2) (i := k) (o' := o2 + k) e31 e32 rfl Tryz.underlying22 siz3 (by omega) (by omega)) rfl
      refine qZ (fun S s' w' hi hN X U V H => ?_) ?_
      ·replace X := xN0 X
       have e33 := (H 6 rfl).2 33 _ rfl (by rw [hFs8]; rfl)
       exact DoesT_pure (r_load (v := (I6 y)) e33 flat3 ((Ext.trans E (X0.trans X)).cell (hc2 k y hy))) rfl
      refine qZ (fun S s' w' hi hN X U V H => ?_) ?_
      ·replace X := xN0 X
       have e30 := (H 3 rfl).2 30 _ rfl (by rw [hFs8]; rfl)
       have e34 := (H 7 rfl).2 34 _ rfl (by rw [hFs8]; rfl)
       exact DoesT_pure (r_lss (k := .i64) (a := x) (b := y) e30 e34) rfl
      refine DagStepsS.tail ?_
      exact DagStepsS.nil
     ·intro s' wd8 w8 X0 X8 U H
      replace X8 := X8.mono (M' := none1) (fun y _ h => by
        obtain ⟨j, hj, h⟩ := h
        exact h.elim)
      have e35 := H 8 rfl 35 _ rfl (by rw [hFs8]; rfl)
      obtain ⟨j8, rfl⟩ := Fits.out (σ := s') (l := [(35, (.bool (decide ((x : Int) < y))))]) ⟨e35, trivial⟩
      clear U H
      replace X8 := X0.trans X8
      replace E := E.ext X8
      refine qA (.bool (decide ((x : Int) < y))) rfl ?_
      refine WpL_nil (thn_normal (Wp_ret (inB_ret (thn_ret (thn_ret (inB_ret (thn_ret ?_)))))))
      refine fin_tmp Tryz.results102 (v := (.bool (decide ((x : Int) < y)))) rfl ?_
      exact ⟨bool_eq (by rw [heq, decide_eq_decide]; simp only [cmpC]; rw [if_neg hne]; split <;> omega), E⟩
    ·have khne := hne
     replace hne := of_decide_eq_false hne
     refine Wp_skip (inB_normal (thn_normal (Wp_region ?_)))
     refine qM (I6 (k : Int)) rfl ?_
     refine qV (r_add (k := .i64) (a := (k : Int)) (b := 1) (c := (k : Int) + 1) rfl rfl (wI64 (by omega))) ?_
     refine qA (I6 ((k : Int) + 1)) rfl ?_
     refine WpL_nil (thn_normal ?_)
     exact ⟨l1.length - (k + 1), by omega, k + 1, Fits.out ⟨rfl, rfl, rfl, trivial⟩, E, ⟨by omega, by omega⟩, (by rw [heq]; simp only [cmpC]; rw [if_pos (by omega)]), rfl⟩
  ·have khlt := hlt
   have hle : ¬ (k < l1.length ∧ k < l2.length) := by simp only [Bool.and_eq_false_iff, decide_eq_false_iff_not] at hlt; omega
   refine Wp_exit (thn_exit (thn_exit (inB_here (thn_normal (Wp_seq_region ?_)))))
   refine qM (.slice a1 l1.length c1) rfl ?_
   refine qV (r_lenSlice (ad := a1) (n := l1.length) (cap := c1) Tryz.underlying22 rfl) ?_
   refine qM (.slice a2 l2.length c2) rfl ?_
   refine qV (r_lenSlice (ad := a2) (n := l2.length) (cap := c2) Tryz.underlying22 rfl) ?_
   refine qV (r_lss (k := .i64) (a := (l1.length : Int)) (b := (l2.length : Int)) rfl rfl) ?_
   refine qA (.bool (decide (((l1.length : Int) : Int) < (l2.length : Int)))) rfl ?_
   refine WpL_nil (Wp_ret ?_)
   refine fin_tmp Tryz.results102 (v := (.bool (decide ((((l1.length : Nat) : Int) : Int) < ((l2.length : Nat) : Int))))) rfl ?_
   exact ⟨bool_eq (by rw [heq, decide_eq_decide]; rcases Nat.lt_or_ge k l1.length with h9 | h9; obtain ⟨x, hx⟩ := get_of_lt h9; rw [dropc hx, List.drop_eq_nil_of_le (show l2.length ≤ k by omega)]; simp only [cmpC, List.length_cons]; omega; rw [List.drop_eq_nil_of_le h9]; rcases Nat.lt_or_ge k l2.length with h8 | h8; obtain ⟨y, hy⟩ := get_of_lt h8; rw [dropc hy]; simp only [cmpC, List.length_cons]; omega; rw [List.drop_eq_nil_of_le h8]; simp only [cmpC, List.length_nil]; omega), E⟩
end Go.Proofs
namespace Go.Proofs
open Go Go.Eng Go.Sort
set_option maxRecDepth 100000
abbrev TInt : Nat := 3
theorem ownI_holds {w : World} {base g n c : Nat} {l : List Int} (h : w.ownsRow base TInt 1 (.slice (some ⟨g, 0, none⟩) n c) n (l.map (Value.int .i64))) : Sort.Holds (Value.int .i64) w g 0 l.toArray := by
 intro j hj
 simp only [List.size_toArray] at hj
 have hx : l[j]? = some l[j] := List.getElem?_eq_getElem hj
 have h1 := h.cells (g := g) rfl j (.int .i64 l[j]) (by simp [hx])
 rw [Addr.add_lit] at h1
 have he : l.toArray[j]! = l[j] := by rw [getElem!_pos l.toArray j (by simpa using hj)]; simp
 rw [he]
 refine ⟨h1, ?_⟩
 rcases h.2 with ⟨h1, _⟩ | ⟨g', cap, cur, hv, _, hg, _⟩
 ·simp at h1
 ·simp only [Value.slice.injEq, Option.some.injEq, Addr.mk.injEq, and_true] at hv
  obtain ⟨rfl, _⟩ := hv
  simp [World.frozen?, hg]
theorem holds_ints {w : World} {g n c : Nat} {l : List Int} (h : Sort.Holds (Value.int .i64) w g 0 l.toArray) (hn : l.length = n) (hc : n ≤ c) (hl : n ≤ 9223372036854775807) : IntsAt w (.slice (some ⟨g, 0, none⟩) n c) l := by
 refine ⟨_, c, by simp [hn], by simp; omega, by simp; omega, .inr ⟨g, 0, rfl, fun i r hr j u hu => ?_⟩⟩
 simp only [List.getElem?_map, Option.map_eq_some_iff] at hr
 obtain ⟨x, hx, rfl⟩ := hr
 have hi := lt_of_get hx
 have hj : j < 1 := by have := lt_of_get hu; simpa [intV] using this
 obtain rfl : j = 0 := by omega
 have h1 := (h i (by simpa using hi)).1
 have he : l.toArray[i]! = x := by
  rw [getElem!_pos l.toArray i (by simpa using hi)]
  rw [List.getElem?_eq_getElem hi] at hx
  simpa using hx
 rw [he] at h1
 simp [intV] at hu
 subst hu
 simpa using h1
theorem putRowS_chg {α : Type} [Inhabited α] (enc : α → Value) (w : World) (g off m : Nat) (dk : Array α) (os : Array Obj) : Chg (fun x => x = g) w (grow (putRow enc (Sort.ahead w m) g off dk) os) := by
 refine ⟨rfl, rfl, rfl, Nat.le_add_right _ _, ?_, fun b hb hne => ?_⟩
 ·simp [grow, putRow, mapBlock, Sort.ahead]
 ·simp only [grow, putRow, mapBlock, Sort.ahead]
  rw [Array.getElem?_append_left (by simpa using hb), Array.getElem?_modify, if_neg (fun h => hne h.symm)]
def leB (x y : Int) : Bool := decide (x ≤ y)
theorem sorti_h (w0 : World) (base g c : Nat) (l : List Int) (h : w0.ownsRow base TInt 1 (.slice (some ⟨g, 0, none⟩) l.length c) l.length (l.map (Value.int .i64))) (hl : l.length ≤ 17592186044416) :
  Ret Tryz.prog 94 #[.slice (some ⟨g, 0, none⟩) l.length c] w0 fun r w => r = .tuple #[] ∧ Sort.Holds (Value.int .i64) w g 0 (l.mergeSort leB).toArray ∧ Chg (fun x => x = g) w0 w := by
 have hH := ownI_holds h
 have hblk : g < w0.heap.size := (h.lt g rfl).2
 refine Calls.mono (Any.slices_Sort_int Tryz.sortI g 0 c l w0 hH hblk (by omega)) ?_
 rintro e w' ⟨rfl, n, os, rfl⟩
 refine ⟨_, rfl, rfl, ?_, putRowS_chg _ w0 g 0 n _ os⟩
 exact holds_grow _ _ os g 0 _ (by simpa [putRow, mapBlock, Sort.ahead] using hblk) (holds_putRow _ (Sort.ahead w0 n) g 0 l.toArray _ hH (by simp))
theorem compi_c (w0 : World) (g c : Nat) (l : List Int) (hH : Sort.Holds (Value.int .i64) w0 g 0 l.toArray) (hc : l.length ≤ c ∧ c ≤ 9223372036854775807) :
  Ret Tryz.prog 95 #[.slice (some ⟨g, 0, none⟩) l.length c] w0 fun r w => r = .slice (some ⟨g, 0, none⟩) (Lib.compact l).length c ∧ IntsAt w r (Lib.compact l) ∧ Chg (fun x => x = g) w0 w := by
 refine Calls.mono (Any.slices_Compact_int Tryz.compI g 0 c l w0 hH (by omega) hc.1) ?_
 rintro e w' ⟨rfl, q, rfl⟩
 have hlen : (Lib.compact l).length ≤ l.length := by
  unfold Lib.compact Lib.compactUpTo
  rw [List.length_map]
  exact Nat.le_trans (List.length_filter_le _ _) (by simp)
 have hcg := putRowS_chg (Value.int .i64) w0 g 0 q (Lib.compact l ++ List.replicate (l.length - (Lib.compact l).length) 0).toArray #[]
 have hgr : ∀ w : World, grow w #[] = w := fun w => by simp [grow]
 rw [hgr] at hcg
 refine ⟨_, rfl, rfl, ?_, hcg⟩
 have hh : Sort.Holds (Value.int .i64) (putRow (Value.int .i64) (Sort.ahead w0 q) g 0 (Lib.compact l ++ List.replicate (l.length - (Lib.compact l).length) 0).toArray) g 0 (Lib.compact l ++ List.replicate (l.length - (Lib.compact l).length) 0).toArray :=
  holds_putRow _ (Sort.ahead w0 q) g 0 l.toArray _ hH (by simp; omega)
 have hh2 : Sort.Holds (Value.int .i64) (putRow (Value.int .i64) (Sort.ahead w0 q) g 0 (Lib.compact l ++ List.replicate (l.length - (Lib.compact l).length) 0).toArray) g 0 (Lib.compact l).toArray := by
  intro j hj
  simp only [List.size_toArray] at hj
  have h1 := hh j (by simp; omega)
  rw [getElem!_pos _ j (by simp; omega)] at h1
  rw [getElem!_pos _ j (by simpa using hj)]
  simpa [List.getElem_append_left hj] using h1
 exact holds_ints (l := Lib.compact l) hh2 rfl (by omega) (by omega)
theorem compact_step {l : List Int} (hs : l.Pairwise (· ≤ ·)) : ∀ m, m ≤ l.length → (Lib.compactUpTo l.toArray m).Pairwise (· < ·) ∧ ∀ x, x ∈ Lib.compactUpTo l.toArray m ↔ x ∈ l.take m := by
  intro m
  induction m with
  | zero => intro _; simp [Lib.compactUpTo]
  | succ m ih =>
    intro hm
    obtain ⟨h1, h2⟩ := ih (by omega)
    have hx : l[m]? = some l[m] := List.getElem?_eq_getElem (by omega)
    have hg : l.toArray[m]! = l[m] := by rw [getElem!_pos _ m (by simp; omega)]; simp
    rw [Lib.compactUpTo_succ, (show l.take (m + 1) = l.take m ++ [l[m]] by rw [List.take_add_one, hx]; rfl)]
    have hle : ∀ x ∈ l.take m, ∃ j, j < m ∧ ∃ hj : j < l.length, l[j] = x := fun x hx => by
      obtain ⟨j, hj⟩ := List.mem_iff_getElem?.1 hx
      have h3 := lt_of_get hj
      rw [List.length_take] at h3
      have h31 : j < m := by omega
      have h32 : j < l.length := by omega
      rw [List.getElem?_take, if_pos h31, List.getElem?_eq_getElem h32] at hj
      exact ⟨j, h31, h32, Option.some.inj hj⟩
    have hmono : ∀ (i j : Nat) (hi : i < l.length) (hj : j < l.length), i ≤ j → l[i] ≤ l[j] := fun i j hi hj hij => by
      rcases Nat.eq_or_lt_of_le hij with h3 | h3
      · subst h3; exact Int.le_refl _
      · exact List.pairwise_iff_getElem.1 hs i j hi hj h3
    by_cases hk : Lib.keeps l.toArray m = true
    · rw [if_pos hk, hg]
      have hlt : ∀ x ∈ l.take m, x < l[m] := fun x hx => by
        obtain ⟨j, hjm, hj, rfl⟩ := hle x hx
        have h4 : l[j] ≤ l[m - 1] := hmono j (m - 1) hj (by omega) (by omega)
        have h5 : l[m - 1] ≤ l[m] := hmono (m - 1) m (by omega) (by omega) (by omega)
        have h6 : l[m] ≠ l[m - 1] := by
          unfold Lib.keeps at hk
          rw [decide_eq_true_eq] at hk
          rcases hk with h7 | h7
          · omega
          · rw [hg, getElem!_pos _ (m - 1) (by simp; omega)] at h7; simpa using h7
        omega
      refine ⟨?_, fun x => by rw [List.mem_append, List.mem_append, h2 x]⟩
      rw [List.pairwise_append]
      exact ⟨h1, by simp, fun x hx y hy => by rw [List.mem_singleton] at hy; subst hy; exact hlt x ((h2 x).1 hx)⟩
    · rw [if_neg hk, List.append_nil]
      refine ⟨h1, fun x => ?_⟩
      rw [h2 x, List.mem_append, List.mem_singleton]
      constructor
      · exact .inl
      · rintro (h3 | h3)
        · exact h3
        · have h4 : m ≠ 0 ∧ l.toArray[m]! = l.toArray[m - 1]! := by
            unfold Lib.keeps at hk
            simp only [decide_eq_true_eq, not_or, Decidable.not_not] at hk
            exact hk
          rw [hg, getElem!_pos _ (m - 1) (by simp; omega)] at h4
          have h5 : l[m] = l[m - 1] := by simpa using h4.2
          rw [h3, h5]
          exact List.mem_iff_getElem?.2 ⟨m - 1, by rw [List.getElem?_take, if_pos (by omega), List.getElem?_eq_getElem (by omega)]⟩
theorem compact_sorted (l : List Int) : (Lib.compact (l.mergeSort leB)).Pairwise (· < ·) ∧ ∀ x, x ∈ Lib.compact (l.mergeSort leB) ↔ x ∈ l := by
 have hs : (l.mergeSort leB).Pairwise (· ≤ ·) := by
  have := List.pairwise_mergeSort (le := leB) (fun a b c h1 h2 => by simp [leB] at *; omega) (fun a b => by simp [leB]; omega) l
  exact this.imp fun h => by simpa [leB] using h
 have h := compact_step hs (l.mergeSort leB).length (Nat.le_refl _)
 refine ⟨h.1, fun x => ?_⟩
 have h2 := h.2 x
 rw [List.take_length, List.mem_mergeSort] at h2
 exact h2
end Go.Proofs
namespace Go.Proofs
open Go Go.Eng Go.Sort
set_option maxRecDepth 100000
theorem mergeSort_lt {l : List Int} (hd : l.Nodup) : (l.mergeSort leB).Pairwise (· < ·) := by
 have h1 : (l.mergeSort leB).Pairwise (fun a b => leB a b = true) := List.pairwise_mergeSort (fun a b c h1 h2 => by simp [leB] at *; omega) (fun a b => by simp [leB]; omega) l
 have h2 : (l.mergeSort leB).Nodup := (List.mergeSort_perm l leB).nodup_iff.2 hd
 have h3 := h1.and h2
 exact h3.imp fun {a b} ⟨h4, h5⟩ => by simp [leB] at h4; omega
theorem take_snoc {α : Type} {l : List α} {k : Nat} {x : α} (h : l[k]? = some x) : l.take (k + 1) = l.take k ++ [x] := by rw [List.take_add_one, h]; rfl
def kAt (es : List (Int × Bool)) (i : Nat) : Int := ((es[i]?).map (·.1)).getD 0
theorem keys_perm {es : List (Int × Bool)} {seen : List Nat} (hd : seen.Nodup) (hl : ∀ i ∈ seen, i < es.length) (ha : ∀ i, i < es.length → i ∈ seen) : (seen.map (kAt es)).Perm (es.map (·.1)) := by
 have h1 := (seen_perm hd hl ha).map (kAt es)
 have h2 : (List.range es.length).map (kAt es) = es.map (·.1) := by
  apply List.ext_getElem?
  intro i
  rw [List.getElem?_map, List.getElem?_map]
  by_cases hi : i < es.length
  ·rw [List.getElem?_range hi, List.getElem?_eq_getElem hi]
   simp [kAt, List.getElem?_eq_getElem hi]
  ·rw [List.getElem?_eq_none (by simpa using hi), List.getElem?_eq_none (by omega)]; rfl
 rw [h2] at h1; exact h1
def addK (ks : List Int) (k : Int) : List Int := if ks.contains k then ks else ks ++ [k]
theorem lt_unique : ∀ {p q : List Int}, p.Pairwise (· < ·) → q.Pairwise (· < ·) → (∀ x, x ∈ p ↔ x ∈ q) → p = q
  | [], [], _, _, _ => rfl
  | [], y :: q, _, _, h => absurd ((h y).2 List.mem_cons_self) List.not_mem_nil
  | x :: p, [], _, _, h => absurd ((h x).1 List.mem_cons_self) List.not_mem_nil
  | x :: p, y :: q, hp, hq, h => by
    have h1 := List.pairwise_cons.1 hp
    have h2 := List.pairwise_cons.1 hq
    have e : x = y := by
      rcases List.mem_cons.1 ((h x).1 List.mem_cons_self) with h3 | h3
      · exact h3
      · rcases List.mem_cons.1 ((h y).2 List.mem_cons_self) with h4 | h4
        · exact h4.symm
        · have := h1.1 y h4; have := h2.1 x h3; omega
    subst e
    rw [lt_unique h1.2 h2.2 fun z => ?_]
    constructor
    · intro hz
      rcases List.mem_cons.1 ((h z).1 (List.mem_cons_of_mem _ hz)) with h3 | h3
      · subst h3; have := h1.1 z hz; omega
      · exact h3
    · intro hz
      rcases List.mem_cons.1 ((h z).2 (List.mem_cons_of_mem _ hz)) with h3 | h3
      · subst h3; have := h2.1 z hz; omega
      · exact h3
theorem keys_put {es : List (Int × Bool)} {k : Int} (v : Bool) : (putM es k v).map (·.1) = addK (es.map (·.1)) k := by
  unfold addK
  cases hg : getM es k with
  | none =>
    have : ¬ k ∈ es.map (·.1) := fun h => by have := getM_isSome.2 h; rw [hg] at this; cases this
    rw [if_neg (by simpa using this), putM_none v hg]; simp
  | some u =>
    have hin : k ∈ es.map (·.1) := getM_isSome.1 (by rw [hg]; rfl)
    rw [if_pos (by simpa using hin)]
    obtain ⟨j, _, h2, h3⟩ := findM_some (eV := fun _ => undef) (i := 0) hg
    rw [h3 v]
    apply List.ext_getElem?
    intro i
    rw [List.getElem?_map, List.getElem?_map, List.getElem?_set]
    by_cases hi : j = i
    · subst hi
      have hlt := lt_of_get h2
      rw [if_pos rfl, if_pos hlt, h2]; rfl
    · simp [hi]
def AllT (es : List (Int × Bool)) : Prop := ∀ q ∈ es, q.2 = true
theorem AllT.put {es : List (Int × Bool)} (h : AllT es) (k : Int) : AllT (putM es k true) := by
  intro q hq
  induction es with
  | nil => simp [putM] at hq; subst hq; rfl
  | cons p r ih =>
    unfold putM at hq
    split at hq
    · rcases List.mem_cons.1 hq with rfl | hq
      · rfl
      · exact h q (List.mem_cons_of_mem _ hq)
    · rcases List.mem_cons.1 hq with rfl | hq
      · exact h _ List.mem_cons_self
      · exact ih (fun z hz => h z (List.mem_cons_of_mem _ hz)) hq
theorem AllT.get {es : List (Int × Bool)} (h : AllT es) (k : Int) : (getM es k).getD false = (es.map (·.1)).contains k := by
  cases hg : getM es k with
  | none =>
    have : ¬ k ∈ es.map (·.1) := fun h => by have := getM_isSome.2 h; rw [hg] at this; cases this
    symm; simpa using this
  | some u =>
    have h1 := h _ (getM_some_mem hg)
    have hin : k ∈ es.map (·.1) := getM_isSome.1 (by rw [hg]; rfl)
    simp only [Option.getD_some]
    rw [show u = true from h1]; symm; simpa using hin
end Go.Proofs
namespace Go.Proofs
open Go Go.Eng Go.Sort
set_option maxRecDepth 100000
--BEGIN
abbrev keyR (s : List Sp) : Re := .mk 0 s [] 0 0 false
def keyE (x : Ed) : List Int := x.2.1 :: codeR (keyR x.2.2)
theorem cmpC_self : ∀ l : List Int, cmpC l l = 0
  | [] => rfl
  | x :: l => by simp only [cmpC, if_true]; exact cmpC_self l
theorem key_cmp {x y : Ed} (h : x.1 = y.1) (hx : ∀ p ∈ x.2.2, 0 ≤ p.1) (hy : ∀ p ∈ y.2.2, 0 ≤ p.1) : cmpC (keyE x) (keyE y) = edO x y := by
 unfold keyE edO
 rw [cmpC_cons, h, cmpI_same, orL_cons, orL_cons, orL_cons, orL_nil, lexI_z]
 simp only [codeR, codeRs, keyR, List.nil_append]
 rw [cmpC_cons, sps_cmp _ _ _ _ hx hy, cmpI_same, cmpC_self]
 simp [lexI, lexI_z]
theorem key_eq {x y : Ed} (h : x.1 = y.1) (hx : ∀ p ∈ x.2.2, 0 ≤ p.1) (hy : ∀ p ∈ y.2.2, 0 ≤ p.1) : keyE x = keyE y ↔ x = y :=
 ⟨fun e => edO_zero.1 (by rw [← key_cmp h hx hy, e, cmpC_self]), fun e => by rw [e]⟩
theorem putE_at {l : List Ed} {x y : Ed} {k : Nat} (h : l[k]? = some y) (e : putE l x = l.take k ++ putE (l.drop k) x) (hne : x ≠ y) (hlt : ¬ edO x y < 0) : putE l x = l.take (k + 1) ++ putE (l.drop (k + 1)) x := by
 rw [e, dropc h, putE, if_neg hne, if_neg hlt, take_snoc h, List.append_assoc, List.singleton_append]
theorem putE_len (x : Ed) : ∀ l : List Ed, (putE l x).length ≤ l.length + 1
  | [] => by simp [putE]
  | y :: l => by
    have := putE_len x l
    unfold putE
    split
    · simp
    · split
      · simp
      · simp only [List.length_cons]; omega
/-- The automaton without steps for nothing, state by state. -/
inductive BareK (n : Nf) : Nat → List Int → List Ed → Prop
  | nil : BareK n 0 [] []
  | step {k : Nat} {es : List Int} {xs L : List Ed} {b : Bool} : BareK n k es xs → (b = true ↔ ∃ e ∈ n.ends, cloP n.eps (fun t => t = (k : Int)) e) → BareS n (k : Int) L → BareK n (k + 1) (es ++ if b then [(k : Int)] else []) (xs ++ L)
theorem BareK.uniq {n : Nf} : ∀ {k : Nat} {es fs : List Int} {xs ys : List Ed}, BareK n k es xs → BareK n k fs ys → es = fs ∧ xs = ys
  | 0, _, _, _, _, .nil, .nil => ⟨rfl, rfl⟩
  | k + 1, _, _, _, _, .step h1 h2 h3, .step g1 g2 g3 => by
    obtain ⟨e1, e2⟩ := BareK.uniq h1 g1
    have e3 := h3.uniq g3
    have e4 := Bool.eq_iff_iff.2 (h2.trans g2.symm)
    exact ⟨by rw [e1, e4], by rw [e2, e3]⟩
theorem BareK.len {n : Nf} : ∀ {k : Nat} {es : List Int} {xs : List Ed}, BareK n k es xs → es.length ≤ k
  | 0, _, _, .nil => by simp
  | k + 1, _, _, .step (b := b) h1 _ _ => by
    have := h1.len
    cases b <;> simp <;> omega
theorem nd_len : ∀ {l m : List Ed}, l.Pairwise (fun a b => a ≠ b) → (∀ x ∈ l, x ∈ m) → l.length ≤ m.length
  | [], _, _, _ => by simp
  | x :: l, m, h, hs => by
    have h1 := List.pairwise_cons.1 h
    have hm := hs x List.mem_cons_self
    have := nd_len (m := m.erase x) h1.2 fun y hy => (List.mem_erase_of_ne (h1.1 y hy).symm).2 (hs y (List.mem_cons_of_mem _ hy))
    rw [List.length_erase_of_mem hm] at this
    have := List.length_pos_of_mem hm
    simp only [List.length_cons]; omega
theorem BareS.len {n : Nf} {s : Int} {L : List Ed} (h : BareS n s L) : L.length ≤ n.edges.length := by
 have := nd_len (l := L) (m := n.edges.map fun e => (s, e.2.1, e.2.2)) (h.1.imp fun {a b} hab e => by rw [e] at hab; have := edO_zero.2 (rfl : b = b); omega) fun x hx => by
  obtain ⟨e, he, _, h2⟩ := (h.2 x).1 hx
  exact List.mem_map.2 ⟨e, he, h2.symm⟩
 simpa using this
theorem BareK.total {n : Nf} : ∀ {k : Nat} {es : List Int} {xs : List Ed}, BareK n k es xs → xs.length ≤ k * n.edges.length
  | 0, _, _, .nil => by simp
  | k + 1, _, _, .step h1 _ h3 => by
    have := h1.total
    have := h3.len
    rw [List.length_append, Nat.add_mul]; omega
/-- The reference's list for one state, after j edges. -/
def PutK (n : Nf) (s : Int) (q : List Int) (j : Nat) (L : List Ed) : Prop := L.Pairwise (fun a b => edO a b < 0) ∧ (∀ x, x ∈ L ↔ ∃ e ∈ n.edges.take j, e.1 ∈ q ∧ x = (s, e.2.1, e.2.2)) ∧ L.length ≤ j
theorem PutK.start (n : Nf) (s : Int) (q : List Int) : PutK n s q 0 [] := ⟨List.Pairwise.nil, fun x => by simp, Nat.le_refl _⟩
theorem PutK.skip {n : Nf} {s : Int} {q : List Int} {j : Nat} {L : List Ed} {e : Ed} (h : PutK n s q j L) (he : n.edges[j]? = some e) (hq : e.1 ∉ q) : PutK n s q (j + 1) L := by
 refine ⟨h.1, fun x => (h.2.1 x).trans ?_, Nat.le_succ_of_le h.2.2⟩
 rw [take_snoc he]
 constructor
 ·rintro ⟨f, hf, h1⟩
  exact ⟨f, List.mem_append_left _ hf, h1⟩
 ·rintro ⟨f, hf, h1, h2⟩
  rcases List.mem_append.1 hf with h3 | h3
  ·exact ⟨f, h3, h1, h2⟩
  ·rw [List.mem_singleton.1 h3] at h1; exact absurd h1 hq
theorem PutK.put {n : Nf} {s : Int} {q : List Int} {j : Nat} {L : List Ed} {e : Ed} (h : PutK n s q j L) (he : n.edges[j]? = some e) (hq : e.1 ∈ q) : PutK n s q (j + 1) (putE L (s, e.2.1, e.2.2)) := by
 refine ⟨putE_sorted h.1, fun x => ?_, by have := putE_len (s, e.2.1, e.2.2) L; have := h.2.2; omega⟩
 rw [putE_mem, h.2.1, take_snoc he]
 constructor
 ·rintro (h1 | ⟨f, hf, h1⟩)
  ·exact ⟨e, List.mem_append_right _ (List.mem_singleton.2 rfl), hq, h1⟩
  ·exact ⟨f, List.mem_append_left _ hf, h1⟩
 ·rintro ⟨f, hf, h1, h2⟩
  rcases List.mem_append.1 hf with h3 | h3
  ·exact .inr ⟨f, h3, h1, h2⟩
  ·rw [List.mem_singleton.1 h3] at h2; exact .inl h2
theorem PutK.done {n : Nf} {s : Int} {q : List Int} {j : Nat} {L : List Ed} (h : PutK n s q j L) (hj : n.edges.length ≤ j) (hq : ∀ t, t ∈ q ↔ cloP n.eps (fun t => t = s) t) : BareS n s L := by
 refine ⟨h.1, fun x => (h.2.1 x).trans ?_⟩
 rw [List.take_of_length_le hj]
 exact ⟨fun ⟨e, h1, h2, h3⟩ => ⟨e, h1, (hq _).1 h2, h3⟩, fun ⟨e, h1, h2, h3⟩ => ⟨e, h1, (hq _).2 h2, h3⟩⟩
theorem PutK.from {n : Nf} {s : Int} {q : List Int} {j : Nat} {L : List Ed} (h : PutK n s q j L) : ∀ x ∈ L, x.1 = s ∧ ∃ e ∈ n.edges, x.2.2 = e.2.2 := fun x hx => by
 obtain ⟨e, h1, _, rfl⟩ := (h.2.1 x).1 hx
 exact ⟨rfl, e, List.mem_of_mem_take h1, rfl⟩
--END
end Go.Proofs
namespace Go.Proofs
open Go Go.Eng
def epS (p : Int × Int) : List Int := [p.1, p.2]
def edS (e : Ed) : List Int := [e.1, e.2.1]
def stsN (n : Nf) : List Int := (n.start :: n.ends) ++ (n.eps.map epS).flatten ++ (n.edges.map edS).flatten
def badS (m s : Int) : Bool := decide (s < 0) || decide (m ≤ s)
def setsE : List Ed → Int
  | [] => 0
  | e :: l => if checkE e.2.2 = 0 then setsE l else checkE e.2.2
def chkN (n : Nf) : Int :=
 if 500 < n.states ∨ 500 < n.ends.length ∨ 20000 < n.eps.length ∨ 20000 < n.edges.length then 2
 else if (stsN n).any (badS n.states) then 1 else setsE n.edges
theorem setsE_zero : ∀ {l : List Ed}, setsE l = 0 ↔ ∀ e ∈ l, checkE e.2.2 = 0
  | [] => by simp [setsE]
  | e :: l => by
    rw [setsE]
    split
    · rename_i h
      rw [setsE_zero]
      simp [h]
    · rename_i h
      constructor
      · exact fun k => absurd k h
      · exact fun k => absurd (k e List.mem_cons_self) h
theorem any_bad {m : Int} {l : List Int} : l.any (badS m) = false ↔ ∀ s ∈ l, 0 ≤ s ∧ s < m := by
 rw [List.any_eq_false]
 constructor
 ·intro h s hs
  have := h s hs
  simp [badS] at this
  omega
 ·intro h s hs
  have := h s hs
  simp [badS]
  omega
theorem chkN_zero {n : Nf} : chkN n = 0 ↔ OkN n := by
 unfold chkN
 constructor
 ·intro h
  split at h
  ·omega
  rename_i h1
  split at h
  ·omega
  rename_i h2
  have h3 := any_bad.1 (by simpa using h2)
  have h4 := setsE_zero.1 h
  have h5 : ∀ s, s ∈ n.start :: n.ends ∨ s ∈ (n.eps.map epS).flatten ∨ s ∈ (n.edges.map edS).flatten → 0 ≤ s ∧ s < n.states := by
   intro s hs
   refine h3 s ?_
   unfold stsN
   rcases hs with hs | hs | hs
   ·exact List.mem_append_left _ (List.mem_append_left _ hs)
   ·exact List.mem_append_left _ (List.mem_append_right _ hs)
   ·exact List.mem_append_right _ hs
  refine ⟨by omega, h5 _ (.inl List.mem_cons_self), by omega, by omega, by omega, fun s hs => h5 s (.inl (List.mem_cons_of_mem _ hs)), fun p hp => ?_, fun e he => ?_⟩
  ·have hm : ∀ x ∈ epS p, 0 ≤ x ∧ x < n.states := fun x hx => h5 x (.inr (.inl (List.mem_flatten.2 ⟨_, List.mem_map.2 ⟨p, hp, rfl⟩, hx⟩)))
   exact ⟨hm p.1 (by simp [epS]), hm p.2 (by simp [epS])⟩
  ·have hm : ∀ x ∈ edS e, 0 ≤ x ∧ x < n.states := fun x hx => h5 x (.inr (.inr (List.mem_flatten.2 ⟨_, List.mem_map.2 ⟨e, he, rfl⟩, hx⟩)))
   exact ⟨hm e.1 (by simp [edS]), hm e.2.1 (by simp [edS]), h4 e he⟩
 ·intro h
  rw [if_neg (by have := h.st; have := h.el; have := h.pl; have := h.xl; omega)]
  rw [if_neg ?_]
  ·exact setsE_zero.2 fun e he => (h.ed e he).2.2
  ·rw [Bool.not_eq_true, any_bad]
   intro s hs
   unfold stsN at hs
   rcases List.mem_append.1 hs with hs | hs
   ·rcases List.mem_append.1 hs with hs | hs
    ·rcases List.mem_cons.1 hs with rfl | hs
     ·exact h.s0
     ·exact h.en s hs
    ·obtain ⟨l, hl, hx⟩ := List.mem_flatten.1 hs
     obtain ⟨p, hp, rfl⟩ := List.mem_map.1 hl
     simp [epS] at hx
     rcases hx with rfl | rfl
     ·exact (h.ep p hp).1
     ·exact (h.ep p hp).2
   ·obtain ⟨l, hl, hx⟩ := List.mem_flatten.1 hs
    obtain ⟨p, hp, rfl⟩ := List.mem_map.1 hl
    simp [edS] at hx
    rcases hx with rfl | rfl
    ·exact (h.ed p hp).1
    ·exact (h.ed p hp).2.1
theorem flat2_len (α : Type) (f : α → List Int) (hf : ∀ x, (f x).length = 2) : ∀ l : List α, (l.map f).flatten.length = 2 * l.length
  | [] => rfl
  | x :: l => by rw [List.map_cons, List.flatten_cons, List.length_append, hf, flat2_len α f hf l, List.length_cons]; omega
theorem flat_takeN {α : Type} (f : α → List Int) {l : List α} {k : Nat} {x : α} (h : l[k]? = some x) : ((l.take (k + 1)).map f).flatten = ((l.take k).map f).flatten ++ f x := by
 rw [List.take_add_one, h]; simp
theorem setsE_step {l : List Ed} {k : Nat} {e : Ed} (h : setsE l = setsE (l.drop k)) (he : l[k]? = some e) : (checkE e.2.2 = 0 → setsE l = setsE (l.drop (k + 1))) ∧ (checkE e.2.2 ≠ 0 → setsE l = checkE e.2.2) := by
 have hl : l.drop k = e :: l.drop (k + 1) := by
  have := lt_of_get he
  rw [List.drop_eq_getElem_cons this]
  rw [List.getElem?_eq_getElem this] at he
  rw [Option.some.inj he]
 rw [h, hl, setsE]
 exact ⟨fun h => by rw [if_pos h], fun h => by rw [if_neg h]⟩
end Go.Proofs
namespace Go.Proofs
open Go Go.Eng Go.Sort
--BEGIN
theorem set_true {M : List Bool} {i j : Nat} (h : M[j]? = some true) : (M.set i true)[j]? = some true := by
 rw [List.getElem?_set]
 split
 ·rename_i he
  subst he
  rw [if_pos (lt_of_get h)]
 ·exact h
end Go.Proofs
namespace Go.Proofs
open Go Go.Eng
set_option maxRecDepth 100000
def IntssAt (w : World) (v : Value) (ll : List (List Int)) : Prop := ∃ vs : List Value, SlAt w 1 v (vs.map fun x => [x]) ∧ vs.length = ll.length ∧ ∀ (i : Nat) (u : Value) (l : List Int), vs[i]? = some u → ll[i]? = some l → IntsAt w u l
theorem IntssAt.form {w : World} {v : Value} {ll : List (List Int)} (h : IntssAt w v ll) : ∃ a c, v = .slice a ll.length c ∧ ll.length ≤ c ∧ ll.length ≤ 9223372036854775807 := by
 obtain ⟨vs, h1, h2, _⟩ := h
 obtain ⟨a, c, rfl⟩ := h1.form
 have := h1.cap
 have := h1.le
 simp only [List.length_map] at *
 rw [h2] at *
 exact ⟨a, c, rfl, by omega, by omega⟩
theorem intss_cells {w : World} {a : Option Addr} {n c : Nat} {ll : List (List Int)} (h : IntssAt w (.slice a n c) ll) (hn : 0 < n) :
  ∃ b o, a = some ⟨b, o, none⟩ ∧ ∀ i l, ll[i]? = some l → ∃ ra rc, w.cell? ⟨b, o + i, none⟩ = some (.slice ra l.length rc) ∧ IntsAt w (.slice ra l.length rc) l := by
 obtain ⟨vs, h1, h2, h3⟩ := h
 obtain ⟨b, o, ha, hc⟩ := SlAt.at h1 hn
 refine ⟨b, o, ha, fun i l hl => ?_⟩
 have hi : i < vs.length := by have := lt_of_get hl; omega
 have hu : vs[i]? = some vs[i] := List.getElem?_eq_getElem hi
 have h4 := h3 i vs[i] l hu hl
 obtain ⟨ra, rc, hf⟩ := SlAt.form h4
 simp only [List.length_map] at hf
 have h5 := hc i [vs[i]] (by simp [hu]) 0 _ rfl
 rw [Nat.mul_one, Nat.add_zero, hf] at h5
 rw [hf] at h4
 exact ⟨ra, rc, h5, h4⟩
end Go.Proofs
namespace Go.Proofs
open Go Go.Eng Go.Sort
set_option maxRecDepth 100000
abbrev TDI : Nat := 3
abbrev TDIs : Nat := 22
def iRow (l : List Int) : Nat × List Value := (l.length, l.map (Value.int .i64))
theorem iRow_rep (n : Nat) : (List.replicate n ([] : List Int)).map iRow = List.replicate n (0, []) := by simp [iRow]
theorem ints_flatD (l : List Int) : (l.map intV).flatten = l.map (Value.int .i64) := by
  induction l with
  | nil => rfl
  | cons x l ih => simp [intV]; simpa [intV] using ih
theorem own_intsD {w : World} {base n : Nat} {v : Value} {l : List Int} (h : w.ownsRow base TDI 1 v n (l.map (Value.int .i64))) (hn : n = l.length) : IntsAt w v l := by
 rw [← ints_flatD] at h
 exact own_slat h (by intro x hx; simp only [List.mem_map] at hx; obtain ⟨p, _, rfl⟩ := hx; rfl) (by simp [hn]) (by decide)
theorem bools_set {M : List Bool} {k : Nat} (b : Bool) : ((M.map Value.bool).toArray).setIfInBounds (0 + k) (.bool b) = ((M.set k b).map Value.bool).toArray := by
 apply Array.ext'
 rw [Array.toList_setIfInBounds, Nat.zero_add, ← List.map_set]
theorem snocs {α : Type} {l : List α} (h : 0 < l.length) : ∃ o c, l = o ++ [c] := ⟨l.dropLast, l.getLast (List.ne_nil_of_length_pos h), (List.dropLast_concat_getLast _).symm⟩
end Go.Proofs
namespace Go.Proofs
open Go Go.Eng Go.Sort
set_option maxRecDepth 100000
theorem growi_c (w0 : World) (n : Nat) (hn : n ≤ 8796093022208) :
  Ret Tryz.prog 98 #[.slice none 0 0, .int .i64 ((n : Nat) : Int)] w0 fun r w => (∃ a c, r = .slice a 0 c) ∧ w.ownsRow w0.heap.size TDI 1 r 0 [] ∧ Ext w0 w := by
 refine Ret_of Tryz.func98 rfl Tryz.ntmps98 (Nat.le_of_ble_eq_true rfl) ?_
 have E : Chg none1 w0 w0 := Chg.refl _ _
 refine Wp_seq_region ?_
 refine qA (.slice none 0 0) rfl ?_
 refine WpL_nil (Wp_seq (Wp_seq_region ?_))
 refine qM (I6 (n : Int)) rfl ?_
 refine qV (r_lss (k := .i64) (a := (n : Int)) (b := 0) rfl rfl) ?_
 refine WpL_nil ?_
 have hc1 : (decide ((((n : Nat) : Int) : Int) < 0)) = false := decide_eq_false (by omega)
 refine Wp_cond_false (congrArg Value.bool hc1) ?_
 refine Wp_skip (thn_normal (Wp_seq (Wp_seq_region ?_)))
 refine qM (I6 (n : Int)) rfl ?_
 refine qM (.slice none 0 0) rfl ?_
 refine qV (r_capSlice (n := 0) (cap := 0) Tryz.underlying22 rfl) ?_
 refine qM (.slice none 0 0) rfl ?_
 refine qV (r_lenSlice (ad := none) (n := 0) (cap := 0) Tryz.underlying22 rfl) ?_
 refine qV (r_sub (k := .i64) (a := 0) (b := 0) (c := 0) rfl rfl (by decide)) ?_
 refine qV (r_sub (k := .i64) (a := (n : Int)) (b := 0) (c := (n : Int)) rfl rfl ((wI64 (by omega)).trans (by omega))) ?_
 refine qA (I6 (n : Int)) rfl ?_
 refine WpL_nil (Wp_seq_region ?_)
 refine qM (I6 (n : Int)) rfl ?_
 refine qV (r_gtr (k := .i64) (a := (n : Int)) (b := 0) rfl rfl) ?_
 refine WpL_nil ?_
 refine Wp_cond (b := decide ((0 : Int) < (n : Int))) rfl (fun hp => ?_) (fun hp => ?_)
 ·have khp := hp
  replace hp := of_decide_eq_true hp
  refine Wp_region ?_
  refine qM (.slice none 0 0) rfl ?_
  refine qM (.slice none 0 0) rfl ?_
  refine qV (r_capSlice (n := 0) (cap := 0) Tryz.underlying22 rfl) ?_
  obtain ⟨a1, ha1⟩ : ∃ a' : Option Addr, (if 0 = 0 then none else Option.map (fun q : Addr => q.add (0 * 1)) none) = a' := ⟨_, rfl⟩
  refine qV (r_sliceHi (a := none) (len := 0) (cap := 0) (hi := 0) (l := 0) Tryz.underlying22 siz3 rfl rfl (by omega) (by omega) ha1) ?_
  refine qM (I6 (n : Int)) rfl ?_
  simp at ha1
  subst ha1
  refine s_appendZ (base := w0.heap.size) (n := n) (size := 1) (bytes := 8) (by decide) Tryz.underlying22 Tryz.underlying3 siz3 byt3 zer3 rfl (by decide) rfl rfl (by omega) (by omega) (by omega) ?_
  intro cc w9 X9 O9 H9
  replace E := E.ext X9
  refine qM (.slice none 0 0) rfl ?_
  refine qV (r_lenSlice (ad := none) (n := 0) (cap := 0) Tryz.underlying22 rfl) ?_
  obtain ⟨a2, ha2⟩ : ∃ a' : Option Addr, (if cc = 0 then (some ⟨w0.heap.size, 0, none⟩) else Option.map (fun q : Addr => q.add (0 * 1)) (some ⟨w0.heap.size, 0, none⟩)) = a' := ⟨_, rfl⟩
  refine qV (r_sliceHi (a := (some ⟨w0.heap.size, 0, none⟩)) (len := n) (cap := cc) (hi := 0) (l := 0) Tryz.underlying22 siz3 rfl rfl (by omega) (by omega) ha2) ?_
  have ha3 : a2 = some ⟨w0.heap.size, 0, none⟩ := by rw [← ha2, if_neg (by omega)]; simp [Addr.add_lit]
  subst ha3
  refine qA (.slice (some ⟨w0.heap.size, 0, none⟩) 0 cc) rfl ?_
  refine WpL_nil (thn_normal (Wp_seq_region ?_))
  refine qM (.slice (some ⟨w0.heap.size, 0, none⟩) 0 cc) rfl ?_
  refine qA (.slice (some ⟨w0.heap.size, 0, none⟩) 0 cc) rfl ?_
  refine WpL_nil (Wp_ret ?_)
  refine fin_tmp Tryz.results98 (v := (.slice (some ⟨w0.heap.size, 0, none⟩) 0 cc)) rfl ?_
  exact ⟨⟨_, _, rfl⟩, O9, E⟩
 ·have khp := hp
  replace hp := of_decide_eq_false hp
  refine Wp_skip (thn_normal (Wp_seq_region ?_))
  refine qM (.slice none 0 0) rfl ?_
  refine qA (.slice none 0 0) rfl ?_
  refine WpL_nil (Wp_ret ?_)
  refine fin_tmp Tryz.results98 (v := (.slice none 0 0)) rfl ?_
  exact ⟨⟨none, 0, rfl⟩, World.ownsRow_nil _ _ _ _, E⟩
theorem ilens_take {ll : List (List Int)} {k : Nat} {l : List Int} (h : ll[k]? = some l) : (ll.take (k + 1)).flatten = (ll.take k).flatten ++ l := by
 rw [List.take_add_one, h]; simp
theorem ilens_le (ll : List (List Int)) (k : Nat) : (ll.take k).flatten.length ≤ ll.flatten.length := by
 have h : ll.flatten = (ll.take k).flatten ++ (ll.drop k).flatten := by rw [← List.flatten_append, List.take_append_drop]
 rw [h, List.length_append]; omega
theorem ints_one (l : List Int) : ∀ x ∈ l.map (Value.int .i64), x.oneCell' = true := by
 intro x hx
 obtain ⟨y, _, rfl⟩ := List.mem_map.1 hx
 rfl
set_option maxHeartbeats 1000000 in
theorem concati_c (w0 : World) (v : Value) (ll : List (List Int)) (h : IntssAt w0 v ll) (hl : ll.flatten.length ≤ 8796093022208) :
  Ret Tryz.prog 47 #[v] w0 fun r w => (∃ a c, r = .slice a ll.flatten.length c) ∧ w.ownsRow w0.heap.size TDI 1 r ll.flatten.length (ll.flatten.map (Value.int .i64)) ∧ Ext w0 w := by
 obtain ⟨a, c, rfl, _, hle⟩ := h.form
 obtain ⟨base, hbase⟩ : ∃ base, base = w0.heap.size := ⟨_, rfl⟩
 rw [← hbase]
 refine Ret_of Tryz.func47 rfl Tryz.ntmps47 (Nat.le_of_ble_eq_true rfl) ?_
 have E : Chg none1 w0 w0 := Chg.refl _ _
 refine Wp_seq_region ?_
 refine qA (.slice none 0 0) rfl ?_
 refine WpL_nil (Wp_seq_region ?_)
 refine qA (I6 0) rfl ?_
 refine WpL_nil (Wp_seq (Wp_seq_region ?_))
 refine qM (.slice a ll.length c) rfl ?_
 refine qV (r_lenSlice (ad := a) (n := ll.length) (cap := c) Tryz.underlying49 rfl) ?_
 refine qM (I6 0) rfl ?_
 refine WpL_nil (Wp_block ?_)
 refine Wp_loop (fun nn_ σ W1 => ∃ (k : Nat) (n : Nat), (∃ jj_, σ = upds jj_ [(0, (.slice a ll.length c)), (9, (.slice a ll.length c)), (10, (I6 (ll.length : Int))), (11, (I6 (k : Int))), (3, (I6 (n : Int)))]) ∧ Chg none1 w0 W1 ∧ (k ≤ ll.length) ∧ (n = (ll.take k).flatten.length) ∧ nn_ = ll.length - k) (n := ll.length - 0) ?_ ?_
 ·exact ⟨0, 0, Fits.out ⟨rfl, rfl, rfl, rfl, rfl, trivial⟩, E, Nat.zero_le _, rfl, rfl⟩
 ·clear E
  rintro _ _ W1 ⟨k, n, ⟨j1, rfl⟩, E, hk, hn, rfl⟩
  refine Wp_seq_region ?_
  refine qV (r_lss (k := .i64) (a := (k : Int)) (b := (ll.length : Int)) rfl rfl) ?_
  refine WpL_nil (Wp_seq ?_)
  refine Wp_cond (b := decide (((k : Int) : Int) < (ll.length : Int))) rfl (fun hlt => ?_) (fun hlt => ?_)
  ·have khlt := hlt
   replace hlt := of_decide_eq_true hlt
   obtain ⟨l, hx⟩ := get_of_lt (l := ll) (i := k) (by omega)
   obtain ⟨b, o, rfl, hcl⟩ := intss_cells h (by omega)
   obtain ⟨ra, rc, hcell, hsp⟩ := hcl k l hx
   have hn1 := ilens_le ll (k + 1)
   rw [ilens_take hx, List.length_append] at hn1
   refine Wp_skip (thn_normal (Wp_seq (Wp_block (Wp_seq_region ?_))))
   refine qV (r_indexSlice (b := b) (o := o) (len := ll.length) (cap := c) (i := k) (o' := o + k) rfl rfl rfl Tryz.underlying49 siz22 (by omega) (by omega)) ?_
   refine qV (r_load (v := (.slice ra l.length rc)) rfl flat22 (E.cell (fun f => f) hcell)) ?_
   refine qA (.slice ra l.length rc) rfl ?_
   refine WpL_nil (Wp_seq_region ?_)
   refine qM (I6 (n : Int)) rfl ?_
   refine qM (.slice ra l.length rc) rfl ?_
   refine qV (r_lenSlice (ad := ra) (n := l.length) (cap := rc) Tryz.underlying22 rfl) ?_
   refine qV (r_add (k := .i64) (a := (n : Int)) (b := (l.length : Int)) (c := ((n + l.length : Nat) : Int)) rfl rfl ((wI64 (by omega)).trans (by omega))) ?_
   refine qA (I6 ((n + l.length : Nat) : Int)) rfl ?_
   refine WpL_nil (Wp_seq_region ?_)
   refine qM (I6 ((n + l.length : Nat) : Int)) rfl ?_
   refine qV (r_lss (k := .i64) (a := ((n + l.length : Nat) : Int)) (b := 0) rfl rfl) ?_
   refine WpL_nil ?_
   have hc3 : (decide ((((n + l.length : Nat) : Int) : Int) < 0)) = false := decide_eq_false (by omega)
   refine Wp_cond_false (congrArg Value.bool hc3) ?_
   refine Wp_skip (inB_normal (thn_normal (Wp_region ?_)))
   refine qV (r_add (k := .i64) (a := (k : Int)) (b := 1) (c := (k : Int) + 1) rfl rfl (wI64 (by omega))) ?_
   refine qM (I6 ((k : Int) + 1)) rfl ?_
   refine WpL_nil (thn_normal ?_)
   exact ⟨ll.length - (k + 1), by omega, k + 1, n + l.length, Fits.out ⟨rfl, rfl, rfl, rfl, rfl, trivial⟩, E, (by omega), (by rw [ilens_take hx, List.length_append, hn]), rfl⟩
  ·have khlt := hlt
   replace hlt := of_decide_eq_false hlt
   have hkk : k = ll.length := by omega
   have hn2 := ilens_le ll k
   have hs0 := E.size
   refine Wp_exit (thn_exit (thn_exit (inB_here (thn_normal (Wp_seq_region ?_)))))
   refine qM (I6 (n : Int)) rfl ?_
   refine WpL_enter rfl rfl (by decide) (r_callF (vs := [(.slice none 0 0), (I6 (n : Int))]) Tryz.func98 kQ kQ rfl) (growi_c _ n (by omega)) ?_
   rintro _ w9 ⟨⟨ga, gc, rfl⟩, O9, X9⟩
   replace E := E.ext X9
   have hO9 : w9.ownsRow base TDI 1 (.slice ga 0 gc) 0 [] := own_low O9 (by omega)
   refine qA (.slice ga 0 gc) rfl ?_
   refine WpL_nil (Wp_seq (Wp_seq_region ?_))
   refine qM (.slice a ll.length c) rfl ?_
   refine qV (r_lenSlice (ad := a) (n := ll.length) (cap := c) Tryz.underlying49 rfl) ?_
   refine qM (I6 0) rfl ?_
   refine WpL_nil (Wp_block ?_)
   refine Wp_loop (fun nn_ σ W4 => ∃ (i : Nat) (la : Option Addr) (lc : Nat) (m : Nat), (∃ jj_, σ = upds jj_ [(25, (.slice a ll.length c)), (26, (I6 (ll.length : Int))), (27, (I6 (i : Int))), (6, (.slice la m lc))]) ∧ Chg none1 w0 W4 ∧ (i ≤ ll.length) ∧ (m = (ll.take i).flatten.length) ∧ (W4.ownsRow base TDI 1 (.slice la m lc) m (((ll.take i).flatten).map (Value.int .i64))) ∧ (base ≤ W4.heap.size) ∧ nn_ = ll.length - i) (n := ll.length - 0) ?_ ?_
   ·exact ⟨0, ga, gc, 0, Fits.out ⟨rfl, rfl, rfl, rfl, trivial⟩, E, Nat.zero_le _, rfl, hO9, (by have := E.size; omega), rfl⟩
   ·clear E
    rintro _ _ W4 ⟨i, la, lc, m, ⟨j4, rfl⟩, E, hi, hm, hown, hbs, rfl⟩
    refine Wp_seq_region ?_
    refine qV (r_lss (k := .i64) (a := (i : Int)) (b := (ll.length : Int)) rfl rfl) ?_
    refine WpL_nil (Wp_seq ?_)
    refine Wp_cond (b := decide (((i : Int) : Int) < (ll.length : Int))) rfl (fun hlt2 => ?_) (fun hlt2 => ?_)
    ·have khlt2 := hlt2
     replace hlt2 := of_decide_eq_true hlt2
     obtain ⟨l, hx⟩ := get_of_lt (l := ll) (i := i) (by omega)
     obtain ⟨b, o, rfl, hcl⟩ := intss_cells h (by omega)
     obtain ⟨ra, rc, hcell, hsp⟩ := hcl i l hx
     have hn1 := ilens_le ll (i + 1)
     rw [ilens_take hx, List.length_append] at hn1
     have hmc : m ≤ lc := own_le hown
     rcases Bool.eq_false_or_eq_true (decide (l.length = 0)) with hz | hz
     ·have khz := hz
      replace khz := of_decide_eq_true khz
      refine Wp_skip (thn_normal (Wp_seq (Wp_block (Wp_seq_region ?_))))
      refine qV (r_indexSlice (b := b) (o := o) (len := ll.length) (cap := c) (i := i) (o' := o + i) rfl rfl rfl Tryz.underlying49 siz22 (by omega) (by omega)) ?_
      refine qV (r_load (v := (.slice ra l.length rc)) rfl flat22 (E.cell (fun f => f) hcell)) ?_
      refine qA (.slice ra l.length rc) rfl ?_
      refine WpL_nil (Wp_region ?_)
      refine qM (.slice la m lc) rfl ?_
      refine qM (.slice ra l.length rc) rfl ?_
      refine qV (r_append0 Tryz.underlying22 siz3 (a' := ra) (c' := rc) rfl hmc (by show Value.slice ra l.length rc = _; rw [khz])) ?_
      refine qA (.slice la m lc) rfl ?_
      refine WpL_nil (inB_normal (thn_normal (Wp_region ?_)))
      refine qV (r_add (k := .i64) (a := (i : Int)) (b := 1) (c := (i : Int) + 1) rfl rfl (wI64 (by omega))) ?_
      refine qM (I6 ((i : Int) + 1)) rfl ?_
      refine WpL_nil (thn_normal ?_)
      have hl0 : l = [] := List.eq_nil_of_length_eq_zero khz
      exact ⟨ll.length - (i + 1), by omega, i + 1, la, lc, m, Fits.out ⟨rfl, rfl, rfl, rfl, trivial⟩, E, (by omega), (by rw [ilens_take hx, hl0, List.append_nil, hm]), (by rw [ilens_take hx, hl0, List.append_nil]; exact hown), hbs, rfl⟩
     ·have khz := hz
      replace khz := of_decide_eq_false khz
      obtain ⟨rb, ro, rfl, hrc⟩ := ints_cells hsp (by omega)
      have hrc2 : CellsAt w0 rb ro (l.map (Value.int .i64)) := fun j u hu => by rw [List.getElem?_map, Option.map_eq_some_iff] at hu; obtain ⟨y, hy, rfl⟩ := hu; exact hrc j y hy
      refine Wp_skip (thn_normal (Wp_seq (Wp_block (Wp_seq_region ?_))))
      refine qV (r_indexSlice (b := b) (o := o) (len := ll.length) (cap := c) (i := i) (o' := o + i) rfl rfl rfl Tryz.underlying49 siz22 (by omega) (by omega)) ?_
      refine qV (r_load (v := (.slice (some ⟨rb, ro, none⟩) l.length rc)) rfl flat22 (E.cell (fun f => f) hcell)) ?_
      refine qA (.slice (some ⟨rb, ro, none⟩) l.length rc) rfl ?_
      refine WpL_nil (Wp_region ?_)
      refine qM (.slice la m lc) rfl ?_
      refine qM (.slice (some ⟨rb, ro, none⟩) l.length rc) rfl ?_
      refine s_append (base := base) (n := m) (m := l.length) (xs := (((ll.take i).flatten).map (Value.int .i64))) (news := l.map (Value.int .i64)) (size := 1) (bytes := 8) (v := (.slice la m lc)) (by decide) Tryz.underlying22 siz3 byt3 zer3 rfl (by decide) rfl hown rfl (by simp) (hrc2.ext E) (ints_one l) (by unfold maxLen; omega) (by omega) (hbs) ?_
      intro v9 w29 Ov9 Cv9 Dv9
      replace E := E.step Cv9 (fun x hx h => absurd (hown.lt x h).1 (by omega))
      obtain ⟨la2, lc2, rfl⟩ := own_form Ov9
      refine qA (.slice la2 (m + l.length) lc2) rfl ?_
      refine WpL_nil (inB_normal (thn_normal (Wp_region ?_)))
      refine qV (r_add (k := .i64) (a := (i : Int)) (b := 1) (c := (i : Int) + 1) rfl rfl (wI64 (by omega))) ?_
      refine qM (I6 ((i : Int) + 1)) rfl ?_
      refine WpL_nil (thn_normal ?_)
      exact ⟨ll.length - (i + 1), by omega, i + 1, la2, lc2, m + l.length, Fits.out ⟨rfl, rfl, rfl, rfl, trivial⟩, E, (by omega), (by rw [ilens_take hx, List.length_append, hm]), (by rw [ilens_take hx, List.map_append]; exact Ov9), Nat.le_trans hbs Cv9.size, rfl⟩
    ·have khlt2 := hlt2
     replace hlt2 := of_decide_eq_false hlt2
     have hii : i = ll.length := by omega
     refine Wp_exit (thn_exit (thn_exit (inB_here (thn_normal (Wp_seq_region ?_)))))
     refine qM (.slice la m lc) rfl ?_
     refine qA (.slice la m lc) rfl ?_
     refine WpL_nil (Wp_ret ?_)
     refine fin_tmp Tryz.results47 (v := (.slice la m lc)) rfl ?_
     rw [hii, List.take_length] at hown hm
     subst hm
     exact ⟨⟨la, lc, rfl⟩, hown, E⟩
theorem intss_blk {w : World} {b T n : Nat} {vs : List Value} {ll : List (List Int)} (hB : Blk w b vs.toArray T) (hl : vs.length = ll.length) (hn : vs.length = n) (hm : n ≤ 1000000) (h : ∀ (i : Nat) u l, vs[i]? = some u → ll[i]? = some l → IntsAt w u l) : IntssAt w (.slice (some ⟨b, 0, none⟩) n n) ll := by
 refine ⟨vs, ?_, hl, h⟩
 subst hn
 have := slat_of_blk (w := w) (b := b) (t := T) (k := 1) (cap := vs.length) (rows := vs.map fun x => [x]) (by rw [show (vs.map fun x => [x]).flatten = vs by simp [List.flatten_eq_flatMap, List.flatMap_map]]; exact hB) (by intro r hr; simp only [List.mem_map] at hr; obtain ⟨x, _, rfl⟩ := hr; rfl) (by simp; omega) (by simp)
 simpa using this
end Go.Proofs
namespace Go.Proofs
open Go Go.Eng Go.Sort
set_option maxRecDepth 100000
theorem ncheck1_c (w0 : World) (x st : Int) (b : Nat) (v1 v2 v3 v4 : Value) (hB : Blk w0 b #[.int .i64 st, v1, v2, v3, v4] 26) : Ret Tryz.prog 48 #[.int .i64 x, .pointer (some ⟨b, 0, none⟩)] w0 fun r w => r = .bool (badS st x) ∧ Ext w0 w := by
 refine Ret_of Tryz.func48 rfl Tryz.ntmps48 (Nat.le_of_ble_eq_true rfl) ?_
 have E : Chg none1 w0 w0 := Chg.refl _ _
 refine Wp_seq_region ?_
 refine qA (.bool false) rfl ?_
 refine WpL_nil (Wp_seq_region ?_)
 refine qM (I6 x) rfl ?_
 obtain ⟨e1, he1⟩ : ∃ e, (decide ((x : Int) < 0)) = e := ⟨_, rfl⟩
 refine qV ((r_lss (k := .i64) (a := x) (b := 0) rfl rfl).trans (by rw [he1]; try rfl)) ?_
 refine qM (.bool e1) rfl ?_
 refine qG (.bool e1) (nU e1 (I6 x)) (by cases e1 <;> first | exact gA | exact gB | exact .inl ⟨rfl, r_move (v := (I6 x)) rfl⟩) ?_
 refine qG (.bool e1) (nU e1 (P6 b 0)) (by cases e1 <;> first | exact gA | exact gB | exact .inl ⟨rfl, r_fieldAddr (b := b) (o := 0) (o' := 0) rfl Tryz.underlying26 rfl siz3 rfl⟩) ?_
 refine qG (.bool e1) (nU e1 (I6 st)) (by cases e1 <;> first | exact gA | exact gB | exact .inl ⟨rfl, r_load (v := (I6 st)) rfl flat3 (hB.cell rfl)⟩) ?_
 obtain ⟨e2, he2⟩ : ∃ e, (decide ((st : Int) ≤ x)) = e := ⟨_, rfl⟩
 refine qG (.bool e1) (nU e1 (.bool e2)) (by cases e1 <;> first | exact gA | exact gB | exact .inl ⟨rfl, (r_geq (k := .i64) (a := x) (b := st) rfl rfl).trans (by rw [he2]; try rfl)⟩) ?_
 obtain ⟨e3, he3⟩ : ∃ e, (e1 || e2) = e := ⟨_, rfl⟩
 refine qV (r_pick (b := e1) (v := .bool e3) rfl (by rw [← he3]; cases e1 <;> rfl)) ?_
 refine qA (.bool e3) rfl ?_
 refine WpL_nil ?_
 subst he3
 subst he2
 subst he1
 refine Wp_ret ?_
 refine fin_tmp Tryz.results48 (v := (.bool ((decide ((x : Int) < 0)) || (decide ((st : Int) ≤ x))))) rfl ?_
 exact ⟨bool_eq rfl, E⟩
theorem two_lists {w : World} {a b : Value} {la lb : List Int} (h1 : IntsAt w a la) (h2 : IntsAt w b lb) : ∀ (i : Nat) u l, [a, b][i]? = some u → [la, lb][i]? = some l → IntsAt w u l := by
  intro i u l hu hl
  match i, hu, hl with
  | 0, hu, hl => simp at hu hl; subst hu; subst hl; exact h1
  | 1, hu, hl => simp at hu hl; subst hu; subst hl; exact h2
  | i + 2, hu, hl => simp at hu
theorem ncat2_c (w0 : World) (base : Nat) (v : Value) (ll : List (List Int)) (L : List Int) (h : IntssAt w0 v ll) (e : ll.flatten = L) (hl : L.length ≤ 8796093022208) (hb : base = (w0 : World).heap.size ∨ base ≤ w0.heap.size) :
  Ret Tryz.prog 47 #[v] w0 fun r w => (∃ a c, r = .slice a L.length c) ∧ w.ownsRow base TDI 1 r L.length (L.map (Value.int .i64)) ∧ Ext w0 w := by
 subst e
 exact (concati_c w0 v ll h hl).mono fun r w h9 => ⟨h9.1, own_low h9.2.1 (by omega), h9.2.2⟩
set_option maxHeartbeats 2000000 in
theorem ncheck_c (w0 : World) (n : Nf) (vs : List Value) (h : NfAt w0 n vs) : Ret Tryz.prog 11 #[.agg vs.toArray] w0 fun r w => r = .int .i64 (chkN n) ∧ Ext w0 w := by
 obtain ⟨ea, ec, pa, pc, xa, xc, rfl, hen, hep, hed⟩ := h
 refine Ret_of Tryz.func11 rfl Tryz.ntmps11 (Nat.le_of_ble_eq_true rfl) ?_
 have E : Chg none1 w0 w0 := Chg.refl _ _
 refine Wp_seq_region ?_
 refine s_box (v := (.agg #[(I6 n.states), (I6 n.start), (.slice ea n.ends.length ec), (.slice pa n.eps.length pc), (.slice xa n.edges.length xc)])) (c := #[(I6 n.states), (I6 n.start), (.slice ea n.ends.length ec), (.slice pa n.eps.length pc), (.slice xa n.edges.length xc)]) (by decide) rfl rfl ?_
 intro bn wn Nn
 have Fn := Nn.ge E
 replace E := E.ext Nn.ext
 have Bn := Nn.blk
 refine qA (I6 0) rfl ?_
 refine WpL_nil (Wp_seq (Wp_seq_region ?_))
 refine qF bn 0 0 rfl Tryz.underlying26 rfl siz3 rfl ?_
 refine qV (r_load (v := (I6 n.states)) rfl flat3 (Bn.cell rfl)) ?_
 obtain ⟨e1, he1⟩ : ∃ e, (decide ((500 : Int) < n.states)) = e := ⟨_, rfl⟩
 refine qV ((r_gtr (k := .i64) (a := n.states) (b := 500) rfl rfl).trans (by rw [he1]; try rfl)) ?_
 refine qM (.bool e1) rfl ?_
 refine qG (.bool e1) (nU e1 (P6 bn 2)) (by cases e1 <;> first | exact gA | exact gB | exact .inl ⟨rfl, r_fieldAddr (b := bn) (o := 0) (o' := 2) rfl Tryz.underlying26 rfl siz22 rfl⟩) ?_
 refine qG (.bool e1) (nU e1 (.slice ea n.ends.length ec)) (by cases e1 <;> first | exact gA | exact gB | exact .inl ⟨rfl, r_load (v := (.slice ea n.ends.length ec)) rfl flat22 (Bn.cell rfl)⟩) ?_
 refine qG (.bool e1) (nU e1 (I6 (n.ends.length : Int))) (by cases e1 <;> first | exact gA | exact gB | exact .inl ⟨rfl, r_lenSlice (ad := ea) (n := n.ends.length) (cap := ec) Tryz.underlying22 rfl⟩) ?_
 obtain ⟨e2, he2⟩ : ∃ e, (decide ((500 : Int) < ((n.ends.length : Nat) : Int))) = e := ⟨_, rfl⟩
 refine qG (.bool e1) (nU e1 (.bool e2)) (by cases e1 <;> first | exact gA | exact gB | exact .inl ⟨rfl, (r_gtr (k := .i64) (a := (n.ends.length : Int)) (b := 500) rfl rfl).trans (by rw [he2]; try rfl)⟩) ?_
 obtain ⟨e3, he3⟩ : ∃ e, (e1 || e2) = e := ⟨_, rfl⟩
 refine qV (r_pick (b := e1) (v := .bool e3) rfl (by rw [← he3]; cases e1 <;> rfl)) ?_
 refine qM (.bool e3) rfl ?_
 refine qG (.bool e3) (nU e3 (P6 bn 3)) (by cases e3 <;> first | exact gA | exact gB | exact .inl ⟨rfl, r_fieldAddr (b := bn) (o := 0) (o' := 3) rfl Tryz.underlying26 rfl siz23 rfl⟩) ?_
 refine qG (.bool e3) (nU e3 (.slice pa n.eps.length pc)) (by cases e3 <;> first | exact gA | exact gB | exact .inl ⟨rfl, r_load (v := (.slice pa n.eps.length pc)) rfl flat23 (Bn.cell rfl)⟩) ?_
 refine qG (.bool e3) (nU e3 (I6 (n.eps.length : Int))) (by cases e3 <;> first | exact gA | exact gB | exact .inl ⟨rfl, r_lenSlice (ad := pa) (n := n.eps.length) (cap := pc) Tryz.underlying23 rfl⟩) ?_
 obtain ⟨e4, he4⟩ : ∃ e, (decide ((20000 : Int) < ((n.eps.length : Nat) : Int))) = e := ⟨_, rfl⟩
 refine qG (.bool e3) (nU e3 (.bool e4)) (by cases e3 <;> first | exact gA | exact gB | exact .inl ⟨rfl, (r_gtr (k := .i64) (a := (n.eps.length : Int)) (b := 20000) rfl rfl).trans (by rw [he4]; try rfl)⟩) ?_
 obtain ⟨e5, he5⟩ : ∃ e, (e3 || e4) = e := ⟨_, rfl⟩
 refine qV (r_pick (b := e3) (v := .bool e5) rfl (by rw [← he5]; cases e3 <;> rfl)) ?_
 refine qM (.bool e5) rfl ?_
 refine qG (.bool e5) (nU e5 (P6 bn 4)) (by cases e5 <;> first | exact gA | exact gB | exact .inl ⟨rfl, r_fieldAddr (b := bn) (o := 0) (o' := 4) rfl Tryz.underlying26 rfl siz24 rfl⟩) ?_
 refine qG (.bool e5) (nU e5 (.slice xa n.edges.length xc)) (by cases e5 <;> first | exact gA | exact gB | exact .inl ⟨rfl, r_load (v := (.slice xa n.edges.length xc)) rfl flat24 (Bn.cell rfl)⟩) ?_
 refine qG (.bool e5) (nU e5 (I6 (n.edges.length : Int))) (by cases e5 <;> first | exact gA | exact gB | exact .inl ⟨rfl, r_lenSlice (ad := xa) (n := n.edges.length) (cap := xc) Tryz.underlying24 rfl⟩) ?_
 obtain ⟨e6, he6⟩ : ∃ e, (decide ((20000 : Int) < ((n.edges.length : Nat) : Int))) = e := ⟨_, rfl⟩
 refine qG (.bool e5) (nU e5 (.bool e6)) (by cases e5 <;> first | exact gA | exact gB | exact .inl ⟨rfl, (r_gtr (k := .i64) (a := (n.edges.length : Int)) (b := 20000) rfl rfl).trans (by rw [he6]; try rfl)⟩) ?_
 obtain ⟨e7, he7⟩ : ∃ e, (e5 || e6) = e := ⟨_, rfl⟩
 refine qV (r_pick (b := e5) (v := .bool e7) rfl (by rw [← he7]; cases e5 <;> rfl)) ?_
 refine WpL_nil ?_
 subst he7
 subst he6
 subst he5
 subst he4
 subst he3
 subst he2
 subst he1
 refine Wp_cond (b := ((((decide ((500 : Int) < n.states)) || (decide ((500 : Int) < (n.ends.length : Int)))) || (decide ((20000 : Int) < (n.eps.length : Int)))) || (decide ((20000 : Int) < (n.edges.length : Int))))) rfl (fun h0 => ?_) (fun h0 => ?_)
 ·have kh0 := h0
  refine Wp_seq_region ?_
  refine qA (I6 2) rfl ?_
  refine WpL_nil (Wp_ret (thn_ret ?_))
  refine fin_tmp Tryz.results11 (v := (.int .i64 2)) rfl ?_
  exact ⟨by unfold chkN; rw [if_pos (by simp only [Bool.or_eq_true, decide_eq_true_eq] at h0; omega)], E⟩
 ·have kh0 := h0
  have h0 : ¬ (500 < n.states ∨ 500 < n.ends.length ∨ 20000 < n.eps.length ∨ 20000 < n.edges.length) := by simp only [Bool.or_eq_false_iff, decide_eq_false_iff_not] at h0; omega
  obtain ⟨L0, hL0⟩ : ∃ L0, L0 = n.start :: n.ends := ⟨_, rfl⟩
  have hL0l : L0.length = n.ends.length + 1 := by rw [hL0]; rfl
  refine Wp_skip (thn_normal (Wp_seq_region ?_))
  refine qF bn 0 1 rfl Tryz.underlying26 rfl siz3 rfl ?_
  refine qV (r_load (v := (I6 n.start)) rfl flat3 (Bn.cell rfl)) ?_
  refine s_buildSlice (ps := [(0, (I6 n.start))]) (c := #[(I6 n.start)]) (by decide) rfl Tryz.underlying22 siz3 zer3 (by decide) (by decide) (by kernel_rfl) ?_
  intro bs ws Ns
  have Fs := Ns.ge E
  have Os_bn := Ns.lt Bn
  replace Bn := Ns.keep Bn
  replace E := E.ext Ns.ext
  have Bs := Ns.blk
  refine qF bn 0 2 rfl Tryz.underlying26 rfl siz22 rfl ?_
  refine qV (r_load (v := (.slice ea n.ends.length ec)) rfl flat22 (Bn.cell rfl)) ?_
  refine s_buildSlice (ps := [(0, (.slice (some ⟨bs, 0, none⟩) 1 1)), (1, (.slice ea n.ends.length ec))]) (c := #[(.slice (some ⟨bs, 0, none⟩) 1 1), (.slice ea n.ends.length ec)]) (by decide) rfl Tryz.underlying49 siz22 zer22 (by decide) (by decide) (by kernel_rfl) ?_
  intro bq wq Nq
  have Fq := Nq.ge E
  have Oq_bn := Nq.lt Bn
  have Oq_bs := Nq.lt Bs
  replace Bn := Nq.keep Bn
  replace Bs := Nq.keep Bs
  replace E := E.ext Nq.ext
  have Bq := Nq.blk
  obtain ⟨base, hbase⟩ : ∃ base, base = (wq).heap.size := ⟨_, rfl⟩
  have hb0 : w0.heap.size ≤ base ∧ bn < base := ⟨by rw [hbase]; exact E.size, by rw [hbase]; exact Bn.lt⟩
  refine WpL_enter rfl rfl (by decide) (r_callF (vs := [(.slice (some ⟨bq, 0, none⟩) 2 2)]) Tryz.func47 kQ kQ rfl) (ncat2_c _ base _ [[n.start], n.ends] L0 (intss_blk Bq rfl rfl (by omega) (two_lists (ints_of_blk [n.start] Bs (by simp) (by simp)) (hen.ext E))) (by rw [hL0]; simp) (by omega) (.inr (by have := E.size; omega))) ?_
  rintro _ w9 ⟨⟨ja, jc, rfl⟩, hO, X9⟩
  replace Bn := X9.keep Bn
  replace Bs := X9.keep Bs
  replace Bq := X9.keep Bq
  replace E := E.ext X9
  have hs9 : base ≤ w9.heap.size := by rw [hbase]; exact X9.size
  refine qA (.slice ja L0.length jc) rfl ?_
  refine WpL_nil (Wp_seq (Wp_seq_region ?_))
  refine qF bn 0 3 rfl Tryz.underlying26 rfl siz23 rfl ?_
  refine qV (r_load (v := (.slice pa n.eps.length pc)) rfl flat23 (Bn.cell rfl)) ?_
  refine qV (r_lenSlice (ad := pa) (n := n.eps.length) (cap := pc) Tryz.underlying23 rfl) ?_
  refine qM (I6 0) rfl ?_
  refine WpL_nil (Wp_block ?_)
  refine Wp_loop (fun nn_ σ W9 => ∃ (k : Nat) (la : Option Addr) (lc : Nat) (m : Nat), (∃ jj_, σ = upds jj_ [(1, (P6 bn 0)), (40, (.slice pa n.eps.length pc)), (41, (I6 (n.eps.length : Int))), (42, (I6 (k : Int))), (3, (.slice la m lc))]) ∧ Chg none1 w0 W9 ∧ Blk W9 bn #[(I6 n.states), (I6 n.start), (.slice ea n.ends.length ec), (.slice pa n.eps.length pc), (.slice xa n.edges.length xc)] 26 ∧ (k ≤ n.eps.length) ∧ (m = L0.length + 2 * k) ∧ (W9.ownsRow base TDI 1 (.slice la m lc) m ((L0 ++ ((n.eps.take k).map epS).flatten).map (Value.int .i64))) ∧ (base ≤ W9.heap.size) ∧ nn_ = n.eps.length - k) (n := n.eps.length - 0) ?_ ?_
  ·exact ⟨0, ja, jc, L0.length, Fits.out ⟨rfl, rfl, rfl, rfl, rfl, trivial⟩, E, Bn, Nat.zero_le _, rfl, (by simpa using hO), hs9, rfl⟩
  ·clear E Bn
   rintro _ _ W9 ⟨k, la, lc, m, ⟨j9, rfl⟩, E, Bn, hk, hm, hown, hbs, rfl⟩
   refine Wp_seq_region ?_
   refine qV (r_lss (k := .i64) (a := (k : Int)) (b := (n.eps.length : Int)) rfl rfl) ?_
   refine WpL_nil (Wp_seq ?_)
   refine Wp_cond (b := decide (((k : Int) : Int) < (n.eps.length : Int))) rfl (fun hlt => ?_) (fun hlt => ?_)
   ·have khlt := hlt
    replace hlt := of_decide_eq_true hlt
    obtain ⟨p, hp⟩ := get_of_lt (l := n.eps) (i := k) (by omega)
    obtain ⟨pb, po, rfl, hpc⟩ := spans_cells hep (by omega)
    refine Wp_skip (thn_normal (Wp_seq (Wp_block (Wp_seq_region ?_))))
    refine qV (r_indexSlice (b := pb) (o := po) (len := n.eps.length) (cap := pc) (i := k) (o' := po + k * 2) rfl rfl rfl Tryz.underlying23 siz36 (by omega) (by omega)) ?_
    refine qV (r_loadAgg (vs := [(I6 p.1), (I6 p.2)]) rfl agg36 siz36 rfl ((hpc k p hp).ext E)) ?_
    refine s_allocStore (v := (.agg #[(I6 p.1), (I6 p.2)])) (c := #[(I6 p.1), (I6 p.2)]) (n := 2) (by decide) zer36 rfl siz36 rfl rfl rfl (by simp [Value.oneCell']) ?_
    intro bx wx Nx
    have Fx := Nx.ge E
    have Ox_bn := Nx.lt Bn
    replace Bn := Nx.keep Bn
    replace hown := own_ext hown Nx.ext
    replace hbs := Nat.le_trans hbs Nx.ext.size
    replace E := E.ext Nx.ext
    have Bx := Nx.blk
    refine WpL_nil (Wp_region ?_)
    refine qM (.slice la m lc) rfl ?_
    refine qV (r_indexArr (b := bx) (o := 0) (i := 0) (o' := 0) rfl rfl rfl Tryz.underlying36 siz3 (by omega) (by omega)) ?_
    refine qV (r_load (v := (I6 p.1)) rfl flat3 (Bx.cell rfl)) ?_
    refine qV (r_indexArr (b := bx) (o := 0) (i := 1) (o' := 1) rfl rfl rfl Tryz.underlying36 siz3 (by omega) (by omega)) ?_
    refine qV (r_load (v := (I6 p.2)) rfl flat3 (Bx.cell rfl)) ?_
    refine s_buildSlice (ps := [(0, (I6 p.1)), (1, (I6 p.2))]) (c := #[(I6 p.1), (I6 p.2)]) (by decide) rfl Tryz.underlying22 siz3 zer3 (by decide) (by decide) (by kernel_rfl) ?_
    intro by2 wy2 Ny2
    have Fy2 := Ny2.ge E
    have Oy2_bn := Ny2.lt Bn
    have Oy2_bx := Ny2.lt Bx
    replace Bn := Ny2.keep Bn
    replace Bx := Ny2.keep Bx
    replace hown := own_ext hown Ny2.ext
    replace hbs := Nat.le_trans hbs Ny2.ext.size
    replace E := E.ext Ny2.ext
    have By2 := Ny2.blk
    refine s_append (base := base) (n := m) (m := 2) (xs := ((L0 ++ ((n.eps.take k).map epS).flatten).map (Value.int .i64))) (news := [(I6 p.1), (I6 p.2)]) (size := 1) (bytes := 8) (v := (.slice la m lc)) (by decide) Tryz.underlying22 siz3 byt3 zer3 rfl (by decide) rfl hown rfl (rfl) (By2.cells rfl) (by simp [Value.oneCell']) (by unfold maxLen; omega) (by omega) (hbs) ?_
    intro v7 w59 Ov7 Cv7 Dv7
    replace Bn := Cv7.keep (fun h => by have := (hown.lt _ h).1; omega) Bn
    replace E := E.step Cv7 (fun x hx h => absurd (hown.lt x h).1 (by omega))
    obtain ⟨la2, lc2, rfl⟩ := own_form Ov7
    refine qA (.slice la2 (m + 2) lc2) rfl ?_
    refine WpL_nil (inB_normal (thn_normal (Wp_region ?_)))
    refine qV (r_add (k := .i64) (a := (k : Int)) (b := 1) (c := (k : Int) + 1) rfl rfl (wI64 (by omega))) ?_
    refine qM (I6 ((k : Int) + 1)) rfl ?_
    refine WpL_nil (thn_normal ?_)
    exact ⟨n.eps.length - (k + 1), by omega, k + 1, la2, lc2, m + 2, Fits.out ⟨rfl, rfl, rfl, rfl, rfl, trivial⟩, E, Bn, (by omega), (by omega), (by rw [flat_takeN epS hp]; simpa [epS] using Ov7), Nat.le_trans hbs Cv7.size, rfl⟩
   ·have khlt := hlt
    replace hlt := of_decide_eq_false hlt
    have hkk : k = n.eps.length := by omega
    obtain ⟨L1, hL1⟩ : ∃ L1, L1 = L0 ++ (n.eps.map epS).flatten := ⟨_, rfl⟩
    have hL1l : L1.length = m := by rw [hL1, List.length_append, flat2_len _ epS (fun _ => rfl)]; omega
    rw [hkk, List.take_length, ← hL1] at hown
    refine Wp_exit (thn_exit (thn_exit (inB_here (thn_normal (Wp_seq (Wp_seq_region ?_))))))
    refine qF bn 0 4 rfl Tryz.underlying26 rfl siz24 rfl ?_
    refine qV (r_load (v := (.slice xa n.edges.length xc)) rfl flat24 (Bn.cell rfl)) ?_
    refine qV (r_lenSlice (ad := xa) (n := n.edges.length) (cap := xc) Tryz.underlying24 rfl) ?_
    refine qM (I6 0) rfl ?_
    refine WpL_nil (Wp_block ?_)
    refine Wp_loop (fun nn_ σ W11 => ∃ (k2 : Nat) (la2 : Option Addr) (lc2 : Nat) (m2 : Nat), (∃ jj_, σ = upds jj_ [(1, (P6 bn 0)), (55, (.slice xa n.edges.length xc)), (56, (I6 (n.edges.length : Int))), (57, (I6 (k2 : Int))), (3, (.slice la2 m2 lc2))]) ∧ Chg none1 w0 W11 ∧ Blk W11 bn #[(I6 n.states), (I6 n.start), (.slice ea n.ends.length ec), (.slice pa n.eps.length pc), (.slice xa n.edges.length xc)] 26 ∧ (k2 ≤ n.edges.length) ∧ (m2 = L1.length + 2 * k2) ∧ (W11.ownsRow base TDI 1 (.slice la2 m2 lc2) m2 ((L1 ++ ((n.edges.take k2).map edS).flatten).map (Value.int .i64))) ∧ (base ≤ W11.heap.size) ∧ nn_ = n.edges.length - k2) (n := n.edges.length - 0) ?_ ?_
    ·exact ⟨0, la, lc, m, Fits.out ⟨rfl, rfl, rfl, rfl, rfl, trivial⟩, E, Bn, Nat.zero_le _, (by omega), (by simpa using hown), hbs, rfl⟩
    ·clear E Bn
     rintro _ _ W11 ⟨k2, la2, lc2, m2, ⟨j11, rfl⟩, E, Bn, hk2, hm2, hown2, hbs2, rfl⟩
     refine Wp_seq_region ?_
     refine qV (r_lss (k := .i64) (a := (k2 : Int)) (b := (n.edges.length : Int)) rfl rfl) ?_
     refine WpL_nil (Wp_seq ?_)
     refine Wp_cond (b := decide (((k2 : Int) : Int) < (n.edges.length : Int))) rfl (fun hlt2 => ?_) (fun hlt2 => ?_)
     ·have khlt2 := hlt2
      replace hlt2 := of_decide_eq_true hlt2
      obtain ⟨e, he⟩ := get_of_lt (l := n.edges) (i := k2) (by omega)
      obtain ⟨xb, xo, rfl, hxc⟩ := edges_cells hed (by omega)
      obtain ⟨ra, rc, hcell, hsp⟩ := hxc k2 e he
      refine Wp_skip (thn_normal (Wp_seq (Wp_block (Wp_seq_region ?_))))
      refine qV (r_indexSlice (b := xb) (o := xo) (len := n.edges.length) (cap := xc) (i := k2) (o' := xo + k2 * 3) rfl rfl rfl Tryz.underlying24 siz39 (by omega) (by omega)) ?_
      refine qV (r_loadAgg (vs := [(I6 e.1), (I6 e.2.1), (.slice ra e.2.2.length rc)]) rfl agg39 siz39 rfl (hcell.ext E)) ?_
      refine s_allocStore (v := (.agg #[(I6 e.1), (I6 e.2.1), (.slice ra e.2.2.length rc)])) (c := #[(I6 e.1), (I6 e.2.1), (.slice ra e.2.2.length rc)]) (n := 3) (by decide) zer39 rfl siz39 rfl rfl rfl (by simp [Value.oneCell']) ?_
      intro bx wx Nx
      have Fx := Nx.ge E
      have Ox_bn := Nx.lt Bn
      replace Bn := Nx.keep Bn
      replace hown2 := own_ext hown2 Nx.ext
      replace hbs2 := Nat.le_trans hbs2 Nx.ext.size
      replace E := E.ext Nx.ext
      have Bx := Nx.blk
      refine WpL_nil (Wp_region ?_)
      refine qM (.slice la2 m2 lc2) rfl ?_
      refine qF bx 0 0 rfl Tryz.underlying39 rfl siz3 rfl ?_
      refine qV (r_load (v := (I6 e.1)) rfl flat3 (Bx.cell rfl)) ?_
      refine qF bx 0 1 rfl Tryz.underlying39 rfl siz3 rfl ?_
      refine qV (r_load (v := (I6 e.2.1)) rfl flat3 (Bx.cell rfl)) ?_
      refine s_buildSlice (ps := [(0, (I6 e.1)), (1, (I6 e.2.1))]) (c := #[(I6 e.1), (I6 e.2.1)]) (by decide) rfl Tryz.underlying22 siz3 zer3 (by decide) (by decide) (by kernel_rfl) ?_
      intro by2 wy2 Ny2
      have Fy2 := Ny2.ge E
      have Oy2_bn := Ny2.lt Bn
      have Oy2_bx := Ny2.lt Bx
      replace Bn := Ny2.keep Bn
      replace Bx := Ny2.keep Bx
      replace hown2 := own_ext hown2 Ny2.ext
      replace hbs2 := Nat.le_trans hbs2 Ny2.ext.size
      replace E := E.ext Ny2.ext
      have By2 := Ny2.blk
      refine s_append (base := base) (n := m2) (m := 2) (xs := ((L1 ++ ((n.edges.take k2).map edS).flatten).map (Value.int .i64))) (news := [(I6 e.1), (I6 e.2.1)]) (size := 1) (bytes := 8) (v := (.slice la2 m2 lc2)) (by decide) Tryz.underlying22 siz3 byt3 zer3 rfl (by decide) rfl hown2 rfl (rfl) (By2.cells rfl) (by simp [Value.oneCell']) (by unfold maxLen; omega) (by omega) (hbs2) ?_
      intro v7 w59 Ov7 Cv7 Dv7
      replace Bn := Cv7.keep (fun h => by have := (hown2.lt _ h).1; omega) Bn
      replace E := E.step Cv7 (fun x hx h => absurd (hown2.lt x h).1 (by omega))
      obtain ⟨la3, lc3, rfl⟩ := own_form Ov7
      refine qA (.slice la3 (m2 + 2) lc3) rfl ?_
      refine WpL_nil (inB_normal (thn_normal (Wp_region ?_)))
      refine qV (r_add (k := .i64) (a := (k2 : Int)) (b := 1) (c := (k2 : Int) + 1) rfl rfl (wI64 (by omega))) ?_
      refine qM (I6 ((k2 : Int) + 1)) rfl ?_
      refine WpL_nil (thn_normal ?_)
      exact ⟨n.edges.length - (k2 + 1), by omega, k2 + 1, la3, lc3, m2 + 2, Fits.out ⟨rfl, rfl, rfl, rfl, rfl, trivial⟩, E, Bn, (by omega), (by omega), (by rw [flat_takeN edS he]; simpa [edS] using Ov7), Nat.le_trans hbs2 Cv7.size, rfl⟩
     ·have khlt2 := hlt2
      replace hlt2 := of_decide_eq_false hlt2
      have hkk2 : k2 = n.edges.length := by omega
      rw [hkk2, List.take_length, hL1, hL0] at hown2
      have hst : IntsAt _ (.slice la2 m2 lc2) (stsN n) := own_intsD hown2 (by unfold stsN; rw [hm2, hL1, hL0, hkk2, List.length_append (bs := (n.edges.map edS).flatten), flat2_len _ edS (fun _ => rfl)])
      refine Wp_exit (thn_exit (thn_exit (inB_here (thn_normal (Wp_seq (Wp_seq_region ?_))))))
      refine qM (.slice la2 m2 lc2) rfl ?_
      refine qV (r_makeFunc (vs := []) (us := [(P6 bn 0)]) rfl rfl) ?_
      refine WpL_enter rfl rfl (by decide) (r_callF (vs := [(.slice la2 m2 lc2), (.func (.func 48) #[] #[(P6 bn 0)])]) Tryz.func30 kQ kQ rfl) (ints_has_c _ _ _ (stsN n) (badS n.states) hst (fun w x hE _ => CallV.mk (first := #[]) (cap := #[.pointer (some ⟨bn, 0, none⟩)]) Tryz.func48 kQ kQ rfl (ncheck1_c w x n.states bn _ _ _ _ (hE.keep Bn)))) ?_
      rintro _ w19 ⟨rfl, X19⟩
      replace Bn := X19.keep Bn
      replace E := E.ext X19
      refine WpL_nil ?_
      refine Wp_cond (b := (stsN n).any (badS n.states)) rfl (fun h1 => ?_) (fun h1 => ?_)
      ·have kh1 := h1
       refine Wp_seq_region ?_
       refine qA (I6 1) rfl ?_
       refine WpL_nil (Wp_ret (thn_ret ?_))
       refine fin_tmp Tryz.results11 (v := (.int .i64 1)) rfl ?_
       exact ⟨by unfold chkN; rw [if_neg h0, if_pos h1], E⟩
      ·have kh1 := h1
       refine Wp_skip (thn_normal (Wp_seq (Wp_seq_region ?_)))
       refine qF bn 0 4 rfl Tryz.underlying26 rfl siz24 rfl ?_
       refine qV (r_load (v := (.slice xa n.edges.length xc)) rfl flat24 (Bn.cell rfl)) ?_
       refine qV (r_lenSlice (ad := xa) (n := n.edges.length) (cap := xc) Tryz.underlying24 rfl) ?_
       refine qM (I6 0) rfl ?_
       refine WpL_nil (Wp_block ?_)
       refine Wp_loop (fun nn_ σ W14 => ∃ (k3 : Nat), (∃ jj_, σ = upds jj_ [(73, (.slice xa n.edges.length xc)), (74, (I6 (n.edges.length : Int))), (75, (I6 (k3 : Int)))]) ∧ Chg none1 w0 W14 ∧ Blk W14 bn #[(I6 n.states), (I6 n.start), (.slice ea n.ends.length ec), (.slice pa n.eps.length pc), (.slice xa n.edges.length xc)] 26 ∧ (k3 ≤ n.edges.length) ∧ (setsE n.edges = setsE (n.edges.drop k3)) ∧ nn_ = n.edges.length - k3) (n := n.edges.length - 0) ?_ ?_
       ·exact ⟨0, Fits.out ⟨rfl, rfl, rfl, trivial⟩, E, Bn, Nat.zero_le _, (by rw [List.drop_zero]), rfl⟩
       ·clear E Bn
        rintro _ _ W14 ⟨k3, ⟨j14, rfl⟩, E, Bn, hk3, hz, rfl⟩
        refine Wp_seq_region ?_
        refine qV (r_lss (k := .i64) (a := (k3 : Int)) (b := (n.edges.length : Int)) rfl rfl) ?_
        refine WpL_nil (Wp_seq ?_)
        refine Wp_cond (b := decide (((k3 : Int) : Int) < (n.edges.length : Int))) rfl (fun hlt3 => ?_) (fun hlt3 => ?_)
        ·have khlt3 := hlt3
         replace hlt3 := of_decide_eq_true hlt3
         obtain ⟨e, he⟩ := get_of_lt (l := n.edges) (i := k3) (by omega)
         obtain ⟨xb, xo, rfl, hxc⟩ := edges_cells hed (by omega)
         obtain ⟨ra, rc, hcell, hsp⟩ := hxc k3 e he
         have hz2 := setsE_step hz he
         refine Wp_skip (thn_normal (Wp_seq (Wp_block (Wp_seq_region ?_))))
         refine qV (r_indexSlice (b := xb) (o := xo) (len := n.edges.length) (cap := xc) (i := k3) (o' := xo + k3 * 3) rfl rfl rfl Tryz.underlying24 siz39 (by omega) (by omega)) ?_
         refine qV (r_loadAgg (vs := [(I6 e.1), (I6 e.2.1), (.slice ra e.2.2.length rc)]) rfl agg39 siz39 rfl (hcell.ext E)) ?_
         refine s_allocStore (v := (.agg #[(I6 e.1), (I6 e.2.1), (.slice ra e.2.2.length rc)])) (c := #[(I6 e.1), (I6 e.2.1), (.slice ra e.2.2.length rc)]) (n := 3) (by decide) zer39 rfl siz39 rfl rfl rfl (by simp [Value.oneCell']) ?_
         intro bx wx Nx
         have Fx := Nx.ge E
         have Ox_bn := Nx.lt Bn
         replace Bn := Nx.keep Bn
         replace E := E.ext Nx.ext
         have Bx := Nx.blk
         refine WpL_nil (Wp_seq_region ?_)
         refine qF bx 0 2 rfl Tryz.underlying39 rfl siz37 rfl ?_
         refine qV (r_load (v := (.slice ra e.2.2.length rc)) rfl flat37 (Bx.cell rfl)) ?_
         refine WpL_enter rfl rfl (by decide) (r_callF (vs := [(.slice ra e.2.2.length rc)]) Tryz.func49 kQ kQ rfl) (rcheck_c _ _ e.2.2 (hsp.ext E)) ?_
         rintro _ w29 ⟨rfl, X29⟩
         replace Bn := X29.keep Bn
         replace Bx := X29.keep Bx
         replace E := E.ext X29
         refine qA (I6 (checkE e.2.2)) rfl ?_
         refine WpL_nil (Wp_seq_region ?_)
         refine qM (I6 (checkE e.2.2)) rfl ?_
         refine qV (r_neq (k := .i64) (a := checkE e.2.2) (b := 0) rfl rfl) ?_
         refine WpL_nil ?_
         refine Wp_cond (b := decide ((checkE e.2.2 : Int) ≠ 0)) rfl (fun h2 => ?_) (fun h2 => ?_)
         ·have kh2 := h2
          replace h2 := of_decide_eq_true h2
          refine Wp_seq_region ?_
          refine qM (I6 (checkE e.2.2)) rfl ?_
          refine qA (I6 (checkE e.2.2)) rfl ?_
          refine WpL_nil (Wp_ret (inB_ret (thn_ret (thn_ret (inB_ret (thn_ret ?_))))))
          refine fin_tmp Tryz.results11 (v := (.int .i64 (checkE e.2.2))) rfl ?_
          exact ⟨by unfold chkN; rw [if_neg h0, h1, hz2.2 h2]; rfl, E⟩
         ·have kh2 := h2
          replace h2 := of_decide_eq_false h2
          refine Wp_skip (inB_normal (thn_normal (Wp_region ?_)))
          refine qV (r_add (k := .i64) (a := (k3 : Int)) (b := 1) (c := (k3 : Int) + 1) rfl rfl (wI64 (by omega))) ?_
          refine qM (I6 ((k3 : Int) + 1)) rfl ?_
          refine WpL_nil (thn_normal ?_)
          exact ⟨n.edges.length - (k3 + 1), by omega, k3 + 1, Fits.out ⟨rfl, rfl, rfl, trivial⟩, E, Bn, (by omega), hz2.1 (by omega), rfl⟩
        ·have khlt3 := hlt3
         replace hlt3 := of_decide_eq_false hlt3
         have hkk3 : k3 = n.edges.length := by omega
         refine Wp_exit (thn_exit (thn_exit (inB_here (thn_normal (Wp_seq_region ?_)))))
         refine qA (I6 0) rfl ?_
         refine WpL_nil (Wp_ret ?_)
         refine fin_tmp Tryz.results11 (v := (.int .i64 0)) rfl ?_
         exact ⟨by unfold chkN; rw [if_neg h0, h1, hz, hkk3, List.drop_length]; rfl, E⟩
end Go.Proofs
namespace Go.Proofs
open Go Go.Eng Go.Sort
set_option maxRecDepth 100000
/-- What is thrown where an automaton grows too large. -/
def lgN : List PanicEntry := [{ v := .iface 124 (.agg #[]), recovered := false }]
end Go.Proofs
namespace Go.Proofs
open Go Go.Eng Go.Sort
set_option maxRecDepth 100000
theorem drop_at {α : Type} {l : List α} {k : Nat} {y : α} (hy : l[k]? = some y) : l.drop k = y :: l.drop (k + 1) := by
 have := lt_of_get hy
 rw [List.drop_eq_getElem_cons this]
 rw [List.getElem?_eq_getElem this] at hy
 rw [Option.some.inj hy]
end Go.Proofs
namespace Go.Proofs
open Go Go.Eng Go.Sort
set_option maxRecDepth 100000
theorem own_other {w : World} {base e sz n base' e' sz' n' : Nat} {v v' : Value} {xs xs' : List Value} (h : w.ownsRow base e sz v n xs) (h' : w.ownsRow base' e' sz' v' n' xs') (he : e ≠ e') {k : Nat} (hk : v.ownBlock = some k) : v'.ownBlock ≠ some k := by
 intro hk'
 rcases h.2 with ⟨rfl, _⟩ | ⟨g, cap, cur, rfl, _, hg, _⟩
 ·cases hk
 rcases h'.2 with ⟨rfl, _⟩ | ⟨g', cap', cur', rfl, _, hg', _⟩
 ·cases hk'
 ·cases hk; cases hk'
  rw [hg] at hg'
  simp only [Option.some.injEq] at hg'
  injection hg' with h1 h2
  exact he (by first | exact h1 | exact h2)
theorem own_some {w : World} {base e sz n : Nat} {v : Value} {xs : List Value} (h : w.ownsRow base e sz v n xs) : n = 0 ∨ ∃ b, v.ownBlock = some b := by
 rcases h.2 with ⟨rfl, _⟩ | ⟨g, cap, cur, rfl, _⟩
 ·left; have := h.1; simp_all
 ·exact .inr ⟨g, rfl⟩
def cloG (l : List Sp) (z : Nat) : Fct := fun v w => OwnS w z v l
theorem cloG_chg {U : Nat → Prop} {l : List Sp} {z : Nat} (h : ∀ y, U y → y < z) : ∀ v w w', Chg U w w' → cloG l z v w → cloG l z v w' := by
 rintro v w w' c ⟨h1, h2⟩
 exact ⟨h1, own_chg h2 c fun k hk hu => by have := (h2.lt k hk).1; have := h k hu; omega⟩
def edG (a b : Int) (l : List Sp) (z : Nat) : Fct := fun v w => ∃ ra rc, v = .agg #[.int .i64 a, .int .i64 b, .slice ra l.length rc] ∧ cloG l z (.slice ra l.length rc) w
theorem edG_chg {U : Nat → Prop} {a b : Int} {l : List Sp} {z : Nat} (h : ∀ y, U y → y < z) : ∀ v w w', Chg U w w' → edG a b l z v w → edG a b l z v w' := by
 rintro v w w' c ⟨ra, rc, h1, h2⟩
 exact ⟨ra, rc, h1, cloG_chg h _ _ _ c h2⟩
def elG (a b : Int) (l : List Sp) (z : Nat) : Fct := fun v w => ∃ q ra rc, v = .slice (some ⟨q, 0, none⟩) 1 1 ∧ Blk w q #[.int .i64 a, .int .i64 b, .slice ra l.length rc] TEd ∧ z ≤ q ∧ cloG l z (.slice ra l.length rc) w
theorem elG_chg {U : Nat → Prop} {a b : Int} {l : List Sp} {z : Nat} (h : ∀ y, U y → y < z) : ∀ v w w', Chg U w w' → elG a b l z v w → elG a b l z v w' := by
 rintro v w w' c ⟨q, ra, rc, h1, h2, h3, h4⟩
 exact ⟨q, ra, rc, h1, c.keep (fun hu => by have := h q hu; omega) h2, h3, cloG_chg h _ _ _ c h4⟩
theorem DoesT_litE {M : Nat → Prop} {N : Nat} {σ : Env} {w : World} {dst : Option Tmp} {ty : TypeId} {pos : String} {af : Array Edge} {g : Option (Nat × Bool)} {x : Operand} {a b : Int} {ra : Option Addr} {rc z : Nat} {l : List Sp} (hx : ev σ x = .agg #[.int .i64 a, .int .i64 b, .slice ra l.length rc]) (hb : z ≤ w.heap.size) (hO : cloG l z (.slice ra l.length rc) w) :
  DoesT M Tryz.prog N ⟨dst, .buildSlice 24 1 #[(0, x)], ty, pos, af, g⟩ (elG a b l z) σ w := by
 have hn := New.mk' w #[.int .i64 a, .int .i64 b, .slice ra l.length rc] TEd
 exact DoesT_val (run_buildSlice (parts := [(0, x)]) (ps := [(0, .agg #[.int .i64 a, .int .i64 b, .slice ra l.length rc])]) (by simp only [List.map, hx]) Tryz.underlying24 siz39 zer39 (by decide) (by decide) (by kernel_rfl)) (Ext.chg hn.ext) ⟨_, _, _, rfl, hn.blk, hb, OwnS.ext hO hn.ext⟩
def apG (base m : Nat) (xs : List Value) (old : Value) (z : Nat) (a b : Int) (l : List Sp) : Fct := fun v w => ∃ ra rc, appF base TEd 3 (m + 1) (xs ++ [.int .i64 a, .int .i64 b, .slice ra l.length rc]) old z v w ∧ cloG l z (.slice ra l.length rc) w
theorem apG_ext (base m : Nat) (xs : List Value) (old : Value) (z : Nat) (a b : Int) (l : List Sp) : ∀ v w w', Ext w w' → apG base m xs old z a b l v w → apG base m xs old z a b l v w' := by
 rintro v w w' e ⟨ra, rc, h1, h2⟩
 exact ⟨ra, rc, appF_ext _ _ _ _ _ _ _ _ _ _ e h1, OwnS.ext h2 e⟩
theorem DoesT_appE {M : Nat → Prop} {N : Nat} {σ : Env} {w : World} {dst : Option Tmp} {ty : TypeId} {pos : String} {af : Array Edge} {g : Option (Nat × Bool)} {s x : Operand} {base n q z : Nat} {a b : Int} {ra : Option Addr} {rc : Nat} {l : List Sp} {v : Value} {xs : List Value}
  (he : ev σ s = v) (hown : w.ownsRow base TEd 3 v n xs) (hx : ev σ x = .slice (some ⟨q, 0, none⟩) 1 1) (hB : Blk w q #[.int .i64 a, .int .i64 b, .slice ra l.length rc] TEd) (hO : cloG l z (.slice ra l.length rc) w) (hn : n ≤ 1000000) (hbase : base ≤ w.heap.size) (hM : ∀ y, v.ownBlock = some y → M y) (hMz : ∀ y, M y → y < z) (hz : z ≤ w.heap.size) :
  DoesT M Tryz.prog N ⟨dst, .call ⟨.builtin .append, #[s, x], #[24, 24]⟩, ty, pos, af, g⟩ (apG base n xs v z a b l) σ w := by
 have h1 : DoesT M Tryz.prog N ⟨dst, .call ⟨.builtin .append, #[s, x], #[24, 24]⟩, ty, pos, af, g⟩ (appF base TEd 3 (n + 1) (xs ++ [.int .i64 a, .int .i64 b, .slice ra l.length rc]) v z) σ w :=
  DoesT_append Tryz.underlying24 siz39 byt39 zer39 rfl (by decide) he hown hx rfl (hB.cells rfl) (by intro u hu; simp only [List.mem_cons, List.not_mem_nil, or_false] at hu; rcases hu with rfl | rfl | rfl <;> rfl) (by unfold maxLen; omega) (by omega) hbase hM hz
 exact fun dz a9 ha he9 Q K hK => h1 dz a9 ha he9 Q K fun v9 w9 hx9 hR => hK v9 w9 hx9 ⟨ra, rc, hR, cloG_chg hMz _ _ _ hx9 hO⟩
end Go.Proofs
namespace Go.Proofs
open Go Go.Eng Go.Sort
set_option maxRecDepth 100000
theorem args_one9 {t : Re} (h : t.args.length = 1) : ∃ y, t.args = [y] := by
  match t.args, h with
  | [a], _ => exact ⟨a, rfl⟩
end Go.Proofs
namespace Go.Eng
open Go
section
variable {Ms : Nat → Nat → Prop} {Rs : Nat → World → World → Prop} {cl : List (List Nat)} {i : Nat} {ws ds : List Nat}
theorem StabG.eq {u : Value} : StabG Ms Rs cl i ws (fun _ _ v _ => v = u) := fun _ _ _ _ _ _ _ _ _ _ _ _ _ h => h
theorem StabG.chg {F : Fct} {U : Nat → Prop} (hF : ∀ v w w', Chg U w w' → F v w → F v w') (hM : ∀ p y, p ≠ i → ws.contains p = false → Ms p y → U y) : StabG Ms Rs cl i ws (fun _ _ => F) :=
 fun p h1 h2 _ _ v w w' _ _ _ x _ h => hF v w w' (x.mono fun y _ hy => hM p y h1 h2 hy) h
end
def RsL : List (Nat × (World → World → Prop)) → Nat → World → World → Prop
  | [], _, _, _ => True
  | p :: r, j, w, w' => (j = p.1 → p.2 w w') ∧ RsL r j w w'
section
variable {M : Nat → Prop} {ch : List PanicEntry} {X : World → Prop} {P : Program} {N : Nat} {o : Oper} {R : Fct} {σ : Env} {w : World} {c i : Nat} {T : World → World → Prop}
theorem gX0 (h : DoesT M P N o R σ w) : DoesX M ch X P N o (fun v w2 => R v w2 ∧ RsL [] i w w2) σ w := (DoesT.x h).weak fun _ _ _ h => ⟨h, trivial⟩
theorem gX0x (h : DoesX M ch X P N o R σ w) : DoesX M ch X P N o (fun v w2 => R v w2 ∧ RsL [] i w w2) σ w := h.weak fun _ _ _ h => ⟨h, trivial⟩
end
end Go.Eng
namespace Go.Eng
open Go
section
variable {P : Program} {N : Nat} {σ : Env} {w : World} {y : Code}
/-- Where the body ends with no deferred call. -/
def finE (P : Program) (fn : Func) (R : Ending → World → Prop) : Post
  | .ret, σ, w => ∀ a : Act, env a = σ → Leaves P fn a.tmps R [] .returning w
  | _, _, _ => False
theorem WpA_assoc {QA : Exit → Act → World → Prop} {x : Code} (h : WpA P N x (Exit.then (y.wp P QA) QA) σ w) : WpA P N (.seq x y) QA σ w := fun a ha he => wp_seq (h a ha he)
theorem WpA_cond {fn : Func} {R : Ending → World → Prop} {x : Operand} {c1 : Code} {b : Bool} (hx : ev σ x = .bool b) (ht : b = true → Wp P N c1 (finE P fn R) σ w) (hf : b = false → WpA P N y (bodyPostD P fn R) σ w) : WpA P N (.cond x c1 .skip) (Exit.then (y.wp P (bodyPostD P fn R)) (bodyPostD P fn R)) σ w := by
 intro a ha he
 refine wp_cond_split (t := b) (by rw [eval_env, he]; exact hx) (fun h => ?_) (fun h => wp_skip (hf h a ha he))
 refine Code.wp_mono ?_ (ht h [] a ha he)
 rintro e a' w' ⟨o', q⟩
 have ho := o'.defers
 cases e <;> simp only [finE] at q
 show Leaves P fn a'.tmps R a'.defers .returning w'
 rw [ho]
 exact q a' rfl
end
end Go.Eng
namespace Go.Proofs
open Go Go.Eng Go.Sort
set_option maxRecDepth 100000
theorem usesB_arg {ks : List Int} {x : Re} (h : usesB ks x = false) : ks.contains x.kind = false ∧ ∀ y ∈ x.args, usesB ks y = false := by
  have hs : ∀ l : List Re, usesBs ks l = false → ∀ y ∈ l, usesB ks y = false := by
    intro l
    induction l with
    | nil => intro _ y hy; cases hy
    | cons z l ih =>
      intro h y hy
      simp only [usesBs, Bool.or_eq_false_iff] at h
      rcases List.mem_cons.1 hy with rfl | h1
      · exact h.1
      · exact ih h.2 y h1
  cases x
  simp only [usesB, Bool.or_eq_false_iff] at h
  exact ⟨h.1, hs _ h.2⟩
/-- What Simple says. -/
def simE (t : Re) : Int := if fitsE t 40 ≠ 0 then fitsE t 40 else if usesB [7, 8, 10] t then 3 else 0
theorem simE_zero {t : Re} : simE t = 0 ↔ okRe t ∧ (t.size : Int) ≤ 40 ∧ usesB [7, 8, 10] t = false := by
 unfold simE
 have h := fitsE_zero (t := t) (most := 40) (by decide) (by decide)
 constructor
 ·intro h1
  split at h1
  ·rename_i h2; exact absurd h1 h2
  ·rename_i h2
   have h3 := h.1 (Classical.not_not.1 h2)
   split at h1
   ·cases h1
   ·rename_i h4
    exact ⟨h3.1, h3.2, by simpa using h4⟩
 ·rintro ⟨h1, h2, h3⟩
  rw [if_neg (fun h4 => h4 (h.2 ⟨h1, h2⟩)), h3]; rfl
theorem simple_c (w0 : World) (t : Re) (vs : List Value) (ht : ReAt w0 t vs) : Ret Tryz.prog 91 #[.agg vs.toArray] w0 fun r w => r = .int .i64 (simE t) ∧ Ext w0 w := by
 have ht0 := ht
 obtain ⟨sa, sc, aa, ac, rfl, _, _, _⟩ := ht.form
 refine Ret_of Tryz.func91 rfl Tryz.ntmps91 (Nat.le_of_ble_eq_true rfl) ?_
 have E : Chg none1 w0 w0 := Chg.refl _ _
 refine Wp_seq_region ?_
 refine s_box (v := (.agg (R6 t sa sc aa ac))) (c := (R6 t sa sc aa ac)) (by decide) rfl rfl ?_
 intro br wr Nr
 have Fr := Nr.ge E
 replace E := E.ext Nr.ext
 have Br := Nr.blk
 refine qA (I6 0) rfl ?_
 refine WpL_nil (Wp_seq (Wp_seq_region ?_))
 refine qV (r_loadAgg (vs := [(I6 t.kind), (.slice sa t.set.length sc), (.slice aa t.args.length ac), (I6 t.mn), (I6 t.mx), (.bool t.neg)]) rfl agg48 siz48 rfl (Br.cells rfl)) ?_
 refine WpL_enter rfl rfl (by decide) (r_callF (vs := [(.agg (R6 t sa sc aa ac))]) Tryz.func55 kQ kQ rfl) (check_c _ t _ (ReAt.ext E t ht0)) ?_
 rintro _ w9 ⟨rfl, X9⟩
 replace Br := X9.keep Br
 replace E := E.ext X9
 refine qA (I6 (fitsE t 40)) rfl ?_
 refine WpL_nil (Wp_seq_region ?_)
 refine qM (I6 (fitsE t 40)) rfl ?_
 refine qV (r_neq (k := .i64) (a := fitsE t 40) (b := 0) rfl rfl) ?_
 refine WpL_nil ?_
 refine Wp_cond (b := decide ((fitsE t 40 : Int) ≠ 0)) rfl (fun h0 => ?_) (fun h0 => ?_)
 ·have kh0 := h0
  replace h0 := of_decide_eq_true h0
  refine Wp_seq_region ?_
  refine qM (I6 (fitsE t 40)) rfl ?_
  refine qA (I6 (fitsE t 40)) rfl ?_
  refine WpL_nil (Wp_ret (thn_ret ?_))
  refine fin_tmp Tryz.results91 (v := (.int .i64 (fitsE t 40))) rfl ?_
  exact ⟨by unfold simE; rw [if_pos h0], E⟩
 ·have kh0 := h0
  replace h0 := of_decide_eq_false h0
  refine Wp_skip (thn_normal (Wp_seq (Wp_seq_region ?_)))
  refine qV (r_loadAgg (vs := [(I6 t.kind), (.slice sa t.set.length sc), (.slice aa t.args.length ac), (I6 t.mn), (I6 t.mx), (.bool t.neg)]) rfl agg48 siz48 rfl (Br.cells rfl)) ?_
  refine s_buildSlice (ps := [(0, (I6 7)), (1, (I6 8)), (2, (I6 10))]) (c := #[(I6 7), (I6 8), (I6 10)]) (by decide) rfl Tryz.underlying22 siz3 zer3 (by decide) (by decide) (by kernel_rfl) ?_
  intro bk wk Nk
  have Fk := Nk.ge E
  have Ok_br := Nk.lt Br
  replace Br := Nk.keep Br
  replace E := E.ext Nk.ext
  have Bk := Nk.blk
  refine WpL_enter rfl rfl (by decide) (r_callF (vs := [(.agg (R6 t sa sc aa ac)), (.slice (some ⟨bk, 0, none⟩) 3 3)]) Tryz.func56 kQ kQ rfl) (uses_c _ t _ [7, 8, 10] _ (ReAt.ext E t ht0) (ints_of_blk [7, 8, 10] Bk (by simp) (by simp))) ?_
  rintro _ w19 ⟨rfl, X19⟩
  replace Br := X19.keep Br
  replace Bk := X19.keep Bk
  replace E := E.ext X19
  refine WpL_nil ?_
  refine Wp_cond (b := usesB [7, 8, 10] t) rfl (fun hu => ?_) (fun hu => ?_)
  ·have khu := hu
   refine Wp_seq_region ?_
   refine qA (I6 3) rfl ?_
   refine WpL_nil (Wp_ret (thn_ret ?_))
   refine fin_tmp Tryz.results91 (v := (.int .i64 3)) rfl ?_
   exact ⟨by unfold simE; rw [if_neg h0, hu]; rfl, E⟩
  ·have khu := hu
   refine Wp_skip (thn_normal (Wp_seq_region ?_))
   refine qA (I6 0) rfl ?_
   refine WpL_nil (Wp_ret ?_)
   refine fin_tmp Tryz.results91 (v := (.int .i64 0)) rfl ?_
   exact ⟨by unfold simE; rw [if_neg h0, hu]; rfl, E⟩
def nf0 : Nf := ⟨0, 0, [], [], []⟩
/-- An automaton and an error. -/
def NfNew (m : Nat) (w : World) (n : Nf) (vs : List Value) : Prop := ∀ (M : Nat → Prop) w', Chg M w w' → (∀ y, M y → y < m) → NfAt w' n vs
theorem NfNew.at {m : Nat} {w : World} {n : Nf} {vs : List Value} (h : NfNew m w n vs) : NfAt w n vs := h none1 w (Chg.refl _ _) fun _ f => f.elim
theorem NfNew.chg {m : Nat} {M : Nat → Prop} {w w' : World} {n : Nf} {vs : List Value} (h : NfNew m w n vs) (c : Chg M w w') (hM : ∀ y, M y → y < m) : NfNew m w' n vs := fun M2 w2 c2 h2 =>
 h (fun b => M b ∨ M2 b) w2 (Chg.trans (c.mono fun b _ hb => .inl hb) (c2.mono fun b _ hb => .inr hb)) fun b hb => hb.elim (hM b) (h2 b)
theorem NfNew.ext {m : Nat} {w w' : World} {n : Nf} {vs : List Value} (h : NfNew m w n vs) (e : Ext w w') : NfNew m w' n vs := h.chg e fun _ f => f.elim
def NfR (m : Nat) (R : Nf → Int → Prop) (r : Value) (w : World) : Prop := ∃ (n : Nf) (ea : Option Addr) (ec : Nat) (pa : Option Addr) (pc : Nat) (xa : Option Addr) (xc : Nat) (e : Int), r = .tuple #[.agg #[.int .i64 n.states, .int .i64 n.start, .slice ea n.ends.length ec, .slice pa n.eps.length pc, .slice xa n.edges.length xc], .int .i64 e] ∧ NfNew m w n [.int .i64 n.states, .int .i64 n.start, .slice ea n.ends.length ec, .slice pa n.eps.length pc, .slice xa n.edges.length xc] ∧ R n e
theorem nf0_at (w : World) : NfAt w nf0 [.int .i64 0, .int .i64 0, .slice none 0 0, .slice none 0 0, .slice none 0 0] :=
 ⟨none, 0, none, 0, none, 0, rfl, SlAt.nil w 1 _ _, SlAt.nil w 2 _ _, [], SlAt.nil w 3 _ _, rfl, fun i e row h => by simp [nf0] at h⟩
theorem nfR_zero {m : Nat} {R : Nf → Int → Prop} {w : World} {e : Int} (h : R nf0 e) : NfR m R (.tuple #[.agg #[.int .i64 0, .int .i64 0, .slice none 0 0, .slice none 0 0, .slice none 0 0], .int .i64 e]) w := ⟨nf0, none, 0, none, 0, none, 0, e, rfl, fun _ w' _ _ => nf0_at w', h⟩
end Go.Proofs
namespace Go.Proofs
open Go Go.Eng Go.Sort
set_option maxRecDepth 100000
/-- Edges in a slice of one's own, with sets in blocks of F. -/
def EdB (F : Nat → Prop) (w : World) (base : Nat) (xv : Value) (es : List Ed) : Prop := (∃ rows, w.ownsRow base TEd 3 xv es.length rows.flatten ∧ EdsF F w es rows) ∧ (∀ b, xv.ownBlock = some b → ¬ F b) ∧ ∀ y, F y → base ≤ y ∧ y < w.heap.size
theorem EdB.chg {F M : Nat → Prop} {w w' : World} {base : Nat} {xv : Value} {es : List Ed} (h : EdB F w base xv es) (c : Chg M w w') (hM : ∀ y, M y → y < base) : EdB F w' base xv es := by
 obtain ⟨⟨rows, h1, h2⟩, h3, h4⟩ := h
 exact ⟨⟨rows, own_chg h1 c fun k hk hm => by have := (h1.lt k hk).1; have := hM k hm; omega, h2.chg c fun y hy hm => by have := (h4 y hy).1; have := hM y hm; omega⟩, h3, fun y hy => ⟨(h4 y hy).1, Nat.lt_of_lt_of_le (h4 y hy).2 c.size⟩⟩
theorem EdB.ext {F : Nat → Prop} {w w' : World} {base : Nat} {xv : Value} {es : List Ed} (h : EdB F w base xv es) (c : Ext w w') : EdB F w' base xv es := h.chg c fun _ f => f.elim
theorem EdB.start (w : World) (base : Nat) : EdB (fun _ => False) w base (.slice none 0 0) [] := ⟨⟨[], World.ownsRow_nil _ _ _ _, rfl, fun i e row h => by simp at h⟩, fun b h => (by cases h), fun y h => h.elim⟩
theorem EdB.push {F : Nat → Prop} {w0 w : World} {base z rc m : Nat} {xv xv' : Value} {ra : Option Addr} {es : List Ed} {rows : List (List Value)} {a b : Int} {l : List Sp} (hown : w0.ownsRow base TEd 3 xv m rows.flatten) (hm : m = es.length) (hrows : EdsF F w0 es rows) (h3 : ∀ b, xv.ownBlock = some b → ¬ F b) (h4 : ∀ y, F y → base ≤ y ∧ y < w0.heap.size) (c : Chg (fun q => xv.ownBlock = some q) w0 w) (hz : z = w0.heap.size) (hbz : base ≤ z)
  (ho : w.ownsRow base TEd 3 xv' (m + 1) (rows.flatten ++ [.int .i64 a, .int .i64 b, .slice ra l.length rc])) (hd : ∀ k, xv'.ownBlock = some k → xv.ownBlock = some k ∨ z ≤ k) (hK : cloG l z (.slice ra l.length rc) w) : EdB (fun y => F y ∨ (Value.slice ra l.length rc).ownBlock = some y) w base xv' (es ++ [(a, b, l)]) := by
 subst hz; subst hm
 have hlk := hK.2.lt
 refine ⟨⟨rows ++ [edRow (a, b, l) (.slice ra l.length rc)], by simpa [edRow, List.flatten_append] using ho, ?_⟩, fun k hk hf => ?_, fun y hy => ?_⟩
 ·refine ((hrows.chg c fun y hy e => h3 y e hy).mono fun y hy => .inl hy).snoc ⟨_, rfl, OwnS.at hK, ?_⟩
  rcases own_some hK.2 with h1 | ⟨k, hk⟩
  ·exact .inl (List.eq_nil_of_length_eq_zero h1)
  ·exact .inr ⟨k, hk, .inr hk⟩
 ·rcases hf with hf | hf
  ·rcases hd k hk with h1 | h1
   ·exact h3 k h1 hf
   ·have := (h4 k hf).2; omega
  ·exact own_other hK.2 ho (by decide) hf hk
 ·rcases hy with hy | hy
  ·exact ⟨(h4 y hy).1, Nat.lt_of_lt_of_le (h4 y hy).2 c.size⟩
  ·have := hlk y hy; exact ⟨by omega, this.2⟩
theorem EdB.at {F : Nat → Prop} {w : World} {base : Nat} {xv : Value} {es : List Ed} (h : EdB F w base xv es) : EdgesAt w xv es := by
 obtain ⟨⟨rows, h1, h2⟩, _⟩ := h
 have h8 : ∀ r ∈ rows, r.length = 3 := fun r hr => by
  obtain ⟨i, hi⟩ := List.getElem?_of_mem hr
  obtain ⟨e, he⟩ := get_of_lt (l := es) (i := i) (by have := h2.1; have := lt_of_get hi; omega)
  obtain ⟨u, rfl, _⟩ := h2.2 i e r he hi
  rfl
 refine ⟨rows, own_slat h1 h8 h2.1 (by decide), h2.1, fun i e row h5 h6 => ?_⟩
 obtain ⟨u, h7, h9, _⟩ := h2.2 i e row h5 h6
 exact ⟨u, h7, h9⟩
def RevP (n m : Nf) (e : Int) : Prop := (chkN n ≠ 0 ∧ m = nf0 ∧ e = chkN n) ∨ (chkN n = 0 ∧ n.ends.length ≠ 1 ∧ m = nf0 ∧ e = 3) ∨ (chkN n = 0 ∧ e = 0 ∧ ∃ x, n.ends = [x] ∧ m = n.rev x)
def rvG (s x : Int) (c : Int) (z : Nat) : Fct := fun v w => ∃ b, v = .agg #[.int .i64 s, .int .i64 x, .slice (some ⟨b, 0, none⟩) 1 1, .slice none 0 0, .slice none 0 0] ∧ Blk w b #[.int .i64 c] TDI ∧ z ≤ b
theorem rvG_ext {s x c : Int} {z : Nat} : ∀ v w w', Ext w w' → rvG s x c z v w → rvG s x c z v w' := by
 rintro v w w' e ⟨b, h1, h2, h3⟩
 exact ⟨b, h1, e.keep h2, h3⟩
abbrev swp (p : Int × Int) : Int × Int := (p.2, p.1)
abbrev swe (e : Ed) : Ed := (e.2.1, e.1, e.2.2)
theorem map_take {α β : Type} (f : α → β) {l : List α} {k : Nat} {x : α} (h : l[k]? = some x) : (l.take (k + 1)).map f = (l.take k).map f ++ [f x] := by rw [List.take_add_one, h]; simp
set_option maxHeartbeats 4000000 in
theorem nrev_c (w0 : World) (n : Nf) (vs0 : List Value) (h : NfAt w0 n vs0) : Ret Tryz.prog 9 #[.agg vs0.toArray] w0 fun r w => NfR w0.heap.size (RevP n) r w ∧ Ext w0 w := by
 have h0 := h
 obtain ⟨ea, ec, pa, pc, xa, xc, rfl, hen, hep, hed⟩ := h
 refine Ret_of Tryz.func9 rfl Tryz.ntmps9 (Nat.le_of_ble_eq_true rfl) ?_
 have E : Chg none1 w0 w0 := Chg.refl _ _
 refine Wp_seq_region ?_
 refine s_box (v := (.agg #[(I6 n.states), (I6 n.start), (.slice ea n.ends.length ec), (.slice pa n.eps.length pc), (.slice xa n.edges.length xc)])) (c := #[(I6 n.states), (I6 n.start), (.slice ea n.ends.length ec), (.slice pa n.eps.length pc), (.slice xa n.edges.length xc)]) (by decide) rfl rfl ?_
 intro bn wn Nn
 have Fn := Nn.ge E
 replace E := E.ext Nn.ext
 have Bn := Nn.blk
 refine s_alloc (c := #[(I6 0), (I6 0), (.slice none 0 0), (.slice none 0 0), (.slice none 0 0)]) (by decide) zer26 rfl ?_
 intro br wr Nr
 have Fr := Nr.ge E
 have Or_bn := Nr.lt Bn
 replace Bn := Nr.keep Bn
 replace E := E.ext Nr.ext
 have Br := Nr.blk
 refine qA (I6 0) rfl ?_
 refine WpL_nil (Wp_seq (Wp_seq_region ?_))
 refine qV (r_loadAgg (vs := [(I6 n.states), (I6 n.start), (.slice ea n.ends.length ec), (.slice pa n.eps.length pc), (.slice xa n.edges.length xc)]) rfl agg26 siz26 rfl (Bn.cells rfl)) ?_
 refine WpL_enter rfl rfl (by decide) (r_callF (vs := [(.agg #[(I6 n.states), (I6 n.start), (.slice ea n.ends.length ec), (.slice pa n.eps.length pc), (.slice xa n.edges.length xc)])]) Tryz.func11 kQ kQ rfl) (ncheck_c _ n _ (h0.ext E)) ?_
 rintro _ w9 ⟨rfl, X9⟩
 replace Bn := X9.keep Bn
 replace Br := X9.keep Br
 replace E := E.ext X9
 refine qA (I6 (chkN n)) rfl ?_
 refine WpL_nil (Wp_seq_region ?_)
 refine qM (I6 (chkN n)) rfl ?_
 refine qV (r_neq (k := .i64) (a := chkN n) (b := 0) rfl rfl) ?_
 refine WpL_nil ?_
 refine Wp_cond (b := decide ((chkN n : Int) ≠ 0)) rfl (fun hc0 => ?_) (fun hc0 => ?_)
 ·have khc0 := hc0
  replace hc0 := of_decide_eq_true hc0
  refine Wp_seq_region ?_
  refine qV (r_build (ps := []) (v := (.agg #[(I6 0), (I6 0), (.slice none 0 0), (.slice none 0 0), (.slice none 0 0)])) rfl (by kernel_rfl)) ?_
  refine qM (I6 (chkN n)) rfl ?_
  refine s_storeAgg (b := br) (o := 0) (c' := #[(I6 0), (I6 0), (.slice none 0 0), (.slice none 0 0), (.slice none 0 0)]) rfl rfl (by simp [Value.oneCell']) siz26 rfl Br (by first | (simp; done) | exact Nat.le_of_ble_eq_true rfl) rfl ?_
  intro w2 S2
  replace Bn := S2.keep (by omega) Bn
  replace E := S2.step E (by first | exact Or.inl (by omega) | exact Or.inr rfl | exact Or.inr (by assumption) | exact Or.inr (by simp) | exact Or.inr (by omega) | exact Or.inr (by dsimp only; omega))
  replace Br := S2.blk
  refine qA (I6 (chkN n)) rfl ?_
  refine WpL_nil (Wp_ret (thn_ret ?_))
  refine fin_agg_tmp Tryz.results9 (vs := [(.int .i64 0), (.int .i64 0), (.slice none 0 0), (.slice none 0 0), (.slice none 0 0)]) (b := br) (v' := (.int .i64 (chkN n))) rfl agg26 siz26 rfl (Br.cells rfl) rfl ?_
  exact ⟨nfR_zero (.inl ⟨hc0, rfl, rfl⟩), E⟩
 ·have khc0 := hc0
  replace hc0 := of_decide_eq_false hc0
  have hc1 : chkN n = 0 := by omega
  have ok := chkN_zero.1 hc1
  have hpl := ok.pl
  have hxl := ok.xl
  refine Wp_skip (thn_normal (Wp_seq (Wp_seq_region ?_)))
  refine qF bn 0 2 rfl Tryz.underlying26 rfl siz22 rfl ?_
  refine qV (r_load (v := (.slice ea n.ends.length ec)) rfl flat22 (Bn.cell rfl)) ?_
  refine qV (r_lenSlice (ad := ea) (n := n.ends.length) (cap := ec) Tryz.underlying22 rfl) ?_
  refine qV (r_neq (k := .i64) (a := (n.ends.length : Int)) (b := 1) rfl rfl) ?_
  refine WpL_nil ?_
  refine Wp_cond (b := decide (((n.ends.length : Int) : Int) ≠ 1)) rfl (fun hlen => ?_) (fun hlen => ?_)
  ·have khlen := hlen
   replace hlen := of_decide_eq_true hlen
   refine Wp_seq_region ?_
   refine qV (r_build (ps := []) (v := (.agg #[(I6 0), (I6 0), (.slice none 0 0), (.slice none 0 0), (.slice none 0 0)])) rfl (by kernel_rfl)) ?_
   refine s_storeAgg (b := br) (o := 0) (c' := #[(I6 0), (I6 0), (.slice none 0 0), (.slice none 0 0), (.slice none 0 0)]) rfl rfl (by simp [Value.oneCell']) siz26 rfl Br (by first | (simp; done) | exact Nat.le_of_ble_eq_true rfl) rfl ?_
   intro w4 S4
   replace Bn := S4.keep (by omega) Bn
   replace E := S4.step E (by first | exact Or.inl (by omega) | exact Or.inr rfl | exact Or.inr (by assumption) | exact Or.inr (by simp) | exact Or.inr (by omega) | exact Or.inr (by dsimp only; omega))
   replace Br := S4.blk
   refine qA (I6 3) rfl ?_
   refine WpL_nil (Wp_ret (thn_ret ?_))
   refine fin_agg_tmp Tryz.results9 (vs := [(.int .i64 0), (.int .i64 0), (.slice none 0 0), (.slice none 0 0), (.slice none 0 0)]) (b := br) (v' := (.int .i64 3)) rfl agg26 siz26 rfl (Br.cells rfl) rfl ?_
   exact ⟨nfR_zero (.inr (.inl ⟨hc1, by omega, rfl, rfl⟩)), E⟩
  ·have khlen := hlen
   replace hlen := of_decide_eq_false hlen
   obtain ⟨x, hx⟩ : ∃ x, n.ends = [x] := by match h9 : n.ends, hlen with | [x], _ => exact ⟨x, rfl⟩ | [], h8 => simp at h8 | _ :: _ :: _, h8 => simp at h8; omega
   obtain ⟨eb, eo, rfl, hec⟩ := ints_cells hen (by omega)
   have hec0 := hec 0 x (by rw [hx]; rfl)
   obtain ⟨z0, hz0⟩ : ∃ z0, z0 = (w9).heap.size := ⟨_, rfl⟩
   refine Wp_skip (thn_normal ?_)
   have hz_5 : w0.heap.size ≤ w9.heap.size := E.size
   have lz_5_bn : bn < w9.heap.size := Bn.lt
   have lz_5_br : br < w9.heap.size := Br.lt
   refine Wp_seq ?_
   obtain ⟨Fs5, hFs5⟩ : ∃ Fs : List FctS, Fs = [(eF (P6 bn 0)), (eF (I6 n.states)), (eF (P6 bn 2)), (eF (.slice (some ⟨eb, eo, none⟩) n.ends.length ec)), (eF (.pointer (some ⟨eb, eo + 0, none⟩))), (eF (I6 x)), (eF (P6 bn 1)), (eF (I6 n.start)), (fun _ _ => litF TDI #[.int .i64 n.start] z0), (fun _ _ => rvG n.states x n.start z0), (fun _ _ => alF 26 #[(I6 0), (I6 0), (.slice none 0 0), (.slice none 0 0), (.slice none 0 0)] w9.heap.size), (eF undef)] := ⟨_, rfl⟩
   refine Wp_dagS (MsL []) [true, true, true, true, true, true, true, true, true, true, true, false] [11] [21, 22, 23, 24, 25, 26, 27, 28, 29, 30, 5, 82] [[], [0], [], [2], [3], [4], [], [6], [7], [1, 5, 8], [], []] [[], [0], [], [2], [3, 2], [4, 3, 2], [], [6], [7, 6], [1, 0, 5, 4, 3, 2, 8, 7, 6], [], []] Fs5 hFs5 (by kernel_rfl) mixed (by kernel_rfl) (by kernel_rfl) (by kernel_rfl) (by kernel_rfl) ?_ ?_
   ·intro wd X0
    refine qZ (fun S s' w' hi hN X U V H => ?_) ?_
    ·replace X := xN0 X
     exact DoesT_pure (r_fieldAddr (b := bn) (o := 0) (o' := 0) (U 1 rfl) Tryz.underlying26 rfl siz3 rfl) rfl
    refine qZ (fun S s' w' hi hN X U V H => ?_) ?_
    ·replace X := xN0 X
     have e21 := (H 0 rfl).2 21 _ rfl (by rw [hFs5]; rfl)
     exact DoesT_pure (r_load (v := (I6 n.states)) e21 flat3 (((X0.trans X).keep Bn).cell rfl)) rfl
    refine qZ (fun S s' w' hi hN X U V H => ?_) ?_
    ·replace X := xN0 X
     exact DoesT_pure (r_fieldAddr (b := bn) (o := 0) (o' := 2) (U 1 rfl) Tryz.underlying26 rfl siz22 rfl) rfl
    refine qZ (fun S s' w' hi hN X U V H => ?_) ?_
    ·replace X := xN0 X
     have e23 := (H 2 rfl).2 23 _ rfl (by rw [hFs5]; rfl)
     exact DoesT_pure (r_load (v := (.slice (some ⟨eb, eo, none⟩) n.ends.length ec)) e23 flat22 (((X0.trans X).keep Bn).cell rfl)) rfl
    refine qZ (fun S s' w' hi hN X U V H => ?_) ?_
    ·replace X := xN0 X
     have e24 := (H 3 rfl).2 24 _ rfl (by rw [hFs5]; rfl)
     exact DoesT_pure (r_indexSlice (b := eb) (o := eo) (len := n.ends.length) (cap := ec) (i := 0) (o' := eo + 0) e24 rfl rfl Tryz.underlying22 siz3 (by omega) (by omega)) rfl
    refine qZ (fun S s' w' hi hN X U V H => ?_) ?_
    ·replace X := xN0 X
     have e25 := (H 4 rfl).2 25 _ rfl (by rw [hFs5]; rfl)
     exact DoesT_pure (r_load (v := (I6 x)) e25 flat3 (by simpa using (Chg.ext E (X0.trans X)).cell (fun f => f) hec0)) rfl
    refine qZ (fun S s' w' hi hN X U V H => ?_) ?_
    ·replace X := xN0 X
     exact DoesT_pure (r_fieldAddr (b := bn) (o := 0) (o' := 1) (U 1 rfl) Tryz.underlying26 rfl siz3 rfl) rfl
    refine qZ (fun S s' w' hi hN X U V H => ?_) ?_
    ·replace X := xN0 X
     have e27 := (H 6 rfl).2 27 _ rfl (by rw [hFs5]; rfl)
     exact DoesT_pure (r_load (v := (I6 n.start)) e27 flat3 (((X0.trans X).keep Bn).cell rfl)) rfl
    refine DagStepsS.cons (StabS.chg (U := none1) (litF_ext _ _ _) (fun p y hp hw h => by
       exact h.elim)) (LocS.const) (fun S s' w' hi hN X U V H => Or.inl ⟨Guarded_none rfl, ?_⟩) ?_
    ·replace X := xN0 X
     have e28 := (H 7 rfl).2 28 _ rfl (by rw [hFs5]; rfl)
     exact DoesT_lit (hs := z0) Tryz.underlying22 siz3 zer3 e28 (by decide) (by decide) (by kernel_rfl) (by have := X0.size; have := X.size; omega)
    refine DagStepsS.cons (StabS.chg (U := none1) (rvG_ext) (fun p y hp hw h => by
       exact h.elim)) (LocS.const) (fun S s' w' hi hN X U V H => Or.inl ⟨Guarded_none rfl, ?_⟩) ?_
    ·replace X := xN0 X
     have e22 := (H 1 rfl).2 22 _ rfl (by rw [hFs5]; rfl)
     have e26 := (H 5 rfl).2 26 _ rfl (by rw [hFs5]; rfl)
     obtain ⟨b29, e29, B29, g29⟩ := (show ((fun _ _ => litF TDI #[.int .i64 n.start] z0) : FctS) S s' (s' 29) w' from (H 8 rfl).2 29 (fun _ _ => litF TDI #[.int .i64 n.start] z0) rfl (by rw [hFs5]; rfl))
     exact DoesT_pure (r_build (ps := [(0, .int .i64 n.states), (1, .int .i64 x), (2, .slice (some ⟨b29, 0, none⟩) 1 1)]) (v := .agg #[.int .i64 n.states, .int .i64 x, .slice (some ⟨b29, 0, none⟩) 1 1, .slice none 0 0, .slice none 0 0]) (bld3 e22 e26 e29) (by kernel_rfl)) ⟨b29, rfl, B29, g29⟩
    refine DagStepsS.cons (StabS.chg (U := none1) (fun v w w' x h => alF_ext _ _ _ v w w' x h) (fun p y hp hw h => by
       exact h.elim)) (LocS.const) (fun S s' w' hi hN X U V H => Or.inl ⟨Guarded_none rfl, ?_⟩) ?_
    ·replace X := xN0 X
     exact DoesT_alloc (c := #[(I6 0), (I6 0), (.slice none 0 0), (.slice none 0 0), (.slice none 0 0)]) zer26 rfl (by have := X0.size; have := X.size; omega)
    refine DagStepsS.tail ?_
    exact DagStepsS.nil
   ·intro s' wd5 w5 X0 X5 U H
    replace X5 := X5.mono (M' := none1) (fun y _ h => by
      obtain ⟨j, hj, h⟩ := h
      exact h.elim)
    obtain ⟨b30, e30, B30, g30⟩ := (show ((fun _ _ => rvG n.states x n.start z0) : FctS) (allS [true, true, true, true, true, true, true, true, true, true, true, false]) s' (s' 30) w5 from H 9 rfl 30 (fun _ _ => rvG n.states x n.start z0) rfl (by rw [hFs5]; rfl))
    obtain ⟨b5, e5, B5, g5⟩ := (show ((fun _ _ => alF 26 #[(.int .i64 0), (.int .i64 0), (.slice none 0 0), (.slice none 0 0), (.slice none 0 0)] w9.heap.size) : FctS) (allS [true, true, true, true, true, true, true, true, true, true, true, false]) s' (s' 5) w5 from H 10 rfl 5 (fun _ _ => alF 26 #[(.int .i64 0), (.int .i64 0), (.slice none 0 0), (.slice none 0 0), (.slice none 0 0)] w9.heap.size) rfl (by rw [hFs5]; rfl))
    obtain ⟨j5, rfl⟩ := Fits.out (σ := s') (l := [(1, (.pointer (some ⟨bn, 0, none⟩))), (2, (.pointer (some ⟨br, 0, none⟩))), (30, (.agg #[(.int .i64 n.states), (.int .i64 x), (.slice (some ⟨b30, 0, none⟩) 1 1), (.slice none 0 0), (.slice none 0 0)])), (5, (.pointer (some ⟨b5, 0, none⟩)))]) ⟨U 1 rfl, U 2 rfl, e30, e5, trivial⟩
    clear U H
    replace Bn := (X0.trans X5).keep Bn
    replace Br := (X0.trans X5).keep Br
    replace X5 := X0.trans X5
    replace E := E.ext X5
    have hne5 : b30 ≠ b5 := fun e => by have h8 := B30; rw [e] at h8; unfold Blk at h8 B5; rw [h8] at B5; simp at B5
    refine s_storeAgg (b := b5) (o := 0) (c' := #[(I6 n.states), (I6 x), (.slice (some ⟨b30, 0, none⟩) 1 1), (.slice none 0 0), (.slice none 0 0)]) rfl rfl (by simp [Value.oneCell']) siz26 rfl B5 (by first | (simp; done) | exact Nat.le_of_ble_eq_true rfl) rfl ?_
    intro w6 S6
    replace Bn := S6.keep (by omega) Bn
    replace Br := S6.keep (by omega) Br
    replace B30 := S6.keep (by omega) B30
    replace E := S6.step E (by first | exact Or.inl (by omega) | exact Or.inr rfl | exact Or.inr (by assumption) | exact Or.inr (by simp) | exact Or.inr (by omega) | exact Or.inr (by dsimp only; omega))
    replace B5 := S6.blk
    refine WpL_nil (thn_normal (Wp_seq (Wp_seq_region ?_)))
    refine qF bn 0 3 rfl Tryz.underlying26 rfl siz23 rfl ?_
    refine qV (r_load (v := (.slice pa n.eps.length pc)) rfl flat23 (Bn.cell rfl)) ?_
    refine qV (r_lenSlice (ad := pa) (n := n.eps.length) (cap := pc) Tryz.underlying23 rfl) ?_
    refine qM (I6 0) rfl ?_
    refine WpL_nil (Wp_block ?_)
    obtain ⟨n3, hn3e⟩ : ∃ n3, n3 = (w6).heap.size := ⟨_, rfl⟩
    have hb3 : b5 < n3 ∧ br < n3 ∧ bn < n3 ∧ b30 < n3 ∧ w0.heap.size ≤ n3 := ⟨by rw [hn3e]; exact B5.lt, by rw [hn3e]; exact Br.lt, by rw [hn3e]; exact Bn.lt, by rw [hn3e]; exact B30.lt, by rw [hn3e]; exact E.size⟩
    refine Wp_loop (fun nn_ σ W7 => ∃ (k : Nat) (pa2 : Option Addr) (pc2 : Nat), (∃ jj_, σ = upds jj_ [(1, (P6 bn 0)), (2, (P6 br 0)), (5, (P6 b5 0)), (32, (.slice pa n.eps.length pc)), (33, (I6 (n.eps.length : Int))), (34, (I6 (k : Int)))]) ∧ Chg none1 w0 W7 ∧ Blk W7 bn #[(I6 n.states), (I6 n.start), (.slice (some ⟨eb, eo, none⟩) n.ends.length ec), (.slice pa n.eps.length pc), (.slice xa n.edges.length xc)] 26 ∧ Blk W7 br #[(I6 0), (I6 0), (.slice none 0 0), (.slice none 0 0), (.slice none 0 0)] 26 ∧ Blk W7 b5 (#[Value.int .i64 n.states, .int .i64 x, .slice (some ⟨b30, 0, none⟩) 1 1, .slice pa2 k pc2, .slice none 0 0]) 26 ∧ Blk W7 b30 #[(I6 n.start)] TDI ∧ (k ≤ n.eps.length) ∧ (W7.ownsRow n3 TPr 2 (.slice pa2 k pc2) k (((n.eps.take k).map swp).map spanV).flatten) ∧ (n3 ≤ W7.heap.size) ∧ nn_ = n.eps.length - k) (n := n.eps.length - 0) ?_ ?_
    ·exact ⟨0, none, 0, Fits.out ⟨rfl, rfl, rfl, rfl, rfl, rfl, trivial⟩, E, Bn, Br, B5, B30, Nat.zero_le _, World.ownsRow_nil _ _ _ _, (by omega), rfl⟩
    ·clear E Bn Br B5 B30
     rintro _ _ W7 ⟨k, pa2, pc2, ⟨j7, rfl⟩, E, Bn, Br, B5, B30, hk, hown, hs3, rfl⟩
     refine Wp_seq_region ?_
     refine qV (r_lss (k := .i64) (a := (k : Int)) (b := (n.eps.length : Int)) rfl rfl) ?_
     refine WpL_nil (Wp_seq ?_)
     refine Wp_cond (b := decide (((k : Int) : Int) < (n.eps.length : Int))) rfl (fun hlt => ?_) (fun hlt => ?_)
     ·have khlt := hlt
      replace hlt := of_decide_eq_true hlt
      obtain ⟨p, hp⟩ := get_of_lt (l := n.eps) (i := k) (by omega)
      obtain ⟨pb, po, rfl, hpc⟩ := spans_cells hep (by omega)
      refine Wp_skip (thn_normal (Wp_seq (Wp_block (Wp_seq_region ?_))))
      refine qV (r_indexSlice (b := pb) (o := po) (len := n.eps.length) (cap := pc) (i := k) (o' := po + k * 2) rfl rfl rfl Tryz.underlying23 siz36 (by omega) (by omega)) ?_
      refine qV (r_loadAgg (vs := [(I6 p.1), (I6 p.2)]) rfl agg36 siz36 rfl ((hpc k p hp).ext E)) ?_
      refine s_allocStore (v := (.agg #[(I6 p.1), (I6 p.2)])) (c := #[(I6 p.1), (I6 p.2)]) (n := 2) (by decide) zer36 rfl siz36 rfl rfl rfl (by simp [Value.oneCell']) ?_
      intro bu wu Nu
      have Fu := Nu.ge E
      have Ou_bn := Nu.lt Bn
      have Ou_br := Nu.lt Br
      have Ou_b5 := Nu.lt B5
      have Ou_b30 := Nu.lt B30
      replace Bn := Nu.keep Bn
      replace Br := Nu.keep Br
      replace B5 := Nu.keep B5
      replace B30 := Nu.keep B30
      replace hown := own_ext hown Nu.ext
      replace hs3 := Nat.le_trans hs3 Nu.ext.size
      replace E := E.ext Nu.ext
      have Bu := Nu.blk
      refine WpL_nil (Wp_region ?_)
      refine qF b5 0 3 rfl Tryz.underlying26 rfl siz23 rfl ?_
      refine qV (r_load (v := (.slice pa2 k pc2)) rfl flat23 (B5.cell rfl)) ?_
      refine qV (r_indexArr (b := bu) (o := 0) (i := 1) (o' := 1) rfl rfl rfl Tryz.underlying36 siz3 (by omega) (by omega)) ?_
      refine qV (r_load (v := (I6 p.2)) rfl flat3 (Bu.cell rfl)) ?_
      refine qV (r_indexArr (b := bu) (o := 0) (i := 0) (o' := 0) rfl rfl rfl Tryz.underlying36 siz3 (by omega) (by omega)) ?_
      refine qV (r_load (v := (I6 p.1)) rfl flat3 (Bu.cell rfl)) ?_
      refine qV (r_build (ps := [(0, (I6 p.2)), (1, (I6 p.1))]) (v := (.agg #[(I6 p.2), (I6 p.1)])) rfl (by kernel_rfl)) ?_
      refine s_buildSlice (ps := [(0, (.agg #[(I6 p.2), (I6 p.1)]))]) (c := #[(I6 p.2), (I6 p.1)]) (by decide) rfl Tryz.underlying23 siz36 zer36 (by decide) (by decide) (by kernel_rfl) ?_
      intro bv wv Nv
      have Fv := Nv.ge E
      have Ov_bn := Nv.lt Bn
      have Ov_br := Nv.lt Br
      have Ov_b5 := Nv.lt B5
      have Ov_b30 := Nv.lt B30
      have Ov_bu := Nv.lt Bu
      replace Bn := Nv.keep Bn
      replace Br := Nv.keep Br
      replace B5 := Nv.keep B5
      replace B30 := Nv.keep B30
      replace Bu := Nv.keep Bu
      replace hown := own_ext hown Nv.ext
      replace hs3 := Nat.le_trans hs3 Nv.ext.size
      replace E := E.ext Nv.ext
      have Bv := Nv.blk
      refine s_append (base := n3) (n := k) (m := 1) (xs := (((n.eps.take k).map swp).map spanV).flatten) (news := [(I6 p.2), (I6 p.1)]) (size := 2) (bytes := 16) (v := (.slice pa2 k pc2)) (by decide) Tryz.underlying23 siz36 byt36 zer36 rfl (by decide) rfl hown rfl (rfl) (Bv.cells rfl) (by simp [Value.oneCell']) (by unfold maxLen; omega) (by omega) (hs3) ?_
      intro v7 w59 Ov7 Cv7 Dv7
      replace Bn := Cv7.keep (fun h => by have := (hown.lt _ h).1; omega) Bn
      replace Br := Cv7.keep (fun h => by have := (hown.lt _ h).1; omega) Br
      replace B5 := Cv7.keep (fun h => by have := (hown.lt _ h).1; omega) B5
      replace B30 := Cv7.keep (fun h => by have := (hown.lt _ h).1; omega) B30
      replace E := E.step Cv7 (fun x hx h => absurd (hown.lt x h).1 (by omega))
      obtain ⟨pa3, pc3, rfl⟩ := own_form Ov7
      have hO7 := Ov7
      have hs7 := Nat.le_trans hs3 Cv7.size
      refine qF b5 0 3 rfl Tryz.underlying26 rfl siz23 rfl ?_
      refine s_store (b := b5) (o := 3) (c' := #[(I6 n.states), (I6 x), (.slice (some ⟨b30, 0, none⟩) 1 1), (.slice pa3 (k + 1) pc3), (.slice none 0 0)]) (v := (.slice pa3 (k + 1) pc3)) rfl rfl rfl siz23 B5 (by simp) rfl ?_
      intro w9 S9
      replace hO7 := own_chg hO7 S9.chg fun y hy h => by have h' : y = b5 := h; have := (hO7.lt y hy).1; omega
      replace hs7 := Nat.le_trans hs7 S9.chg.size
      replace Bn := S9.keep (by omega) Bn
      replace Br := S9.keep (by omega) Br
      replace B30 := S9.keep (by omega) B30
      replace E := S9.step E (by first | exact Or.inl (by omega) | exact Or.inr rfl | exact Or.inr (by assumption) | exact Or.inr (by simp) | exact Or.inr (by omega) | exact Or.inr (by dsimp only; omega))
      replace B5 := S9.blk
      refine WpL_nil (inB_normal (thn_normal (Wp_region ?_)))
      refine qV (r_add (k := .i64) (a := (k : Int)) (b := 1) (c := (k : Int) + 1) rfl rfl (wI64 (by omega))) ?_
      refine qM (I6 ((k : Int) + 1)) rfl ?_
      refine WpL_nil (thn_normal ?_)
      exact ⟨n.eps.length - (k + 1), by omega, k + 1, pa3, pc3, Fits.out ⟨rfl, rfl, rfl, rfl, rfl, rfl, trivial⟩, E, Bn, Br, B5, B30, (by omega), (by rw [map_take swp hp]; simpa [spanV, List.map_append, List.flatten_append] using hO7), hs7, rfl⟩
     ·have khlt := hlt
      replace hlt := of_decide_eq_false hlt
      have hkk : k = n.eps.length := by omega
      subst hkk
      rw [List.take_length] at hown
      refine Wp_exit (thn_exit (thn_exit (inB_here (thn_normal (Wp_seq (Wp_seq_region ?_))))))
      refine qF bn 0 4 rfl Tryz.underlying26 rfl siz24 rfl ?_
      refine qV (r_load (v := (.slice xa n.edges.length xc)) rfl flat24 (Bn.cell rfl)) ?_
      refine qV (r_lenSlice (ad := xa) (n := n.edges.length) (cap := xc) Tryz.underlying24 rfl) ?_
      refine qM (I6 0) rfl ?_
      refine WpL_nil (Wp_block ?_)
      refine Wp_loop (fun nn_ σ W10 => ∃ (j : Nat) (F : Nat → Prop) (xa2 : Option Addr) (xc2 : Nat), (∃ jj_, σ = upds jj_ [(2, (P6 br 0)), (5, (P6 b5 0)), (50, (.slice xa n.edges.length xc)), (51, (I6 (n.edges.length : Int))), (52, (I6 (j : Int)))]) ∧ Chg none1 w0 W10 ∧ Blk W10 bn #[(I6 n.states), (I6 n.start), (.slice (some ⟨eb, eo, none⟩) n.ends.length ec), (.slice pa n.eps.length pc), (.slice xa n.edges.length xc)] 26 ∧ Blk W10 br #[(I6 0), (I6 0), (.slice none 0 0), (.slice none 0 0), (.slice none 0 0)] 26 ∧ Blk W10 b5 (#[Value.int .i64 n.states, .int .i64 x, .slice (some ⟨b30, 0, none⟩) 1 1, .slice pa2 n.eps.length pc2, .slice xa2 j xc2]) 26 ∧ Blk W10 b30 #[(I6 n.start)] TDI ∧ (j ≤ n.edges.length) ∧ (W10.ownsRow n3 TPr 2 (.slice pa2 n.eps.length pc2) n.eps.length ((n.eps.map swp).map spanV).flatten) ∧ (EdB F W10 n3 (.slice xa2 j xc2) ((n.edges.take j).map swe)) ∧ (n3 ≤ W10.heap.size) ∧ nn_ = n.edges.length - j) (n := n.edges.length - 0) ?_ ?_
      ·exact ⟨0, _, none, 0, Fits.out ⟨rfl, rfl, rfl, rfl, rfl, trivial⟩, E, Bn, Br, B5, B30, Nat.zero_le _, hown, EdB.start _ _, hs3, rfl⟩
      ·clear E Bn Br B5 B30
       rintro _ _ W10 ⟨j, F, xa2, xc2, ⟨j10, rfl⟩, E, Bn, Br, B5, B30, hj, hown2, hX, hs4, rfl⟩
       refine Wp_seq_region ?_
       refine qV (r_lss (k := .i64) (a := (j : Int)) (b := (n.edges.length : Int)) rfl rfl) ?_
       refine WpL_nil (Wp_seq ?_)
       refine Wp_cond (b := decide (((j : Int) : Int) < (n.edges.length : Int))) rfl (fun hlt2 => ?_) (fun hlt2 => ?_)
       ·have khlt2 := hlt2
        replace hlt2 := of_decide_eq_true hlt2
        obtain ⟨e, he⟩ := get_of_lt (l := n.edges) (i := j) (by omega)
        obtain ⟨xb, xo, rfl, hxc⟩ := edges_cells hed (by omega)
        obtain ⟨ra, rc, hcell, hsp⟩ := hxc j e he
        have hsl : e.2.2.length ≤ 16 := by have h9 := (ok.ed e (List.mem_of_getElem? he)).2.2; unfold checkE at h9; split at h9; cases h9; omega
        have hlt9 : ∀ y, (Value.slice xa2 j xc2).ownBlock = some y → y < (W10).heap.size := fun y hy => by obtain ⟨⟨rows, h1, _⟩, _⟩ := hX; exact (h1.lt y hy).2
        have E4 : Chg none1 W10 W10 := Chg.refl _ _
        refine Wp_skip (thn_normal (Wp_seq (Wp_block (Wp_seq_region ?_))))
        refine qV (r_indexSlice (b := xb) (o := xo) (len := n.edges.length) (cap := xc) (i := j) (o' := xo + j * 3) rfl rfl rfl Tryz.underlying24 siz39 (by omega) (by omega)) ?_
        refine qV (r_loadAgg (vs := [(I6 e.1), (I6 e.2.1), (.slice ra e.2.2.length rc)]) rfl agg39 siz39 rfl (hcell.ext E)) ?_
        refine s_allocStore (v := (.agg #[(I6 e.1), (I6 e.2.1), (.slice ra e.2.2.length rc)])) (c := #[(I6 e.1), (I6 e.2.1), (.slice ra e.2.2.length rc)]) (n := 3) (by decide) zer39 rfl siz39 rfl rfl rfl (by simp [Value.oneCell']) ?_
        intro bu wu Nu
        have Fu := Nu.ge E
        have Fu_E4 := Nu.ge E4
        have Ou_bn := Nu.lt Bn
        have Ou_br := Nu.lt Br
        have Ou_b5 := Nu.lt B5
        have Ou_b30 := Nu.lt B30
        replace Bn := Nu.keep Bn
        replace Br := Nu.keep Br
        replace B5 := Nu.keep B5
        replace B30 := Nu.keep B30
        replace E := E.ext Nu.ext
        have Bu := Nu.blk
        replace E4 := E4.ext Nu.ext
        refine WpL_nil ?_
        replace hX := hX.ext E4
        replace hown2 := own_ext hown2 E4
        replace hs4 := Nat.le_trans hs4 E4.size
        obtain ⟨⟨rows, hownX, hrows⟩, hxF, hFl⟩ := hX
        have hlX : ((n.edges.take j).map swe).length = j := by rw [List.length_map, List.length_take]; omega
        rw [hlX] at hownX
        obtain ⟨z1, hz1⟩ : ∃ z1, z1 = (wu).heap.size := ⟨_, rfl⟩
        have hxu : ¬ (Value.slice xa2 j xc2).ownBlock = some bu := fun h => by have := hlt9 _ h; have := Nu.eq; omega
        have hz_12 : w0.heap.size ≤ wu.heap.size := E.size
        have lz_12_bn : bn < wu.heap.size := Bn.lt
        have lz_12_br : br < wu.heap.size := Br.lt
        have lz_12_b5 : b5 < wu.heap.size := B5.lt
        have lz_12_b30 : b30 < wu.heap.size := B30.lt
        have lz_12_bu : bu < wu.heap.size := Bu.lt
        obtain ⟨Fs12, hFs12⟩ : ∃ Fs : List FctS, Fs = [(eF (P6 b5 4)), (eF (.slice xa2 j xc2)), (eF (P6 bu 1)), (eF (I6 e.2.1)), (eF (P6 bu 0)), (eF (I6 e.1)), (eF (P6 bu 2)), (eF (.slice ra e.2.2.length rc)), (fun _ _ => cloG e.2.2 z1), (fun _ _ => edG e.2.1 e.1 e.2.2 z1), (fun _ _ => elG e.2.1 e.1 e.2.2 z1), (fun _ _ => apG n3 j rows.flatten (.slice xa2 j xc2) z1 e.2.1 e.1 e.2.2), (eF undef), (eF undef)] := ⟨_, rfl⟩
        refine Wp_dagS (MsL [(11, (fun q => (Value.slice xa2 j xc2).ownBlock = some q))]) [true, true, true, true, true, true, true, true, true, true, true, true, false, false] [12, 13] [56, 57, 58, 59, 60, 61, 62, 63, 64, 65, 66, 67, 83, 84] [[], [0], [], [2], [], [4], [], [6], [7], [3, 5, 8], [9], [1, 8, 10], [], []] [[], [0], [], [2], [], [4], [], [6], [7, 6], [3, 2, 5, 4, 8, 7, 6], [9, 3, 2, 5, 4, 8, 7, 6], [1, 0, 8, 7, 6, 10, 9, 3, 2, 5, 4], [], []] Fs12 hFs12 (by kernel_rfl) mixed (by kernel_rfl) (by kernel_rfl) (by kernel_rfl) (by kernel_rfl) ?_ ?_
        ·intro wd X0
         refine qZ (fun S s' w' hi hN X U V H => ?_) ?_
         ·replace X := xN1 (hN 11 rfl) X
          exact DoesT_pure (r_fieldAddr (b := b5) (o := 0) (o' := 4) (U 5 rfl) Tryz.underlying26 rfl siz24 rfl) rfl
         refine qZ (fun S s' w' hi hN X U V H => ?_) ?_
         ·replace X := xN1 (hN 11 rfl) X
          have e56 := (H 0 rfl).2 56 _ rfl (by rw [hFs12]; rfl)
          exact DoesT_pure (r_load (v := (.slice xa2 j xc2)) e56 flat24 (((X0.trans X).keep B5).cell rfl)) rfl
         refine qZ (fun S s' w' hi hN X U V H => ?_) ?_
         ·replace X := xN1 (hN 11 rfl) X
          exact DoesT_pure (r_fieldAddr (b := bu) (o := 0) (o' := 1) (U 9 rfl) Tryz.underlying39 rfl siz3 rfl) rfl
         refine qZ (fun S s' w' hi hN X U V H => ?_) ?_
         ·replace X := xN1 (hN 11 rfl) X
          have e58 := (H 2 rfl).2 58 _ rfl (by rw [hFs12]; rfl)
          exact DoesT_pure (r_load (v := (I6 e.2.1)) e58 flat3 (((X0.trans X).keep Bu).cell rfl)) rfl
         refine qZ (fun S s' w' hi hN X U V H => ?_) ?_
         ·replace X := xN1 (hN 11 rfl) X
          exact DoesT_pure (r_fieldAddr (b := bu) (o := 0) (o' := 0) (U 9 rfl) Tryz.underlying39 rfl siz3 rfl) rfl
         refine qZ (fun S s' w' hi hN X U V H => ?_) ?_
         ·replace X := xN1 (hN 11 rfl) X
          have e60 := (H 4 rfl).2 60 _ rfl (by rw [hFs12]; rfl)
          exact DoesT_pure (r_load (v := (I6 e.1)) e60 flat3 (((X0.trans X).keep Bu).cell rfl)) rfl
         refine qZ (fun S s' w' hi hN X U V H => ?_) ?_
         ·replace X := xN1 (hN 11 rfl) X
          exact DoesT_pure (r_fieldAddr (b := bu) (o := 0) (o' := 2) (U 9 rfl) Tryz.underlying39 rfl siz37 rfl) rfl
         refine qZ (fun S s' w' hi hN X U V H => ?_) ?_
         ·replace X := xN1 (hN 11 rfl) X
          have e62 := (H 6 rfl).2 62 _ rfl (by rw [hFs12]; rfl)
          exact DoesT_pure (r_load (v := (.slice ra e.2.2.length rc)) e62 flat37 (((X0.trans X).keep Bu).cell rfl)) rfl
         refine DagStepsS.cons (StabS.chg (U := (fun y => (fun q => (Value.slice xa2 j xc2).ownBlock = some q) y)) (cloG_chg (fun q h => by have := (hownX.lt q h).2; omega)) (fun p y hp hw h => by
            rcases MsL_or h with ⟨rfl, h0⟩ | h0
            ·exact h0
            exact h0.elim)) (LocS.const) (fun S s' w' hi hN X U V H => Or.inl ⟨Guarded_none rfl, ?_⟩) ?_
         ·replace X := xN1 (hN 11 rfl) X
          have e63 := (H 7 rfl).2 63 _ rfl (by rw [hFs12]; rfl)
          exact DoesT_callE (r_callF (vs := [(.slice ra e.2.2.length rc)]) Tryz.func38 kQ kQ (lst1 e63)) ((clones_c _ _ e.2.2 (SlAt.ext hsp (Ext.trans E (X0.trans X))) (by omega)).mono (fun v w h => ⟨(⟨h.1.1, own_low h.1.2 (by have := X0.size; have := X.size; omega)⟩ : cloG e.2.2 z1 v w), h.2⟩))
         refine DagStepsS.cons (StabS.chg (U := (fun y => (fun q => (Value.slice xa2 j xc2).ownBlock = some q) y)) (edG_chg (fun q h => by have := (hownX.lt q h).2; omega)) (fun p y hp hw h => by
            rcases MsL_or h with ⟨rfl, h0⟩ | h0
            ·exact h0
            exact h0.elim)) (LocS.const) (fun S s' w' hi hN X U V H => Or.inl ⟨Guarded_none rfl, ?_⟩) ?_
         ·replace X := xN1 (hN 11 rfl) X
          have e59 := (H 3 rfl).2 59 _ rfl (by rw [hFs12]; rfl)
          have e61 := (H 5 rfl).2 61 _ rfl (by rw [hFs12]; rfl)
          obtain ⟨⟨a64, c64, e64⟩, O64⟩ := (show ((fun _ _ => cloG e.2.2 z1) : FctS) S s' (s' 64) w' from (H 8 rfl).2 64 (fun _ _ => cloG e.2.2 z1) rfl (by rw [hFs12]; rfl))
          exact DoesT_pure (r_build (ps := [(0, .int .i64 e.2.1), (1, .int .i64 e.1), (2, .slice a64 e.2.2.length c64)]) (v := .agg #[.int .i64 e.2.1, .int .i64 e.1, .slice a64 e.2.2.length c64]) (bld3 e59 e61 e64) (by kernel_rfl)) ⟨a64, c64, rfl, ⟨a64, c64, rfl⟩, e64 ▸ O64⟩
         refine DagStepsS.cons (StabS.chg (U := (fun y => (fun q => (Value.slice xa2 j xc2).ownBlock = some q) y)) (elG_chg (fun q h => by have := (hownX.lt q h).2; omega)) (fun p y hp hw h => by
            rcases MsL_or h with ⟨rfl, h0⟩ | h0
            ·exact h0
            exact h0.elim)) (LocS.const) (fun S s' w' hi hN X U V H => Or.inl ⟨Guarded_none rfl, ?_⟩) ?_
         ·replace X := xN1 (hN 11 rfl) X
          obtain ⟨a65, c65, e65, O65⟩ := (show ((fun _ _ => edG e.2.1 e.1 e.2.2 z1) : FctS) S s' (s' 65) w' from (H 9 rfl).2 65 (fun _ _ => edG e.2.1 e.1 e.2.2 z1) rfl (by rw [hFs12]; rfl))
          exact DoesT_litE e65 (by have := X0.size; have := X.size; omega) O65
         refine DagStepsS.cons (StabS.chg (U := none1) (apG_ext _ _ _ _ _ _ _ _) (fun p y hp hw h => by
            rcases MsL_or h with ⟨rfl, h0⟩ | h0
            ·exact absurd rfl hp
            exact h0.elim)) (LocS.const) (fun S s' w' hi hN X U V H => Or.inl ⟨Guarded_none rfl, ?_⟩) ?_
         ·replace X := xN1 hi X
          have e57 := (H 1 rfl).2 57 _ rfl (by rw [hFs12]; rfl)
          obtain ⟨b66, a66, c66, e66, B66, g66, O66⟩ := (show ((fun _ _ => elG e.2.1 e.1 e.2.2 z1) : FctS) S s' (s' 66) w' from (H 10 rfl).2 66 (fun _ _ => elG e.2.1 e.1 e.2.2 z1) rfl (by rw [hFs12]; rfl))
          exact DoesT_appE e57 (own_ext (own_ext hownX X0) X) e66 B66 O66 (by omega) (by have := X0.size; have := X.size; omega) (fun q h => .inl ⟨rfl, h⟩) (fun q h => by rcases h with h | h; exact (by have := (hownX.lt q h.2).2; omega); exact h.elim) (by have := X0.size; have := X.size; omega)
         refine DagStepsS.tail (DagStepsS.tail ?_)
         exact DagStepsS.nil
        ·intro s' wd12 w12 X0 X12 U H
         replace X12 := X12.mono (M' := (fun y => (fun q => (Value.slice xa2 j xc2).ownBlock = some q) y)) (fun y _ h => by
           obtain ⟨j, hj, h⟩ := h
           rcases MsL_or h with ⟨rfl, h0⟩ | h0
           ·exact h0
           exact h0.elim)
         obtain ⟨a67, c67, ⟨⟨u67, v67, e67⟩, O67, D67⟩, K67⟩ := (show ((fun _ _ => apG n3 j rows.flatten (.slice xa2 j xc2) z1 e.2.1 e.1 e.2.2) : FctS) (allS [true, true, true, true, true, true, true, true, true, true, true, true, false, false]) s' (s' 67) w12 from H 11 rfl 67 (fun _ _ => apG n3 j rows.flatten (.slice xa2 j xc2) z1 e.2.1 e.1 e.2.2) rfl (by rw [hFs12]; rfl))
         obtain ⟨j12, rfl⟩ := Fits.out (σ := s') (l := [(2, (.pointer (some ⟨br, 0, none⟩))), (5, (.pointer (some ⟨b5, 0, none⟩))), (50, (.slice (some ⟨xb, xo, none⟩) n.edges.length xc)), (51, (.int .i64 ((n.edges.length : Nat) : Int))), (52, (.int .i64 ((j : Nat) : Int))), (67, (.slice u67 (j + 1) v67))]) ⟨U 2 rfl, U 5 rfl, U 50 rfl, U 51 rfl, U 52 rfl, e67, trivial⟩
         clear U H
         replace Bn := Chg.keep X12 (fun h => by have := (hownX.lt _ h).1; omega) (X0.keep Bn)
         replace Br := Chg.keep X12 (fun h => by have := (hownX.lt _ h).1; omega) (X0.keep Br)
         replace B5 := Chg.keep X12 (fun h => by have := (hownX.lt _ h).1; omega) (X0.keep B5)
         replace B30 := Chg.keep X12 (fun h => by have := (hownX.lt _ h).1; omega) (X0.keep B30)
         replace Bu := Chg.keep X12 (fun h => hxu h) (X0.keep Bu)
         have hXm := Chg.trans (Ext.chg X0) X12
         replace E := (E.ext X0).step X12 (fun q hq h => by have := (hownX.lt q h).1; omega)
         rw [e67] at O67 D67
         have hX9 := EdB.push hownX hlX.symm hrows hxF hFl hXm hz1 (by omega) O67 D67 K67
         have hs9 := Nat.le_trans hs4 hXm.size
         have ho9 := own_chg hown2 hXm fun k hk h => own_other hown2 hownX (by decide) hk h
         refine qF b5 0 4 rfl Tryz.underlying26 rfl siz24 rfl ?_
         refine s_store (b := b5) (o := 4) (c' := #[(I6 n.states), (I6 x), (.slice (some ⟨b30, 0, none⟩) 1 1), (.slice pa2 n.eps.length pc2), (.slice u67 (j + 1) v67)]) (v := (.slice u67 (j + 1) v67)) rfl rfl rfl siz24 B5 (by simp) rfl ?_
         intro w13 S13
         replace hX9 := hX9.chg S13.chg fun y h => by have h' : y = b5 := h; omega
         replace hs9 := Nat.le_trans hs9 S13.chg.size
         replace ho9 := own_chg ho9 S13.chg fun y hy h => by have h' : y = b5 := h; have := (ho9.lt y hy).1; omega
         replace Bn := S13.keep (by omega) Bn
         replace Br := S13.keep (by omega) Br
         replace B30 := S13.keep (by omega) B30
         replace Bu := S13.keep (by omega) Bu
         replace E := S13.step E (by first | exact Or.inl (by omega) | exact Or.inr rfl | exact Or.inr (by assumption) | exact Or.inr (by simp) | exact Or.inr (by omega) | exact Or.inr (by dsimp only; omega))
         replace B5 := S13.blk
         refine WpL_nil (inB_normal (thn_normal (Wp_region ?_)))
         refine qV (r_add (k := .i64) (a := (j : Int)) (b := 1) (c := (j : Int) + 1) rfl rfl (wI64 (by omega))) ?_
         refine qM (I6 ((j : Int) + 1)) rfl ?_
         refine WpL_nil (thn_normal ?_)
         exact ⟨n.edges.length - (j + 1), by omega, j + 1, _, u67, v67, Fits.out ⟨rfl, rfl, rfl, rfl, rfl, trivial⟩, E, Bn, Br, B5, B30, (by omega), ho9, (by rw [map_take swe he]; exact hX9), hs9, rfl⟩
       ·have khlt2 := hlt2
        replace hlt2 := of_decide_eq_false hlt2
        have hjj : j = n.edges.length := by omega
        subst hjj
        rw [List.take_length] at hX
        refine Wp_exit (thn_exit (thn_exit (inB_here (thn_normal (Wp_seq_region ?_)))))
        refine qV (r_loadAgg (vs := [(I6 n.states), (I6 x), (.slice (some ⟨b30, 0, none⟩) 1 1), (.slice pa2 n.eps.length pc2), (.slice xa2 n.edges.length xc2)]) rfl agg26 siz26 rfl (B5.cells rfl)) ?_
        refine s_storeAgg (b := br) (o := 0) (c' := #[(I6 n.states), (I6 x), (.slice (some ⟨b30, 0, none⟩) 1 1), (.slice pa2 n.eps.length pc2), (.slice xa2 n.edges.length xc2)]) rfl rfl (by simp [Value.oneCell']) siz26 rfl Br (by first | (simp; done) | exact Nat.le_of_ble_eq_true rfl) rfl ?_
        intro w14 S14
        replace hX := hX.chg S14.chg fun y h => by have h' : y = _ := h; omega
        replace hown2 := own_chg hown2 S14.chg fun y hy h => by have h' : y = _ := h; have := (hown2.lt y hy).1; omega
        replace Bn := S14.keep (by omega) Bn
        replace B5 := S14.keep (by omega) B5
        replace B30 := S14.keep (by omega) B30
        replace E := S14.step E (by first | exact Or.inl (by omega) | exact Or.inr rfl | exact Or.inr (by assumption) | exact Or.inr (by simp) | exact Or.inr (by omega) | exact Or.inr (by dsimp only; omega))
        replace Br := S14.blk
        refine qA (I6 0) rfl ?_
        refine WpL_nil (Wp_ret ?_)
        refine fin_agg_tmp Tryz.results9 (vs := [(.int .i64 n.states), (.int .i64 x), (.slice (some ⟨b30, 0, none⟩) 1 1), (.slice pa2 n.eps.length pc2), (.slice xa2 n.edges.length xc2)]) (b := br) (v' := (.int .i64 0)) rfl agg26 siz26 rfl (Br.cells rfl) rfl ?_
        have hw0 : w0.heap.size ≤ b30 := by omega
        have e1 : n.eps.length = (n.rev x).eps.length := by simp [Nf.rev]
        have e2 : n.edges.length = (n.rev x).edges.length := by simp [Nf.rev]
        refine ⟨⟨n.rev x, some ⟨b30, 0, none⟩, 1, pa2, pc2, xa2, xc2, 0, by rw [← e1, ← e2]; rfl, fun M w7 c hM => ⟨some ⟨b30, 0, none⟩, 1, pa2, pc2, xa2, xc2, rfl, ints_of_blk [n.start] (c.keep (fun h => by have := hM _ h; omega) B30) (by simp) (by simp), ?_, ?_⟩, .inr (.inr ⟨hc1, rfl, x, hx, rfl⟩)⟩, E⟩
        ·have h9 : SpansAt _ _ (n.eps.map swp) := own_slat (own_chg hown2 c fun k hk hm => by have := (hown2.lt k hk).1; have := hM k hm; omega) (by intro r hr; obtain ⟨p, _, rfl⟩ := List.mem_map.1 hr; rfl) (by simp) (by decide)
         rw [← e1]; exact h9
        ·have h9 := (hX.chg c fun y h => by have := hM y h; omega).at
         rw [← e2]; exact h9
end Go.Proofs
namespace Go.Proofs
open Go Go.Eng Go.Sort
set_option maxRecDepth 100000
/-- Edges in a slice of one's own (blocks from base on), with sets in blocks below z. -/
def EdO (z : Nat) (w : World) (base : Nat) (v : Value) (es : List Ed) : Prop := ∃ rows, w.ownsRow base TEd 3 v es.length rows.flatten ∧ EdsF (fun y => y < z) w es rows
section
variable {z base : Nat} {w w' : World} {v : Value} {es : List Ed} {M : Nat → Prop}
theorem EdO.chg (h : EdO z w base v es) (c : Chg M w w') (hM : ∀ y, M y → z ≤ y) (h1 : ∀ k, v.ownBlock = some k → ¬ M k) : EdO z w' base v es := by
 obtain ⟨rows, h2, h3⟩ := h
 exact ⟨rows, own_chg h2 c h1, h3.chg c fun y hy hm => by have := hM y hm; omega⟩
theorem EdO.ext (h : EdO z w base v es) (c : Ext w w') : EdO z w' base v es := h.chg c (fun _ f => f.elim) fun _ _ f => f
theorem EdO.nil (z base : Nat) (w : World) : EdO z w base (.slice none 0 0) [] := ⟨[], World.ownsRow_nil _ _ _ _, rfl, fun i e row h => by simp at h⟩
theorem EdO.form (h : EdO z w base v es) : ∃ a c, v = .slice a es.length c := let ⟨_, h2, _⟩ := h; own_form h2
theorem EdO.lt (h : EdO z w base v es) : ∀ k, v.ownBlock = some k → base ≤ k ∧ k < w.heap.size := let ⟨_, h2, _⟩ := h; h2.lt
theorem EdO.at (h : EdO z w base v es) : EdgesAt w v es := by
 obtain ⟨rows, h1, h2⟩ := h
 exact ⟨rows, own_slat h1 h2.three h2.1 (by decide), h2.1, fun i e row h5 h6 => let ⟨u, h7, h9, _⟩ := h2.2 i e row h5 h6; ⟨u, h7, h9⟩⟩
end
theorem EdF.old {w : World} {e : Ed} {u : Value} {z : Nat} (h : SpansAt w u e.2.2) (hz : w.heap.size ≤ z) : EdF (fun y => y < z) w e (edRow e u) := by
 refine ⟨u, rfl, h, ?_⟩
 rcases Nat.eq_zero_or_pos e.2.2.length with h0 | h0
 ·exact .inl (List.eq_nil_of_length_eq_zero h0)
 ·obtain ⟨a, c, rfl⟩ := SlAt.form h
  rw [List.length_map] at h
  obtain ⟨b, o, rfl, hc⟩ := spans_cells h h0
  obtain ⟨s, hs⟩ := get_of_lt (l := e.2.2) (i := 0) h0
  have := World.block_lt_of_cell? w _ (hc 0 s hs 0 (.int .i64 s.1) rfl)
  exact .inr ⟨b, rfl, by show b < z; have h9 : b < w.heap.size := this; omega⟩
theorem own_rest {w : World} {base e g n c : Nat} {rows : List (List Value)} (h : w.ownsRow base e 3 (.slice (some ⟨g, 0, none⟩) n c) n rows.flatten) (h3 : ∀ r ∈ rows, r.length = 3) (hn : 0 < n) {i : Nat} (hi : i ≤ rows.length) : CellsAt w g (i * 3) (rows.drop i).flatten := by
 obtain ⟨g', hg, _, hc⟩ := own_cells h hn
 simp only [Option.some.injEq, Addr.mk.injEq, and_true] at hg
 subst hg
 intro j v hj
 have e : rows.flatten = (rows.take i).flatten ++ (rows.drop i).flatten := by rw [← List.flatten_append, List.take_append_drop]
 have hl : (rows.take i).flatten.length = i * 3 := by rw [rows_len (k := 3) fun r hr => h3 r (List.mem_of_mem_take hr), List.length_take, Nat.min_eq_left hi]
 have := hc (i * 3 + j) v (by rw [e, List.getElem?_append_right (by omega), hl, Nat.add_sub_cancel_left]; exact hj)
 rwa [Nat.zero_add] at this
theorem own_row3 {w : World} {base e g n c : Nat} {rows : List (List Value)} (h : w.ownsRow base e 3 (.slice (some ⟨g, 0, none⟩) n c) n rows.flatten) (h3 : ∀ r ∈ rows, r.length = 3) (hn : 0 < n) {i : Nat} {r : List Value} (hr : rows[i]? = some r) : CellsAt w g (i * 3) r := by
 have h1 := own_rest h h3 hn (Nat.le_of_lt (lt_of_get hr))
 rw [dropc hr, List.flatten_cons] at h1
 exact fun j v hj => h1 j v (by rw [List.getElem?_append_left (lt_of_get hj)]; exact hj)
theorem EdsF.drop {F : Nat → Prop} {w : World} {es : List Ed} {rows : List (List Value)} (h : EdsF F w es rows) (k : Nat) : EdsF F w (es.drop k) (rows.drop k) := ⟨by simp [h.1], fun i e r he hr => h.2 (k + i) e r (by rwa [List.getElem?_drop] at he) (by rwa [List.getElem?_drop] at hr)⟩
theorem EdsF.app {F : Nat → Prop} {w : World} {es fs : List Ed} {rows qs : List (List Value)} (h : EdsF F w es rows) (k : EdsF F w fs qs) : EdsF F w (es ++ fs) (rows ++ qs) := by
 refine ⟨by simp [h.1, k.1], fun i e r he hr => ?_⟩
 rcases Nat.lt_or_ge i es.length with hi | hi
 ·rw [List.getElem?_append_left hi] at he
  rw [List.getElem?_append_left (by have := h.1; omega)] at hr
  exact h.2 i e r he hr
 ·rw [List.getElem?_append_right hi] at he
  rw [List.getElem?_append_right (by have := h.1; omega), h.1] at hr
  exact k.2 _ e r he hr
theorem rows_one {F : Nat → Prop} {w : World} {es : List Ed} {rows : List (List Value)} (h : EdsF F w es rows) (k : Nat) : ∀ v ∈ (rows.drop k).flatten, v.oneCell' = true := fun v hv => by
 obtain ⟨r, hr, hv⟩ := List.mem_flatten.1 hv
 obtain ⟨i, hi⟩ := List.getElem?_of_mem (List.mem_of_mem_drop hr)
 obtain ⟨e, he⟩ := get_of_lt (l := es) (i := i) (by rw [← h.1]; exact lt_of_get hi)
 obtain ⟨ua, uc, rfl, _⟩ := (h.2 i e r he hi).form
 simp at hv
 rcases hv with rfl | rfl | rfl <;> rfl
end Go.Proofs
namespace Go.Proofs
open Go Go.Eng
structure GS where
 sets : List (List Sp)
 fol : List (List Nat)
structure Pt where
 nul : Bool
 fst : List Nat
 lst : List Nat
abbrev GF := GS → Option (GS × Pt)
def lnk1 (f : List (List Nat)) (to : List Nat) (p : Nat) : List (List Nat) := f.set p (f.getD p [] ++ to)
def lnk (f : List (List Nat)) (src to : List Nat) : List (List Nat) := src.foldl (fun f p => lnk1 f to p) f
def catP (a b : Pt) : Pt := ⟨a.nul && b.nul, if a.nul then a.fst ++ b.fst else a.fst, if b.nul then a.lst ++ b.lst else b.lst⟩
def catK (g : GS) (a b : Pt) : GS := ⟨g.sets, lnk g.fol a.lst b.fst⟩
def altP (a b : Pt) : Pt := ⟨a.nul || b.nul, a.fst ++ b.fst, a.lst ++ b.lst⟩
def catGs : List GF → GS → Pt → Option (GS × Pt)
  | [], g, o => some (g, o)
  | f :: fs, g, o => (f g).bind fun (g1, p) => catGs fs (catK g1 o p) (catP o p)
def altGs : List GF → GS → Pt → Option (GS × Pt)
  | [], g, o => some (g, o)
  | f :: fs, g, o => (f g).bind fun (g1, p) => altGs fs g1 (altP o p)
def orP (p : Pt) (b : Bool) : Pt := ⟨p.nul || b, p.fst, p.lst⟩
def repGs (f : GF) (mn : Int) (g : GS) : Nat → Option (GS × Pt)
  | 0 => some (g, ⟨true, [], []⟩)
  | k + 1 => (repGs f mn g k).bind fun (g1, o) => (f g1).bind fun (g2, p) => some (catK g2 o (orP p (decide (mn ≤ (k : Int)))), catP o (orP p (decide (mn ≤ (k : Int)))))
def setK (z : List Sp) : GF := fun g => if 499 < g.sets.length + 1 then none else some (⟨g.sets ++ [z], g.fol ++ [[]]⟩, ⟨false, [g.sets.length + 1], [g.sets.length + 1]⟩)
def gnode (k : Int) (z : List Sp) (mn mx : Int) (fs : List GF) : GF := fun g =>
 if k = 1 then some (g, ⟨true, [], []⟩)
 else if k = 2 then setK z g
 else if k = 3 then catGs fs g ⟨true, [], []⟩
 else if k = 4 then altGs fs g ⟨false, [], []⟩
 else if k = 5 then (match fs with | f :: _ => (f g).bind fun (g1, p) => some (catK g1 p p, ⟨true, p.fst, p.lst⟩) | [] => none)
 else if k = 6 then (match fs with | f :: _ => repGs f mn g mx.toNat | [] => none)
 else if k = 9 then (match fs with | f :: _ => f g | [] => none)
 else some (g, ⟨false, [], []⟩)
mutual
def gkO : Re → GF
  | .mk k z a mn mx _ => gnode k z mn mx (gkL a)
def gkL : List Re → List GF
  | [] => []
  | x :: l => gkO x :: gkL l
end
theorem gkL_map : ∀ l : List Re, gkL l = l.map gkO
  | [] => rfl
  | x :: l => by rw [gkL, gkL_map l]; rfl
theorem lnk1_len (f : List (List Nat)) (to : List Nat) (p : Nat) : (lnk1 f to p).length = f.length := by unfold lnk1; rw [List.length_set]
theorem lnk1_get (f : List (List Nat)) (to : List Nat) (p i : Nat) : (lnk1 f to p)[i]? = (f[i]?).map fun l => if i = p then l ++ to else l := by
  unfold lnk1
  rw [List.getElem?_set]
  by_cases e : p = i
  · subst e
    rw [if_pos rfl]
    by_cases h : p < f.length
    · rw [if_pos h, List.getD_eq_getElem?_getD, List.getElem?_eq_getElem h]
      simp
    · rw [if_neg h, List.getElem?_eq_none (by omega)]; rfl
  · rw [if_neg e]
    cases f[i]? with
    | none => rfl
    | some l => simp only [Option.map_some]; rw [if_neg (fun h => e h.symm)]
theorem lnk_len : ∀ (src : List Nat) (f : List (List Nat)) (to : List Nat), (lnk f src to).length = f.length
  | [], f, to => rfl
  | p :: src, f, to => (lnk_len src (lnk1 f to p) to).trans (lnk1_len f to p)
theorem lnk_get : ∀ (src : List Nat) (f : List (List Nat)) (to : List Nat) (i : Nat), src.Nodup → (lnk f src to)[i]? = (f[i]?).map fun l => if i ∈ src then l ++ to else l
  | [], f, to, i, _ => by
    show f[i]? = _
    cases f[i]? <;> simp
  | p :: src, f, to, i, h => by
    rw [List.nodup_cons] at h
    show (lnk (lnk1 f to p) src to)[i]? = _
    rw [lnk_get src _ to i h.2, lnk1_get]
    cases f[i]? with
    | none => rfl
    | some l =>
      simp only [Option.map_some, Option.some.injEq, List.mem_cons]
      by_cases e : i = p
      · subst e
        rw [if_pos rfl, if_neg h.1, if_pos (.inl rfl)]
      · rw [if_neg e]
        by_cases e2 : i ∈ src
        · rw [if_pos e2, if_pos (.inr e2)]
        · rw [if_neg e2, if_neg (fun h => h.elim e e2)]
theorem lnk_snoc (f : List (List Nat)) (src to : List Nat) (p : Nat) : lnk f (src ++ [p]) to = lnk1 (lnk f src to) to p := by unfold lnk; rw [List.foldl_append]; rfl
/-- Rows are not longer than B. -/
def RowB (B : Nat) (f : List (List Nat)) : Prop := ∀ (i : Nat) l, f[i]? = some l → l.length ≤ B
theorem RowB.lnk1 {B : Nat} {f : List (List Nat)} (h : RowB B f) {to : List Nat} (p : Nat) {m : Nat} (hm : to.length ≤ m) : RowB (B + m) (lnk1 f to p) := by
 intro i l hl
 rw [lnk1_get, Option.map_eq_some_iff] at hl
 obtain ⟨l0, h0, rfl⟩ := hl
 have := h i l0 h0
 split
 ·rw [List.length_append]; omega
 ·omega
/-- A list that rises, within bounds. -/
def Rise (n m : Nat) (l : List Nat) : Prop := l.Pairwise (· < ·) ∧ (∀ t ∈ l, n < t ∧ t ≤ m) ∧ l.length + n ≤ m
theorem Rise.nil {n m : Nat} (h : n ≤ m) : Rise n m [] := ⟨.nil, fun t h => (by cases h), by simpa using h⟩
theorem Rise.nodup {n m : Nat} {l : List Nat} (h : Rise n m l) : l.Nodup := List.nodup_iff_pairwise_ne.2 (h.1.imp fun h => Nat.ne_of_lt h)
theorem Rise.mono {n m n' m' : Nat} {l : List Nat} (h : Rise n m l) (h1 : n' ≤ n) (h2 : m ≤ m') : Rise n' m' l := ⟨h.1, fun t ht => by have := h.2.1 t ht; omega, by have := h.2.2; omega⟩
theorem Rise.app {n m k : Nat} {a b : List Nat} (h : Rise n m a) (g : Rise m k b) : Rise n k (a ++ b) := by
 refine ⟨List.pairwise_append.2 ⟨h.1, g.1, fun x hx y hy => ?_⟩, fun t ht => ?_, ?_⟩
 ·have := h.2.1 x hx; have := g.2.1 y hy; omega
 ·have h2 := h.2.2; have g2 := g.2.2
  rcases List.mem_append.1 ht with h1 | h1
  ·have := h.2.1 t h1; omega
  ·have := g.2.1 t h1; omega
 ·rw [List.length_append]; have := h.2.2; have := g.2.2; omega
def GI (g : GS) : Prop := g.fol.length = g.sets.length + 1 ∧ g.sets.length ≤ 499
/-- What a part of an expression adds. -/
structure GSt1 (c : Nat) (g g' : GS) (p : Pt) : Prop where
 inv : GI g'
 pre : ∃ zs, g'.sets = g.sets ++ zs
 old : ∀ i, i ≤ g.sets.length → g'.fol[i]? = g.fol[i]?
 new : ∀ (i : Nat) l, g.sets.length < i → g'.fol[i]? = some l → l.length ≤ c * (g'.sets.length - g.sets.length) ∧ ∀ t ∈ l, g.sets.length < t ∧ t ≤ g'.sets.length
 fst : Rise g.sets.length g'.sets.length p.fst
 lst : Rise g.sets.length g'.sets.length p.lst
theorem GSt1.le {c : Nat} {g g' : GS} {p : Pt} (h : GSt1 c g g' p) : g.sets.length ≤ g'.sets.length := by obtain ⟨zs, h1⟩ := h.pre; rw [h1, List.length_append]; omega
theorem GSt1.refl (c : Nat) {g : GS} (h : GI g) (b : Bool) : GSt1 c g g ⟨b, [], []⟩ :=
 ⟨h, ⟨[], by simp⟩, fun _ _ => rfl, fun i l hi hl => by have := lt_of_get hl; have := h.1; omega, Rise.nil (Nat.le_refl _), Rise.nil (Nat.le_refl _)⟩
theorem GSt1.rows {c : Nat} {g g' : GS} {p : Pt} (h : GSt1 c g g' p) (hg : RowB 25000 g.fol) (hc : c ≤ 45) : RowB 25000 g'.fol := by
 intro i l hl
 rcases Nat.lt_or_ge g.sets.length i with h1 | h1
 ·have h2 := (h.new i l h1 hl).1
  have h3 : c * (g'.sets.length - g.sets.length) ≤ 45 * 499 := Nat.mul_le_mul hc (by have := h.inv.2; omega)
  omega
 ·rw [h.old i h1] at hl
  exact hg i l hl
/-- One part behind what there is. -/
theorem GSt1.cat {c C : Nat} {g0 g g1 : GS} {o p : Pt} (h : GSt1 c g0 g o) (k : GSt1 C g g1 p) (hc : C + 1 ≤ c) : GSt1 c g0 (catK g1 o p) (catP o p) := by
  have hl := h.le
  have kl := k.le
  have hnd := h.lst.nodup
  have hget := fun i => lnk_get o.lst g1.fol p.fst i hnd
  refine ⟨⟨by show (lnk g1.fol o.lst p.fst).length = _; rw [lnk_len]; exact k.inv.1, k.inv.2⟩, ?_, fun i hi => ?_, fun i l hi hl2 => ?_, ?_, ?_⟩
  · obtain ⟨z1, e1⟩ := h.pre
    obtain ⟨z2, e2⟩ := k.pre
    exact ⟨z1 ++ z2, by show g1.sets = _; rw [e2, e1, List.append_assoc]⟩
  · show (lnk g1.fol o.lst p.fst)[i]? = _
    rw [hget, k.old i (by omega), h.old i hi]
    cases g0.fol[i]? with
    | none => rfl
    | some l => simp only [Option.map_some]; rw [if_neg (fun hm => by have := (h.lst.2.1 i hm).1; omega)]
  · have hl3 : (lnk g1.fol o.lst p.fst)[i]? = some l := hl2
    rw [hget, Option.map_eq_some_iff] at hl3
    obtain ⟨l0, h0, rfl⟩ := hl3
    show _ ≤ c * (g1.sets.length - g0.sets.length) ∧ _
    have hp2 := k.fst.2.2
    have hb : l0.length + (if i ∈ o.lst then p.fst.length else 0) ≤ c * (g1.sets.length - g0.sets.length) ∧ ∀ t ∈ l0, g0.sets.length < t ∧ t ≤ g1.sets.length := by
      rcases Nat.lt_or_ge g.sets.length i with h1 | h1
      · have h2 := k.new i l0 h1 h0
        rw [if_neg (fun hm => by have := (h.lst.2.1 i hm).2; omega)]
        refine ⟨?_, fun t ht => by have := h2.2 t ht; omega⟩
        have : C * (g1.sets.length - g.sets.length) ≤ c * (g1.sets.length - g0.sets.length) := Nat.mul_le_mul (by omega) (by omega)
        omega
      · rw [k.old i h1] at h0
        have h2 := h.new i l0 hi h0
        refine ⟨?_, fun t ht => by have := h2.2 t ht; omega⟩
        have h5 : c * (g1.sets.length - g0.sets.length) = c * (g.sets.length - g0.sets.length) + c * (g1.sets.length - g.sets.length) := by rw [← Nat.mul_add]; congr 1; omega
        have h6 : 1 * (g1.sets.length - g.sets.length) ≤ c * (g1.sets.length - g.sets.length) := Nat.mul_le_mul_right _ (by omega)
        split <;> omega
    split
    · rename_i hm
      rw [if_pos hm] at hb
      refine ⟨by rw [List.length_append]; exact hb.1, fun t ht => ?_⟩
      rcases List.mem_append.1 ht with h1 | h1
      · exact hb.2 t h1
      · have := k.fst.2.1 t h1; exact ⟨by omega, this.2⟩
    · exact ⟨by omega, hb.2⟩
  · show Rise _ g1.sets.length (if o.nul then o.fst ++ p.fst else o.fst)
    split
    · exact h.fst.app k.fst
    · exact h.fst.mono (Nat.le_refl _) kl
  · show Rise _ g1.sets.length (if p.nul then o.lst ++ p.lst else p.lst)
    split
    · exact h.lst.app k.lst
    · exact k.lst.mono hl (Nat.le_refl _)
theorem GSt1.alt {c C : Nat} {g0 g g1 : GS} {o p : Pt} (h : GSt1 c g0 g o) (k : GSt1 C g g1 p) (hc : C ≤ c) : GSt1 c g0 g1 (altP o p) := by
 have hl := h.le
 have kl := k.le
 refine ⟨k.inv, ?_, fun i hi => (k.old i (by omega)).trans (h.old i hi), fun i l hi hl2 => ?_, h.fst.app k.fst, h.lst.app k.lst⟩
 ·obtain ⟨z1, e1⟩ := h.pre
  obtain ⟨z2, e2⟩ := k.pre
  exact ⟨z1 ++ z2, by rw [e2, e1, List.append_assoc]⟩
 ·rcases Nat.lt_or_ge g.sets.length i with h1 | h1
  ·have h2 := k.new i l h1 hl2
   refine ⟨?_, fun t ht => by have := h2.2 t ht; omega⟩
   have : C * (g1.sets.length - g.sets.length) ≤ c * (g1.sets.length - g0.sets.length) := Nat.mul_le_mul hc (by omega)
   omega
  ·rw [k.old i h1] at hl2
   have h2 := h.new i l hi hl2
   refine ⟨?_, fun t ht => by have := h2.2 t ht; omega⟩
   have : c * (g.sets.length - g0.sets.length) ≤ c * (g1.sets.length - g0.sets.length) := Nat.mul_le_mul (Nat.le_refl _) (by omega)
   omega
theorem GSt1.orP {c : Nat} {g g' : GS} {p : Pt} (h : GSt1 c g g' p) (b : Bool) : GSt1 c g g' (orP p b) := ⟨h.inv, h.pre, h.old, h.new, h.fst, h.lst⟩
theorem GSt1.wide {c c' : Nat} {g g' : GS} {p : Pt} (h : GSt1 c g g' p) (hc : c ≤ c') : GSt1 c' g g' p := ⟨h.inv, h.pre, h.old, fun i l hi hl => by have h2 := h.new i l hi hl; exact ⟨Nat.le_trans h2.1 (Nat.mul_le_mul_right _ hc), h2.2⟩, h.fst, h.lst⟩
theorem GSt1.star {c C : Nat} {g g1 : GS} {p : Pt} (k : GSt1 C g g1 p) (hc : C + 1 ≤ c) : GSt1 c g (catK g1 p p) ⟨true, p.fst, p.lst⟩ := by
  have kl := k.le
  have hnd := k.lst.nodup
  have hget := fun i => lnk_get p.lst g1.fol p.fst i hnd
  refine ⟨⟨by show (lnk g1.fol p.lst p.fst).length = _; rw [lnk_len]; exact k.inv.1, k.inv.2⟩, k.pre, fun i hi => ?_, fun i l hi hl2 => ?_, k.fst, k.lst⟩
  · show (lnk g1.fol p.lst p.fst)[i]? = _
    rw [hget, k.old i hi]
    cases g.fol[i]? with
    | none => rfl
    | some l => simp only [Option.map_some]; rw [if_neg (fun hm => by have := (k.lst.2.1 i hm).1; omega)]
  · have hl3 : (lnk g1.fol p.lst p.fst)[i]? = some l := hl2
    rw [hget, Option.map_eq_some_iff] at hl3
    obtain ⟨l0, h0, rfl⟩ := hl3
    show _ ≤ c * (g1.sets.length - g.sets.length) ∧ _
    have h2 := k.new i l0 hi h0
    have hp2 := k.fst.2.2
    have h5 : (C + 1) * (g1.sets.length - g.sets.length) ≤ c * (g1.sets.length - g.sets.length) := Nat.mul_le_mul_right _ hc
    rw [Nat.add_mul, Nat.one_mul] at h5
    split
    · refine ⟨by rw [List.length_append]; omega, fun t ht => ?_⟩
      rcases List.mem_append.1 ht with h1 | h1
      · exact h2.2 t h1
      · exact k.fst.2.1 t h1
    · exact ⟨by omega, h2.2⟩
def GOk (c : Nat) (f : GF) : Prop := ∀ g g' p, GI g → f g = some (g', p) → GSt1 c g g' p
theorem catGs_ok {c C : Nat} (hc : C + 1 ≤ c) {g0 : GS} : ∀ (fs : List GF), (∀ f ∈ fs, GOk C f) → ∀ (g g' : GS) (o p : Pt), GSt1 c g0 g o → catGs fs g o = some (g', p) → GSt1 c g0 g' p
  | [], _, g, g', o, p, h, e => by
    simp only [catGs, Option.some.injEq, Prod.mk.injEq] at e
    obtain ⟨rfl, rfl⟩ := e; exact h
  | f :: fs, hf, g, g', o, p, h, e => by
    rw [catGs] at e
    obtain ⟨⟨g1, p1⟩, e1, e2⟩ := Option.bind_eq_some_iff.1 e
    exact catGs_ok hc fs (fun f' h' => hf f' (List.mem_cons_of_mem _ h')) _ _ _ _ (h.cat (hf f List.mem_cons_self _ _ _ h.inv e1) hc) e2
theorem altGs_ok {c C : Nat} (hc : C ≤ c) {g0 : GS} : ∀ (fs : List GF), (∀ f ∈ fs, GOk C f) → ∀ (g g' : GS) (o p : Pt), GSt1 c g0 g o → altGs fs g o = some (g', p) → GSt1 c g0 g' p
  | [], _, g, g', o, p, h, e => by
    simp only [altGs, Option.some.injEq, Prod.mk.injEq] at e
    obtain ⟨rfl, rfl⟩ := e; exact h
  | f :: fs, hf, g, g', o, p, h, e => by
    rw [altGs] at e
    obtain ⟨⟨g1, p1⟩, e1, e2⟩ := Option.bind_eq_some_iff.1 e
    exact altGs_ok hc fs (fun f' h' => hf f' (List.mem_cons_of_mem _ h')) _ _ _ _ (h.alt (hf f List.mem_cons_self _ _ _ h.inv e1) hc) e2
theorem repGs_ok {c C : Nat} (hc : C + 1 ≤ c) {f : GF} (hf : GOk C f) {mn : Int} {g : GS} (hg : GI g) : ∀ (k : Nat) (g' : GS) (p : Pt), repGs f mn g k = some (g', p) → GSt1 c g g' p
  | 0, g', p, e => by
    simp only [repGs, Option.some.injEq, Prod.mk.injEq] at e
    obtain ⟨rfl, rfl⟩ := e; exact GSt1.refl c hg true
  | k + 1, g', p, e => by
    rw [repGs] at e
    obtain ⟨⟨g1, o⟩, e1, e2⟩ := Option.bind_eq_some_iff.1 e
    obtain ⟨⟨g2, q⟩, e3, e4⟩ := Option.bind_eq_some_iff.1 e2
    simp only [Option.some.injEq, Prod.mk.injEq] at e4
    obtain ⟨rfl, rfl⟩ := e4
    have h1 := repGs_ok hc hf hg k g1 o e1
    exact h1.cat ((hf _ _ _ h1.inv e3).orP _) hc
theorem setG_ok (z : List Sp) : GOk 1 (setK z) := by
 intro g g' p hg e
 unfold setK at e
 split at e
 ·cases e
 ·rename_i hn
  simp only [Option.some.injEq, Prod.mk.injEq] at e
  obtain ⟨rfl, rfl⟩ := e
  have hr : Rise g.sets.length (g.sets ++ [z]).length [g.sets.length + 1] := ⟨List.pairwise_singleton _ _, fun t ht => by rw [List.mem_singleton.1 ht]; simp, by simp; omega⟩
  refine ⟨⟨by show (g.fol ++ [[]]).length = (g.sets ++ [z]).length + 1; simp [hg.1], by show (g.sets ++ [z]).length ≤ 499; simp; omega⟩, ⟨[z], rfl⟩, fun i hi => ?_, fun i l hi hl => ?_, hr, hr⟩
  ·show (g.fol ++ [[]])[i]? = _
   rw [List.getElem?_append_left (by have := hg.1; omega)]
  ·have h1 : (g.fol ++ [[]])[i]? = some l := hl
   rw [List.getElem?_append_right (by have := hg.1; omega)] at h1
   have := List.mem_of_getElem? h1
   rw [List.mem_singleton.1 this]
   exact ⟨Nat.zero_le _, fun t ht => (by cases ht)⟩
theorem gnode_ok {k : Int} {z : List Sp} {mn mx : Int} {fs : List GF} {C : Nat} (hf : ∀ f ∈ fs, GOk C f) : GOk (C + 1) (gnode k z mn mx fs) := by
  intro g g' p hg e
  unfold gnode at e
  split at e
  · simp only [Option.some.injEq, Prod.mk.injEq] at e
    obtain ⟨rfl, rfl⟩ := e; exact GSt1.refl _ hg true
  split at e
  · exact (setG_ok z g g' p hg e).wide (by omega)
  split at e
  · exact catGs_ok (Nat.le_refl _) fs hf _ _ _ _ (GSt1.refl _ hg true) e
  split at e
  · exact altGs_ok (Nat.le_succ _) fs hf _ _ _ _ (GSt1.refl _ hg false) e
  split at e
  · cases fs with
    | nil => cases e
    | cons f fs =>
      simp only at e
      obtain ⟨⟨g1, p1⟩, e1, e2⟩ := Option.bind_eq_some_iff.1 e
      simp only [Option.some.injEq, Prod.mk.injEq] at e2
      obtain ⟨rfl, rfl⟩ := e2
      exact (hf f List.mem_cons_self _ _ _ hg e1).star (Nat.le_refl _)
  split at e
  · cases fs with
    | nil => cases e
    | cons f fs => exact repGs_ok (Nat.le_refl _) (hf f List.mem_cons_self) hg _ _ _ e
  split at e
  · cases fs with
    | nil => cases e
    | cons f fs => exact (hf f List.mem_cons_self _ _ _ hg e).wide (Nat.le_succ _)
  · simp only [Option.some.injEq, Prod.mk.injEq] at e
    obtain ⟨rfl, rfl⟩ := e; exact GSt1.refl _ hg false
theorem GOk.wide {c c' : Nat} {f : GF} (h : GOk c f) (hc : c ≤ c') : GOk c' f := fun g g' p hg e => (h g g' p hg e).wide hc
mutual
theorem gkO_ok : ∀ t : Re, GOk t.size (gkO t)
  | .mk k z a mn mx b => by
    rw [gkO, Re.size_eq]
    exact gnode_ok (gkL_ok a)
theorem gkL_ok : ∀ l : List Re, ∀ f ∈ gkL l, GOk (Re.sizes l) f
  | [], f, hf => by cases hf
  | x :: l, f, hf => by
    rw [gkL] at hf
    have e : Re.sizes (x :: l) = x.size + Re.sizes l := rfl
    rcases List.mem_cons.1 hf with rfl | h1
    · exact (gkO_ok x).wide (by omega)
    · exact (gkL_ok l f h1).wide (by omega)
end
end Go.Proofs
