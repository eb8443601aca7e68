/- Contracts and plain lemmas, part 4. -/
import Derived.Tactics
import Derived.Deep.Quiet
import Derived.Laws.AppendOwn
import Derived.KernelRfl
import Derived.Laws.Entries
import Derived.Laws.Build
import Derived.Below
import Derived.RowKit3
import Derived.StillTail
import Derived.Sort.Grow
import Derived.Deep.Draws
import Derived.Test.YtfbglkkidenifaaGreatChecked
import Derived.Laws.StructEq
import Derived.MapKept
import Derived.Laws.BytesArg
import Derived.Shelf.SlSortCmp.WholeK
import Derived.Shelf.Sort.Plain
import Derived.Shelf.Slices.CompactI
import Derived.Test.YtfbglkkidenifaaGreatProg
import Derived.OpenShut
import Derived.ChangeSlices
import Derived.Test.YtfbglkkidenifaaGreatRows
import Derived.Test.YtfbglkkidenifaaGreatDt3
namespace Go.Proofs
open Go Go.Eng
set_option maxRecDepth 100000
def zDJ (k : Int) : Int := if k = 3 ∨ k = 4 ∨ k = 7 then 2 else if k = 5 ∨ k = 6 ∨ k = 8 ∨ k = 9 ∨ k = 10 then 1 else 0
def needA : Array Value := #[.int .i64 0, .int .i64 0, .int .i64 0, .int .i64 2, .int .i64 2, .int .i64 1, .int .i64 1, .int .i64 2, .int .i64 1, .int .i64 1, .int .i64 1]
theorem zOF : ∀ i, i < 11 → needA[i]? = some (.int .i64 (zDJ ((i : Nat) : Int))) := by
  intro i h
  match i, h with
  | 0, _ => rfl
  | 1, _ => rfl
  | 2, _ => rfl
  | 3, _ => rfl
  | 4, _ => rfl
  | 5, _ => rfl
  | 6, _ => rfl
  | 7, _ => rfl
  | 8, _ => rfl
  | 9, _ => rfl
  | 10, _ => rfl
theorem zMi (k : Int) (h0 : 0 ≤ k) (h1 : k ≤ 10) (w0 : World) : Ret Tryz.prog 154 #[.int .i64 k] w0 fun v w => v = .int .i64 (zDJ k) ∧ Ext w0 w := by
 refine zAk Tryz.func154 rfl Tryz.ntmps154 (Nat.le_of_ble_eq_true rfl) ?_
 have E : Chg zAh w0 w0 := Chg.refl _ _
 refine zAA ?_
 refine qA (I6 0) rfl ?_
 refine zAB (zAA ?_)
 refine zAu (ps := [(0, (I6 0)), (1, (I6 0)), (2, (I6 0)), (3, (I6 2)), (4, (I6 2)), (5, (I6 1)), (6, (I6 1)), (7, (I6 2)), (8, (I6 1)), (9, (I6 1)), (10, (I6 1))]) (c := #[(I6 0), (I6 0), (I6 0), (I6 2), (I6 2), (I6 1), (I6 1), (I6 2), (I6 1), (I6 1), (I6 1)]) (by decide) rfl Tryz.underlying26 zAw zJN (by decide) (by decide) (by kernel_rfl) ?_
 intro bq wq Nq
 have Fq := Nq.ge E
 replace E := E.ext Nq.ext
 have Bq := Nq.blk
 refine qM (I6 k) rfl ?_
 refine qV (zAO (b := bq) (o := 0) (len := 11) (cap := 11) (i := k.toNat) (o' := 0 + k.toNat) rfl rfl (by omega) Tryz.underlying26 zAw (by omega) (by omega)) ?_
 refine qV (zAK (v := (I6 (zDJ k))) rfl zAf (Bq.cell (by have := zOF k.toNat (by omega); rw [Int.toNat_of_nonneg h0] at this; rw [Nat.zero_add]; exact this))) ?_
 refine qA (I6 (zDJ k)) rfl ?_
 refine zAB (zAQ ?_)
 refine zAS Tryz.results154 (v := (.int .i64 (zDJ k))) rfl ?_
 exact ⟨rfl, E⟩
theorem zFJ {t : Re} (h0 : 0 ≤ t.kind) (h1 : t.kind ≤ 10) : okB t.kind t.args.length = !(decide ((t.args.length : Int) < zDJ t.kind) || (decide (zDJ t.kind < 2) && decide (zDJ t.kind < t.args.length))) := by
 unfold okB zDJ
 by_cases h3 : t.kind = 3 ∨ t.kind = 4 ∨ t.kind = 7
 ·simp only [if_pos h3]; rw [Bool.eq_iff_iff]; simp
 by_cases h5 : t.kind = 5 ∨ t.kind = 6 ∨ t.kind = 8 ∨ t.kind = 9 ∨ t.kind = 10
 ·simp only [if_neg h3, if_pos h5]; rw [Bool.eq_iff_iff]; simp; omega
 simp only [if_neg h3, if_neg h5]; rw [Bool.eq_iff_iff]; simp
set_option maxHeartbeats 2000000 in
theorem zQg (wb w0 : World) (t : Re) (vs : List Value) (ht : zBC wb t vs) (hE : Ext wb w0) :
  Ret Tryz.prog 106 #[.agg vs.toArray] w0 fun v w => v = .int .i64 (zBj t) ∧ Ext w0 w := by
 have ht0 := ht
 obtain ⟨sa, sc, aa, ac, rfl, hset, hlen, hargs⟩ := ht.form
 have hslen : t.set.length ≤ 9223372036854775807 := by simpa using zCA.le hset
 refine zAk Tryz.func106 rfl Tryz.ntmps106 (Nat.le_of_ble_eq_true rfl) ?_
 have E : Chg zAh w0 w0 := Chg.refl _ _
 refine zAA ?_
 refine zBL (v := (.agg (R6 t sa sc aa ac))) (c := (R6 t sa sc aa ac)) (by decide) rfl rfl ?_
 intro b1 w1 N1
 have F1 := N1.ge E
 replace E := E.ext N1.ext
 have B1 := N1.blk
 refine qA (I6 0) rfl ?_
 refine zAB (zAP (zAA ?_))
 refine qF b1 0 0 rfl Tryz.underlying25 rfl zAw rfl ?_
 refine qV (zAK (v := (I6 t.kind)) rfl zAf (B1.cell rfl)) ?_
 obtain ⟨e2, he2⟩ : ∃ e, (decide ((t.kind : Int) < 0)) = e := ⟨_, rfl⟩
 refine qV ((zBS (k := .i64) (a := t.kind) (b := 0) rfl rfl).trans (by rw [he2]; try rfl)) ?_
 refine qM (.bool e2) rfl ?_
 refine qG (.bool e2) (nU e2 (P6 b1 0)) (by cases e2 <;> first | exact gA | exact gB | exact .inl ⟨rfl, zAN (b := b1) (o := 0) (o' := 0) rfl Tryz.underlying25 rfl zAw rfl⟩) ?_
 refine qG (.bool e2) (nU e2 (I6 t.kind)) (by cases e2 <;> first | exact gA | exact gB | exact .inl ⟨rfl, zAK (v := (I6 t.kind)) rfl zAf (B1.cell rfl)⟩) ?_
 obtain ⟨e3, he3⟩ : ∃ e, (decide ((10 : Int) < t.kind)) = e := ⟨_, rfl⟩
 refine qG (.bool e2) (nU e2 (.bool e3)) (by cases e2 <;> first | exact gA | exact gB | exact .inl ⟨rfl, (zCM (k := .i64) (a := t.kind) (b := 10) rfl rfl).trans (by rw [he3]; try rfl)⟩) ?_
 obtain ⟨e4, he4⟩ : ∃ e, (e2 || e3) = e := ⟨_, rfl⟩
 refine qV (zAd (b := e2) (v := .bool e4) rfl (by rw [← he4]; cases e2 <;> rfl)) ?_
 refine zAB ?_
 subst he4
 subst he3
 subst he2
 refine zAM (b := ((decide ((t.kind : Int) < 0)) || (decide ((10 : Int) < t.kind)))) rfl (fun hk => ?_) (fun hk => ?_)
 ·have khk := hk
  simp at hk
  refine zAA ?_
  refine qA (I6 1) rfl ?_
  refine zAB (zAQ (zAI ?_))
  refine zAS Tryz.results106 (v := (.int .i64 1)) rfl ?_
  exact ⟨zBF (by unfold zBj; rw [if_pos (by omega)]), E⟩
 ·have khk := hk
  simp at hk
  refine zAR (zAC (zAA ?_))
  refine qF b1 0 2 rfl Tryz.underlying25 rfl zBI rfl ?_
  refine qV (zAK (v := (.slice aa t.args.length ac)) rfl zAv (B1.cell rfl)) ?_
  refine qV (zAV (ad := aa) (n := t.args.length) (cap := ac) Tryz.underlying23 rfl) ?_
  refine qA (I6 (t.args.length : Int)) rfl ?_
  refine zAB (zAP (zAA ?_))
  refine qM (I6 (t.args.length : Int)) rfl ?_
  refine qF b1 0 0 rfl Tryz.underlying25 rfl zAw rfl ?_
  refine qV (zAK (v := (I6 t.kind)) rfl zAf (B1.cell rfl)) ?_
  refine zAL rfl rfl (by decide) (zAT (vs := [(I6 t.kind)]) Tryz.func154 zQN zQw rfl) (zMi t.kind (by omega) (by omega) _) ?_
  rintro _ w1 ⟨rfl, X1⟩
  replace B1 := X1.keep B1
  replace E := E.ext X1
  refine qV (zBS (k := .i64) (a := (t.args.length : Int)) (b := zDJ t.kind) rfl rfl) ?_
  refine qM (.bool (decide (((t.args.length : Int) : Int) < zDJ t.kind))) rfl ?_
  rcases Bool.eq_false_or_eq_true (decide ((((t.args.length : Nat) : Int) : Int) < zDJ t.kind)) with hg6 | hg6
  ·have khg6 := hg6
   replace khg6 := of_decide_eq_true khg6
   refine zAD (oj := _) rfl rfl (by decide) (v := .bool true) (congrArg Value.bool hg6) (Or.inl rfl) ?_
   refine zAD (oj := _) rfl rfl (by decide) (v := .bool true) (congrArg Value.bool hg6) (Or.inl rfl) ?_
   refine zAD (oj := _) rfl rfl (by decide) (v := .bool true) (congrArg Value.bool hg6) (Or.inl rfl) ?_
   refine zAD (oj := _) rfl rfl (by decide) (v := .bool true) (congrArg Value.bool hg6) (Or.inl rfl) ?_
   refine zAD (oj := _) rfl rfl (by decide) (v := .bool true) (congrArg Value.bool hg6) (Or.inl rfl) ?_
   refine zAD (oj := _) rfl rfl (by decide) (v := undef) rfl (Or.inr rfl) ?_
   refine zAD (oj := _) rfl rfl (by decide) (v := undef) rfl (Or.inr rfl) ?_
   refine zAD (oj := _) rfl rfl (by decide) (v := undef) rfl (Or.inr rfl) ?_
   refine zAD (oj := _) rfl rfl (by decide) (v := undef) rfl (Or.inr rfl) ?_
   refine zAD (oj := _) rfl rfl (by decide) (v := undef) rfl (Or.inr rfl) ?_
   refine zAD (oj := _) rfl rfl (by decide) (v := .bool true) (congrArg Value.bool hg6) (Or.inl rfl) ?_
   refine qV (zAd (b := decide (((t.args.length : Int) : Int) < zDJ t.kind)) (v := (.bool true)) rfl (by rw [hg6]; rfl)) ?_
   refine zAB ?_
   refine zAl rfl ?_
   refine zAA ?_
   refine qA (I6 3) rfl ?_
   refine zAB (zAQ (zAI ?_))
   refine zAS Tryz.results106 (v := (.int .i64 3)) rfl ?_
   have hff : okB t.kind t.args.length = false := by rw [zFJ (by omega) (by omega)]; simp; omega
   exact ⟨zBF (by unfold zBj; rw [if_neg (by omega), if_pos (by simp [zCu, hff])]), E⟩
  ·have khg6 := hg6
   replace khg6 := of_decide_eq_false khg6
   refine zAF (oj := _) rfl rfl (by decide) (congrArg Value.bool hg6) ?_
   refine qF b1 0 0 rfl Tryz.underlying25 rfl zAw rfl ?_
   refine zAF (oj := _) rfl rfl (by decide) (congrArg Value.bool hg6) ?_
   refine qV (zAK (v := (I6 t.kind)) rfl zAf (B1.cell rfl)) ?_
   refine zAF (oj := _) rfl rfl (by decide) (congrArg Value.bool hg6) ?_
   refine zAL rfl rfl (by decide) (zAT (vs := [(I6 t.kind)]) Tryz.func154 zQN zQw rfl) (zMi t.kind (by omega) (by omega) _) ?_
   rintro _ w2 ⟨rfl, X2⟩
   replace B1 := X2.keep B1
   replace E := E.ext X2
   refine zAF (oj := _) rfl rfl (by decide) (congrArg Value.bool hg6) ?_
   refine qV (zBS (k := .i64) (a := zDJ t.kind) (b := 2) rfl rfl) ?_
   refine zAF (oj := _) rfl rfl (by decide) (congrArg Value.bool hg6) ?_
   refine qM (.bool (decide ((zDJ t.kind : Int) < 2))) rfl ?_
   rcases Bool.eq_false_or_eq_true (decide ((zDJ t.kind : Int) < 2)) with hg7 | hg7
   ·have khg7 := hg7
    replace khg7 := of_decide_eq_true khg7
    refine zAF (oj := _) rfl rfl (by decide) (congrArg Value.bool hg7) ?_
    refine qM (I6 (t.args.length : Int)) rfl ?_
    refine zAF (oj := _) rfl rfl (by decide) (congrArg Value.bool hg7) ?_
    refine qF b1 0 0 rfl Tryz.underlying25 rfl zAw rfl ?_
    refine zAF (oj := _) rfl rfl (by decide) (congrArg Value.bool hg7) ?_
    refine qV (zAK (v := (I6 t.kind)) rfl zAf (B1.cell rfl)) ?_
    refine zAF (oj := _) rfl rfl (by decide) (congrArg Value.bool hg7) ?_
    refine zAL rfl rfl (by decide) (zAT (vs := [(I6 t.kind)]) Tryz.func154 zQN zQw rfl) (zMi t.kind (by omega) (by omega) _) ?_
    rintro _ w3 ⟨rfl, X3⟩
    replace B1 := X3.keep B1
    replace E := E.ext X3
    refine zAF (oj := _) rfl rfl (by decide) (congrArg Value.bool hg7) ?_
    refine qV (zCM (k := .i64) (a := (t.args.length : Int)) (b := zDJ t.kind) rfl rfl) ?_
    refine zAF (oj := _) rfl rfl (by decide) (congrArg Value.bool hg6) ?_
    refine qV (zAd (b := decide ((zDJ t.kind : Int) < 2)) (v := (.bool (decide ((zDJ t.kind : Int) < (t.args.length : Int))))) rfl (by rw [hg7]; rfl)) ?_
    refine qV (zAd (b := decide (((t.args.length : Int) : Int) < zDJ t.kind)) (v := (.bool (decide ((zDJ t.kind : Int) < (t.args.length : Int))))) rfl (by rw [hg6]; rfl)) ?_
    refine zAB ?_
    refine zAM (b := decide ((zDJ t.kind : Int) < (t.args.length : Int))) rfl (fun hn => ?_) (fun hn => ?_)
    ·have khn := hn
     replace hn := of_decide_eq_true hn
     refine zAA ?_
     refine qA (I6 3) rfl ?_
     refine zAB (zAQ (zAI ?_))
     refine zAS Tryz.results106 (v := (.int .i64 3)) rfl ?_
     have hff : okB t.kind t.args.length = false := by rw [zFJ (by omega) (by omega)]; simp; omega
     exact ⟨zBF (by unfold zBj; rw [if_neg (by omega), if_pos (by simp [zCu, hff])]), E⟩
    ·have khn := hn
     replace hn := of_decide_eq_false hn
     have hoB : okB t.kind t.args.length = true := by rw [zFJ (by omega) (by omega)]; simp; omega
     refine zAR (zAC (zAP (zAA ?_)))
     refine qF b1 0 0 rfl Tryz.underlying25 rfl zAw rfl ?_
     refine qV (zAK (v := (I6 t.kind)) rfl zAf (B1.cell rfl)) ?_
     obtain ⟨e9, he9⟩ : ∃ e, (decide ((t.kind : Int) ≠ 2)) = e := ⟨_, rfl⟩
     refine qV ((zBz (k := .i64) (a := t.kind) (b := 2) rfl rfl).trans (by rw [he9]; try rfl)) ?_
     refine qM (.bool e9) rfl ?_
     refine qG (.bool e9) (yU e9 (P6 b1 1)) (by cases e9 <;> first | exact gA | exact gB | exact .inl ⟨rfl, zAN (b := b1) (o := 0) (o' := 1) rfl Tryz.underlying25 rfl zDb rfl⟩) ?_
     refine qG (.bool e9) (yU e9 (.slice sa t.set.length sc)) (by cases e9 <;> first | exact gA | exact gB | exact .inl ⟨rfl, zAK (v := (.slice sa t.set.length sc)) rfl zCc (B1.cell rfl)⟩) ?_
     refine qG (.bool e9) (yU e9 (I6 (t.set.length : Int))) (by cases e9 <;> first | exact gA | exact gB | exact .inl ⟨rfl, zAV (ad := sa) (n := t.set.length) (cap := sc) Tryz.underlying22 rfl⟩) ?_
     obtain ⟨e10, he10⟩ : ∃ e, (decide ((0 : Int) < ((t.set.length : Nat) : Int))) = e := ⟨_, rfl⟩
     refine qG (.bool e9) (yU e9 (.bool e10)) (by cases e9 <;> first | exact gA | exact gB | exact .inl ⟨rfl, (zCM (k := .i64) (a := (t.set.length : Int)) (b := 0) rfl rfl).trans (by rw [he10]; try rfl)⟩) ?_
     obtain ⟨e11, he11⟩ : ∃ e, (e9 && e10) = e := ⟨_, rfl⟩
     refine qV (zAd (b := e9) (v := .bool e11) rfl (by rw [← he11]; cases e9 <;> rfl)) ?_
     refine qM (.bool e11) rfl ?_
     refine qG (.bool e11) (nU e11 (P6 b1 0)) (by cases e11 <;> first | exact gA | exact gB | exact .inl ⟨rfl, zAN (b := b1) (o := 0) (o' := 0) rfl Tryz.underlying25 rfl zAw rfl⟩) ?_
     refine qG (.bool e11) (nU e11 (I6 t.kind)) (by cases e11 <;> first | exact gA | exact gB | exact .inl ⟨rfl, zAK (v := (I6 t.kind)) rfl zAf (B1.cell rfl)⟩) ?_
     obtain ⟨e12, he12⟩ : ∃ e, (decide ((t.kind : Int) ≠ 6)) = e := ⟨_, rfl⟩
     refine qG (.bool e11) (nU e11 (.bool e12)) (by cases e11 <;> first | exact gA | exact gB | exact .inl ⟨rfl, (zBz (k := .i64) (a := t.kind) (b := 6) rfl rfl).trans (by rw [he12]; try rfl)⟩) ?_
     refine qG (.bool e11) (nU e11 (.bool e12)) (by cases e11 <;> first | exact gA | exact gB | exact .inl ⟨rfl, zAn (v := (.bool e12)) rfl⟩) ?_
     refine qG (nU e11 (.bool e12)) (nU e11 (yU e12 (P6 b1 4))) (by cases e11 <;> cases e12 <;> first | exact gA | exact gB | exact .inl ⟨rfl, zAN (b := b1) (o := 0) (o' := 4) rfl Tryz.underlying25 rfl zAw rfl⟩) ?_
     refine qG (nU e11 (.bool e12)) (nU e11 (yU e12 (I6 t.mx))) (by cases e11 <;> cases e12 <;> first | exact gA | exact gB | exact .inl ⟨rfl, zAK (v := (I6 t.mx)) rfl zAf (B1.cell rfl)⟩) ?_
     obtain ⟨e13, he13⟩ : ∃ e, (decide ((t.mx : Int) ≠ 0)) = e := ⟨_, rfl⟩
     refine qG (nU e11 (.bool e12)) (nU e11 (yU e12 (.bool e13))) (by cases e11 <;> cases e12 <;> first | exact gA | exact gB | exact .inl ⟨rfl, (zBz (k := .i64) (a := t.mx) (b := 0) rfl rfl).trans (by rw [he13]; try rfl)⟩) ?_
     obtain ⟨e14, he14⟩ : ∃ e, (e12 && e13) = e := ⟨_, rfl⟩
     refine qG (.bool e11) (nU e11 (.bool e14)) (by cases e11 <;> first | exact gA | exact gB | exact .inl ⟨rfl, zAd (b := e12) (v := .bool e14) rfl (by rw [← he14]; cases e12 <;> rfl)⟩) ?_
     obtain ⟨e15, he15⟩ : ∃ e, (e11 || e14) = e := ⟨_, rfl⟩
     refine qV (zAd (b := e11) (v := .bool e15) rfl (by rw [← he15]; cases e11 <;> rfl)) ?_
     refine qM (.bool e15) rfl ?_
     refine qG (.bool e15) (nU e15 (P6 b1 0)) (by cases e15 <;> first | exact gA | exact gB | exact .inl ⟨rfl, zAN (b := b1) (o := 0) (o' := 0) rfl Tryz.underlying25 rfl zAw rfl⟩) ?_
     refine qG (.bool e15) (nU e15 (I6 t.kind)) (by cases e15 <;> first | exact gA | exact gB | exact .inl ⟨rfl, zAK (v := (I6 t.kind)) rfl zAf (B1.cell rfl)⟩) ?_
     obtain ⟨e16, he16⟩ : ∃ e, (decide ((t.kind : Int) ≠ 6)) = e := ⟨_, rfl⟩
     refine qG (.bool e15) (nU e15 (.bool e16)) (by cases e15 <;> first | exact gA | exact gB | exact .inl ⟨rfl, (zBz (k := .i64) (a := t.kind) (b := 6) rfl rfl).trans (by rw [he16]; try rfl)⟩) ?_
     refine qG (.bool e15) (nU e15 (.bool e16)) (by cases e15 <;> first | exact gA | exact gB | exact .inl ⟨rfl, zAn (v := (.bool e16)) rfl⟩) ?_
     refine qG (nU e15 (.bool e16)) (nU e15 (yU e16 (P6 b1 0))) (by cases e15 <;> cases e16 <;> first | exact gA | exact gB | exact .inl ⟨rfl, zAN (b := b1) (o := 0) (o' := 0) rfl Tryz.underlying25 rfl zAw rfl⟩) ?_
     refine qG (nU e15 (.bool e16)) (nU e15 (yU e16 (I6 t.kind))) (by cases e15 <;> cases e16 <;> first | exact gA | exact gB | exact .inl ⟨rfl, zAK (v := (I6 t.kind)) rfl zAf (B1.cell rfl)⟩) ?_
     obtain ⟨e17, he17⟩ : ∃ e, (decide ((t.kind : Int) ≠ 9)) = e := ⟨_, rfl⟩
     refine qG (nU e15 (.bool e16)) (nU e15 (yU e16 (.bool e17))) (by cases e15 <;> cases e16 <;> first | exact gA | exact gB | exact .inl ⟨rfl, (zBz (k := .i64) (a := t.kind) (b := 9) rfl rfl).trans (by rw [he17]; try rfl)⟩) ?_
     obtain ⟨e18, he18⟩ : ∃ e, (e16 && e17) = e := ⟨_, rfl⟩
     refine qG (.bool e15) (nU e15 (.bool e18)) (by cases e15 <;> first | exact gA | exact gB | exact .inl ⟨rfl, zAd (b := e16) (v := .bool e18) rfl (by rw [← he18]; cases e16 <;> rfl)⟩) ?_
     refine qG (.bool e15) (nU e15 (.bool e18)) (by cases e15 <;> first | exact gA | exact gB | exact .inl ⟨rfl, zAn (v := (.bool e18)) rfl⟩) ?_
     refine qG (nU e15 (.bool e18)) (nU e15 (yU e18 (P6 b1 3))) (by cases e15 <;> cases e18 <;> first | exact gA | exact gB | exact .inl ⟨rfl, zAN (b := b1) (o := 0) (o' := 3) rfl Tryz.underlying25 rfl zAw rfl⟩) ?_
     refine qG (nU e15 (.bool e18)) (nU e15 (yU e18 (I6 t.mn))) (by cases e15 <;> cases e18 <;> first | exact gA | exact gB | exact .inl ⟨rfl, zAK (v := (I6 t.mn)) rfl zAf (B1.cell rfl)⟩) ?_
     obtain ⟨e19, he19⟩ : ∃ e, (decide ((t.mn : Int) ≠ 0)) = e := ⟨_, rfl⟩
     refine qG (nU e15 (.bool e18)) (nU e15 (yU e18 (.bool e19))) (by cases e15 <;> cases e18 <;> first | exact gA | exact gB | exact .inl ⟨rfl, (zBz (k := .i64) (a := t.mn) (b := 0) rfl rfl).trans (by rw [he19]; try rfl)⟩) ?_
     obtain ⟨e20, he20⟩ : ∃ e, (e18 && e19) = e := ⟨_, rfl⟩
     refine qG (.bool e15) (nU e15 (.bool e20)) (by cases e15 <;> first | exact gA | exact gB | exact .inl ⟨rfl, zAd (b := e18) (v := .bool e20) rfl (by rw [← he20]; cases e18 <;> rfl)⟩) ?_
     obtain ⟨e21, he21⟩ : ∃ e, (e15 || e20) = e := ⟨_, rfl⟩
     refine qV (zAd (b := e15) (v := .bool e21) rfl (by rw [← he21]; cases e15 <;> rfl)) ?_
     refine qM (.bool e21) rfl ?_
     refine qG (.bool e21) (nU e21 (P6 b1 0)) (by cases e21 <;> first | exact gA | exact gB | exact .inl ⟨rfl, zAN (b := b1) (o := 0) (o' := 0) rfl Tryz.underlying25 rfl zAw rfl⟩) ?_
     refine qG (.bool e21) (nU e21 (I6 t.kind)) (by cases e21 <;> first | exact gA | exact gB | exact .inl ⟨rfl, zAK (v := (I6 t.kind)) rfl zAf (B1.cell rfl)⟩) ?_
     obtain ⟨e22, he22⟩ : ∃ e, (decide ((t.kind : Int) ≠ 10)) = e := ⟨_, rfl⟩
     refine qG (.bool e21) (nU e21 (.bool e22)) (by cases e21 <;> first | exact gA | exact gB | exact .inl ⟨rfl, (zBz (k := .i64) (a := t.kind) (b := 10) rfl rfl).trans (by rw [he22]; try rfl)⟩) ?_
     refine qG (.bool e21) (nU e21 (.bool e22)) (by cases e21 <;> first | exact gA | exact gB | exact .inl ⟨rfl, zAn (v := (.bool e22)) rfl⟩) ?_
     refine qG (nU e21 (.bool e22)) (nU e21 (yU e22 (P6 b1 5))) (by cases e21 <;> cases e22 <;> first | exact gA | exact gB | exact .inl ⟨rfl, zAN (b := b1) (o := 0) (o' := 5) rfl Tryz.underlying25 rfl zNq rfl⟩) ?_
     refine qG (nU e21 (.bool e22)) (nU e21 (yU e22 (.bool t.neg))) (by cases e21 <;> cases e22 <;> first | exact gA | exact gB | exact .inl ⟨rfl, zAK (v := (.bool t.neg)) rfl zHv (B1.cell rfl)⟩) ?_
     obtain ⟨e23, he23⟩ : ∃ e, (e22 && t.neg) = e := ⟨_, rfl⟩
     refine qG (.bool e21) (nU e21 (.bool e23)) (by cases e21 <;> first | exact gA | exact gB | exact .inl ⟨rfl, zAd (b := e22) (v := .bool e23) rfl (by rw [← he23]; cases e22 <;> rfl)⟩) ?_
     obtain ⟨e24, he24⟩ : ∃ e, (e21 || e23) = e := ⟨_, rfl⟩
     refine qV (zAd (b := e21) (v := .bool e24) rfl (by rw [← he24]; cases e21 <;> rfl)) ?_
     refine zAB ?_
     subst he24
     subst he23
     subst he22
     subst he21
     subst he20
     subst he19
     subst he18
     subst he17
     subst he16
     subst he15
     subst he14
     subst he13
     subst he12
     subst he11
     subst he10
     subst he9
     refine zAM (b := (((((decide ((t.kind : Int) ≠ 2)) && (decide ((0 : Int) < (t.set.length : Int)))) || ((decide ((t.kind : Int) ≠ 6)) && (decide ((t.mx : Int) ≠ 0)))) || (((decide ((t.kind : Int) ≠ 6)) && (decide ((t.kind : Int) ≠ 9))) && (decide ((t.mn : Int) ≠ 0)))) || ((decide ((t.kind : Int) ≠ 10)) && t.neg))) rfl (fun hf => ?_) (fun hf => ?_)
     ·have khf := hf
      have hfB : zCu t = false := by rw [← Bool.not_eq_true]; intro h; unfold zCu at h; generalize t.set.length = sl at h hf; cases hng : t.neg <;> simp [hng] at h hf <;> omega
      refine zAA ?_
      refine qA (I6 3) rfl ?_
      refine zAB (zAQ (zAI ?_))
      refine zAS Tryz.results106 (v := (.int .i64 3)) rfl ?_
      exact ⟨zBF (by unfold zBj; rw [if_neg (by omega), if_pos hfB]), E⟩
     ·have khf := hf
      have hfB : zCu t = true := by unfold zCu; rw [hoB]; generalize t.set.length = sl at hf; cases hng : t.neg <;> simp [hng] at hf ⊢ <;> omega
      have hN : zBj t = if t.kind = 2 then (if zBR t.set ≠ 0 then zBR t.set else if (t.set.length : Int) = 0 then 3 else 0) else if t.kind = 6 then (if t.mn < 0 ∨ t.mx < t.mn ∨ 8 < t.mx then 1 else 0) else if t.kind = 9 then (if t.mn < 0 ∨ 9 < t.mn then 1 else 0) else 0 := by unfold zBj; rw [if_neg (by omega), if_neg (by simp [hfB])]
      rw [hN]
      refine zAR (zAC (zAP (zAA ?_)))
      refine qF b1 0 0 rfl Tryz.underlying25 rfl zAw rfl ?_
      refine qV (zAK (v := (I6 t.kind)) rfl zAf (B1.cell rfl)) ?_
      refine qV (zAg (k := .i64) (a := t.kind) (b := 2) rfl rfl) ?_
      refine zAB ?_
      refine zAM (b := decide ((t.kind : Int) = 2)) rfl (fun h2 => ?_) (fun h2 => ?_)
      ·have kh2 := h2
       replace h2 := of_decide_eq_true h2
       rw [if_pos h2]
       refine zAP (zAA ?_)
       refine qF b1 0 1 rfl Tryz.underlying25 rfl zDb rfl ?_
       refine qV (zAK (v := (.slice sa t.set.length sc)) rfl zCc (B1.cell rfl)) ?_
       refine zAL rfl rfl (by decide) (zAT (vs := [(.slice sa t.set.length sc)]) Tryz.func83 nm83 bd83 rfl) (zPP _ _ t.set ((hset.ext hE).ext E)) ?_
       rintro _ w10 ⟨rfl, X10⟩
       replace B1 := X10.keep B1
       replace E := E.ext X10
       refine qA (I6 (zBR t.set)) rfl ?_
       refine zAB (zAA ?_)
       refine qM (I6 (zBR t.set)) rfl ?_
       refine qV (zBz (k := .i64) (a := zBR t.set) (b := 0) rfl rfl) ?_
       refine zAB ?_
       refine zAM (b := decide ((zBR t.set : Int) ≠ 0)) rfl (fun h3 => ?_) (fun h3 => ?_)
       ·have kh3 := h3
        replace h3 := of_decide_eq_true h3
        refine zAA ?_
        refine qM (I6 (zBR t.set)) rfl ?_
        refine qA (I6 (zBR t.set)) rfl ?_
        refine zAB (zAQ (zAI (zAI ?_)))
        refine zAS Tryz.results106 (v := (.int .i64 (zBR t.set))) rfl ?_
        exact ⟨zBF (by rw [if_pos h3]), E⟩
       ·have kh3 := h3
        replace h3 := of_decide_eq_false h3
        rw [if_neg h3]
        refine zAR (zAC (zAA ?_))
        refine qF b1 0 1 rfl Tryz.underlying25 rfl zDb rfl ?_
        refine qV (zAK (v := (.slice sa t.set.length sc)) rfl zCc (B1.cell rfl)) ?_
        refine qV (zAV (ad := sa) (n := t.set.length) (cap := sc) Tryz.underlying22 rfl) ?_
        refine qV (zAg (k := .i64) (a := (t.set.length : Int)) (b := 0) rfl rfl) ?_
        refine zAB ?_
        refine zAM (b := decide (((t.set.length : Int) : Int) = 0)) rfl (fun h4 => ?_) (fun h4 => ?_)
        ·have kh4 := h4
         replace h4 := of_decide_eq_true h4
         refine zAA ?_
         refine qA (I6 3) rfl ?_
         refine zAB (zAQ (zAI ?_))
         refine zAS Tryz.results106 (v := (.int .i64 3)) rfl ?_
         exact ⟨zBF (by rw [if_pos h4]), E⟩
        ·have kh4 := h4
         replace h4 := of_decide_eq_false h4
         rw [if_neg h4]
         refine zAR (zAC (zAP (zAA ?_)))
         refine qF b1 0 0 rfl Tryz.underlying25 rfl zAw rfl ?_
         refine qV (zAK (v := (I6 t.kind)) rfl zAf (B1.cell rfl)) ?_
         obtain ⟨e29, he29⟩ : ∃ e, (decide ((t.kind : Int) = 6)) = e := ⟨_, rfl⟩
         refine qV ((zAg (k := .i64) (a := t.kind) (b := 6) rfl rfl).trans (by rw [he29]; try rfl)) ?_
         refine qM (.bool e29) rfl ?_
         refine qG (.bool e29) (yU e29 (P6 b1 3)) (by cases e29 <;> first | exact gA | exact gB | exact .inl ⟨rfl, zAN (b := b1) (o := 0) (o' := 3) rfl Tryz.underlying25 rfl zAw rfl⟩) ?_
         refine qG (.bool e29) (yU e29 (I6 t.mn)) (by cases e29 <;> first | exact gA | exact gB | exact .inl ⟨rfl, zAK (v := (I6 t.mn)) rfl zAf (B1.cell rfl)⟩) ?_
         obtain ⟨e30, he30⟩ : ∃ e, (decide ((t.mn : Int) < 0)) = e := ⟨_, rfl⟩
         refine qG (.bool e29) (yU e29 (.bool e30)) (by cases e29 <;> first | exact gA | exact gB | exact .inl ⟨rfl, (zBS (k := .i64) (a := t.mn) (b := 0) rfl rfl).trans (by rw [he30]; try rfl)⟩) ?_
         refine qG (.bool e29) (yU e29 (.bool e30)) (by cases e29 <;> first | exact gA | exact gB | exact .inl ⟨rfl, zAn (v := (.bool e30)) rfl⟩) ?_
         refine qG (yU e29 (.bool e30)) (yU e29 (nU e30 (P6 b1 4))) (by cases e29 <;> cases e30 <;> first | exact gA | exact gB | exact .inl ⟨rfl, zAN (b := b1) (o := 0) (o' := 4) rfl Tryz.underlying25 rfl zAw rfl⟩) ?_
         refine qG (yU e29 (.bool e30)) (yU e29 (nU e30 (I6 t.mx))) (by cases e29 <;> cases e30 <;> first | exact gA | exact gB | exact .inl ⟨rfl, zAK (v := (I6 t.mx)) rfl zAf (B1.cell rfl)⟩) ?_
         obtain ⟨e31, he31⟩ : ∃ e, (decide ((8 : Int) < t.mx)) = e := ⟨_, rfl⟩
         refine qG (yU e29 (.bool e30)) (yU e29 (nU e30 (.bool e31))) (by cases e29 <;> cases e30 <;> first | exact gA | exact gB | exact .inl ⟨rfl, (zCM (k := .i64) (a := t.mx) (b := 8) rfl rfl).trans (by rw [he31]; try rfl)⟩) ?_
         obtain ⟨e32, he32⟩ : ∃ e, (e30 || e31) = e := ⟨_, rfl⟩
         refine qG (.bool e29) (yU e29 (.bool e32)) (by cases e29 <;> first | exact gA | exact gB | exact .inl ⟨rfl, zAd (b := e30) (v := .bool e32) rfl (by rw [← he32]; cases e30 <;> rfl)⟩) ?_
         refine qG (.bool e29) (yU e29 (.bool e32)) (by cases e29 <;> first | exact gA | exact gB | exact .inl ⟨rfl, zAn (v := (.bool e32)) rfl⟩) ?_
         refine qG (yU e29 (.bool e32)) (yU e29 (nU e32 (P6 b1 3))) (by cases e29 <;> cases e32 <;> first | exact gA | exact gB | exact .inl ⟨rfl, zAN (b := b1) (o := 0) (o' := 3) rfl Tryz.underlying25 rfl zAw rfl⟩) ?_
         refine qG (yU e29 (.bool e32)) (yU e29 (nU e32 (I6 t.mn))) (by cases e29 <;> cases e32 <;> first | exact gA | exact gB | exact .inl ⟨rfl, zAK (v := (I6 t.mn)) rfl zAf (B1.cell rfl)⟩) ?_
         refine qG (yU e29 (.bool e32)) (yU e29 (nU e32 (P6 b1 4))) (by cases e29 <;> cases e32 <;> first | exact gA | exact gB | exact .inl ⟨rfl, zAN (b := b1) (o := 0) (o' := 4) rfl Tryz.underlying25 rfl zAw rfl⟩) ?_
         refine qG (yU e29 (.bool e32)) (yU e29 (nU e32 (I6 t.mx))) (by cases e29 <;> cases e32 <;> first | exact gA | exact gB | exact .inl ⟨rfl, zAK (v := (I6 t.mx)) rfl zAf (B1.cell rfl)⟩) ?_
         obtain ⟨e33, he33⟩ : ∃ e, (decide ((t.mx : Int) < t.mn)) = e := ⟨_, rfl⟩
         refine qG (yU e29 (.bool e32)) (yU e29 (nU e32 (.bool e33))) (by cases e29 <;> cases e32 <;> first | exact gA | exact gB | exact .inl ⟨rfl, (zCM (k := .i64) (a := t.mn) (b := t.mx) rfl rfl).trans (by rw [he33]; try rfl)⟩) ?_
         obtain ⟨e34, he34⟩ : ∃ e, (e32 || e33) = e := ⟨_, rfl⟩
         refine qG (.bool e29) (yU e29 (.bool e34)) (by cases e29 <;> first | exact gA | exact gB | exact .inl ⟨rfl, zAd (b := e32) (v := .bool e34) rfl (by rw [← he34]; cases e32 <;> rfl)⟩) ?_
         obtain ⟨e35, he35⟩ : ∃ e, (e29 && e34) = e := ⟨_, rfl⟩
         refine qV (zAd (b := e29) (v := .bool e35) rfl (by rw [← he35]; cases e29 <;> rfl)) ?_
         refine qM (.bool e35) rfl ?_
         refine qG (.bool e35) (nU e35 (P6 b1 0)) (by cases e35 <;> first | exact gA | exact gB | exact .inl ⟨rfl, zAN (b := b1) (o := 0) (o' := 0) rfl Tryz.underlying25 rfl zAw rfl⟩) ?_
         refine qG (.bool e35) (nU e35 (I6 t.kind)) (by cases e35 <;> first | exact gA | exact gB | exact .inl ⟨rfl, zAK (v := (I6 t.kind)) rfl zAf (B1.cell rfl)⟩) ?_
         obtain ⟨e36, he36⟩ : ∃ e, (decide ((t.kind : Int) = 9)) = e := ⟨_, rfl⟩
         refine qG (.bool e35) (nU e35 (.bool e36)) (by cases e35 <;> first | exact gA | exact gB | exact .inl ⟨rfl, (zAg (k := .i64) (a := t.kind) (b := 9) rfl rfl).trans (by rw [he36]; try rfl)⟩) ?_
         refine qG (.bool e35) (nU e35 (.bool e36)) (by cases e35 <;> first | exact gA | exact gB | exact .inl ⟨rfl, zAn (v := (.bool e36)) rfl⟩) ?_
         refine qG (nU e35 (.bool e36)) (nU e35 (yU e36 (P6 b1 3))) (by cases e35 <;> cases e36 <;> first | exact gA | exact gB | exact .inl ⟨rfl, zAN (b := b1) (o := 0) (o' := 3) rfl Tryz.underlying25 rfl zAw rfl⟩) ?_
         refine qG (nU e35 (.bool e36)) (nU e35 (yU e36 (I6 t.mn))) (by cases e35 <;> cases e36 <;> first | exact gA | exact gB | exact .inl ⟨rfl, zAK (v := (I6 t.mn)) rfl zAf (B1.cell rfl)⟩) ?_
         obtain ⟨e37, he37⟩ : ∃ e, (decide ((t.mn : Int) < 0)) = e := ⟨_, rfl⟩
         refine qG (nU e35 (.bool e36)) (nU e35 (yU e36 (.bool e37))) (by cases e35 <;> cases e36 <;> first | exact gA | exact gB | exact .inl ⟨rfl, (zBS (k := .i64) (a := t.mn) (b := 0) rfl rfl).trans (by rw [he37]; try rfl)⟩) ?_
         refine qG (nU e35 (.bool e36)) (nU e35 (yU e36 (.bool e37))) (by cases e35 <;> cases e36 <;> first | exact gA | exact gB | exact .inl ⟨rfl, zAn (v := (.bool e37)) rfl⟩) ?_
         refine qG (nU e35 (yU e36 (.bool e37))) (nU e35 (yU e36 (nU e37 (P6 b1 3)))) (by cases e35 <;> cases e36 <;> cases e37 <;> first | exact gA | exact gB | exact .inl ⟨rfl, zAN (b := b1) (o := 0) (o' := 3) rfl Tryz.underlying25 rfl zAw rfl⟩) ?_
         refine qG (nU e35 (yU e36 (.bool e37))) (nU e35 (yU e36 (nU e37 (I6 t.mn)))) (by cases e35 <;> cases e36 <;> cases e37 <;> first | exact gA | exact gB | exact .inl ⟨rfl, zAK (v := (I6 t.mn)) rfl zAf (B1.cell rfl)⟩) ?_
         obtain ⟨e38, he38⟩ : ∃ e, (decide ((9 : Int) < t.mn)) = e := ⟨_, rfl⟩
         refine qG (nU e35 (yU e36 (.bool e37))) (nU e35 (yU e36 (nU e37 (.bool e38)))) (by cases e35 <;> cases e36 <;> cases e37 <;> first | exact gA | exact gB | exact .inl ⟨rfl, (zCM (k := .i64) (a := t.mn) (b := 9) rfl rfl).trans (by rw [he38]; try rfl)⟩) ?_
         obtain ⟨e39, he39⟩ : ∃ e, (e37 || e38) = e := ⟨_, rfl⟩
         refine qG (nU e35 (.bool e36)) (nU e35 (yU e36 (.bool e39))) (by cases e35 <;> cases e36 <;> first | exact gA | exact gB | exact .inl ⟨rfl, zAd (b := e37) (v := .bool e39) rfl (by rw [← he39]; cases e37 <;> rfl)⟩) ?_
         obtain ⟨e40, he40⟩ : ∃ e, (e36 && e39) = e := ⟨_, rfl⟩
         refine qG (.bool e35) (nU e35 (.bool e40)) (by cases e35 <;> first | exact gA | exact gB | exact .inl ⟨rfl, zAd (b := e36) (v := .bool e40) rfl (by rw [← he40]; cases e36 <;> rfl)⟩) ?_
         obtain ⟨e41, he41⟩ : ∃ e, (e35 || e40) = e := ⟨_, rfl⟩
         refine qV (zAd (b := e35) (v := .bool e41) rfl (by rw [← he41]; cases e35 <;> rfl)) ?_
         refine zAB ?_
         subst he41
         subst he40
         subst he39
         subst he38
         subst he37
         subst he36
         subst he35
         subst he34
         subst he33
         subst he32
         subst he31
         subst he30
         subst he29
         have hc42 : ((((decide ((t.kind : Int) = 6)) && (((decide ((t.mn : Int) < 0)) || (decide ((8 : Int) < t.mx))) || (decide ((t.mx : Int) < t.mn)))) || ((decide ((t.kind : Int) = 9)) && ((decide ((t.mn : Int) < 0)) || (decide ((9 : Int) < t.mn)))))) = false := by simp [h2]
         refine zAX (congrArg Value.bool hc42) ?_
         refine zAR (zAC (zAA ?_))
         refine qA (I6 0) rfl ?_
         refine zAB (zAQ ?_)
         refine zAS Tryz.results106 (v := (.int .i64 0)) rfl ?_
         exact ⟨rfl, E⟩
      ·have kh2 := h2
       replace h2 := of_decide_eq_false h2
       rw [if_neg h2]
       refine zAR (zAC (zAP (zAA ?_)))
       refine qF b1 0 0 rfl Tryz.underlying25 rfl zAw rfl ?_
       refine qV (zAK (v := (I6 t.kind)) rfl zAf (B1.cell rfl)) ?_
       obtain ⟨e43, he43⟩ : ∃ e, (decide ((t.kind : Int) = 6)) = e := ⟨_, rfl⟩
       refine qV ((zAg (k := .i64) (a := t.kind) (b := 6) rfl rfl).trans (by rw [he43]; try rfl)) ?_
       refine qM (.bool e43) rfl ?_
       refine qG (.bool e43) (yU e43 (P6 b1 3)) (by cases e43 <;> first | exact gA | exact gB | exact .inl ⟨rfl, zAN (b := b1) (o := 0) (o' := 3) rfl Tryz.underlying25 rfl zAw rfl⟩) ?_
       refine qG (.bool e43) (yU e43 (I6 t.mn)) (by cases e43 <;> first | exact gA | exact gB | exact .inl ⟨rfl, zAK (v := (I6 t.mn)) rfl zAf (B1.cell rfl)⟩) ?_
       obtain ⟨e44, he44⟩ : ∃ e, (decide ((t.mn : Int) < 0)) = e := ⟨_, rfl⟩
       refine qG (.bool e43) (yU e43 (.bool e44)) (by cases e43 <;> first | exact gA | exact gB | exact .inl ⟨rfl, (zBS (k := .i64) (a := t.mn) (b := 0) rfl rfl).trans (by rw [he44]; try rfl)⟩) ?_
       refine qG (.bool e43) (yU e43 (.bool e44)) (by cases e43 <;> first | exact gA | exact gB | exact .inl ⟨rfl, zAn (v := (.bool e44)) rfl⟩) ?_
       refine qG (yU e43 (.bool e44)) (yU e43 (nU e44 (P6 b1 4))) (by cases e43 <;> cases e44 <;> first | exact gA | exact gB | exact .inl ⟨rfl, zAN (b := b1) (o := 0) (o' := 4) rfl Tryz.underlying25 rfl zAw rfl⟩) ?_
       refine qG (yU e43 (.bool e44)) (yU e43 (nU e44 (I6 t.mx))) (by cases e43 <;> cases e44 <;> first | exact gA | exact gB | exact .inl ⟨rfl, zAK (v := (I6 t.mx)) rfl zAf (B1.cell rfl)⟩) ?_
       obtain ⟨e45, he45⟩ : ∃ e, (decide ((8 : Int) < t.mx)) = e := ⟨_, rfl⟩
       refine qG (yU e43 (.bool e44)) (yU e43 (nU e44 (.bool e45))) (by cases e43 <;> cases e44 <;> first | exact gA | exact gB | exact .inl ⟨rfl, (zCM (k := .i64) (a := t.mx) (b := 8) rfl rfl).trans (by rw [he45]; try rfl)⟩) ?_
       obtain ⟨e46, he46⟩ : ∃ e, (e44 || e45) = e := ⟨_, rfl⟩
       refine qG (.bool e43) (yU e43 (.bool e46)) (by cases e43 <;> first | exact gA | exact gB | exact .inl ⟨rfl, zAd (b := e44) (v := .bool e46) rfl (by rw [← he46]; cases e44 <;> rfl)⟩) ?_
       refine qG (.bool e43) (yU e43 (.bool e46)) (by cases e43 <;> first | exact gA | exact gB | exact .inl ⟨rfl, zAn (v := (.bool e46)) rfl⟩) ?_
       refine qG (yU e43 (.bool e46)) (yU e43 (nU e46 (P6 b1 3))) (by cases e43 <;> cases e46 <;> first | exact gA | exact gB | exact .inl ⟨rfl, zAN (b := b1) (o := 0) (o' := 3) rfl Tryz.underlying25 rfl zAw rfl⟩) ?_
       refine qG (yU e43 (.bool e46)) (yU e43 (nU e46 (I6 t.mn))) (by cases e43 <;> cases e46 <;> first | exact gA | exact gB | exact .inl ⟨rfl, zAK (v := (I6 t.mn)) rfl zAf (B1.cell rfl)⟩) ?_
       refine qG (yU e43 (.bool e46)) (yU e43 (nU e46 (P6 b1 4))) (by cases e43 <;> cases e46 <;> first | exact gA | exact gB | exact .inl ⟨rfl, zAN (b := b1) (o := 0) (o' := 4) rfl Tryz.underlying25 rfl zAw rfl⟩) ?_
       refine qG (yU e43 (.bool e46)) (yU e43 (nU e46 (I6 t.mx))) (by cases e43 <;> cases e46 <;> first | exact gA | exact gB | exact .inl ⟨rfl, zAK (v := (I6 t.mx)) rfl zAf (B1.cell rfl)⟩) ?_
       obtain ⟨e47, he47⟩ : ∃ e, (decide ((t.mx : Int) < t.mn)) = e := ⟨_, rfl⟩
       refine qG (yU e43 (.bool e46)) (yU e43 (nU e46 (.bool e47))) (by cases e43 <;> cases e46 <;> first | exact gA | exact gB | exact .inl ⟨rfl, (zCM (k := .i64) (a := t.mn) (b := t.mx) rfl rfl).trans (by rw [he47]; try rfl)⟩) ?_
       obtain ⟨e48, he48⟩ : ∃ e, (e46 || e47) = e := ⟨_, rfl⟩
       refine qG (.bool e43) (yU e43 (.bool e48)) (by cases e43 <;> first | exact gA | exact gB | exact .inl ⟨rfl, zAd (b := e46) (v := .bool e48) rfl (by rw [← he48]; cases e46 <;> rfl)⟩) ?_
       obtain ⟨e49, he49⟩ : ∃ e, (e43 && e48) = e := ⟨_, rfl⟩
       refine qV (zAd (b := e43) (v := .bool e49) rfl (by rw [← he49]; cases e43 <;> rfl)) ?_
       refine qM (.bool e49) rfl ?_
       refine qG (.bool e49) (nU e49 (P6 b1 0)) (by cases e49 <;> first | exact gA | exact gB | exact .inl ⟨rfl, zAN (b := b1) (o := 0) (o' := 0) rfl Tryz.underlying25 rfl zAw rfl⟩) ?_
       refine qG (.bool e49) (nU e49 (I6 t.kind)) (by cases e49 <;> first | exact gA | exact gB | exact .inl ⟨rfl, zAK (v := (I6 t.kind)) rfl zAf (B1.cell rfl)⟩) ?_
       obtain ⟨e50, he50⟩ : ∃ e, (decide ((t.kind : Int) = 9)) = e := ⟨_, rfl⟩
       refine qG (.bool e49) (nU e49 (.bool e50)) (by cases e49 <;> first | exact gA | exact gB | exact .inl ⟨rfl, (zAg (k := .i64) (a := t.kind) (b := 9) rfl rfl).trans (by rw [he50]; try rfl)⟩) ?_
       refine qG (.bool e49) (nU e49 (.bool e50)) (by cases e49 <;> first | exact gA | exact gB | exact .inl ⟨rfl, zAn (v := (.bool e50)) rfl⟩) ?_
       refine qG (nU e49 (.bool e50)) (nU e49 (yU e50 (P6 b1 3))) (by cases e49 <;> cases e50 <;> first | exact gA | exact gB | exact .inl ⟨rfl, zAN (b := b1) (o := 0) (o' := 3) rfl Tryz.underlying25 rfl zAw rfl⟩) ?_
       refine qG (nU e49 (.bool e50)) (nU e49 (yU e50 (I6 t.mn))) (by cases e49 <;> cases e50 <;> first | exact gA | exact gB | exact .inl ⟨rfl, zAK (v := (I6 t.mn)) rfl zAf (B1.cell rfl)⟩) ?_
       obtain ⟨e51, he51⟩ : ∃ e, (decide ((t.mn : Int) < 0)) = e := ⟨_, rfl⟩
       refine qG (nU e49 (.bool e50)) (nU e49 (yU e50 (.bool e51))) (by cases e49 <;> cases e50 <;> first | exact gA | exact gB | exact .inl ⟨rfl, (zBS (k := .i64) (a := t.mn) (b := 0) rfl rfl).trans (by rw [he51]; try rfl)⟩) ?_
       refine qG (nU e49 (.bool e50)) (nU e49 (yU e50 (.bool e51))) (by cases e49 <;> cases e50 <;> first | exact gA | exact gB | exact .inl ⟨rfl, zAn (v := (.bool e51)) rfl⟩) ?_
       refine qG (nU e49 (yU e50 (.bool e51))) (nU e49 (yU e50 (nU e51 (P6 b1 3)))) (by cases e49 <;> cases e50 <;> cases e51 <;> first | exact gA | exact gB | exact .inl ⟨rfl, zAN (b := b1) (o := 0) (o' := 3) rfl Tryz.underlying25 rfl zAw rfl⟩) ?_
       refine qG (nU e49 (yU e50 (.bool e51))) (nU e49 (yU e50 (nU e51 (I6 t.mn)))) (by cases e49 <;> cases e50 <;> cases e51 <;> first | exact gA | exact gB | exact .inl ⟨rfl, zAK (v := (I6 t.mn)) rfl zAf (B1.cell rfl)⟩) ?_
       obtain ⟨e52, he52⟩ : ∃ e, (decide ((9 : Int) < t.mn)) = e := ⟨_, rfl⟩
       refine qG (nU e49 (yU e50 (.bool e51))) (nU e49 (yU e50 (nU e51 (.bool e52)))) (by cases e49 <;> cases e50 <;> cases e51 <;> first | exact gA | exact gB | exact .inl ⟨rfl, (zCM (k := .i64) (a := t.mn) (b := 9) rfl rfl).trans (by rw [he52]; try rfl)⟩) ?_
       obtain ⟨e53, he53⟩ : ∃ e, (e51 || e52) = e := ⟨_, rfl⟩
       refine qG (nU e49 (.bool e50)) (nU e49 (yU e50 (.bool e53))) (by cases e49 <;> cases e50 <;> first | exact gA | exact gB | exact .inl ⟨rfl, zAd (b := e51) (v := .bool e53) rfl (by rw [← he53]; cases e51 <;> rfl)⟩) ?_
       obtain ⟨e54, he54⟩ : ∃ e, (e50 && e53) = e := ⟨_, rfl⟩
       refine qG (.bool e49) (nU e49 (.bool e54)) (by cases e49 <;> first | exact gA | exact gB | exact .inl ⟨rfl, zAd (b := e50) (v := .bool e54) rfl (by rw [← he54]; cases e50 <;> rfl)⟩) ?_
       obtain ⟨e55, he55⟩ : ∃ e, (e49 || e54) = e := ⟨_, rfl⟩
       refine qV (zAd (b := e49) (v := .bool e55) rfl (by rw [← he55]; cases e49 <;> rfl)) ?_
       refine zAB ?_
       subst he55
       subst he54
       subst he53
       subst he52
       subst he51
       subst he50
       subst he49
       subst he48
       subst he47
       subst he46
       subst he45
       subst he44
       subst he43
       refine zAM (b := (((decide ((t.kind : Int) = 6)) && (((decide ((t.mn : Int) < 0)) || (decide ((8 : Int) < t.mx))) || (decide ((t.mx : Int) < t.mn)))) || ((decide ((t.kind : Int) = 9)) && ((decide ((t.mn : Int) < 0)) || (decide ((9 : Int) < t.mn)))))) rfl (fun h6 => ?_) (fun h6 => ?_)
       ·have kh6 := h6
        simp at h6
        refine zAA ?_
        refine qA (I6 1) rfl ?_
        refine zAB (zAQ (zAI ?_))
        refine zAS Tryz.results106 (v := (.int .i64 1)) rfl ?_
        exact ⟨zBF (by by_cases h66 : t.kind = 6; rw [if_pos h66, if_pos (by omega)]; rw [if_neg h66, if_pos (by omega), if_pos (by omega)]), E⟩
       ·have kh6 := h6
        simp at h6
        refine zAR (zAC (zAA ?_))
        refine qA (I6 0) rfl ?_
        refine zAB (zAQ ?_)
        refine zAS Tryz.results106 (v := (.int .i64 0)) rfl ?_
        exact ⟨zBF (by by_cases h66 : t.kind = 6; rw [if_pos h66, if_neg (by omega)]; rw [if_neg h66]; by_cases h9 : t.kind = 9; rw [if_pos h9, if_neg (by omega)]; rw [if_neg h9]), E⟩
   ·have khg7 := hg7
    replace khg7 := of_decide_eq_false khg7
    have hoB : okB t.kind t.args.length = true := by rw [zFJ (by omega) (by omega)]; simp; omega
    refine zAD (oj := _) rfl rfl (by decide) (v := .bool false) (congrArg Value.bool hg7) (Or.inl rfl) ?_
    refine zAD (oj := _) rfl rfl (by decide) (v := .bool false) (congrArg Value.bool hg7) (Or.inl rfl) ?_
    refine zAD (oj := _) rfl rfl (by decide) (v := .bool false) (congrArg Value.bool hg7) (Or.inl rfl) ?_
    refine zAD (oj := _) rfl rfl (by decide) (v := .bool false) (congrArg Value.bool hg7) (Or.inl rfl) ?_
    refine zAD (oj := _) rfl rfl (by decide) (v := .bool false) (congrArg Value.bool hg7) (Or.inl rfl) ?_
    refine zAF (oj := _) rfl rfl (by decide) (congrArg Value.bool hg6) ?_
    refine qV (zAd (b := decide ((zDJ t.kind : Int) < 2)) (v := (.bool false)) rfl (by rw [hg7]; rfl)) ?_
    refine qV (zAd (b := decide (((t.args.length : Int) : Int) < zDJ t.kind)) (v := (.bool false)) rfl (by rw [hg6]; rfl)) ?_
    refine zAB ?_
    refine zAX rfl ?_
    refine zAR (zAC (zAP (zAA ?_)))
    refine qF b1 0 0 rfl Tryz.underlying25 rfl zAw rfl ?_
    refine qV (zAK (v := (I6 t.kind)) rfl zAf (B1.cell rfl)) ?_
    obtain ⟨e57, he57⟩ : ∃ e, (decide ((t.kind : Int) ≠ 2)) = e := ⟨_, rfl⟩
    refine qV ((zBz (k := .i64) (a := t.kind) (b := 2) rfl rfl).trans (by rw [he57]; try rfl)) ?_
    refine qM (.bool e57) rfl ?_
    refine qG (.bool e57) (yU e57 (P6 b1 1)) (by cases e57 <;> first | exact gA | exact gB | exact .inl ⟨rfl, zAN (b := b1) (o := 0) (o' := 1) rfl Tryz.underlying25 rfl zDb rfl⟩) ?_
    refine qG (.bool e57) (yU e57 (.slice sa t.set.length sc)) (by cases e57 <;> first | exact gA | exact gB | exact .inl ⟨rfl, zAK (v := (.slice sa t.set.length sc)) rfl zCc (B1.cell rfl)⟩) ?_
    refine qG (.bool e57) (yU e57 (I6 (t.set.length : Int))) (by cases e57 <;> first | exact gA | exact gB | exact .inl ⟨rfl, zAV (ad := sa) (n := t.set.length) (cap := sc) Tryz.underlying22 rfl⟩) ?_
    obtain ⟨e58, he58⟩ : ∃ e, (decide ((0 : Int) < ((t.set.length : Nat) : Int))) = e := ⟨_, rfl⟩
    refine qG (.bool e57) (yU e57 (.bool e58)) (by cases e57 <;> first | exact gA | exact gB | exact .inl ⟨rfl, (zCM (k := .i64) (a := (t.set.length : Int)) (b := 0) rfl rfl).trans (by rw [he58]; try rfl)⟩) ?_
    obtain ⟨e59, he59⟩ : ∃ e, (e57 && e58) = e := ⟨_, rfl⟩
    refine qV (zAd (b := e57) (v := .bool e59) rfl (by rw [← he59]; cases e57 <;> rfl)) ?_
    refine qM (.bool e59) rfl ?_
    refine qG (.bool e59) (nU e59 (P6 b1 0)) (by cases e59 <;> first | exact gA | exact gB | exact .inl ⟨rfl, zAN (b := b1) (o := 0) (o' := 0) rfl Tryz.underlying25 rfl zAw rfl⟩) ?_
    refine qG (.bool e59) (nU e59 (I6 t.kind)) (by cases e59 <;> first | exact gA | exact gB | exact .inl ⟨rfl, zAK (v := (I6 t.kind)) rfl zAf (B1.cell rfl)⟩) ?_
    obtain ⟨e60, he60⟩ : ∃ e, (decide ((t.kind : Int) ≠ 6)) = e := ⟨_, rfl⟩
    refine qG (.bool e59) (nU e59 (.bool e60)) (by cases e59 <;> first | exact gA | exact gB | exact .inl ⟨rfl, (zBz (k := .i64) (a := t.kind) (b := 6) rfl rfl).trans (by rw [he60]; try rfl)⟩) ?_
    refine qG (.bool e59) (nU e59 (.bool e60)) (by cases e59 <;> first | exact gA | exact gB | exact .inl ⟨rfl, zAn (v := (.bool e60)) rfl⟩) ?_
    refine qG (nU e59 (.bool e60)) (nU e59 (yU e60 (P6 b1 4))) (by cases e59 <;> cases e60 <;> first | exact gA | exact gB | exact .inl ⟨rfl, zAN (b := b1) (o := 0) (o' := 4) rfl Tryz.underlying25 rfl zAw rfl⟩) ?_
    refine qG (nU e59 (.bool e60)) (nU e59 (yU e60 (I6 t.mx))) (by cases e59 <;> cases e60 <;> first | exact gA | exact gB | exact .inl ⟨rfl, zAK (v := (I6 t.mx)) rfl zAf (B1.cell rfl)⟩) ?_
    obtain ⟨e61, he61⟩ : ∃ e, (decide ((t.mx : Int) ≠ 0)) = e := ⟨_, rfl⟩
    refine qG (nU e59 (.bool e60)) (nU e59 (yU e60 (.bool e61))) (by cases e59 <;> cases e60 <;> first | exact gA | exact gB | exact .inl ⟨rfl, (zBz (k := .i64) (a := t.mx) (b := 0) rfl rfl).trans (by rw [he61]; try rfl)⟩) ?_
    obtain ⟨e62, he62⟩ : ∃ e, (e60 && e61) = e := ⟨_, rfl⟩
    refine qG (.bool e59) (nU e59 (.bool e62)) (by cases e59 <;> first | exact gA | exact gB | exact .inl ⟨rfl, zAd (b := e60) (v := .bool e62) rfl (by rw [← he62]; cases e60 <;> rfl)⟩) ?_
    obtain ⟨e63, he63⟩ : ∃ e, (e59 || e62) = e := ⟨_, rfl⟩
    refine qV (zAd (b := e59) (v := .bool e63) rfl (by rw [← he63]; cases e59 <;> rfl)) ?_
    refine qM (.bool e63) rfl ?_
    refine qG (.bool e63) (nU e63 (P6 b1 0)) (by cases e63 <;> first | exact gA | exact gB | exact .inl ⟨rfl, zAN (b := b1) (o := 0) (o' := 0) rfl Tryz.underlying25 rfl zAw rfl⟩) ?_
    refine qG (.bool e63) (nU e63 (I6 t.kind)) (by cases e63 <;> first | exact gA | exact gB | exact .inl ⟨rfl, zAK (v := (I6 t.kind)) rfl zAf (B1.cell rfl)⟩) ?_
    obtain ⟨e64, he64⟩ : ∃ e, (decide ((t.kind : Int) ≠ 6)) = e := ⟨_, rfl⟩
    refine qG (.bool e63) (nU e63 (.bool e64)) (by cases e63 <;> first | exact gA | exact gB | exact .inl ⟨rfl, (zBz (k := .i64) (a := t.kind) (b := 6) rfl rfl).trans (by rw [he64]; try rfl)⟩) ?_
    refine qG (.bool e63) (nU e63 (.bool e64)) (by cases e63 <;> first | exact gA | exact gB | exact .inl ⟨rfl, zAn (v := (.bool e64)) rfl⟩) ?_
    refine qG (nU e63 (.bool e64)) (nU e63 (yU e64 (P6 b1 0))) (by cases e63 <;> cases e64 <;> first | exact gA | exact gB | exact .inl ⟨rfl, zAN (b := b1) (o := 0) (o' := 0) rfl Tryz.underlying25 rfl zAw rfl⟩) ?_
    refine qG (nU e63 (.bool e64)) (nU e63 (yU e64 (I6 t.kind))) (by cases e63 <;> cases e64 <;> first | exact gA | exact gB | exact .inl ⟨rfl, zAK (v := (I6 t.kind)) rfl zAf (B1.cell rfl)⟩) ?_
    obtain ⟨e65, he65⟩ : ∃ e, (decide ((t.kind : Int) ≠ 9)) = e := ⟨_, rfl⟩
    refine qG (nU e63 (.bool e64)) (nU e63 (yU e64 (.bool e65))) (by cases e63 <;> cases e64 <;> first | exact gA | exact gB | exact .inl ⟨rfl, (zBz (k := .i64) (a := t.kind) (b := 9) rfl rfl).trans (by rw [he65]; try rfl)⟩) ?_
    obtain ⟨e66, he66⟩ : ∃ e, (e64 && e65) = e := ⟨_, rfl⟩
    refine qG (.bool e63) (nU e63 (.bool e66)) (by cases e63 <;> first | exact gA | exact gB | exact .inl ⟨rfl, zAd (b := e64) (v := .bool e66) rfl (by rw [← he66]; cases e64 <;> rfl)⟩) ?_
    refine qG (.bool e63) (nU e63 (.bool e66)) (by cases e63 <;> first | exact gA | exact gB | exact .inl ⟨rfl, zAn (v := (.bool e66)) rfl⟩) ?_
    refine qG (nU e63 (.bool e66)) (nU e63 (yU e66 (P6 b1 3))) (by cases e63 <;> cases e66 <;> first | exact gA | exact gB | exact .inl ⟨rfl, zAN (b := b1) (o := 0) (o' := 3) rfl Tryz.underlying25 rfl zAw rfl⟩) ?_
    refine qG (nU e63 (.bool e66)) (nU e63 (yU e66 (I6 t.mn))) (by cases e63 <;> cases e66 <;> first | exact gA | exact gB | exact .inl ⟨rfl, zAK (v := (I6 t.mn)) rfl zAf (B1.cell rfl)⟩) ?_
    obtain ⟨e67, he67⟩ : ∃ e, (decide ((t.mn : Int) ≠ 0)) = e := ⟨_, rfl⟩
    refine qG (nU e63 (.bool e66)) (nU e63 (yU e66 (.bool e67))) (by cases e63 <;> cases e66 <;> first | exact gA | exact gB | exact .inl ⟨rfl, (zBz (k := .i64) (a := t.mn) (b := 0) rfl rfl).trans (by rw [he67]; try rfl)⟩) ?_
    obtain ⟨e68, he68⟩ : ∃ e, (e66 && e67) = e := ⟨_, rfl⟩
    refine qG (.bool e63) (nU e63 (.bool e68)) (by cases e63 <;> first | exact gA | exact gB | exact .inl ⟨rfl, zAd (b := e66) (v := .bool e68) rfl (by rw [← he68]; cases e66 <;> rfl)⟩) ?_
    obtain ⟨e69, he69⟩ : ∃ e, (e63 || e68) = e := ⟨_, rfl⟩
    refine qV (zAd (b := e63) (v := .bool e69) rfl (by rw [← he69]; cases e63 <;> rfl)) ?_
    refine qM (.bool e69) rfl ?_
    refine qG (.bool e69) (nU e69 (P6 b1 0)) (by cases e69 <;> first | exact gA | exact gB | exact .inl ⟨rfl, zAN (b := b1) (o := 0) (o' := 0) rfl Tryz.underlying25 rfl zAw rfl⟩) ?_
    refine qG (.bool e69) (nU e69 (I6 t.kind)) (by cases e69 <;> first | exact gA | exact gB | exact .inl ⟨rfl, zAK (v := (I6 t.kind)) rfl zAf (B1.cell rfl)⟩) ?_
    obtain ⟨e70, he70⟩ : ∃ e, (decide ((t.kind : Int) ≠ 10)) = e := ⟨_, rfl⟩
    refine qG (.bool e69) (nU e69 (.bool e70)) (by cases e69 <;> first | exact gA | exact gB | exact .inl ⟨rfl, (zBz (k := .i64) (a := t.kind) (b := 10) rfl rfl).trans (by rw [he70]; try rfl)⟩) ?_
    refine qG (.bool e69) (nU e69 (.bool e70)) (by cases e69 <;> first | exact gA | exact gB | exact .inl ⟨rfl, zAn (v := (.bool e70)) rfl⟩) ?_
    refine qG (nU e69 (.bool e70)) (nU e69 (yU e70 (P6 b1 5))) (by cases e69 <;> cases e70 <;> first | exact gA | exact gB | exact .inl ⟨rfl, zAN (b := b1) (o := 0) (o' := 5) rfl Tryz.underlying25 rfl zNq rfl⟩) ?_
    refine qG (nU e69 (.bool e70)) (nU e69 (yU e70 (.bool t.neg))) (by cases e69 <;> cases e70 <;> first | exact gA | exact gB | exact .inl ⟨rfl, zAK (v := (.bool t.neg)) rfl zHv (B1.cell rfl)⟩) ?_
    obtain ⟨e71, he71⟩ : ∃ e, (e70 && t.neg) = e := ⟨_, rfl⟩
    refine qG (.bool e69) (nU e69 (.bool e71)) (by cases e69 <;> first | exact gA | exact gB | exact .inl ⟨rfl, zAd (b := e70) (v := .bool e71) rfl (by rw [← he71]; cases e70 <;> rfl)⟩) ?_
    obtain ⟨e72, he72⟩ : ∃ e, (e69 || e71) = e := ⟨_, rfl⟩
    refine qV (zAd (b := e69) (v := .bool e72) rfl (by rw [← he72]; cases e69 <;> rfl)) ?_
    refine zAB ?_
    subst he72
    subst he71
    subst he70
    subst he69
    subst he68
    subst he67
    subst he66
    subst he65
    subst he64
    subst he63
    subst he62
    subst he61
    subst he60
    subst he59
    subst he58
    subst he57
    refine zAM (b := (((((decide ((t.kind : Int) ≠ 2)) && (decide ((0 : Int) < (t.set.length : Int)))) || ((decide ((t.kind : Int) ≠ 6)) && (decide ((t.mx : Int) ≠ 0)))) || (((decide ((t.kind : Int) ≠ 6)) && (decide ((t.kind : Int) ≠ 9))) && (decide ((t.mn : Int) ≠ 0)))) || ((decide ((t.kind : Int) ≠ 10)) && t.neg))) rfl (fun hf => ?_) (fun hf => ?_)
    ·have khf := hf
     have hfB : zCu t = false := by rw [← Bool.not_eq_true]; intro h; unfold zCu at h; generalize t.set.length = sl at h hf; cases hng : t.neg <;> simp [hng] at h hf <;> omega
     refine zAA ?_
     refine qA (I6 3) rfl ?_
     refine zAB (zAQ (zAI ?_))
     refine zAS Tryz.results106 (v := (.int .i64 3)) rfl ?_
     exact ⟨zBF (by unfold zBj; rw [if_neg (by omega), if_pos hfB]), E⟩
    ·have khf := hf
     have hfB : zCu t = true := by unfold zCu; rw [hoB]; generalize t.set.length = sl at hf; cases hng : t.neg <;> simp [hng] at hf ⊢ <;> omega
     have hN : zBj t = if t.kind = 2 then (if zBR t.set ≠ 0 then zBR t.set else if (t.set.length : Int) = 0 then 3 else 0) else if t.kind = 6 then (if t.mn < 0 ∨ t.mx < t.mn ∨ 8 < t.mx then 1 else 0) else if t.kind = 9 then (if t.mn < 0 ∨ 9 < t.mn then 1 else 0) else 0 := by unfold zBj; rw [if_neg (by omega), if_neg (by simp [hfB])]
     rw [hN]
     refine zAR (zAC (zAP (zAA ?_)))
     refine qF b1 0 0 rfl Tryz.underlying25 rfl zAw rfl ?_
     refine qV (zAK (v := (I6 t.kind)) rfl zAf (B1.cell rfl)) ?_
     refine qV (zAg (k := .i64) (a := t.kind) (b := 2) rfl rfl) ?_
     refine zAB ?_
     refine zAM (b := decide ((t.kind : Int) = 2)) rfl (fun h2 => ?_) (fun h2 => ?_)
     ·have kh2 := h2
      replace h2 := of_decide_eq_true h2
      rw [if_pos h2]
      refine zAP (zAA ?_)
      refine qF b1 0 1 rfl Tryz.underlying25 rfl zDb rfl ?_
      refine qV (zAK (v := (.slice sa t.set.length sc)) rfl zCc (B1.cell rfl)) ?_
      refine zAL rfl rfl (by decide) (zAT (vs := [(.slice sa t.set.length sc)]) Tryz.func83 nm83 bd83 rfl) (zPP _ _ t.set ((hset.ext hE).ext E)) ?_
      rintro _ w10 ⟨rfl, X10⟩
      replace B1 := X10.keep B1
      replace E := E.ext X10
      refine qA (I6 (zBR t.set)) rfl ?_
      refine zAB (zAA ?_)
      refine qM (I6 (zBR t.set)) rfl ?_
      refine qV (zBz (k := .i64) (a := zBR t.set) (b := 0) rfl rfl) ?_
      refine zAB ?_
      refine zAM (b := decide ((zBR t.set : Int) ≠ 0)) rfl (fun h3 => ?_) (fun h3 => ?_)
      ·have kh3 := h3
       replace h3 := of_decide_eq_true h3
       refine zAA ?_
       refine qM (I6 (zBR t.set)) rfl ?_
       refine qA (I6 (zBR t.set)) rfl ?_
       refine zAB (zAQ (zAI (zAI ?_)))
       refine zAS Tryz.results106 (v := (.int .i64 (zBR t.set))) rfl ?_
       exact ⟨zBF (by rw [if_pos h3]), E⟩
      ·have kh3 := h3
       replace h3 := of_decide_eq_false h3
       rw [if_neg h3]
       refine zAR (zAC (zAA ?_))
       refine qF b1 0 1 rfl Tryz.underlying25 rfl zDb rfl ?_
       refine qV (zAK (v := (.slice sa t.set.length sc)) rfl zCc (B1.cell rfl)) ?_
       refine qV (zAV (ad := sa) (n := t.set.length) (cap := sc) Tryz.underlying22 rfl) ?_
       refine qV (zAg (k := .i64) (a := (t.set.length : Int)) (b := 0) rfl rfl) ?_
       refine zAB ?_
       refine zAM (b := decide (((t.set.length : Int) : Int) = 0)) rfl (fun h4 => ?_) (fun h4 => ?_)
       ·have kh4 := h4
        replace h4 := of_decide_eq_true h4
        refine zAA ?_
        refine qA (I6 3) rfl ?_
        refine zAB (zAQ (zAI ?_))
        refine zAS Tryz.results106 (v := (.int .i64 3)) rfl ?_
        exact ⟨zBF (by rw [if_pos h4]), E⟩
       ·have kh4 := h4
        replace h4 := of_decide_eq_false h4
        rw [if_neg h4]
        refine zAR (zAC (zAP (zAA ?_)))
        refine qF b1 0 0 rfl Tryz.underlying25 rfl zAw rfl ?_
        refine qV (zAK (v := (I6 t.kind)) rfl zAf (B1.cell rfl)) ?_
        obtain ⟨e77, he77⟩ : ∃ e, (decide ((t.kind : Int) = 6)) = e := ⟨_, rfl⟩
        refine qV ((zAg (k := .i64) (a := t.kind) (b := 6) rfl rfl).trans (by rw [he77]; try rfl)) ?_
        refine qM (.bool e77) rfl ?_
        refine qG (.bool e77) (yU e77 (P6 b1 3)) (by cases e77 <;> first | exact gA | exact gB | exact .inl ⟨rfl, zAN (b := b1) (o := 0) (o' := 3) rfl Tryz.underlying25 rfl zAw rfl⟩) ?_
        refine qG (.bool e77) (yU e77 (I6 t.mn)) (by cases e77 <;> first | exact gA | exact gB | exact .inl ⟨rfl, zAK (v := (I6 t.mn)) rfl zAf (B1.cell rfl)⟩) ?_
        obtain ⟨e78, he78⟩ : ∃ e, (decide ((t.mn : Int) < 0)) = e := ⟨_, rfl⟩
        refine qG (.bool e77) (yU e77 (.bool e78)) (by cases e77 <;> first | exact gA | exact gB | exact .inl ⟨rfl, (zBS (k := .i64) (a := t.mn) (b := 0) rfl rfl).trans (by rw [he78]; try rfl)⟩) ?_
        refine qG (.bool e77) (yU e77 (.bool e78)) (by cases e77 <;> first | exact gA | exact gB | exact .inl ⟨rfl, zAn (v := (.bool e78)) rfl⟩) ?_
        refine qG (yU e77 (.bool e78)) (yU e77 (nU e78 (P6 b1 4))) (by cases e77 <;> cases e78 <;> first | exact gA | exact gB | exact .inl ⟨rfl, zAN (b := b1) (o := 0) (o' := 4) rfl Tryz.underlying25 rfl zAw rfl⟩) ?_
        refine qG (yU e77 (.bool e78)) (yU e77 (nU e78 (I6 t.mx))) (by cases e77 <;> cases e78 <;> first | exact gA | exact gB | exact .inl ⟨rfl, zAK (v := (I6 t.mx)) rfl zAf (B1.cell rfl)⟩) ?_
        obtain ⟨e79, he79⟩ : ∃ e, (decide ((8 : Int) < t.mx)) = e := ⟨_, rfl⟩
        refine qG (yU e77 (.bool e78)) (yU e77 (nU e78 (.bool e79))) (by cases e77 <;> cases e78 <;> first | exact gA | exact gB | exact .inl ⟨rfl, (zCM (k := .i64) (a := t.mx) (b := 8) rfl rfl).trans (by rw [he79]; try rfl)⟩) ?_
        obtain ⟨e80, he80⟩ : ∃ e, (e78 || e79) = e := ⟨_, rfl⟩
        refine qG (.bool e77) (yU e77 (.bool e80)) (by cases e77 <;> first | exact gA | exact gB | exact .inl ⟨rfl, zAd (b := e78) (v := .bool e80) rfl (by rw [← he80]; cases e78 <;> rfl)⟩) ?_
        refine qG (.bool e77) (yU e77 (.bool e80)) (by cases e77 <;> first | exact gA | exact gB | exact .inl ⟨rfl, zAn (v := (.bool e80)) rfl⟩) ?_
        refine qG (yU e77 (.bool e80)) (yU e77 (nU e80 (P6 b1 3))) (by cases e77 <;> cases e80 <;> first | exact gA | exact gB | exact .inl ⟨rfl, zAN (b := b1) (o := 0) (o' := 3) rfl Tryz.underlying25 rfl zAw rfl⟩) ?_
        refine qG (yU e77 (.bool e80)) (yU e77 (nU e80 (I6 t.mn))) (by cases e77 <;> cases e80 <;> first | exact gA | exact gB | exact .inl ⟨rfl, zAK (v := (I6 t.mn)) rfl zAf (B1.cell rfl)⟩) ?_
        refine qG (yU e77 (.bool e80)) (yU e77 (nU e80 (P6 b1 4))) (by cases e77 <;> cases e80 <;> first | exact gA | exact gB | exact .inl ⟨rfl, zAN (b := b1) (o := 0) (o' := 4) rfl Tryz.underlying25 rfl zAw rfl⟩) ?_
        refine qG (yU e77 (.bool e80)) (yU e77 (nU e80 (I6 t.mx))) (by cases e77 <;> cases e80 <;> first | exact gA | exact gB | exact .inl ⟨rfl, zAK (v := (I6 t.mx)) rfl zAf (B1.cell rfl)⟩) ?_
        obtain ⟨e81, he81⟩ : ∃ e, (decide ((t.mx : Int) < t.mn)) = e := ⟨_, rfl⟩
        refine qG (yU e77 (.bool e80)) (yU e77 (nU e80 (.bool e81))) (by cases e77 <;> cases e80 <;> first | exact gA | exact gB | exact .inl ⟨rfl, (zCM (k := .i64) (a := t.mn) (b := t.mx) rfl rfl).trans (by rw [he81]; try rfl)⟩) ?_
        obtain ⟨e82, he82⟩ : ∃ e, (e80 || e81) = e := ⟨_, rfl⟩
        refine qG (.bool e77) (yU e77 (.bool e82)) (by cases e77 <;> first | exact gA | exact gB | exact .inl ⟨rfl, zAd (b := e80) (v := .bool e82) rfl (by rw [← he82]; cases e80 <;> rfl)⟩) ?_
        obtain ⟨e83, he83⟩ : ∃ e, (e77 && e82) = e := ⟨_, rfl⟩
        refine qV (zAd (b := e77) (v := .bool e83) rfl (by rw [← he83]; cases e77 <;> rfl)) ?_
        refine qM (.bool e83) rfl ?_
        refine qG (.bool e83) (nU e83 (P6 b1 0)) (by cases e83 <;> first | exact gA | exact gB | exact .inl ⟨rfl, zAN (b := b1) (o := 0) (o' := 0) rfl Tryz.underlying25 rfl zAw rfl⟩) ?_
        refine qG (.bool e83) (nU e83 (I6 t.kind)) (by cases e83 <;> first | exact gA | exact gB | exact .inl ⟨rfl, zAK (v := (I6 t.kind)) rfl zAf (B1.cell rfl)⟩) ?_
        obtain ⟨e84, he84⟩ : ∃ e, (decide ((t.kind : Int) = 9)) = e := ⟨_, rfl⟩
        refine qG (.bool e83) (nU e83 (.bool e84)) (by cases e83 <;> first | exact gA | exact gB | exact .inl ⟨rfl, (zAg (k := .i64) (a := t.kind) (b := 9) rfl rfl).trans (by rw [he84]; try rfl)⟩) ?_
        refine qG (.bool e83) (nU e83 (.bool e84)) (by cases e83 <;> first | exact gA | exact gB | exact .inl ⟨rfl, zAn (v := (.bool e84)) rfl⟩) ?_
        refine qG (nU e83 (.bool e84)) (nU e83 (yU e84 (P6 b1 3))) (by cases e83 <;> cases e84 <;> first | exact gA | exact gB | exact .inl ⟨rfl, zAN (b := b1) (o := 0) (o' := 3) rfl Tryz.underlying25 rfl zAw rfl⟩) ?_
        refine qG (nU e83 (.bool e84)) (nU e83 (yU e84 (I6 t.mn))) (by cases e83 <;> cases e84 <;> first | exact gA | exact gB | exact .inl ⟨rfl, zAK (v := (I6 t.mn)) rfl zAf (B1.cell rfl)⟩) ?_
        obtain ⟨e85, he85⟩ : ∃ e, (decide ((t.mn : Int) < 0)) = e := ⟨_, rfl⟩
        refine qG (nU e83 (.bool e84)) (nU e83 (yU e84 (.bool e85))) (by cases e83 <;> cases e84 <;> first | exact gA | exact gB | exact .inl ⟨rfl, (zBS (k := .i64) (a := t.mn) (b := 0) rfl rfl).trans (by rw [he85]; try rfl)⟩) ?_
        refine qG (nU e83 (.bool e84)) (nU e83 (yU e84 (.bool e85))) (by cases e83 <;> cases e84 <;> first | exact gA | exact gB | exact .inl ⟨rfl, zAn (v := (.bool e85)) rfl⟩) ?_
        refine qG (nU e83 (yU e84 (.bool e85))) (nU e83 (yU e84 (nU e85 (P6 b1 3)))) (by cases e83 <;> cases e84 <;> cases e85 <;> first | exact gA | exact gB | exact .inl ⟨rfl, zAN (b := b1) (o := 0) (o' := 3) rfl Tryz.underlying25 rfl zAw rfl⟩) ?_
        refine qG (nU e83 (yU e84 (.bool e85))) (nU e83 (yU e84 (nU e85 (I6 t.mn)))) (by cases e83 <;> cases e84 <;> cases e85 <;> first | exact gA | exact gB | exact .inl ⟨rfl, zAK (v := (I6 t.mn)) rfl zAf (B1.cell rfl)⟩) ?_
        obtain ⟨e86, he86⟩ : ∃ e, (decide ((9 : Int) < t.mn)) = e := ⟨_, rfl⟩
        refine qG (nU e83 (yU e84 (.bool e85))) (nU e83 (yU e84 (nU e85 (.bool e86)))) (by cases e83 <;> cases e84 <;> cases e85 <;> first | exact gA | exact gB | exact .inl ⟨rfl, (zCM (k := .i64) (a := t.mn) (b := 9) rfl rfl).trans (by rw [he86]; try rfl)⟩) ?_
        obtain ⟨e87, he87⟩ : ∃ e, (e85 || e86) = e := ⟨_, rfl⟩
        refine qG (nU e83 (.bool e84)) (nU e83 (yU e84 (.bool e87))) (by cases e83 <;> cases e84 <;> first | exact gA | exact gB | exact .inl ⟨rfl, zAd (b := e85) (v := .bool e87) rfl (by rw [← he87]; cases e85 <;> rfl)⟩) ?_
        obtain ⟨e88, he88⟩ : ∃ e, (e84 && e87) = e := ⟨_, rfl⟩
        refine qG (.bool e83) (nU e83 (.bool e88)) (by cases e83 <;> first | exact gA | exact gB | exact .inl ⟨rfl, zAd (b := e84) (v := .bool e88) rfl (by rw [← he88]; cases e84 <;> rfl)⟩) ?_
        obtain ⟨e89, he89⟩ : ∃ e, (e83 || e88) = e := ⟨_, rfl⟩
        refine qV (zAd (b := e83) (v := .bool e89) rfl (by rw [← he89]; cases e83 <;> rfl)) ?_
        refine zAB ?_
        subst he89
        subst he88
        subst he87
        subst he86
        subst he85
        subst he84
        subst he83
        subst he82
        subst he81
        subst he80
        subst he79
        subst he78
        subst he77
        have hc90 : ((((decide ((t.kind : Int) = 6)) && (((decide ((t.mn : Int) < 0)) || (decide ((8 : Int) < t.mx))) || (decide ((t.mx : Int) < t.mn)))) || ((decide ((t.kind : Int) = 9)) && ((decide ((t.mn : Int) < 0)) || (decide ((9 : Int) < t.mn)))))) = false := by simp [h2]
        refine zAX (congrArg Value.bool hc90) ?_
        refine zAR (zAC (zAA ?_))
        refine qA (I6 0) rfl ?_
        refine zAB (zAQ ?_)
        refine zAS Tryz.results106 (v := (.int .i64 0)) rfl ?_
        exact ⟨rfl, E⟩
     ·have kh2 := h2
      replace h2 := of_decide_eq_false h2
      rw [if_neg h2]
      refine zAR (zAC (zAP (zAA ?_)))
      refine qF b1 0 0 rfl Tryz.underlying25 rfl zAw rfl ?_
      refine qV (zAK (v := (I6 t.kind)) rfl zAf (B1.cell rfl)) ?_
      obtain ⟨e91, he91⟩ : ∃ e, (decide ((t.kind : Int) = 6)) = e := ⟨_, rfl⟩
      refine qV ((zAg (k := .i64) (a := t.kind) (b := 6) rfl rfl).trans (by rw [he91]; try rfl)) ?_
      refine qM (.bool e91) rfl ?_
      refine qG (.bool e91) (yU e91 (P6 b1 3)) (by cases e91 <;> first | exact gA | exact gB | exact .inl ⟨rfl, zAN (b := b1) (o := 0) (o' := 3) rfl Tryz.underlying25 rfl zAw rfl⟩) ?_
      refine qG (.bool e91) (yU e91 (I6 t.mn)) (by cases e91 <;> first | exact gA | exact gB | exact .inl ⟨rfl, zAK (v := (I6 t.mn)) rfl zAf (B1.cell rfl)⟩) ?_
      obtain ⟨e92, he92⟩ : ∃ e, (decide ((t.mn : Int) < 0)) = e := ⟨_, rfl⟩
      refine qG (.bool e91) (yU e91 (.bool e92)) (by cases e91 <;> first | exact gA | exact gB | exact .inl ⟨rfl, (zBS (k := .i64) (a := t.mn) (b := 0) rfl rfl).trans (by rw [he92]; try rfl)⟩) ?_
      refine qG (.bool e91) (yU e91 (.bool e92)) (by cases e91 <;> first | exact gA | exact gB | exact .inl ⟨rfl, zAn (v := (.bool e92)) rfl⟩) ?_
      refine qG (yU e91 (.bool e92)) (yU e91 (nU e92 (P6 b1 4))) (by cases e91 <;> cases e92 <;> first | exact gA | exact gB | exact .inl ⟨rfl, zAN (b := b1) (o := 0) (o' := 4) rfl Tryz.underlying25 rfl zAw rfl⟩) ?_
      refine qG (yU e91 (.bool e92)) (yU e91 (nU e92 (I6 t.mx))) (by cases e91 <;> cases e92 <;> first | exact gA | exact gB | exact .inl ⟨rfl, zAK (v := (I6 t.mx)) rfl zAf (B1.cell rfl)⟩) ?_
      obtain ⟨e93, he93⟩ : ∃ e, (decide ((8 : Int) < t.mx)) = e := ⟨_, rfl⟩
      refine qG (yU e91 (.bool e92)) (yU e91 (nU e92 (.bool e93))) (by cases e91 <;> cases e92 <;> first | exact gA | exact gB | exact .inl ⟨rfl, (zCM (k := .i64) (a := t.mx) (b := 8) rfl rfl).trans (by rw [he93]; try rfl)⟩) ?_
      obtain ⟨e94, he94⟩ : ∃ e, (e92 || e93) = e := ⟨_, rfl⟩
      refine qG (.bool e91) (yU e91 (.bool e94)) (by cases e91 <;> first | exact gA | exact gB | exact .inl ⟨rfl, zAd (b := e92) (v := .bool e94) rfl (by rw [← he94]; cases e92 <;> rfl)⟩) ?_
      refine qG (.bool e91) (yU e91 (.bool e94)) (by cases e91 <;> first | exact gA | exact gB | exact .inl ⟨rfl, zAn (v := (.bool e94)) rfl⟩) ?_
      refine qG (yU e91 (.bool e94)) (yU e91 (nU e94 (P6 b1 3))) (by cases e91 <;> cases e94 <;> first | exact gA | exact gB | exact .inl ⟨rfl, zAN (b := b1) (o := 0) (o' := 3) rfl Tryz.underlying25 rfl zAw rfl⟩) ?_
      refine qG (yU e91 (.bool e94)) (yU e91 (nU e94 (I6 t.mn))) (by cases e91 <;> cases e94 <;> first | exact gA | exact gB | exact .inl ⟨rfl, zAK (v := (I6 t.mn)) rfl zAf (B1.cell rfl)⟩) ?_
      refine qG (yU e91 (.bool e94)) (yU e91 (nU e94 (P6 b1 4))) (by cases e91 <;> cases e94 <;> first | exact gA | exact gB | exact .inl ⟨rfl, zAN (b := b1) (o := 0) (o' := 4) rfl Tryz.underlying25 rfl zAw rfl⟩) ?_
      refine qG (yU e91 (.bool e94)) (yU e91 (nU e94 (I6 t.mx))) (by cases e91 <;> cases e94 <;> first | exact gA | exact gB | exact .inl ⟨rfl, zAK (v := (I6 t.mx)) rfl zAf (B1.cell rfl)⟩) ?_
      obtain ⟨e95, he95⟩ : ∃ e, (decide ((t.mx : Int) < t.mn)) = e := ⟨_, rfl⟩
      refine qG (yU e91 (.bool e94)) (yU e91 (nU e94 (.bool e95))) (by cases e91 <;> cases e94 <;> first | exact gA | exact gB | exact .inl ⟨rfl, (zCM (k := .i64) (a := t.mn) (b := t.mx) rfl rfl).trans (by rw [he95]; try rfl)⟩) ?_
      obtain ⟨e96, he96⟩ : ∃ e, (e94 || e95) = e := ⟨_, rfl⟩
      refine qG (.bool e91) (yU e91 (.bool e96)) (by cases e91 <;> first | exact gA | exact gB | exact .inl ⟨rfl, zAd (b := e94) (v := .bool e96) rfl (by rw [← he96]; cases e94 <;> rfl)⟩) ?_
      obtain ⟨e97, he97⟩ : ∃ e, (e91 && e96) = e := ⟨_, rfl⟩
      refine qV (zAd (b := e91) (v := .bool e97) rfl (by rw [← he97]; cases e91 <;> rfl)) ?_
      refine qM (.bool e97) rfl ?_
      refine qG (.bool e97) (nU e97 (P6 b1 0)) (by cases e97 <;> first | exact gA | exact gB | exact .inl ⟨rfl, zAN (b := b1) (o := 0) (o' := 0) rfl Tryz.underlying25 rfl zAw rfl⟩) ?_
      refine qG (.bool e97) (nU e97 (I6 t.kind)) (by cases e97 <;> first | exact gA | exact gB | exact .inl ⟨rfl, zAK (v := (I6 t.kind)) rfl zAf (B1.cell rfl)⟩) ?_
      obtain ⟨e98, he98⟩ : ∃ e, (decide ((t.kind : Int) = 9)) = e := ⟨_, rfl⟩
      refine qG (.bool e97) (nU e97 (.bool e98)) (by cases e97 <;> first | exact gA | exact gB | exact .inl ⟨rfl, (zAg (k := .i64) (a := t.kind) (b := 9) rfl rfl).trans (by rw [he98]; try rfl)⟩) ?_
      refine qG (.bool e97) (nU e97 (.bool e98)) (by cases e97 <;> first | exact gA | exact gB | exact .inl ⟨rfl, zAn (v := (.bool e98)) rfl⟩) ?_
      refine qG (nU e97 (.bool e98)) (nU e97 (yU e98 (P6 b1 3))) (by cases e97 <;> cases e98 <;> first | exact gA | exact gB | exact .inl ⟨rfl, zAN (b := b1) (o := 0) (o' := 3) rfl Tryz.underlying25 rfl zAw rfl⟩) ?_
      refine qG (nU e97 (.bool e98)) (nU e97 (yU e98 (I6 t.mn))) (by cases e97 <;> cases e98 <;> first | exact gA | exact gB | exact .inl ⟨rfl, zAK (v := (I6 t.mn)) rfl zAf (B1.cell rfl)⟩) ?_
      obtain ⟨e99, he99⟩ : ∃ e, (decide ((t.mn : Int) < 0)) = e := ⟨_, rfl⟩
      refine qG (nU e97 (.bool e98)) (nU e97 (yU e98 (.bool e99))) (by cases e97 <;> cases e98 <;> first | exact gA | exact gB | exact .inl ⟨rfl, (zBS (k := .i64) (a := t.mn) (b := 0) rfl rfl).trans (by rw [he99]; try rfl)⟩) ?_
      refine qG (nU e97 (.bool e98)) (nU e97 (yU e98 (.bool e99))) (by cases e97 <;> cases e98 <;> first | exact gA | exact gB | exact .inl ⟨rfl, zAn (v := (.bool e99)) rfl⟩) ?_
      refine qG (nU e97 (yU e98 (.bool e99))) (nU e97 (yU e98 (nU e99 (P6 b1 3)))) (by cases e97 <;> cases e98 <;> cases e99 <;> first | exact gA | exact gB | exact .inl ⟨rfl, zAN (b := b1) (o := 0) (o' := 3) rfl Tryz.underlying25 rfl zAw rfl⟩) ?_
      refine qG (nU e97 (yU e98 (.bool e99))) (nU e97 (yU e98 (nU e99 (I6 t.mn)))) (by cases e97 <;> cases e98 <;> cases e99 <;> first | exact gA | exact gB | exact .inl ⟨rfl, zAK (v := (I6 t.mn)) rfl zAf (B1.cell rfl)⟩) ?_
      obtain ⟨e100, he100⟩ : ∃ e, (decide ((9 : Int) < t.mn)) = e := ⟨_, rfl⟩
      refine qG (nU e97 (yU e98 (.bool e99))) (nU e97 (yU e98 (nU e99 (.bool e100)))) (by cases e97 <;> cases e98 <;> cases e99 <;> first | exact gA | exact gB | exact .inl ⟨rfl, (zCM (k := .i64) (a := t.mn) (b := 9) rfl rfl).trans (by rw [he100]; try rfl)⟩) ?_
      obtain ⟨e101, he101⟩ : ∃ e, (e99 || e100) = e := ⟨_, rfl⟩
      refine qG (nU e97 (.bool e98)) (nU e97 (yU e98 (.bool e101))) (by cases e97 <;> cases e98 <;> first | exact gA | exact gB | exact .inl ⟨rfl, zAd (b := e99) (v := .bool e101) rfl (by rw [← he101]; cases e99 <;> rfl)⟩) ?_
      obtain ⟨e102, he102⟩ : ∃ e, (e98 && e101) = e := ⟨_, rfl⟩
      refine qG (.bool e97) (nU e97 (.bool e102)) (by cases e97 <;> first | exact gA | exact gB | exact .inl ⟨rfl, zAd (b := e98) (v := .bool e102) rfl (by rw [← he102]; cases e98 <;> rfl)⟩) ?_
      obtain ⟨e103, he103⟩ : ∃ e, (e97 || e102) = e := ⟨_, rfl⟩
      refine qV (zAd (b := e97) (v := .bool e103) rfl (by rw [← he103]; cases e97 <;> rfl)) ?_
      refine zAB ?_
      subst he103
      subst he102
      subst he101
      subst he100
      subst he99
      subst he98
      subst he97
      subst he96
      subst he95
      subst he94
      subst he93
      subst he92
      subst he91
      refine zAM (b := (((decide ((t.kind : Int) = 6)) && (((decide ((t.mn : Int) < 0)) || (decide ((8 : Int) < t.mx))) || (decide ((t.mx : Int) < t.mn)))) || ((decide ((t.kind : Int) = 9)) && ((decide ((t.mn : Int) < 0)) || (decide ((9 : Int) < t.mn)))))) rfl (fun h6 => ?_) (fun h6 => ?_)
      ·have kh6 := h6
       simp at h6
       refine zAA ?_
       refine qA (I6 1) rfl ?_
       refine zAB (zAQ (zAI ?_))
       refine zAS Tryz.results106 (v := (.int .i64 1)) rfl ?_
       exact ⟨zBF (by by_cases h66 : t.kind = 6; rw [if_pos h66, if_pos (by omega)]; rw [if_neg h66, if_pos (by omega), if_pos (by omega)]), E⟩
      ·have kh6 := h6
       simp at h6
       refine zAR (zAC (zAA ?_))
       refine qA (I6 0) rfl ?_
       refine zAB (zAQ ?_)
       refine zAS Tryz.results106 (v := (.int .i64 0)) rfl ?_
       exact ⟨zBF (by by_cases h66 : t.kind = 6; rw [if_pos h66, if_neg (by omega)]; rw [if_neg h66]; by_cases h9 : t.kind = 9; rw [if_pos h9, if_neg (by omega)]; rw [if_neg h9]), E⟩
end Go.Proofs
namespace Go.Proofs
open Go Go.Eng
set_option maxRecDepth 100000
abbrev TE : Nat := 25
mutual
def zEZ : Re → List Re
  | .mk k set args mn mx ng => .mk k set args mn mx ng :: zDv args
def zDv : List Re → List Re
  | [] => []
  | t :: ts => zEZ t ++ zDv ts
end
theorem zMW (t : Re) : zEZ t = t :: zDv t.args := by cases t; simp only [zEZ, Re.args]
theorem zFq : ∀ (a b : List Re), zDv (a ++ b) = zDv a ++ zDv b
  | [], b => by simp [zDv]
  | x :: a, b => by simp only [List.cons_append, zDv, zFq a b, List.append_assoc]
mutual
theorem zDy : ∀ (t : Re), (zEZ t).length = t.size
  | .mk k set args mn mx ng => by simp only [zEZ, Re.size, List.length_cons, zGS args]
theorem zGS : ∀ (ts : List Re), (zDv ts).length = Re.sizes ts
  | [] => by simp [zDv, Re.sizes]
  | t :: ts => by simp only [zDv, Re.sizes, List.length_append, zDy t, zGS ts]
end
theorem zDj : ∀ (ts : List Re), ts.length ≤ Re.sizes ts
  | [] => by simp
  | t :: ts => by have := zDj ts; have := t.size_pos; simp only [Re.sizes, List.length_cons]; omega
theorem zHc (ts : List Re) : Re.sizes ts.reverse = Re.sizes ts := by
  induction ts with
  | nil => rfl
  | cons t ts ih => simp only [List.reverse_cons, Re.sizes_append, ih, Re.sizes]; omega
def zBi (w : World) : List Re → List (List Value) → Prop
  | [], [] => True
  | t :: ts, r :: rs => zBC w t r ∧ zBi w ts rs
  | _, _ => False
theorem zBi.ext {w w' : World} (e : Ext w w') : ∀ {ts : List Re} {rs : List (List Value)}, zBi w ts rs → zBi w' ts rs
  | [], [], _ => trivial
  | t :: ts, r :: rs, h => ⟨zBC.ext e t h.1, zBi.ext e h.2⟩
  | [], _ :: _, h => h.elim
  | _ :: _, [], h => h.elim
theorem zBi.len {w : World} : ∀ {ts : List Re} {rs : List (List Value)}, zBi w ts rs → rs.length = ts.length
  | [], [], _ => rfl
  | t :: ts, r :: rs, h => by simp only [List.length_cons, zBi.len h.2]
  | [], _ :: _, h => h.elim
  | _ :: _, [], h => h.elim
theorem zBi.six {w : World} : ∀ {ts : List Re} {rs : List (List Value)}, zBi w ts rs → ∀ r ∈ rs, r.length = 6
  | [], [], _, r, hr => by cases hr
  | t :: ts, r :: rs, h, r', hr => by
    rcases List.mem_cons.1 hr with rfl | hr
    · exact h.1.len
    · exact zBi.six h.2 r' hr
  | [], _ :: _, h, _, _ => h.elim
  | _ :: _, [], h, _, _ => h.elim
theorem zBi.snoc {w : World} : ∀ {ts : List Re} {rs : List (List Value)}, zBi w ts rs → ∀ {t : Re} {r : List Value}, zBC w t r → zBi w (ts ++ [t]) (rs ++ [r])
  | [], [], _, _, _, h => ⟨h, trivial⟩
  | t :: ts, r :: rs, h, _, _, h' => ⟨h.1, zBi.snoc h.2 h'⟩
  | [], _ :: _, h, _, _, _ => h.elim
  | _ :: _, [], h, _, _, _ => h.elim
theorem zBi.get {w : World} : ∀ {ts : List Re} {rs : List (List Value)}, zBi w ts rs → ∀ {i : Nat} {t : Re}, ts[i]? = some t → ∃ r, rs[i]? = some r ∧ zBC w t r
  | [], [], _, _, _, h => by simp at h
  | t :: ts, r :: rs, h, 0, _, h' => by simp at h'; subst h'; exact ⟨r, rfl, h.1⟩
  | t :: ts, r :: rs, h, i + 1, _, h' => by
    obtain ⟨r', h1, h2⟩ := zBi.get h.2 (i := i) (by simpa using h')
    exact ⟨r', by simpa using h1, h2⟩
  | [], _ :: _, h, _, _, _ => h.elim
  | _ :: _, [], h, _, _, _ => h.elim
theorem zBi.pop {w : World} : ∀ {ts : List Re} {rs : List (List Value)} {t : Re}, zBi w (ts ++ [t]) rs → ∃ rs' r, rs = rs' ++ [r] ∧ zBi w ts rs' ∧ zBC w t r
  | [], [], _, h => h.elim
  | [], [r], _, h => ⟨[], r, rfl, trivial, h.1⟩
  | [], r :: r' :: rs, _, h => h.2.elim
  | t :: ts, [], _, h => h.elim
  | t :: ts, r :: rs, t', h => by
    obtain ⟨rs', r', h1, h2, h3⟩ := zBi.pop (ts := ts) h.2
    exact ⟨r :: rs', r', by rw [h1]; rfl, ⟨h.1, h2⟩, h3⟩
def zEU (u v : Value) : Prop := ∀ k, u.ownBlock = some k → v.ownBlock ≠ some k
theorem zEU.symm {u v : Value} (h : zEU u v) : zEU v u := fun k h1 h2 => h k h2 h1
theorem zEU.slc {a : Option Addr} {n c n' c' : Nat} {v : Value} (h : zEU (.slice a n c) v) : zEU (.slice a n' c') v := by
 cases a <;> exact h
theorem zEU.app {w : World} {base e size n : Nat} {u u' v : Value} {xs : List Value} (h : zEU u v) (hv : w.ownsRow base e size v n xs) (D : ∀ k, u'.ownBlock = some k → u.ownBlock = some k ∨ w.heap.size ≤ k) : zEU u' v := fun k h1 h2 => by
 rcases D k h1 with h3 | h3
 ·exact h k h3 h2
 have := (hv.lt k h2).2; omega
theorem zEU.nil (v : Value) : zEU (.slice none 0 0) v := fun k h => by cases h
theorem zIj {w w' : World} {base e size n : Nat} {u v : Value} {xs : List Value} (h : w.ownsRow base e size v n xs) (C : Chg (fun x => u.ownBlock = some x) w w') (hd : zEU u v) : w'.ownsRow base e size v n xs :=
 zCs h C fun k hk hm => hd k hm hk
theorem zPk {a : Option Addr} {c m : Nat} : (if c = 0 then a else Option.map (fun q : Addr => q.add (0 * m)) a) = a := by
 split
 ·rfl
 ·cases a <;> simp [Addr.add]
theorem zHl {w : World} {base e n : Nat} {v : Value} {ts : List Re} {rs : List (List Value)} {w0 : World} (h : w.ownsRow base e 6 v n rs.flatten) (hr : zBi w0 ts rs) (hn : ts.length = n) : zCA w 6 v rs :=
 zFz h hr.six (by rw [hr.len, hn]) (by decide)
theorem zKZ {rs : List (List Value)} (h : ∀ r ∈ rs, r.length = 6) : rs.flatten.length = rs.length * 6 := by
  induction rs with
  | nil => rfl
  | cons r rs ih => rw [List.flatten_cons, List.length_append, ih (fun r' hr' => h r' (List.mem_cons_of_mem _ hr')), h r List.mem_cons_self, List.length_cons]; omega
theorem zOZ {rs : List (List Value)} {r : List Value} {n : Nat} (h : ∀ r ∈ rs, r.length = 6) (hn : rs.length = n) : ((rs ++ [r]).flatten).take (n * 6) = rs.flatten := by
 rw [List.flatten_append, List.take_append_of_le_length (by rw [zKZ h, hn]; exact Nat.le_refl _), List.take_of_length_le (by rw [zKZ h, hn]; exact Nat.le_refl _)]
theorem zPj {α : Type} {l : List α} (h : 0 < l.length) : ∃ l' x, l = l' ++ [x] := by
 rcases List.eq_nil_or_concat l with rfl | ⟨l', x, rfl⟩
 ·simp at h
 exact ⟨l', x, List.concat_eq_append⟩
abbrev zPt (x : Re) (xa : Option Addr) (xc : Nat) (ya : Option Addr) (yc : Nat) : List Value := [.int .i64 x.kind, .slice xa x.set.length xc, .slice ya x.args.length yc, .int .i64 x.mn, .int .i64 x.mx, .bool x.neg]
set_option maxHeartbeats 4000000 in
theorem zMV (w0 : World) (t : Re) (vs : List Value) (most : Int) (ht : zBC w0 t vs) (hs : t.size ≤ 2097152) :
  Ret Tryz.prog 19 #[.agg vs.toArray, .int .i64 most] w0 fun v w => ∃ a c rows, v = .slice a ((zEZ t).take most.toNat).length c ∧ zCA w 6 v rows ∧ zBi w0 ((zEZ t).take most.toNat) rows ∧ Ext w0 w := by
 have ht0 := ht
 obtain ⟨sa, sc, aa, ac, rfl, hset, hlen, hargs⟩ := ht.form
 refine zAk Tryz.func19 rfl Tryz.ntmps19 (Nat.le_of_ble_eq_true rfl) ?_
 have E : Chg zAh w0 w0 := Chg.refl _ _
 refine zAA ?_
 refine zBL (v := (.agg (R6 t sa sc aa ac))) (c := (R6 t sa sc aa ac)) (by decide) rfl rfl ?_
 intro bp wp Np
 have Fp := Np.ge E
 replace E := E.ext Np.ext
 have Bp := Np.blk
 refine qA (.slice none 0 0) rfl ?_
 refine zAB (zAA ?_)
 refine qA (.slice none 0 0) rfl ?_
 refine zAB (zAA ?_)
 refine qV (zAG (vs := [(I6 t.kind), (.slice sa t.set.length sc), (.slice aa t.args.length ac), (I6 t.mn), (I6 t.mx), (.bool t.neg)]) rfl zAb zAH rfl (Bp.cells rfl)) ?_
 refine zAu (ps := [(0, (.agg (R6 t sa sc aa ac)))]) (c := (R6 t sa sc aa ac)) (by decide) rfl Tryz.underlying23 zAH zAs (by decide) (by decide) (by kernel_rfl) ?_
 intro bq wq Nq
 have Fq := Nq.ge E
 have Oq_bp := Nq.lt Bp
 replace Bp := Nq.keep Bp
 replace E := E.ext Nq.ext
 have Bq := Nq.blk
 refine qA (.slice (some ⟨bq, 0, none⟩) 1 1) rfl ?_
 refine zAB (zAP (zAZ ?_))
 obtain ⟨base, hbase⟩ : ∃ base, base = wp.heap.size := ⟨_, rfl⟩
 have hb0 : w0.heap.size ≤ base := by have := Np.size; omega
 have hpb : bp < base := by have := Np.size; have := Np.eq; omega
 have hqb : base ≤ bq := by have := Nq.eq; omega
 have hrow1 : wq.ownsRow base TE 6 (.slice (some ⟨bq, 0, none⟩) 1 1) 1 ([[.int .i64 t.kind, .slice sa t.set.length sc, .slice aa t.args.length ac, .int .i64 t.mn, .int .i64 t.mx, .bool t.neg]] : List (List Value)).flatten := ⟨rfl, .inr ⟨bq, 1, _, rfl, hqb, Bq, by decide, by decide, rfl, rfl⟩⟩
 have hbsq : base ≤ wq.heap.size := by have := Nq.size; omega
 refine zBA (fun nn_ σ W1 => ∃ (outs sts : List Re) (ro rs : List (List Value)) (oa : Option Addr) (oc : Nat) (ka : Option Addr) (kc : Nat), (∃ jj_, σ = zCl jj_ [(1, (I6 most)), (5, (.slice oa outs.length oc)), (6, (.slice ka sts.length kc))]) ∧ Chg zAh w0 W1 ∧ Blk W1 bp (R6 t sa sc aa ac) 25 ∧ (W1.ownsRow base TE 6 (.slice oa outs.length oc) outs.length ro.flatten) ∧ (W1.ownsRow base TE 6 (.slice ka sts.length kc) sts.length rs.flatten) ∧ (zEU (.slice oa outs.length oc) (.slice ka sts.length kc)) ∧ (zBi w0 outs ro) ∧ (zBi w0 sts rs) ∧ (zEZ t = outs ++ zDv sts.reverse) ∧ (outs.length ≤ most.toNat) ∧ (base ≤ W1.heap.size) ∧ nn_ = t.size - outs.length) (n := t.size - ([] : List Re).length) ?_ ?_
 ·exact ⟨([] : List Re), [t], ([] : List (List Value)), [[.int .i64 t.kind, .slice sa t.set.length sc, .slice aa t.args.length ac, .int .i64 t.mn, .int .i64 t.mx, .bool t.neg]], none, 0, some ⟨bq, 0, none⟩, 1, zBG.out ⟨rfl, rfl, rfl, trivial⟩, E, Bp, World.ownsRow_nil _ _ _ _, hrow1, zEU.nil _, trivial, ⟨ht0, trivial⟩, (by simp [zDv]), Nat.zero_le _, hbsq, rfl⟩
 ·clear E Bp
  rintro _ _ W1 ⟨outs, sts, ro, rs, oa, oc, ka, kc, ⟨j1, rfl⟩, E, Bp, hO, hS, hAp, hro, hrs, hpre, hmo, hbs, rfl⟩
  have hsz : outs.length + Re.sizes sts = t.size := by rw [← zDy t, hpre, List.length_append, zGS, zHc]
  have hsl := zDj sts
  refine zAP (zAA ?_)
  refine qM (.slice ka sts.length kc) rfl ?_
  refine qV (zAV (ad := ka) (n := sts.length) (cap := kc) Tryz.underlying23 rfl) ?_
  obtain ⟨e2, he2⟩ : ∃ e, (decide ((0 : Int) < ((sts.length : Nat) : Int))) = e := ⟨_, rfl⟩
  refine qV ((zCM (k := .i64) (a := (sts.length : Int)) (b := 0) rfl rfl).trans (by rw [he2]; try rfl)) ?_
  refine qM (.bool e2) rfl ?_
  refine qG (.bool e2) (yU e2 (.slice oa outs.length oc)) (by cases e2 <;> first | exact gA | exact gB | exact .inl ⟨rfl, zAn (v := (.slice oa outs.length oc)) rfl⟩) ?_
  refine qG (.bool e2) (yU e2 (I6 (outs.length : Int))) (by cases e2 <;> first | exact gA | exact gB | exact .inl ⟨rfl, zAV (ad := oa) (n := outs.length) (cap := oc) Tryz.underlying23 rfl⟩) ?_
  refine qG (.bool e2) (yU e2 (I6 most)) (by cases e2 <;> first | exact gA | exact gB | exact .inl ⟨rfl, zAn (v := (I6 most)) rfl⟩) ?_
  obtain ⟨e3, he3⟩ : ∃ e, (decide ((((outs.length : Nat) : Int) : Int) < most)) = e := ⟨_, rfl⟩
  refine qG (.bool e2) (yU e2 (.bool e3)) (by cases e2 <;> first | exact gA | exact gB | exact .inl ⟨rfl, (zBS (k := .i64) (a := (outs.length : Int)) (b := most) rfl rfl).trans (by rw [he3]; try rfl)⟩) ?_
  obtain ⟨e4, he4⟩ : ∃ e, (e2 && e3) = e := ⟨_, rfl⟩
  refine qV (zAd (b := e2) (v := .bool e4) rfl (by rw [← he4]; cases e2 <;> rfl)) ?_
  refine zAB ?_
  subst he4
  subst he3
  subst he2
  refine zAM (b := ((decide ((0 : Int) < (sts.length : Int))) && (decide (((outs.length : Int) : Int) < most)))) rfl (fun hlt => ?_) (fun hlt => ?_)
  ·have khlt := hlt
   simp at hlt
   have hOw := fun k h => (hO.lt k h).2
   have hSw := fun k h => (hS.lt k h).2
   obtain ⟨st', x, rfl⟩ := zPj (l := sts) (by omega)
   obtain ⟨rs', r, rfl, hrs', hxr⟩ := hrs.pop
   obtain ⟨xa, xc, ya, yc, rfl, hxset, hxlen, hxargs⟩ := hxr.form
   have hS6 : zBi w0 (st' ++ [x]) (rs' ++ [_]) := hrs'.snoc hxr
   obtain ⟨kb, ko, rfl, hkc⟩ := zCA.at (zHl hS hS6 rfl) (by omega)
   have hkl : (st' ++ [x]).length = st'.length + 1 := by simp
   have hr' := hkc st'.length _ (by rw [List.getElem?_append_right (by rw [hrs'.len]; exact Nat.le_refl _), hrs'.len]; simp; rfl)
   have hkcap := (zCA.cap (zHl hS hS6 rfl)).1
   refine zAR (zAC (zAZ (zAA ?_)))
   refine qM (.slice (some ⟨kb, ko, none⟩) ((st' ++ [x]).length) kc) rfl ?_
   refine qM (.slice (some ⟨kb, ko, none⟩) ((st' ++ [x]).length) kc) rfl ?_
   refine qV (zAV (ad := some ⟨kb, ko, none⟩) (n := (st' ++ [x]).length) (cap := kc) Tryz.underlying23 rfl) ?_
   refine qV (zEh (k := .i64) (a := (((st' ++ [x]).length : Nat) : Int)) (b := 1) (c := (((st' ++ [x]).length : Nat) : Int) - 1) rfl rfl (zBs (by omega))) ?_
   refine qV (zAO (b := kb) (o := ko) (len := (st' ++ [x]).length) (cap := kc) (i := st'.length) (o' := ko + st'.length * 6) rfl rfl (by omega) Tryz.underlying23 zAH (by omega) (by omega)) ?_
   refine qV (zAG (vs := [(I6 x.kind), (.slice xa x.set.length xc), (.slice ya x.args.length yc), (I6 x.mn), (I6 x.mx), (.bool x.neg)]) rfl zAb zAH rfl (hr')) ?_
   refine zAi (v := (.agg (R6 x xa xc ya yc))) (c := (R6 x xa xc ya yc)) (n := 6) (by decide) zAs rfl zAH rfl rfl rfl (by simp [Value.oneCell']) ?_
   intro bx wx Nx
   have Fx := Nx.ge E
   have Ox_bp := Nx.lt Bp
   replace Bp := Nx.keep Bp
   replace hO := zBE hO Nx.ext
   replace hS := zBE hS Nx.ext
   replace hbs := Nat.le_trans hbs Nx.ext.size
   replace E := E.ext Nx.ext
   have Bx := Nx.blk
   refine zAB (zAA ?_)
   refine qM (.slice (some ⟨kb, ko, none⟩) ((st' ++ [x]).length) kc) rfl ?_
   refine qM (.slice (some ⟨kb, ko, none⟩) ((st' ++ [x]).length) kc) rfl ?_
   refine qV (zAV (ad := some ⟨kb, ko, none⟩) (n := (st' ++ [x]).length) (cap := kc) Tryz.underlying23 rfl) ?_
   refine qV (zEh (k := .i64) (a := (((st' ++ [x]).length : Nat) : Int)) (b := 1) (c := (((st' ++ [x]).length : Nat) : Int) - 1) rfl rfl (zBs (by omega))) ?_
   obtain ⟨k2, hk2⟩ : ∃ a' : Option Addr, (if kc = 0 then (some ⟨kb, ko, none⟩) else Option.map (fun q : Addr => q.add (0 * 6)) (some ⟨kb, ko, none⟩)) = a' := ⟨_, rfl⟩
   refine qV (zGQ (a := (some ⟨kb, ko, none⟩)) (len := (st' ++ [x]).length) (cap := kc) (hi := st'.length) (l := (((st' ++ [x]).length : Nat) : Int) - 1) Tryz.underlying23 zAH rfl rfl (by omega) (by omega) hk2) ?_
   refine qA (.slice k2 st'.length kc) rfl ?_
   refine zAB (zAA ?_)
   refine qM (.slice oa outs.length oc) rfl ?_
   refine qV (zAG (vs := [(I6 x.kind), (.slice xa x.set.length xc), (.slice ya x.args.length yc), (I6 x.mn), (I6 x.mx), (.bool x.neg)]) rfl zAb zAH rfl (Bx.cells rfl)) ?_
   refine zAu (ps := [(0, (.agg (R6 x xa xc ya yc)))]) (c := (R6 x xa xc ya yc)) (by decide) rfl Tryz.underlying23 zAH zAs (by decide) (by decide) (by kernel_rfl) ?_
   intro bn wn Nn
   have Fn := Nn.ge E
   have On_bp := Nn.lt Bp
   have On_bx := Nn.lt Bx
   replace Bp := Nn.keep Bp
   replace Bx := Nn.keep Bx
   replace hO := zBE hO Nn.ext
   replace hS := zBE hS Nn.ext
   replace hbs := Nat.le_trans hbs Nn.ext.size
   replace E := E.ext Nn.ext
   have Bn := Nn.blk
   rw [zPk] at hk2
   subst hk2
   have hS' := zQF (m := st'.length) hS (by omega) (by omega)
   rw [zOZ hrs'.six hrs'.len] at hS'
   clear hS
   refine zBh (base := base) (n := outs.length) (m := 1) (xs := ro.flatten) (news := [(I6 x.kind), (.slice xa x.set.length xc), (.slice ya x.args.length yc), (I6 x.mn), (I6 x.mx), (.bool x.neg)]) (size := 6) (bytes := 80) (v := (.slice oa outs.length oc)) (by decide) Tryz.underlying23 zAH zEj zAs rfl (by decide) rfl hO rfl (rfl) (Bn.cells rfl) (by simp [Value.oneCell']) (by unfold maxLen; omega) (by omega) (hbs) ?_
   intro v9 w9 Ov9 Cv9 Dv9
   replace Bp := Cv9.keep (fun h => by have := (hO.lt _ h).1; omega) Bp
   replace Bx := Cv9.keep (fun h => absurd (hOw _ h) (by have := Nx.eq; omega)) Bx
   replace E := E.step Cv9 (fun x hx h => absurd (hO.lt x h).1 (by omega))
   obtain ⟨oa2, oc2, rfl⟩ := zBY Ov9
   have hS2 := zIj hS' Cv9 hAp.slc.symm.slc.symm
   have hAp2 := zEU.app (hAp.slc.symm.slc.symm) hS' Dv9
   have hsz2 : Re.sizes (st' ++ [x]) = Re.sizes st' + x.size := by rw [Re.sizes_append]; simp [Re.sizes]
   have hxs := x.size_eq
   have hal := zDj x.args
   have hstl := zDj st'
   have hbs2 := Nat.le_trans hbs Cv9.size
   refine qA (.slice oa2 (outs.length + 1) oc2) rfl ?_
   refine zAB (zAA ?_)
   refine qF bx 0 2 rfl Tryz.underlying25 rfl zBI rfl ?_
   refine qV (zAK (v := (.slice ya x.args.length yc)) rfl zAv (Bx.cell rfl)) ?_
   refine qV (zAV (ad := ya) (n := x.args.length) (cap := yc) Tryz.underlying23 rfl) ?_
   refine qV (zEh (k := .i64) (a := (x.args.length : Int)) (b := 1) (c := (x.args.length : Int) - 1) rfl rfl (zBs (by omega))) ?_
   refine qA (I6 ((x.args.length : Int) - 1)) rfl ?_
   refine zAB (zAZ ?_)
   refine zBA (fun nn_ σ W6 => ∃ (i : Nat) (st2 : List Re) (rs2 : List (List Value)) (ka : Option Addr) (kc : Nat), (∃ jj_, σ = zCl jj_ [(1, (I6 most)), (5, (.slice oa2 (outs.length + 1) oc2)), (7, (P6 bx 0)), (8, (I6 ((i : Int) - 1))), (6, (.slice ka st2.length kc))]) ∧ Chg zAh w0 W6 ∧ Blk W6 bp (R6 t sa sc aa ac) 25 ∧ Blk W6 bx (R6 x xa xc ya yc) 25 ∧ (i ≤ x.args.length) ∧ (W6.ownsRow base TE 6 (.slice oa2 (outs.length + 1) oc2) (outs.length + 1) (ro ++ [zPt x xa xc ya yc]).flatten) ∧ (W6.ownsRow base TE 6 (.slice ka st2.length kc) st2.length rs2.flatten) ∧ (zEU (.slice oa2 (outs.length + 1) oc2) (.slice ka st2.length kc)) ∧ (zBi w0 st2 rs2) ∧ (st2 = st' ++ (x.args.drop i).reverse) ∧ (base ≤ W6.heap.size) ∧ (∀ k, (Value.slice ka st2.length kc).ownBlock = some k → k ≠ bx) ∧ nn_ = 2 * i) (n := 2 * x.args.length) ?_ ?_
   ·exact ⟨x.args.length, st', rs', _, _, zBG.out ⟨rfl, rfl, rfl, rfl, rfl, trivial⟩, E, Bp, Bx, Nat.le_refl _, (by simpa using Ov9), hS2, hAp2, hrs', (by simp), hbs2, (fun k h e => by have h1 : k < _ := hSw k h; have := Nx.eq; omega), rfl⟩
   ·clear E Bp Bx
    rintro _ _ W6 ⟨i, st2, rs2, ka, kc, ⟨j6, rfl⟩, E, Bp, Bx, hi, hO2, hS2, hAp2, hrs2, hst, hbs2, hSx, rfl⟩
    refine zAP (zAA ?_)
    refine qM (I6 ((i : Int) - 1)) rfl ?_
    refine qV (zFE (k := .i64) (a := (i : Int) - 1) (b := 0) rfl rfl) ?_
    refine zAB ?_
    refine zAM (b := decide ((0 : Int) ≤ (i : Int) - 1)) rfl (fun hge => ?_) (fun hge => ?_)
    ·have khge := hge
     replace hge := of_decide_eq_true hge
     obtain ⟨y, hy⟩ := zAa (l := x.args) (i := i - 1) (by omega)
     obtain ⟨ab, ao, rfl, hres⟩ : ∃ b o, ya = some ⟨b, o, none⟩ ∧ zBw w0 b o x.args := by
      rcases hxargs with h | h
      ·rw [h] at hy; simp at hy
      ·exact h
     obtain ⟨us, hus, hyt⟩ := hres.get hy
     obtain ⟨va, vc, za, zc, rfl, _, _, _⟩ := hyt.form
     have hbxl := Bx.lt
     refine zAR (zAC (zAP (zAZ (zAW ?_))))
     refine qM (.slice ka st2.length kc) rfl ?_
     refine qF bx 0 2 rfl Tryz.underlying25 rfl zBI rfl ?_
     refine qV (zAK (v := (.slice (some ⟨ab, ao, none⟩) x.args.length yc)) rfl zAv (Bx.cell rfl)) ?_
     refine qM (I6 ((i : Int) - 1)) rfl ?_
     refine qV (zAO (b := ab) (o := ao) (len := x.args.length) (cap := yc) (i := i - 1) (o' := ao + (i - 1) * 6) rfl rfl (by omega) Tryz.underlying23 zAH (by omega) (by omega)) ?_
     refine qV (zAG (vs := [(I6 y.kind), (.slice va y.set.length vc), (.slice za y.args.length zc), (I6 y.mn), (I6 y.mx), (.bool y.neg)]) rfl zAb zAH rfl (hus.ext E)) ?_
     have hst2l : st2.length = st'.length + (x.args.length - i) := by rw [hst]; simp
     refine zAu (ps := [(0, (.agg (R6 y va vc za zc)))]) (c := (R6 y va vc za zc)) (by decide) rfl Tryz.underlying23 zAH zAs (by decide) (by decide) (by kernel_rfl) ?_
     intro bm wm Nm
     have Fm := Nm.ge E
     have Om_bp := Nm.lt Bp
     have Om_bx := Nm.lt Bx
     replace Bp := Nm.keep Bp
     replace Bx := Nm.keep Bx
     replace hO2 := zBE hO2 Nm.ext
     replace hS2 := zBE hS2 Nm.ext
     replace hbs2 := Nat.le_trans hbs2 Nm.ext.size
     replace E := E.ext Nm.ext
     have Bm := Nm.blk
     refine zBh (base := base) (n := st2.length) (m := 1) (xs := rs2.flatten) (news := [(I6 y.kind), (.slice va y.set.length vc), (.slice za y.args.length zc), (I6 y.mn), (I6 y.mx), (.bool y.neg)]) (size := 6) (bytes := 80) (v := (.slice ka st2.length kc)) (by decide) Tryz.underlying23 zAH zEj zAs rfl (by decide) rfl hS2 rfl (rfl) (Bm.cells rfl) (by simp [Value.oneCell']) (by unfold maxLen; omega) (by omega) (hbs2) ?_
     intro v19 w19 Ov19 Cv19 Dv19
     replace Bp := Cv19.keep (fun h => by have := (hS2.lt _ h).1; omega) Bp
     replace Bx := Cv19.keep (fun h => hSx _ h rfl) Bx
     replace E := E.step Cv19 (fun x hx h => absurd (hS2.lt x h).1 (by omega))
     obtain ⟨ka2, kc2, rfl⟩ := zBY Ov19
     have hO3 := zIj hO2 Cv19 hAp2.symm
     have hAp3 := (zEU.app hAp2.symm hO2 Dv19).symm
     have hl2 : (st2 ++ [y]).length = st2.length + 1 := by simp
     rw [← hl2] at Ov19 hAp3 Dv19 ⊢
     refine qA (.slice ka2 ((st2 ++ [y]).length) kc2) rfl ?_
     refine zAB (zAU (zAC (zAW ?_)))
     refine qM (I6 ((i : Int) - 1)) rfl ?_
     refine qV (zEh (k := .i64) (a := (i : Int) - 1) (b := 1) (c := (((i - 1 : Nat) : Nat) : Int) - 1) rfl rfl (by rw [zBs (by omega)]; omega)) ?_
     refine qA (I6 ((((i - 1 : Nat) : Nat) : Int) - 1)) rfl ?_
     refine zAB (zAC ?_)
     exact ⟨2 * (i - 1), by omega, i - 1, st2 ++ [y], rs2 ++ [_], ka2, kc2, zBG.out ⟨rfl, rfl, rfl, rfl, rfl, trivial⟩, E, Bp, Bx, (by omega), hO3, (by simpa using Ov19), hAp3, hrs2.snoc hyt, (by rw [hst, zBP hy, show i - 1 + 1 = i from by omega]; simp), Nat.le_trans hbs2 Cv19.size, (fun k h e => by rcases Dv19 k h with h1 | h1; exact hSx k h1 e; have := Nm.size; omega), rfl⟩
    ·have khge := hge
     replace hge := of_decide_eq_false hge
     obtain rfl : i = 0 := by omega
     have hl3 : (outs ++ [x]).length = outs.length + 1 := by simp
     rw [← hl3] at hO2 hAp2 ⊢
     refine zBB (zAe (zAe (zAr (zAU (zAC ?_)))))
     exact ⟨t.size - (outs ++ [x]).length, by omega, outs ++ [x], st2, ro ++ [_], rs2, oa2, oc2, ka, kc, zBG.out ⟨rfl, rfl, rfl, trivial⟩, E, Bp, hO2, hS2, hAp2, hro.snoc hxr, hrs2, (by rw [hpre, hst]; simp [zDv, zFq, zMW x]), (by simp; omega), hbs2, rfl⟩
  ·have khlt := hlt
   have hfin : outs = (zEZ t).take most.toNat := by
    simp at hlt
    rcases Nat.eq_zero_or_pos sts.length with h | h
    ·have : sts = [] := List.eq_nil_of_length_eq_zero h
     subst this
     have hp : zEZ t = outs := by rw [hpre]; simp [zDv]
     rw [hp, List.take_of_length_le (by omega)]
    ·have hle := hlt h
     have : outs.length = most.toNat := by omega
     rw [hpre, ← this, List.take_left' rfl]
   rw [← hfin]
   refine zBB (zAe (zAe (zAr (zAC (zAA ?_)))))
   refine qM (.slice oa outs.length oc) rfl ?_
   refine qA (.slice oa outs.length oc) rfl ?_
   refine zAB (zAQ ?_)
   refine zAS Tryz.results19 (v := (.slice oa outs.length oc)) rfl ?_
   exact ⟨oa, oc, ro, rfl, zHl hO hro rfl, hro, E⟩
end Go.Proofs
namespace Go.Proofs
open Go Go.Eng
set_option maxRecDepth 100000
section
variable {S : Type} (F : S → Re → Bool × S)
def zEp : List Re → S → Bool × S
  | [], s => (true, s)
  | t :: ts, s => if (F s t).1 then zEp ts (F s t).2 else (false, (F s t).2)
theorem zFo : ∀ (a b : List Re) (s : S), zEp F (a ++ b) s = if (zEp F a s).1 then zEp F b (zEp F a s).2 else (false, (zEp F a s).2)
  | [], b, s => by simp [zEp]
  | x :: a, b, s => by
    simp only [List.cons_append, zEp]
    split
    · exact zFo a b _
    · simp
mutual
theorem zHA : ∀ (t : Re) (s : S), zCO F t s = zEp F (zEZ t) s
  | .mk k set args mn mx ng, s => by
    rw [zDx, zMW]
    simp only [zEp, Re.args]
    rw [zGE args]
theorem zGE : ∀ (ts : List Re) (s : S), zCK F ts s = zEp F (zDv ts) s
  | [], s => by simp only [zCK, zDv, zEp]
  | t :: ts, s => by
    rw [zCT]
    simp only [zDv]
    rw [zFo, ← zHA t, ← zGE ts]
end
end
def zNj (m : Nat) : Nat → List Re → Int
  | _, [] => 0
  | i, x :: xs => if i = m then 2 else if zBj x ≠ 0 then zBj x else zNj m (i + 1) xs
theorem zKl (m : Nat) (hm : m ≤ 1000000) : ∀ (l : List Re) (n : Nat), n ≤ m → (zEp (zEH (m : Int)) l ((n : Int), 0)).2.2 = zNj m n (l.take (m + 1 - n))
  | [], n, _ => by simp [zEp, zNj]
  | x :: xs, n, hn => by
    simp only [zEp]
    rw [zJh x (by omega) (by omega)]
    rw [show m + 1 - n = (m - n) + 1 from by omega, List.take_succ_cons]
    simp only [zNj]
    by_cases h : n = m
    · rw [if_pos h, if_pos (by omega : (m : Int) < (n : Int) + 1)]; simp
    · rw [if_neg h, if_neg (by omega : ¬ (m : Int) < (n : Int) + 1)]
      by_cases h2 : zBj x = 0
      · have := zKl m hm xs (n + 1) (by omega)
        rw [show m + 1 - (n + 1) = m - n from by omega] at this
        simp only [h2, decide_true, if_true, ne_eq, not_true, if_false]
        rw [← this]; rfl
      · rw [if_pos h2]; simp [h2]
theorem zOa {t : Re} {m : Nat} (hm : m ≤ 1000000) : zCW t (m : Int) = zNj m 0 ((zEZ t).take (m + 1)) := by
 unfold zCW
 rw [zHA]
 exact zKl m hm (zEZ t) 0 (Nat.zero_le _)
set_option maxHeartbeats 1000000 in
theorem zPw (w0 : World) (t : Re) (vs : List Value) (m : Nat) (hm : m ≤ 1000000) (ht : zBC w0 t vs) (hs : t.size ≤ 2097152) :
  Ret Tryz.prog 51 #[.agg vs.toArray, .int .i64 (m : Int)] w0 fun v w => v = .int .i64 (zCW t (m : Int)) ∧ Ext w0 w := by
 have ht0 := ht
 obtain ⟨sa, sc, aa, ac, rfl, hset, hlen, hargs⟩ := ht.form
 rw [zOa hm]
 refine zAk Tryz.func51 rfl Tryz.ntmps51 (Nat.le_of_ble_eq_true rfl) ?_
 have E : Chg zAh w0 w0 := Chg.refl _ _
 refine zAA ?_
 refine zBL (v := (.agg (R6 t sa sc aa ac))) (c := (R6 t sa sc aa ac)) (by decide) rfl rfl ?_
 intro b1 w1 N1
 have F1 := N1.ge E
 replace E := E.ext N1.ext
 have B1 := N1.blk
 refine qA (I6 0) rfl ?_
 refine zAB (zAP (zAA ?_))
 refine qV (zAG (vs := [(I6 t.kind), (.slice sa t.set.length sc), (.slice aa t.args.length ac), (I6 t.mn), (I6 t.mx), (.bool t.neg)]) rfl zAb zAH rfl (B1.cells rfl)) ?_
 refine qM (I6 (m : Int)) rfl ?_
 refine qV (zBQ (k := .i64) (a := (m : Int)) (b := 1) (c := ((m + 1 : Nat) : Int)) rfl rfl (by rw [zBs (by omega)]; omega)) ?_
 refine zAL rfl rfl (by decide) (zAT (vs := [(.agg (R6 t sa sc aa ac)), (I6 ((m + 1 : Nat) : Int))]) Tryz.func19 nm19 bd19 rfl) (zMV _ t _ _ (zBC.ext E t ht0) hs) ?_
 rintro _ w9 ⟨la, lc, rows, rfl, hsl, hrows, X9⟩
 replace B1 := X9.keep B1
 replace E := E.ext X9
 have hll : ((zEZ t).take (m + 1)).length ≤ m + 1 := by simp; omega
 obtain ⟨L, hL⟩ : ∃ L, L = (zEZ t).take (m + 1) := ⟨_, rfl⟩
 have hrows' : zBi w9 L rows := by rw [hL]; exact zBi.ext X9 hrows
 clear hrows
 rw [show ((m + 1 : Nat) : Int).toNat = m + 1 from rfl] at hsl
 rw [show ((m + 1 : Nat) : Int).toNat = m + 1 from rfl]
 rw [← hL] at hsl hll ⊢
 clear hL
 have wq0 : Ext w9 w9 := Ext.refl _
 have EQ : Chg zAh w9 w9 := Chg.refl _ _
 refine qV (zAV (ad := la) (n := L.length) (cap := lc) Tryz.underlying23 rfl) ?_
 refine qM (I6 0) rfl ?_
 refine zAB (zAZ ?_)
 refine zBA (fun nn_ σ W2 => ∃ (k : Nat), (∃ jj_, σ = zCl jj_ [(1, (I6 (m : Int))), (11, (.slice la L.length lc)), (12, (I6 (L.length : Int))), (13, (I6 (k : Int)))]) ∧ Chg zAh w0 W2 ∧ Chg zAh w9 W2 ∧ Blk W2 b1 (R6 t sa sc aa ac) 25 ∧ (k ≤ L.length) ∧ (zNj m 0 L = zNj m k (L.drop k)) ∧ nn_ = L.length - k) (n := L.length - 0) ?_ ?_
 ·exact ⟨0, zBG.out ⟨rfl, rfl, rfl, rfl, trivial⟩, E, EQ, B1, Nat.zero_le _, rfl, rfl⟩
 clear E EQ B1
 rintro _ _ W2 ⟨k, ⟨j2, rfl⟩, E, EQ, B1, hk, hp, rfl⟩
 refine zAA ?_
 refine qV (zBS (k := .i64) (a := (k : Int)) (b := (L.length : Int)) rfl rfl) ?_
 refine zAB (zAP ?_)
 refine zAM (b := decide (((k : Int) : Int) < (L.length : Int))) rfl (fun hlt => ?_) (fun hlt => ?_)
 ·have khlt := hlt
  replace hlt := of_decide_eq_true hlt
  obtain ⟨x, hx⟩ := zAa (l := L) (i := k) (by omega)
  obtain ⟨r, hr, hxr⟩ := hrows'.get hx
  obtain ⟨b, o, rfl, hcl⟩ := zCA.at hsl (by omega)
  have hd := zBP hx
  have hcr := (hcl k r hr).ext EQ
  obtain ⟨xa, xc, ya, yc, rfl, hxset, hxlen, hxargs⟩ := hxr.form
  refine zAR (zAC (zAP (zAZ (zAA ?_))))
  refine qM (I6 (k : Int)) rfl ?_
  refine qV (zAO (b := b) (o := o) (len := L.length) (cap := lc) (i := k) (o' := o + k * 6) rfl rfl rfl Tryz.underlying23 zAH (by omega) (by omega)) ?_
  refine qV (zAG (vs := [(I6 x.kind), (.slice xa x.set.length xc), (.slice ya x.args.length yc), (I6 x.mn), (I6 x.mx), (.bool x.neg)]) rfl zAb zAH rfl (hcr)) ?_
  refine zBD (c := #[(I6 0), (.slice none 0 0), (.slice none 0 0), (I6 0), (I6 0), (.bool false)]) (by decide) zAs rfl ?_
  intro b4 w4 N4
  have F4 := N4.ge E
  have F4_EQ := N4.ge EQ
  have O4_b1 := N4.lt B1
  replace B1 := N4.keep B1
  replace E := E.ext N4.ext
  have B4 := N4.blk
  replace EQ := EQ.ext N4.ext
  refine qA (I6 (k : Int)) rfl ?_
  refine qW (R6 x xa xc ya yc) rfl rfl zAH B4 ?_
  intro w5 S5
  replace B1 := S5.keep (by omega) B1
  replace E := S5.stp E
  replace EQ := S5.step EQ (Or.inl (by omega))
  replace B4 := S5.blk
  refine zAB (zAP (zAA ?_))
  refine qM (I6 (k : Int)) rfl ?_
  refine qM (I6 (m : Int)) rfl ?_
  refine qV (zAg (k := .i64) (a := (k : Int)) (b := (m : Int)) rfl rfl) ?_
  refine zAB ?_
  refine zAM (b := decide (((k : Int) : Int) = (m : Int))) rfl (fun he => ?_) (fun he => ?_)
  ·have khe := he
   replace he := of_decide_eq_true he
   refine zAA ?_
   refine qA (I6 2) rfl ?_
   refine zAB (zAQ (zAI (zAY (zAI (zAI (zAY (zAI ?_)))))))
   refine zAS Tryz.results51 (v := (.int .i64 2)) rfl ?_
   exact ⟨zBF (by rw [hp, hd]; simp only [zNj]; rw [if_pos (by omega)]), E⟩
  have khe := he
  replace he := of_decide_eq_false he
  refine zAR (zAC (zAA ?_))
  refine qV (zAG (vs := [(I6 x.kind), (.slice xa x.set.length xc), (.slice ya x.args.length yc), (I6 x.mn), (I6 x.mx), (.bool x.neg)]) rfl zAb zAH rfl (B4.cells rfl)) ?_
  refine zAL rfl rfl (by decide) (zAT (vs := [(.agg (R6 x xa xc ya yc))]) Tryz.func106 nm106 bd106 rfl) (zQg _ _ x _ hxr EQ) ?_
  rintro _ w19 ⟨rfl, X19⟩
  replace B1 := X19.keep B1
  replace B4 := X19.keep B4
  replace E := E.ext X19
  replace EQ := EQ.ext X19
  refine qA (I6 (zBj x)) rfl ?_
  refine zAB (zAA ?_)
  refine qM (I6 (zBj x)) rfl ?_
  refine qV (zBz (k := .i64) (a := zBj x) (b := 0) rfl rfl) ?_
  refine zAB ?_
  refine zAM (b := decide ((zBj x : Int) ≠ 0)) rfl (fun hne => ?_) (fun hne => ?_)
  ·have khne := hne
   replace hne := of_decide_eq_true hne
   refine zAA ?_
   refine qM (I6 (zBj x)) rfl ?_
   refine qA (I6 (zBj x)) rfl ?_
   refine zAB (zAQ (zAY (zAI (zAI (zAY (zAI ?_))))))
   refine zAS Tryz.results51 (v := (.int .i64 (zBj x))) rfl ?_
   exact ⟨zBF (by rw [hp, hd]; simp only [zNj]; rw [if_neg (by omega), if_pos hne]), E⟩
  have khne := hne
  replace hne := of_decide_eq_false hne
  refine zAR (zAU (zAC (zAW ?_)))
  refine qV (zBQ (k := .i64) (a := (k : Int)) (b := 1) (c := (k : Int) + 1) rfl rfl (zBs (by omega))) ?_
  refine qM (I6 ((k : Int) + 1)) rfl ?_
  refine zAB (zAC ?_)
  exact ⟨L.length - (k + 1), by omega, k + 1, zBG.out ⟨rfl, rfl, rfl, rfl, trivial⟩, E, EQ, B1, (by omega), (by rw [hp, hd]; simp only [zNj]; rw [if_neg (by omega), if_neg hne]), rfl⟩
 have khlt := hlt
 replace hlt := of_decide_eq_false hlt
 have hkl : L.drop k = [] := List.drop_eq_nil_of_le (by omega)
 refine zBB (zAe (zAe (zAr (zAC (zAA ?_)))))
 refine qA (I6 0) rfl ?_
 refine zAB (zAQ ?_)
 refine zAS Tryz.results51 (v := (.int .i64 0)) rfl ?_
 exact ⟨zBF (by rw [hp, hkl]; rfl), E⟩
theorem zPD {P : Program} {σ : Env} {w : World} {dst : Option Tmp} {ty : TypeId} {pos : String} {af : Array Edge} {g : Option (Nat × Bool)} {tys : Array TypeId} {x y : Operand} {k : IntKind} {a b c : Int} (hx : ev σ x = .int k a) (hy : ev σ y = .int k b) (hc : max a b = c) :
  (execOp (ev σ) ⟨dst, .call ⟨.builtin .max, #[x, y], tys⟩, ty, pos, af, g⟩).run P w = .ok (.value (.int k c)) w := by
 subst hc
 have : (if a < b then b else a) = max a b := by split <;> omega
 simp [execOp, resolve, invoke, builtin, Builtin.max_, Builtin.max2, hx, hy, this]
theorem zNl : ∀ (N : Nat) (t : Re), t.size ≤ N → N ≤ 2097152 → zDh t → ∀ (w0 : World) (vs : List Value), zBC w0 t vs →
    Ret Tryz.prog 68 #[.agg vs.toArray] w0 fun v w => (∃ d : Int, v = .int .i64 d ∧ 0 ≤ d ∧ d ≤ 1000000) ∧ Ext w0 w := by
  intro N
  induction N with
  | zero => intro t ht; have := t.size_pos; omega
  | succ N ih =>
  intro t hN hNb hok w0 vs ht
  have ht0 := ht
  obtain ⟨sa, sc, aa, ac, rfl, hset, hlen, hargs⟩ := ht.form
  have hal := zBm t
  refine zAk Tryz.func68 rfl Tryz.ntmps68 (Nat.le_of_ble_eq_true rfl) ?_
  have E : Chg zAh w0 w0 := Chg.refl _ _
  refine zAA ?_
  refine zBL (v := (.agg (R6 t sa sc aa ac))) (c := (R6 t sa sc aa ac)) (by decide) rfl rfl ?_
  intro b1 w1 N1
  have F1 := N1.ge E
  replace E := E.ext N1.ext
  have B1 := N1.blk
  refine qA (I6 0) rfl ?_
  refine zAB (zAA ?_)
  refine qA (I6 1) rfl ?_
  refine zAB (zAP (zAA ?_))
  refine qF b1 0 2 rfl Tryz.underlying25 rfl zBI rfl ?_
  refine qV (zAK (v := (.slice aa t.args.length ac)) rfl zAv (B1.cell rfl)) ?_
  refine qV (zAV (ad := aa) (n := t.args.length) (cap := ac) Tryz.underlying23 rfl) ?_
  refine qM (I6 0) rfl ?_
  refine zAB (zAZ ?_)
  refine zBA (fun nn_ σ W2 => ∃ (k : Nat) (n : Int), (∃ jj_, σ = zCl jj_ [(1, (P6 b1 0)), (7, (.slice aa t.args.length ac)), (8, (I6 (t.args.length : Int))), (9, (I6 (k : Int))), (3, (I6 n))]) ∧ Chg zAh w0 W2 ∧ Blk W2 b1 (R6 t sa sc aa ac) 25 ∧ (k ≤ t.args.length) ∧ (0 ≤ n ∧ n ≤ 1000000) ∧ nn_ = t.args.length - k) (n := t.args.length - 0) ?_ ?_
  · exact ⟨0, 1, zBG.out ⟨rfl, rfl, rfl, rfl, rfl, trivial⟩, E, B1, Nat.zero_le _, (by omega), rfl⟩
  · clear E B1
    rintro _ _ W2 ⟨k, n, ⟨j2, rfl⟩, E, B1, hk, hn, rfl⟩
    refine zAA ?_
    refine qV (zBS (k := .i64) (a := (k : Int)) (b := (t.args.length : Int)) rfl rfl) ?_
    refine zAB (zAP ?_)
    refine zAM (b := decide (((k : Int) : Int) < (t.args.length : Int))) rfl (fun hlt => ?_) (fun hlt => ?_)
    · have khlt := hlt
      replace hlt := of_decide_eq_true hlt
      obtain ⟨x, hx⟩ := zAa (l := t.args) (i := k) (by omega)
      obtain ⟨ab, ao, rfl, hres⟩ : ∃ b o, aa = some ⟨b, o, none⟩ ∧ zBw w0 b o t.args := by
        rcases hargs with h | h
        · rw [h] at hx; simp at hx
        · exact h
      obtain ⟨us, hus, hxt⟩ := hres.get hx
      have hsz := Re.size_arg hx
      have hxo := zCQ (zCD hok) hx
      refine zAR (zAC (zAP (zAZ (zAA ?_))))
      refine qV (zAO (b := ab) (o := ao) (len := t.args.length) (cap := ac) (i := k) (o' := ao + k * 6) rfl rfl rfl Tryz.underlying23 zAH (by omega) (by omega)) ?_
      refine qV (zAG (vs := us) rfl zAb zAH hxt.len (hus.ext E)) ?_
      refine zAi (v := (.agg us.toArray)) (c := us.toArray) (n := 6) (by decide) zAs rfl zAH rfl rfl (by simpa using hxt.len) (by simpa using zBC.one hxt) ?_
      intro b4 w4 N4
      have F4 := N4.ge E
      have O4_b1 := N4.lt B1
      replace B1 := N4.keep B1
      replace E := E.ext N4.ext
      have B4 := N4.blk
      refine zAB (zAW ?_)
      refine qM (I6 n) rfl ?_
      refine qV (zAG (vs := us) rfl zAb zAH hxt.len (B4.cells (by simp))) ?_
      refine zAL rfl rfl (by decide) (zAT (vs := [(.agg us.toArray)]) Tryz.func68 nm68 bd68 rfl) (ih x (by omega) (by omega) hxo _ us (zBC.ext E x hxt)) ?_
      rintro _ w9 ⟨⟨d, rfl, hd⟩, X9⟩
      replace B1 := X9.keep B1
      replace B4 := X9.keep B4
      replace E := E.ext X9
      refine qV (zBQ (k := .i64) (a := n) (b := d) (c := n + d) rfl rfl (zBs (by omega))) ?_
      refine qV (zPB (a := n + d) (b := 1000000) (c := min (n + d) 1000000) rfl rfl rfl) ?_
      refine qA (I6 (min (n + d) 1000000)) rfl ?_
      refine zAB (zAU (zAC (zAW ?_)))
      refine qV (zBQ (k := .i64) (a := (k : Int)) (b := 1) (c := (k : Int) + 1) rfl rfl (zBs (by omega))) ?_
      refine qM (I6 ((k : Int) + 1)) rfl ?_
      refine zAB (zAC ?_)
      exact ⟨t.args.length - (k + 1), by omega, k + 1, min (n + d) 1000000, zBG.out ⟨rfl, rfl, rfl, rfl, rfl, trivial⟩, E, B1, (by omega), (by omega), rfl⟩
    · have khlt := hlt
      replace hlt := of_decide_eq_false hlt
      refine zBB (zAe (zAe (zAr (zAC (zAP (zAA ?_))))))
      refine qF b1 0 0 rfl Tryz.underlying25 rfl zAw rfl ?_
      refine qV (zAK (v := (I6 t.kind)) rfl zAf (B1.cell rfl)) ?_
      refine qV (zAg (k := .i64) (a := t.kind) (b := 6) rfl rfl) ?_
      refine zAB ?_
      refine zAM (b := decide ((t.kind : Int) = 6)) rfl (fun h6 => ?_) (fun h6 => ?_)
      · have kh6 := h6
        replace h6 := of_decide_eq_true h6
        have hrep := zHo hok h6
        refine zAW ?_
        refine qM (I6 n) rfl ?_
        refine qF b1 0 4 rfl Tryz.underlying25 rfl zAw rfl ?_
        refine qV (zAK (v := (I6 t.mx)) rfl zAf (B1.cell rfl)) ?_
        refine qV (zPD (a := 1) (b := t.mx) (c := max 1 t.mx) rfl rfl rfl) ?_
        have hmul : 0 ≤ n * max 1 t.mx ∧ n * max 1 t.mx ≤ 8000000 := ⟨Int.mul_nonneg (by omega) (by omega), Int.le_trans (Int.mul_le_mul (by omega : n ≤ 1000000) (by omega : max 1 t.mx ≤ 8) (by omega) (by omega)) (by decide)⟩
        refine qV (r_mul (k := .i64) (a := n) (b := max 1 t.mx) (c := n * max 1 t.mx) rfl rfl (zBs (by omega))) ?_
        refine qV (zPB (a := n * max 1 t.mx) (b := 1000000) (c := min (n * max 1 t.mx) 1000000) rfl rfl rfl) ?_
        refine qA (I6 (min (n * max 1 t.mx) 1000000)) rfl ?_
        refine zAB (zAC (zAA ?_))
        refine qM (I6 (min (n * max 1 t.mx) 1000000)) rfl ?_
        refine qA (I6 (min (n * max 1 t.mx) 1000000)) rfl ?_
        refine zAB (zAQ ?_)
        refine zAS Tryz.results68 (v := (.int .i64 (min (n * max 1 t.mx) 1000000))) rfl ?_
        exact ⟨⟨_, rfl, by omega, by omega⟩, E⟩
      · have kh6 := h6
        replace h6 := of_decide_eq_false h6
        refine zAR (zAC (zAA ?_))
        refine qM (I6 n) rfl ?_
        refine qA (I6 n) rfl ?_
        refine zAB (zAQ ?_)
        refine zAS Tryz.results68 (v := (.int .i64 n)) rfl ?_
        exact ⟨⟨_, rfl, by omega, by omega⟩, E⟩
end Go.Proofs
namespace Go.Proofs
open Go Go.Eng
set_option maxRecDepth 100000
theorem zLY {w : World} {b o : Nat} {xs ys : List Value} (h : zAx w b o (xs ++ ys)) : zAx w b o xs := fun i v hv => h i v (by rw [List.getElem?_append_left (zAo hv)]; exact hv)
theorem zJk {w : World} {b o : Nat} {xs ys : List Value} (h : zAx w b o (xs ++ ys)) : zAx w b (o + xs.length) ys := fun i v hv => by
 have := h (xs.length + i) v (by rw [List.getElem?_append_right (by omega), Nat.add_sub_cancel_left]; exact hv)
 rwa [← Nat.add_assoc] at this
theorem zHR (rows : List (List Value)) (i : Nat) : rows.flatten = (rows.take i).flatten ++ (rows.drop i).flatten := by rw [← List.flatten_append, List.take_append_drop]
theorem zAj.drop {S : Nat → Prop} {w : World} : ∀ {ts : List Re} {rows : List (List Value)} (i : Nat), zAj S w ts rows → zAj S w (ts.drop i) (rows.drop i)
  | [], _, i, h => by simp only [zAj] at h; subst h; cases i <;> rfl
  | t :: ts, rows, 0, h => h
  | t :: ts, rows, i + 1, h => by
    obtain ⟨r, rs, rfl, h2, h3⟩ := h
    exact zAj.drop i h3
theorem zMG {S S' : Nat → Prop} {w : World} {n0 m c : Nat} {a : Option Addr} {ts : List Re} {rows : List (List Value)} (hown : w.ownsRow n0 TRe 6 (.slice a m c) m rows.flatten) (hR : zAj S w ts rows) (hm : ts.length = m) (hS' : ∀ y, S y → S' y) (hn : ∀ y, n0 ≤ y → S' y) : zCJ S' w (.slice a m c) ts := by
 obtain ⟨h1, h2⟩ := zDz hown hR hm
 subst hm
 refine ⟨a, c, rfl, h1, ?_⟩
 rcases h2 with h | ⟨b, h3, _, h4, h5⟩
 ·exact .inl h
 exact .inr ⟨b, 0, hn b h3, h4, zCx fun i t ht => by obtain ⟨vs, h6, h7⟩ := h5 i t ht; exact ⟨vs, h6, zAc.mono hS' t h7⟩⟩
end Go.Proofs
namespace Go.Proofs
open Go Go.Eng Go.Sort
set_option maxRecDepth 100000
theorem zQh (w0 : World) (x y : Int × Int) : Ret Tryz.prog 177 #[.agg #[.int .i64 x.1, .int .i64 x.2], .agg #[.int .i64 y.1, .int .i64 y.2]] w0 fun v w => v = .int .i64 (zBt x y) ∧ Ext w0 w := by
 refine zAk Tryz.func177 rfl Tryz.ntmps177 (Nat.le_of_ble_eq_true rfl) ?_
 have E : Chg zAh w0 w0 := Chg.refl _ _
 refine zAA ?_
 refine zBL (v := (.agg #[(I6 x.1), (I6 x.2)])) (c := #[(I6 x.1), (I6 x.2)]) (by decide) rfl rfl ?_
 intro b1 w1 N1
 have F1 := N1.ge E
 replace E := E.ext N1.ext
 have B1 := N1.blk
 refine zBL (v := (.agg #[(I6 y.1), (I6 y.2)])) (c := #[(I6 y.1), (I6 y.2)]) (by decide) rfl rfl ?_
 intro b2 w2 N2
 have F2 := N2.ge E
 have O2_b1 := N2.lt B1
 replace B1 := N2.keep B1
 replace E := E.ext N2.ext
 have B2 := N2.blk
 refine qA (I6 0) rfl ?_
 refine zAB (zAP ?_)
 obtain ⟨Fs3, hFs3⟩ : ∃ Fs : List Fact, Fs = [.eq (P6 b1 0), .eq (I6 x.1), .eq (P6 b2 0), .eq (I6 y.1), .eq (I6 (zBx x.1 y.1)), .eq (P6 b1 1), .eq (I6 x.2), .eq (P6 b2 1), .eq (I6 y.2), .eq (I6 (zBx x.2 y.2)), .gen (zKU (zBx x.1 y.1) (zBx x.2 y.2)) (zHO _ _), .eq (I6 (zBt x y)), .eq (I6 (zBt x y))] := ⟨_, rfl⟩
 refine zEF [5, 6, 7, 8, 9, 10, 11, 12, 13, 14, 15, 16, 4] [[], [0], [], [2], [1, 3], [], [5], [], [7], [4, 6, 8], [4, 9], [9, 10], [0, 1, 2, 3, 4, 5, 6, 7, 8, 9, 10, 11]] Fs3 hFs3 mixed (by kernel_rfl) (by kernel_rfl) ?_ ?_
 ·intro wd X0
  refine DagSteps.cons (fun s' w' X U H => Or.inl ⟨?_, ?_⟩) ?_
  ·exact zAE rfl
  ·exact zAJ (zAN (b := b1) (o := 0) (o' := 0) (U 2 rfl) Tryz.underlying103 rfl zAw rfl) (Ext.refl _) rfl
  refine DagSteps.cons (fun s' w' X U H => Or.inl ⟨?_, ?_⟩) ?_
  ·exact zAE rfl
  ·have e5 : s' 5 = (.pointer (some ⟨b1, 0, none⟩)) := H 0 rfl 5 (.eq (.pointer (some ⟨b1, 0, none⟩))) rfl (by rw [hFs3]; rfl)
   exact zAJ (zAK (v := (I6 x.1)) e5 zAf (((X0.trans X).keep B1).cell rfl)) (Ext.refl _) rfl
  refine DagSteps.cons (fun s' w' X U H => Or.inl ⟨?_, ?_⟩) ?_
  ·exact zAE rfl
  ·exact zAJ (zAN (b := b2) (o := 0) (o' := 0) (U 3 rfl) Tryz.underlying103 rfl zAw rfl) (Ext.refl _) rfl
  refine DagSteps.cons (fun s' w' X U H => Or.inl ⟨?_, ?_⟩) ?_
  ·exact zAE rfl
  ·have e7 : s' 7 = (.pointer (some ⟨b2, 0, none⟩)) := H 2 rfl 7 (.eq (.pointer (some ⟨b2, 0, none⟩))) rfl (by rw [hFs3]; rfl)
   exact zAJ (zAK (v := (I6 y.1)) e7 zAf (((X0.trans X).keep B2).cell rfl)) (Ext.refl _) rfl
  refine DagSteps.cons (fun s' w' X U H => Or.inl ⟨?_, ?_⟩) ?_
  ·exact zAE rfl
  ·have e6 : s' 6 = (.int .i64 x.1) := H 1 rfl 6 (.eq (.int .i64 x.1)) rfl (by rw [hFs3]; rfl)
   have e8 : s' 8 = (.int .i64 y.1) := H 3 rfl 8 (.eq (.int .i64 y.1)) rfl (by rw [hFs3]; rfl)
   exact zAp (zAT (vs := [(I6 x.1), (I6 y.1)]) Tryz.func158 zMd zNX (zGt e6 e8)) (zER _ _ _)
  refine DagSteps.cons (fun s' w' X U H => Or.inl ⟨?_, ?_⟩) ?_
  ·exact zAE rfl
  ·exact zAJ (zAN (b := b1) (o := 0) (o' := 1) (U 2 rfl) Tryz.underlying103 rfl zAw rfl) (Ext.refl _) rfl
  refine DagSteps.cons (fun s' w' X U H => Or.inl ⟨?_, ?_⟩) ?_
  ·exact zAE rfl
  ·have e10 : s' 10 = (.pointer (some ⟨b1, 1, none⟩)) := H 5 rfl 10 (.eq (.pointer (some ⟨b1, 1, none⟩))) rfl (by rw [hFs3]; rfl)
   exact zAJ (zAK (v := (I6 x.2)) e10 zAf (((X0.trans X).keep B1).cell rfl)) (Ext.refl _) rfl
  refine DagSteps.cons (fun s' w' X U H => Or.inl ⟨?_, ?_⟩) ?_
  ·exact zAE rfl
  ·exact zAJ (zAN (b := b2) (o := 0) (o' := 1) (U 3 rfl) Tryz.underlying103 rfl zAw rfl) (Ext.refl _) rfl
  refine DagSteps.cons (fun s' w' X U H => Or.inl ⟨?_, ?_⟩) ?_
  ·exact zAE rfl
  ·have e12 : s' 12 = (.pointer (some ⟨b2, 1, none⟩)) := H 7 rfl 12 (.eq (.pointer (some ⟨b2, 1, none⟩))) rfl (by rw [hFs3]; rfl)
   exact zAJ (zAK (v := (I6 y.2)) e12 zAf (((X0.trans X).keep B2).cell rfl)) (Ext.refl _) rfl
  refine DagSteps.cons (fun s' w' X U H => Or.inl ⟨?_, ?_⟩) ?_
  ·exact zAE rfl
  ·have e11 : s' 11 = (.int .i64 x.2) := H 6 rfl 11 (.eq (.int .i64 x.2)) rfl (by rw [hFs3]; rfl)
   have e13 : s' 13 = (.int .i64 y.2) := H 8 rfl 13 (.eq (.int .i64 y.2)) rfl (by rw [hFs3]; rfl)
   exact zAp (zAT (vs := [(I6 x.2), (I6 y.2)]) Tryz.func158 zMd zNX (zGt e11 e13)) (zER _ _ _)
  refine DagSteps.cons (fun s' w' X U H => Or.inl ⟨?_, ?_⟩) ?_
  ·exact zAE rfl
  ·have e9 : s' 9 = (.int .i64 (zBx x.1 y.1)) := H 4 rfl 9 (.eq (.int .i64 (zBx x.1 y.1))) rfl (by rw [hFs3]; rfl)
   have e14 : s' 14 = (.int .i64 (zBx x.2 y.2)) := H 9 rfl 14 (.eq (.int .i64 (zBx x.2 y.2))) rfl (by rw [hFs3]; rfl)
   exact zLe e9 e14
  refine DagSteps.cons (fun s' w' X U H => Or.inl ⟨?_, ?_⟩) ?_
  ·exact zAE rfl
  ·obtain ⟨b15, e15, i15⟩ := H 10 rfl 15 (.gen (zKU (zBx x.1 y.1) (zBx x.2 y.2)) (zHO _ _)) rfl (by rw [hFs3]; rfl)
   exact zAp (zAT (vs := [(.slice (some ⟨b15, 0, none⟩) 2 2)]) Tryz.func206 nm206 bd206 (zLg e15)) (sor_c _ _ _ (e15 ▸ i15))
  refine DagSteps.cons (fun s' w' X U H => Or.inl ⟨?_, ?_⟩) ?_
  ·exact zAE rfl
  ·have e16 : s' 16 = (.int .i64 (zBt x y)) := H 11 rfl 16 (.eq (.int .i64 (zBt x y))) rfl (by rw [hFs3]; rfl)
   exact zAJ (zDf (v := (I6 (zBt x y))) e16) (Ext.refl _) rfl
  exact DagSteps.nil
 intro s' w3 X3 U H
 obtain ⟨j3, rfl⟩ := zBG.out (σ := s') (l := [(4, (.int .i64 (zBt x y)))]) ⟨(show s' 4 = (.int .i64 (zBt x y)) from H 12 4 (.eq (.int .i64 (zBt x y))) rfl (by rw [hFs3]; rfl)), trivial⟩
 clear U H
 replace B1 := X3.keep B1
 replace B2 := X3.keep B2
 replace E := E.ext X3
 refine zAC (zAQ ?_)
 refine zAS Tryz.results177 (v := (.int .i64 (zBt x y))) rfl ?_
 exact ⟨rfl, E⟩
set_option maxHeartbeats 1000000 in
theorem zQi (w0 : World) (v1 v2 fv : Value) (l1 l2 : List (Int × Int)) (f : Int × Int → Int × Int → Int) (h1 : zBZ w0 v1 l1) (h2 : zBZ w0 v2 l2)
  (hf : ∀ (w : World) (x y : Int × Int), Ext w0 w → zBu Tryz.prog fv #[.agg #[.int .i64 x.1, .int .i64 x.2], .agg #[.int .i64 y.1, .int .i64 y.2]] w fun r w' => r = .int .i64 (f x y) ∧ Ext w w') :
  Ret Tryz.prog 255 #[v1, v2, fv] w0 fun v w => v = .int .i64 (zCz f l1 l2) ∧ Ext w0 w := by
 obtain ⟨a1, c1, rfl⟩ := zCA.form h1
 obtain ⟨a2, c2, rfl⟩ := zCA.form h2
 have hle1 := zCA.le h1
 have hle2 := zCA.le h2
 simp only [List.length_map] at h1 h2 hle1 hle2 ⊢
 refine zAk Tryz.func255 rfl Tryz.ntmps255 (Nat.le_of_ble_eq_true rfl) ?_
 have E : Chg zAh w0 w0 := Chg.refl _ _
 refine zAA ?_
 refine qA (I6 0) rfl ?_
 refine zAB (zAP (zAA ?_))
 refine qM (.slice a1 l1.length c1) rfl ?_
 refine qV (zAV (ad := a1) (n := l1.length) (cap := c1) Tryz.underlying22 rfl) ?_
 refine qM (I6 0) rfl ?_
 refine zAB (zAZ ?_)
 refine zBA (fun nn_ σ W1 => ∃ (k : Nat), (∃ jj_, σ = zCl jj_ [(0, (.slice a1 l1.length c1)), (1, (.slice a2 l2.length c2)), (2, fv), (11, (.slice a1 l1.length c1)), (12, (I6 (l1.length : Int))), (13, (I6 (k : Int)))]) ∧ Chg zAh w0 W1 ∧ (k ≤ l1.length) ∧ (k ≤ l2.length) ∧ (zCz f l1 l2 = zCz f (l1.drop k) (l2.drop k)) ∧ nn_ = l1.length - k) (n := l1.length - 0) ?_ ?_
 ·exact ⟨0, zBG.out ⟨rfl, rfl, rfl, rfl, rfl, rfl, trivial⟩, E, Nat.zero_le _, Nat.zero_le _, rfl, rfl⟩
 clear E
 rintro _ _ W1 ⟨k, ⟨j1, rfl⟩, E, hk, hk2, heq, rfl⟩
 refine zAA ?_
 refine qV (zBS (k := .i64) (a := (k : Int)) (b := (l1.length : Int)) rfl rfl) ?_
 refine zAB (zAP ?_)
 refine zAM (b := decide (((k : Int) : Int) < (l1.length : Int))) rfl (fun hlt => ?_) (fun hlt => ?_)
 ·have khlt := hlt
  replace hlt := of_decide_eq_true hlt
  obtain ⟨p, hp⟩ := zAa (l := l1) (i := k) (by omega)
  obtain ⟨b1, o1, rfl, hc1⟩ := zBc h1 (by omega)
  rw [zBP hp] at heq
  refine zAR (zAC (zAP (zAZ (zAA ?_))))
  refine qM (I6 (k : Int)) rfl ?_
  refine qV (zAO (b := b1) (o := o1) (len := l1.length) (cap := c1) (i := k) (o' := o1 + k * 2) rfl rfl rfl Tryz.underlying22 zBX (by omega) (by omega)) ?_
  refine qV (zAG (vs := [(I6 p.1), (I6 p.2)]) rfl zDG zBX rfl ((hc1 k p hp).ext E)) ?_
  refine zBD (c := #[(I6 0), (I6 0)]) (by decide) zEz rfl ?_
  intro bp wp Np
  have Fp := Np.ge E
  replace E := E.ext Np.ext
  have Bp := Np.blk
  refine qA (I6 (k : Int)) rfl ?_
  refine qW (#[(I6 p.1), (I6 p.2)]) rfl rfl zBX Bp ?_
  intro w3 S3
  replace E := S3.stp E
  replace Bp := S3.blk
  refine zAB (zAP (zAA ?_))
  refine qM (I6 (k : Int)) rfl ?_
  refine qM (.slice a2 l2.length c2) rfl ?_
  refine qV (zAV (ad := a2) (n := l2.length) (cap := c2) Tryz.underlying22 rfl) ?_
  refine qV (zFE (k := .i64) (a := (k : Int)) (b := (l2.length : Int)) rfl rfl) ?_
  refine zAB ?_
  refine zAM (b := decide (((l2.length : Int) : Int) ≤ (k : Int))) rfl (fun hge => ?_) (fun hge => ?_)
  ·have khge := hge
   replace hge := of_decide_eq_true hge
   refine zAA ?_
   refine qA (I6 1) rfl ?_
   refine zAB (zAQ (zAI (zAY (zAI (zAI (zAY (zAI ?_)))))))
   refine zAS Tryz.results255 (v := (.int .i64 1)) rfl ?_
   exact ⟨zBF (by rw [heq, List.drop_eq_nil_of_le (show l2.length ≤ k by omega)]; rfl), E⟩
  have khge := hge
  replace hge := of_decide_eq_false hge
  obtain ⟨q, hq⟩ := zAa (l := l2) (i := k) (by omega)
  obtain ⟨b2, o2, rfl, hc2⟩ := zBc h2 (by omega)
  rw [zBP hq] at heq
  refine zAR (zAC (zAA ?_))
  refine qM (.slice (some ⟨b2, o2, none⟩) l2.length c2) rfl ?_
  refine qM (I6 (k : Int)) rfl ?_
  refine qV (zAO (b := b2) (o := o2) (len := l2.length) (cap := c2) (i := k) (o' := o2 + k * 2) rfl rfl rfl Tryz.underlying22 zBX (by omega) (by omega)) ?_
  refine qV (zAG (vs := [(I6 q.1), (I6 q.2)]) rfl zDG zBX rfl ((hc2 k q hq).ext E)) ?_
  refine zAi (v := (.agg #[(I6 q.1), (I6 q.2)])) (c := #[(I6 q.1), (I6 q.2)]) (n := 2) (by decide) zEz rfl zBX rfl rfl rfl (by simp [Value.oneCell']) ?_
  intro bq wq Nq
  have Fq := Nq.ge E
  have Oq_bp := Nq.lt Bp
  replace Bp := Nq.keep Bp
  replace E := E.ext Nq.ext
  have Bq := Nq.blk
  refine zAB (zAA ?_)
  refine qM fv rfl ?_
  refine qV (zAG (vs := [(I6 p.1), (I6 p.2)]) rfl zDG zBX rfl (Bp.cells rfl)) ?_
  refine qV (zAG (vs := [(I6 q.1), (I6 q.2)]) rfl zDG zBX rfl (Bq.cells rfl)) ?_
  refine zCj (fv := fv) (vs := [(.agg #[(I6 p.1), (I6 p.2)]), (.agg #[(I6 q.1), (I6 q.2)])]) (by decide) rfl rfl (hf _ p q E) ?_
  rintro _ w9 ⟨rfl, X9⟩
  replace Bp := X9.keep Bp
  replace Bq := X9.keep Bq
  replace E := E.ext X9
  refine qA (I6 (f p q)) rfl ?_
  refine zAB (zAA ?_)
  refine qM (I6 (f p q)) rfl ?_
  refine qV (zBz (k := .i64) (a := f p q) (b := 0) rfl rfl) ?_
  refine zAB ?_
  refine zAM (b := decide ((f p q : Int) ≠ 0)) rfl (fun hne => ?_) (fun hne => ?_)
  ·have khne := hne
   replace hne := of_decide_eq_true hne
   refine zAA ?_
   refine qM (I6 (f p q)) rfl ?_
   refine qA (I6 (f p q)) rfl ?_
   refine zAB (zAQ (zAY (zAI (zAI (zAY (zAI ?_))))))
   refine zAS Tryz.results255 (v := (.int .i64 (f p q))) rfl ?_
   exact ⟨zBF (by rw [heq, zCz, zEk, if_pos hne]), E⟩
  have khne := hne
  replace hne := of_decide_eq_false hne
  refine zAR (zAU (zAC (zAW ?_)))
  refine qV (zBQ (k := .i64) (a := (k : Int)) (b := 1) (c := (k : Int) + 1) rfl rfl (zBs (by omega))) ?_
  refine qM (I6 ((k : Int) + 1)) rfl ?_
  refine zAB (zAC ?_)
  exact ⟨l1.length - (k + 1), by omega, k + 1, zBG.out ⟨rfl, rfl, rfl, rfl, rfl, rfl, trivial⟩, E, (by omega), (by omega), (by rw [heq, zCz, zEk, if_neg hne]), rfl⟩
 have khlt := hlt
 replace hlt := of_decide_eq_false hlt
 have hkk : k = l1.length := by omega
 rw [hkk, List.drop_length] at heq
 refine zBB (zAe (zAe (zAr (zAC (zAP (zAA ?_))))))
 refine qM (.slice a1 l1.length c1) rfl ?_
 refine qV (zAV (ad := a1) (n := l1.length) (cap := c1) Tryz.underlying22 rfl) ?_
 refine qM (.slice a2 l2.length c2) rfl ?_
 refine qV (zAV (ad := a2) (n := l2.length) (cap := c2) Tryz.underlying22 rfl) ?_
 refine qV (zBS (k := .i64) (a := (l1.length : Int)) (b := (l2.length : Int)) rfl rfl) ?_
 refine zAB ?_
 refine zAM (b := decide (((l1.length : Int) : Int) < (l2.length : Int))) rfl (fun hl => ?_) (fun hl => ?_)
 ·have khl := hl
  replace hl := of_decide_eq_true hl
  obtain ⟨q, hq⟩ := zAa (l := l2) (i := l1.length) (by omega)
  refine zAA ?_
  refine qA (I6 (-1)) rfl ?_
  refine zAB (zAQ (zAI ?_))
  refine zAS Tryz.results255 (v := (.int .i64 (-1))) rfl ?_
  exact ⟨zBF (by rw [heq, zBP hq]; rfl), E⟩
 have khl := hl
 replace hl := of_decide_eq_false hl
 refine zAR (zAC (zAA ?_))
 refine qA (I6 0) rfl ?_
 refine zAB (zAQ ?_)
 refine zAS Tryz.results255 (v := (.int .i64 0)) rfl ?_
 exact ⟨zBF (by rw [heq, List.drop_eq_nil_of_le (by omega)]; rfl), E⟩
theorem zPg (w0 : World) (v1 v2 : Value) (l1 l2 : List (Int × Int)) (h1 : zBZ w0 v1 l1) (h2 : zBZ w0 v2 l2) :
  Ret Tryz.prog 222 #[v1, v2] w0 fun v w => v = .int .i64 (zCz zBt l1 l2) ∧ Ext w0 w := by
 refine zAk Tryz.func222 rfl Tryz.ntmps222 (Nat.le_of_ble_eq_true rfl) ?_
 have E : Chg zAh w0 w0 := Chg.refl _ _
 refine zAA ?_
 refine qA (I6 0) rfl ?_
 refine zAB (zAA ?_)
 refine qM v1 rfl ?_
 refine qM v2 rfl ?_
 refine zAL rfl rfl (by decide) (zAT (vs := [v1, v2, (.func (.func 177) #[] #[])]) Tryz.func255 nm255 bd255 rfl) (zQi _ v1 v2 _ l1 l2 zBt h1 h2 (fun w x y _ => zBu.mk (first := #[]) (cap := #[]) Tryz.func177 nm177 bd177 rfl (zQh w x y))) ?_
 rintro _ w9 ⟨rfl, X9⟩
 replace E := E.ext X9
 refine qA (I6 (zCz zBt l1 l2)) rfl ?_
 refine zAB (zAQ ?_)
 refine zAS Tryz.results222 (v := (.int .i64 (zCz zBt l1 l2))) rfl ?_
 exact ⟨rfl, E⟩
theorem zKK : ∀ a b : List Re, zBl a b = zCz zCB a b
  | [], [] => rfl
  | [], _ :: _ => rfl
  | _ :: _, [] => rfl
  | t :: ts, u :: us => by simp only [zBl, zCz, zKK ts us]
set_option maxHeartbeats 1000000 in
theorem zQj (w0 : World) (v1 v2 fv : Value) (l1 l2 : List Re) (h1 : zIH w0 v1 l1) (h2 : zIH w0 v2 l2)
  (hf : ∀ (w : World) (x u : Re) (vs us : List Value), Ext w0 w → x ∈ l1 → zBC w x vs → zBC w u us → zBu Tryz.prog fv #[.agg vs.toArray, .agg us.toArray] w fun r w' => r = .int .i64 (zCB x u) ∧ Ext w w') :
  Ret Tryz.prog 223 #[v1, v2, fv] w0 fun v w => v = .int .i64 (zBl l1 l2) ∧ Ext w0 w := by
 have g1 := h1
 have g2 := h2
 obtain ⟨a1, c1, rfl, hb1, _⟩ := h1
 obtain ⟨a2, c2, rfl, hb2, _⟩ := h2
 rw [zKK]
 refine zAk Tryz.func223 rfl Tryz.ntmps223 (Nat.le_of_ble_eq_true rfl) ?_
 have E : Chg zAh w0 w0 := Chg.refl _ _
 refine zAA ?_
 refine qA (I6 0) rfl ?_
 refine zAB (zAP (zAA ?_))
 refine qM (.slice a1 l1.length c1) rfl ?_
 refine qV (zAV (ad := a1) (n := l1.length) (cap := c1) Tryz.underlying23 rfl) ?_
 refine qM (I6 0) rfl ?_
 refine zAB (zAZ ?_)
 refine zBA (fun nn_ σ W1 => ∃ (k : Nat), (∃ jj_, σ = zCl jj_ [(0, (.slice a1 l1.length c1)), (1, (.slice a2 l2.length c2)), (2, fv), (11, (.slice a1 l1.length c1)), (12, (I6 (l1.length : Int))), (13, (I6 (k : Int)))]) ∧ Chg zAh w0 W1 ∧ (k ≤ l1.length) ∧ (k ≤ l2.length) ∧ (zCz zCB l1 l2 = zCz zCB (l1.drop k) (l2.drop k)) ∧ nn_ = l1.length - k) (n := l1.length - 0) ?_ ?_
 ·exact ⟨0, zBG.out ⟨rfl, rfl, rfl, rfl, rfl, rfl, trivial⟩, E, Nat.zero_le _, Nat.zero_le _, rfl, rfl⟩
 clear E
 rintro _ _ W1 ⟨k, ⟨j1, rfl⟩, E, hk, hk2, heq, rfl⟩
 refine zAA ?_
 refine qV (zBS (k := .i64) (a := (k : Int)) (b := (l1.length : Int)) rfl rfl) ?_
 refine zAB (zAP ?_)
 refine zAM (b := decide (((k : Int) : Int) < (l1.length : Int))) rfl (fun hlt => ?_) (fun hlt => ?_)
 ·have khlt := hlt
  replace hlt := of_decide_eq_true hlt
  obtain ⟨p, hp⟩ := zAa (l := l1) (i := k) (by omega)
  obtain ⟨b1, o1, rfl, hc1⟩ := g1.cells (by omega)
  obtain ⟨vs, hcv, hpv⟩ := hc1 k p hp
  have hpv0 := hpv
  obtain ⟨sa, sc, aa, ac, rfl, _, _, _⟩ := hpv.form
  rw [zBP hp] at heq
  refine zAR (zAC (zAP (zAZ (zAA ?_))))
  refine qM (I6 (k : Int)) rfl ?_
  refine qV (zAO (b := b1) (o := o1) (len := l1.length) (cap := c1) (i := k) (o' := o1 + k * 6) rfl rfl rfl Tryz.underlying23 zAH (by omega) (by omega)) ?_
  refine qV (zAG (vs := [(I6 p.kind), (.slice sa p.set.length sc), (.slice aa p.args.length ac), (I6 p.mn), (I6 p.mx), (.bool p.neg)]) rfl zAb zAH rfl (hcv.ext E)) ?_
  refine zBD (c := #[(I6 0), (.slice none 0 0), (.slice none 0 0), (I6 0), (I6 0), (.bool false)]) (by decide) zAs rfl ?_
  intro bp wp Np
  have Fp := Np.ge E
  replace E := E.ext Np.ext
  have Bp := Np.blk
  refine qA (I6 (k : Int)) rfl ?_
  refine qW (R6 p sa sc aa ac) rfl rfl zAH Bp ?_
  intro w3 S3
  replace E := S3.stp E
  replace Bp := S3.blk
  refine zAB (zAP (zAA ?_))
  refine qM (I6 (k : Int)) rfl ?_
  refine qM (.slice a2 l2.length c2) rfl ?_
  refine qV (zAV (ad := a2) (n := l2.length) (cap := c2) Tryz.underlying23 rfl) ?_
  refine qV (zFE (k := .i64) (a := (k : Int)) (b := (l2.length : Int)) rfl rfl) ?_
  refine zAB ?_
  refine zAM (b := decide (((l2.length : Int) : Int) ≤ (k : Int))) rfl (fun hge => ?_) (fun hge => ?_)
  ·have khge := hge
   replace hge := of_decide_eq_true hge
   refine zAA ?_
   refine qA (I6 1) rfl ?_
   refine zAB (zAQ (zAI (zAY (zAI (zAI (zAY (zAI ?_)))))))
   refine zAS Tryz.results223 (v := (.int .i64 1)) rfl ?_
   exact ⟨zBF (by rw [heq, List.drop_eq_nil_of_le (show l2.length ≤ k by omega)]; rfl), E⟩
  have khge := hge
  replace hge := of_decide_eq_false hge
  obtain ⟨q, hq⟩ := zAa (l := l2) (i := k) (by omega)
  obtain ⟨b2, o2, rfl, hc2⟩ := g2.cells (by omega)
  obtain ⟨us, hcu, hqu⟩ := hc2 k q hq
  have hqu0 := hqu
  obtain ⟨sa2, sc2, aa2, ac2, rfl, _, _, _⟩ := hqu.form
  rw [zBP hq] at heq
  refine zAR (zAC (zAA ?_))
  refine qM (.slice (some ⟨b2, o2, none⟩) l2.length c2) rfl ?_
  refine qM (I6 (k : Int)) rfl ?_
  refine qV (zAO (b := b2) (o := o2) (len := l2.length) (cap := c2) (i := k) (o' := o2 + k * 6) rfl rfl rfl Tryz.underlying23 zAH (by omega) (by omega)) ?_
  refine qV (zAG (vs := [(I6 q.kind), (.slice sa2 q.set.length sc2), (.slice aa2 q.args.length ac2), (I6 q.mn), (I6 q.mx), (.bool q.neg)]) rfl zAb zAH rfl (hcu.ext E)) ?_
  refine zAi (v := (.agg (R6 q sa2 sc2 aa2 ac2))) (c := (R6 q sa2 sc2 aa2 ac2)) (n := 6) (by decide) zAs rfl zAH rfl rfl rfl (by simp [Value.oneCell']) ?_
  intro bq wq Nq
  have Fq := Nq.ge E
  have Oq_bp := Nq.lt Bp
  replace Bp := Nq.keep Bp
  replace E := E.ext Nq.ext
  have Bq := Nq.blk
  refine zAB (zAA ?_)
  refine qM fv rfl ?_
  refine qV (zAG (vs := [(I6 p.kind), (.slice sa p.set.length sc), (.slice aa p.args.length ac), (I6 p.mn), (I6 p.mx), (.bool p.neg)]) rfl zAb zAH rfl (Bp.cells rfl)) ?_
  refine qV (zAG (vs := [(I6 q.kind), (.slice sa2 q.set.length sc2), (.slice aa2 q.args.length ac2), (I6 q.mn), (I6 q.mx), (.bool q.neg)]) rfl zAb zAH rfl (Bq.cells rfl)) ?_
  refine zCj (fv := fv) (vs := [(.agg (R6 p sa sc aa ac)), (.agg (R6 q sa2 sc2 aa2 ac2))]) (by decide) rfl rfl (hf _ p q _ _ E (List.mem_of_getElem? hp) (zBC.ext E p hpv0) (zBC.ext E q hqu0)) ?_
  rintro _ w9 ⟨rfl, X9⟩
  replace Bp := X9.keep Bp
  replace Bq := X9.keep Bq
  replace E := E.ext X9
  refine qA (I6 (zCB p q)) rfl ?_
  refine zAB (zAA ?_)
  refine qM (I6 (zCB p q)) rfl ?_
  refine qV (zBz (k := .i64) (a := zCB p q) (b := 0) rfl rfl) ?_
  refine zAB ?_
  refine zAM (b := decide ((zCB p q : Int) ≠ 0)) rfl (fun hne => ?_) (fun hne => ?_)
  ·have khne := hne
   replace hne := of_decide_eq_true hne
   refine zAA ?_
   refine qM (I6 (zCB p q)) rfl ?_
   refine qA (I6 (zCB p q)) rfl ?_
   refine zAB (zAQ (zAY (zAI (zAI (zAY (zAI ?_))))))
   refine zAS Tryz.results223 (v := (.int .i64 (zCB p q))) rfl ?_
   exact ⟨zBF (by rw [heq, zCz, zEk, if_pos hne]), E⟩
  have khne := hne
  replace hne := of_decide_eq_false hne
  refine zAR (zAU (zAC (zAW ?_)))
  refine qV (zBQ (k := .i64) (a := (k : Int)) (b := 1) (c := (k : Int) + 1) rfl rfl (zBs (by omega))) ?_
  refine qM (I6 ((k : Int) + 1)) rfl ?_
  refine zAB (zAC ?_)
  exact ⟨l1.length - (k + 1), by omega, k + 1, zBG.out ⟨rfl, rfl, rfl, rfl, rfl, rfl, trivial⟩, E, (by omega), (by omega), (by rw [heq, zCz, zEk, if_neg hne]), rfl⟩
 have khlt := hlt
 replace hlt := of_decide_eq_false hlt
 have hkk : k = l1.length := by omega
 rw [hkk, List.drop_length] at heq
 refine zBB (zAe (zAe (zAr (zAC (zAP (zAA ?_))))))
 refine qM (.slice a1 l1.length c1) rfl ?_
 refine qV (zAV (ad := a1) (n := l1.length) (cap := c1) Tryz.underlying23 rfl) ?_
 refine qM (.slice a2 l2.length c2) rfl ?_
 refine qV (zAV (ad := a2) (n := l2.length) (cap := c2) Tryz.underlying23 rfl) ?_
 refine qV (zBS (k := .i64) (a := (l1.length : Int)) (b := (l2.length : Int)) rfl rfl) ?_
 refine zAB ?_
 refine zAM (b := decide (((l1.length : Int) : Int) < (l2.length : Int))) rfl (fun hl => ?_) (fun hl => ?_)
 ·have khl := hl
  replace hl := of_decide_eq_true hl
  obtain ⟨q, hq⟩ := zAa (l := l2) (i := l1.length) (by omega)
  refine zAA ?_
  refine qA (I6 (-1)) rfl ?_
  refine zAB (zAQ (zAI ?_))
  refine zAS Tryz.results223 (v := (.int .i64 (-1))) rfl ?_
  exact ⟨zBF (by rw [heq, zBP hq]; rfl), E⟩
 have khl := hl
 replace hl := of_decide_eq_false hl
 refine zAR (zAC (zAA ?_))
 refine qA (I6 0) rfl ?_
 refine zAB (zAQ ?_)
 refine zAS Tryz.results223 (v := (.int .i64 0)) rfl ?_
 exact ⟨zBF (by rw [heq, List.drop_eq_nil_of_le (by omega)]; rfl), E⟩
def zKT (a b c d e : Int) : Fct := fun v w => ∃ bb, v = .slice (some ⟨bb, 0, none⟩) 5 5 ∧ zBr w v [a, b, c, d, e]
theorem zHN (a b c d e : Int) : zGn (zKT a b c d e) := by
 rintro v w w' x ⟨bb, h1, h2⟩
 exact ⟨bb, h1, h2.ext x⟩
theorem zLd {N : Nat} {σ : Env} {w : World} {dst : Option Tmp} {ty : TypeId} {pos : String} {af : Array Edge} {g : Option (Nat × Bool)} {x1 x2 x3 x4 x5 : Operand} {a b c d e : Int} (h1 : ev σ x1 = .int .i64 a) (h2 : ev σ x2 = .int .i64 b) (h3 : ev σ x3 = .int .i64 c) (h4 : ev σ x4 = .int .i64 d) (h5 : ev σ x5 = .int .i64 e) :
  zLf Tryz.prog N ⟨dst, .buildSlice 26 5 #[(0, x1), (1, x2), (2, x3), (3, x4), (4, x5)], ty, pos, af, g⟩ (zKT a b c d e) σ w := by
 have hn := New.mk' w #[.int .i64 a, .int .i64 b, .int .i64 c, .int .i64 d, .int .i64 e] 3
 refine zAJ (zCG (parts := [(0, x1), (1, x2), (2, x3), (3, x4), (4, x5)]) (ps := [(0, .int .i64 a), (1, .int .i64 b), (2, .int .i64 c), (3, .int .i64 d), (4, .int .i64 e)]) (by simp only [List.map, h1, h2, h3, h4, h5]) Tryz.underlying26 zAw zJN (by decide) (by decide) (by kernel_rfl)) hn.ext ?_
 exact ⟨_, rfl, zDV [a, b, c, d, e] hn.blk (by simp) (by simp)⟩
theorem zQH (t u : Re) : zCB t u = orL [zBx t.kind u.kind, zCz zBt t.set u.set, zBx t.mn u.mn, zBx t.mx u.mx, zBl t.args u.args] := by cases t; cases u; rfl
set_option maxHeartbeats 2000000 in
theorem zQG : ∀ (n : Nat) (t u : Re) (w0 : World) (vs us : List Value), t.size ≤ n → zBC w0 t vs → zBC w0 u us →
    Ret Tryz.prog 184 #[.agg vs.toArray, .agg us.toArray] w0 fun v w => v = .int .i64 (zCB t u) ∧ Ext w0 w := by
  intro n
  induction n with
  | zero => intro t u w0 vs us h; have := t.size_pos; omega
  | succ n ih =>
  intro t u w0 vs us hn ht hu
  have ht0 := ht
  have hu0 := hu
  obtain ⟨sa, sc, aa, ac, rfl, hset, hlen, hargs⟩ := ht.form
  obtain ⟨sa2, sc2, aa2, ac2, rfl, hset2, hlen2, hargs2⟩ := hu.form
  have hr1 : zIH w0 (.slice aa t.args.length ac) t.args := zBC.rs ht0
  have hr2 : zIH w0 (.slice aa2 u.args.length ac2) u.args := zBC.rs hu0
  rw [zQH]
  refine zAk Tryz.func184 rfl Tryz.ntmps184 (Nat.le_of_ble_eq_true rfl) ?_
  have E : Chg zAh w0 w0 := Chg.refl _ _
  refine zAA ?_
  refine zBL (v := (.agg (R6 t sa sc aa ac))) (c := (R6 t sa sc aa ac)) (by decide) rfl rfl ?_
  intro b1 w1 N1
  have F1 := N1.ge E
  replace E := E.ext N1.ext
  have B1 := N1.blk
  refine zBL (v := (.agg (R6 u sa2 sc2 aa2 ac2))) (c := (R6 u sa2 sc2 aa2 ac2)) (by decide) rfl rfl ?_
  intro b2 w2 N2
  have F2 := N2.ge E
  have O2_b1 := N2.lt B1
  replace B1 := N2.keep B1
  replace E := E.ext N2.ext
  have B2 := N2.blk
  refine qA (I6 0) rfl ?_
  refine zAB (zAP ?_)
  obtain ⟨Fs3, hFs3⟩ : ∃ Fs : List Fact, Fs = [.eq (P6 b1 0), .eq (I6 t.kind), .eq (P6 b2 0), .eq (I6 u.kind), .eq (I6 (zBx t.kind u.kind)), .eq (P6 b1 1), .eq (.slice sa t.set.length sc), .eq (P6 b2 1), .eq (.slice sa2 u.set.length sc2), .eq (I6 (zCz zBt t.set u.set)), .eq (P6 b1 3), .eq (I6 t.mn), .eq (P6 b2 3), .eq (I6 u.mn), .eq (I6 (zBx t.mn u.mn)), .eq (P6 b1 4), .eq (I6 t.mx), .eq (P6 b2 4), .eq (I6 u.mx), .eq (I6 (zBx t.mx u.mx)), .eq (P6 b1 2), .eq (.slice aa t.args.length ac), .eq (P6 b2 2), .eq (.slice aa2 u.args.length ac2), .eq (I6 (zBl t.args u.args)), .gen (zKT (zBx t.kind u.kind) (zCz zBt t.set u.set) (zBx t.mn u.mn) (zBx t.mx u.mx) (zBl t.args u.args)) (zHN _ _ _ _ _), .eq (I6 (orL [zBx t.kind u.kind, zCz zBt t.set u.set, zBx t.mn u.mn, zBx t.mx u.mx, zBl t.args u.args])), .eq (I6 (orL [zBx t.kind u.kind, zCz zBt t.set u.set, zBx t.mn u.mn, zBx t.mx u.mx, zBl t.args u.args]))] := ⟨_, rfl⟩
  refine zEF [5, 6, 7, 8, 9, 10, 11, 12, 13, 14, 15, 16, 17, 18, 19, 20, 21, 22, 23, 24, 25, 26, 27, 28, 29, 30, 31, 4] [[], [0], [], [2], [1, 3], [], [5], [], [7], [4, 6, 8], [], [10], [], [12], [9, 11, 13], [], [15], [], [17], [14, 16, 18], [], [20], [], [22], [19, 21, 23], [4, 9, 14, 19, 24], [24, 25], [0, 1, 2, 3, 4, 5, 6, 7, 8, 9, 10, 11, 12, 13, 14, 15, 16, 17, 18, 19, 20, 21, 22, 23, 24, 25, 26]] Fs3 hFs3 mixed (by kernel_rfl) (by kernel_rfl) ?_ ?_
  · intro wd X0
    refine DagSteps.cons (fun s' w' X U H => Or.inl ⟨?_, ?_⟩) ?_
    · exact zAE rfl
    · exact zAJ (zAN (b := b1) (o := 0) (o' := 0) (U 2 rfl) Tryz.underlying25 rfl zAw rfl) (Ext.refl _) rfl
    refine DagSteps.cons (fun s' w' X U H => Or.inl ⟨?_, ?_⟩) ?_
    · exact zAE rfl
    · have e5 : s' 5 = (.pointer (some ⟨b1, 0, none⟩)) := H 0 rfl 5 (.eq (.pointer (some ⟨b1, 0, none⟩))) rfl (by rw [hFs3]; rfl)
      exact zAJ (zAK (v := (I6 t.kind)) e5 zAf (((X0.trans X).keep B1).cell rfl)) (Ext.refl _) rfl
    refine DagSteps.cons (fun s' w' X U H => Or.inl ⟨?_, ?_⟩) ?_
    · exact zAE rfl
    · exact zAJ (zAN (b := b2) (o := 0) (o' := 0) (U 3 rfl) Tryz.underlying25 rfl zAw rfl) (Ext.refl _) rfl
    refine DagSteps.cons (fun s' w' X U H => Or.inl ⟨?_, ?_⟩) ?_
    · exact zAE rfl
    · have e7 : s' 7 = (.pointer (some ⟨b2, 0, none⟩)) := H 2 rfl 7 (.eq (.pointer (some ⟨b2, 0, none⟩))) rfl (by rw [hFs3]; rfl)
      exact zAJ (zAK (v := (I6 u.kind)) e7 zAf (((X0.trans X).keep B2).cell rfl)) (Ext.refl _) rfl
    refine DagSteps.cons (fun s' w' X U H => Or.inl ⟨?_, ?_⟩) ?_
    · exact zAE rfl
    · have e6 : s' 6 = (.int .i64 t.kind) := H 1 rfl 6 (.eq (.int .i64 t.kind)) rfl (by rw [hFs3]; rfl)
      have e8 : s' 8 = (.int .i64 u.kind) := H 3 rfl 8 (.eq (.int .i64 u.kind)) rfl (by rw [hFs3]; rfl)
      exact zAp (zAT (vs := [(I6 t.kind), (I6 u.kind)]) Tryz.func158 zMd zNX (zGt e6 e8)) (zER _ _ _)
    refine DagSteps.cons (fun s' w' X U H => Or.inl ⟨?_, ?_⟩) ?_
    · exact zAE rfl
    · exact zAJ (zAN (b := b1) (o := 0) (o' := 1) (U 2 rfl) Tryz.underlying25 rfl zDb rfl) (Ext.refl _) rfl
    refine DagSteps.cons (fun s' w' X U H => Or.inl ⟨?_, ?_⟩) ?_
    · exact zAE rfl
    · have e10 : s' 10 = (.pointer (some ⟨b1, 1, none⟩)) := H 5 rfl 10 (.eq (.pointer (some ⟨b1, 1, none⟩))) rfl (by rw [hFs3]; rfl)
      exact zAJ (zAK (v := (.slice sa t.set.length sc)) e10 zCc (((X0.trans X).keep B1).cell rfl)) (Ext.refl _) rfl
    refine DagSteps.cons (fun s' w' X U H => Or.inl ⟨?_, ?_⟩) ?_
    · exact zAE rfl
    · exact zAJ (zAN (b := b2) (o := 0) (o' := 1) (U 3 rfl) Tryz.underlying25 rfl zDb rfl) (Ext.refl _) rfl
    refine DagSteps.cons (fun s' w' X U H => Or.inl ⟨?_, ?_⟩) ?_
    · exact zAE rfl
    · have e12 : s' 12 = (.pointer (some ⟨b2, 1, none⟩)) := H 7 rfl 12 (.eq (.pointer (some ⟨b2, 1, none⟩))) rfl (by rw [hFs3]; rfl)
      exact zAJ (zAK (v := (.slice sa2 u.set.length sc2)) e12 zCc (((X0.trans X).keep B2).cell rfl)) (Ext.refl _) rfl
    refine DagSteps.cons (fun s' w' X U H => Or.inl ⟨?_, ?_⟩) ?_
    · exact zAE rfl
    · have e11 : s' 11 = (.slice sa t.set.length sc) := H 6 rfl 11 (.eq (.slice sa t.set.length sc)) rfl (by rw [hFs3]; rfl)
      have e13 : s' 13 = (.slice sa2 u.set.length sc2) := H 8 rfl 13 (.eq (.slice sa2 u.set.length sc2)) rfl (by rw [hFs3]; rfl)
      exact zAp (zAT (vs := [(.slice sa t.set.length sc), (.slice sa2 u.set.length sc2)]) Tryz.func222 nm222 bd222 (zGt e11 e13)) (zPg _ _ _ _ _ (hset.ext (Ext.trans E (X0.trans X))) (hset2.ext (Ext.trans E (X0.trans X))))
    refine DagSteps.cons (fun s' w' X U H => Or.inl ⟨?_, ?_⟩) ?_
    · exact zAE rfl
    · exact zAJ (zAN (b := b1) (o := 0) (o' := 3) (U 2 rfl) Tryz.underlying25 rfl zAw rfl) (Ext.refl _) rfl
    refine DagSteps.cons (fun s' w' X U H => Or.inl ⟨?_, ?_⟩) ?_
    · exact zAE rfl
    · have e15 : s' 15 = (.pointer (some ⟨b1, 3, none⟩)) := H 10 rfl 15 (.eq (.pointer (some ⟨b1, 3, none⟩))) rfl (by rw [hFs3]; rfl)
      exact zAJ (zAK (v := (I6 t.mn)) e15 zAf (((X0.trans X).keep B1).cell rfl)) (Ext.refl _) rfl
    refine DagSteps.cons (fun s' w' X U H => Or.inl ⟨?_, ?_⟩) ?_
    · exact zAE rfl
    · exact zAJ (zAN (b := b2) (o := 0) (o' := 3) (U 3 rfl) Tryz.underlying25 rfl zAw rfl) (Ext.refl _) rfl
    refine DagSteps.cons (fun s' w' X U H => Or.inl ⟨?_, ?_⟩) ?_
    · exact zAE rfl
    · have e17 : s' 17 = (.pointer (some ⟨b2, 3, none⟩)) := H 12 rfl 17 (.eq (.pointer (some ⟨b2, 3, none⟩))) rfl (by rw [hFs3]; rfl)
      exact zAJ (zAK (v := (I6 u.mn)) e17 zAf (((X0.trans X).keep B2).cell rfl)) (Ext.refl _) rfl
    refine DagSteps.cons (fun s' w' X U H => Or.inl ⟨?_, ?_⟩) ?_
    · exact zAE rfl
    · have e16 : s' 16 = (.int .i64 t.mn) := H 11 rfl 16 (.eq (.int .i64 t.mn)) rfl (by rw [hFs3]; rfl)
      have e18 : s' 18 = (.int .i64 u.mn) := H 13 rfl 18 (.eq (.int .i64 u.mn)) rfl (by rw [hFs3]; rfl)
      exact zAp (zAT (vs := [(I6 t.mn), (I6 u.mn)]) Tryz.func158 zMd zNX (zGt e16 e18)) (zER _ _ _)
    refine DagSteps.cons (fun s' w' X U H => Or.inl ⟨?_, ?_⟩) ?_
    · exact zAE rfl
    · exact zAJ (zAN (b := b1) (o := 0) (o' := 4) (U 2 rfl) Tryz.underlying25 rfl zAw rfl) (Ext.refl _) rfl
    refine DagSteps.cons (fun s' w' X U H => Or.inl ⟨?_, ?_⟩) ?_
    · exact zAE rfl
    · have e20 : s' 20 = (.pointer (some ⟨b1, 4, none⟩)) := H 15 rfl 20 (.eq (.pointer (some ⟨b1, 4, none⟩))) rfl (by rw [hFs3]; rfl)
      exact zAJ (zAK (v := (I6 t.mx)) e20 zAf (((X0.trans X).keep B1).cell rfl)) (Ext.refl _) rfl
    refine DagSteps.cons (fun s' w' X U H => Or.inl ⟨?_, ?_⟩) ?_
    · exact zAE rfl
    · exact zAJ (zAN (b := b2) (o := 0) (o' := 4) (U 3 rfl) Tryz.underlying25 rfl zAw rfl) (Ext.refl _) rfl
    refine DagSteps.cons (fun s' w' X U H => Or.inl ⟨?_, ?_⟩) ?_
    · exact zAE rfl
    · have e22 : s' 22 = (.pointer (some ⟨b2, 4, none⟩)) := H 17 rfl 22 (.eq (.pointer (some ⟨b2, 4, none⟩))) rfl (by rw [hFs3]; rfl)
      exact zAJ (zAK (v := (I6 u.mx)) e22 zAf (((X0.trans X).keep B2).cell rfl)) (Ext.refl _) rfl
    refine DagSteps.cons (fun s' w' X U H => Or.inl ⟨?_, ?_⟩) ?_
    · exact zAE rfl
    · have e21 : s' 21 = (.int .i64 t.mx) := H 16 rfl 21 (.eq (.int .i64 t.mx)) rfl (by rw [hFs3]; rfl)
      have e23 : s' 23 = (.int .i64 u.mx) := H 18 rfl 23 (.eq (.int .i64 u.mx)) rfl (by rw [hFs3]; rfl)
      exact zAp (zAT (vs := [(I6 t.mx), (I6 u.mx)]) Tryz.func158 zMd zNX (zGt e21 e23)) (zER _ _ _)
    refine DagSteps.cons (fun s' w' X U H => Or.inl ⟨?_, ?_⟩) ?_
    · exact zAE rfl
    · exact zAJ (zAN (b := b1) (o := 0) (o' := 2) (U 2 rfl) Tryz.underlying25 rfl zBI rfl) (Ext.refl _) rfl
    refine DagSteps.cons (fun s' w' X U H => Or.inl ⟨?_, ?_⟩) ?_
    · exact zAE rfl
    · have e25 : s' 25 = (.pointer (some ⟨b1, 2, none⟩)) := H 20 rfl 25 (.eq (.pointer (some ⟨b1, 2, none⟩))) rfl (by rw [hFs3]; rfl)
      exact zAJ (zAK (v := (.slice aa t.args.length ac)) e25 zAv (((X0.trans X).keep B1).cell rfl)) (Ext.refl _) rfl
    refine DagSteps.cons (fun s' w' X U H => Or.inl ⟨?_, ?_⟩) ?_
    · exact zAE rfl
    · exact zAJ (zAN (b := b2) (o := 0) (o' := 2) (U 3 rfl) Tryz.underlying25 rfl zBI rfl) (Ext.refl _) rfl
    refine DagSteps.cons (fun s' w' X U H => Or.inl ⟨?_, ?_⟩) ?_
    · exact zAE rfl
    · have e27 : s' 27 = (.pointer (some ⟨b2, 2, none⟩)) := H 22 rfl 27 (.eq (.pointer (some ⟨b2, 2, none⟩))) rfl (by rw [hFs3]; rfl)
      exact zAJ (zAK (v := (.slice aa2 u.args.length ac2)) e27 zAv (((X0.trans X).keep B2).cell rfl)) (Ext.refl _) rfl
    refine DagSteps.cons (fun s' w' X U H => Or.inl ⟨?_, ?_⟩) ?_
    · exact zAE rfl
    · have e26 : s' 26 = (.slice aa t.args.length ac) := H 21 rfl 26 (.eq (.slice aa t.args.length ac)) rfl (by rw [hFs3]; rfl)
      have e28 : s' 28 = (.slice aa2 u.args.length ac2) := H 23 rfl 28 (.eq (.slice aa2 u.args.length ac2)) rfl (by rw [hFs3]; rfl)
      exact zAp (zAT (vs := [(.slice aa t.args.length ac), (.slice aa2 u.args.length ac2), (.func (.func 184) #[] #[])]) Tryz.func223 nm223 bd223 (lst3 e26 e28 rfl)) (zQj _ _ _ _ _ _ (hr1.ext (Ext.trans E (X0.trans X))) (hr2.ext (Ext.trans E (X0.trans X))) (fun w x y xs ys _ hx hxs hys => zBu.mk (first := #[]) (cap := #[]) Tryz.func184 nm184 bd184 rfl (ih x y w xs ys (by obtain ⟨i, hi⟩ := List.mem_iff_getElem?.1 hx; have := Re.size_arg hi; omega) hxs hys)))
    refine DagSteps.cons (fun s' w' X U H => Or.inl ⟨?_, ?_⟩) ?_
    · exact zAE rfl
    · have e9 : s' 9 = (.int .i64 (zBx t.kind u.kind)) := H 4 rfl 9 (.eq (.int .i64 (zBx t.kind u.kind))) rfl (by rw [hFs3]; rfl)
      have e14 : s' 14 = (.int .i64 (zCz zBt t.set u.set)) := H 9 rfl 14 (.eq (.int .i64 (zCz zBt t.set u.set))) rfl (by rw [hFs3]; rfl)
      have e19 : s' 19 = (.int .i64 (zBx t.mn u.mn)) := H 14 rfl 19 (.eq (.int .i64 (zBx t.mn u.mn))) rfl (by rw [hFs3]; rfl)
      have e24 : s' 24 = (.int .i64 (zBx t.mx u.mx)) := H 19 rfl 24 (.eq (.int .i64 (zBx t.mx u.mx))) rfl (by rw [hFs3]; rfl)
      have e29 : s' 29 = (.int .i64 (zBl t.args u.args)) := H 24 rfl 29 (.eq (.int .i64 (zBl t.args u.args))) rfl (by rw [hFs3]; rfl)
      exact zLd e9 e14 e19 e24 e29
    refine DagSteps.cons (fun s' w' X U H => Or.inl ⟨?_, ?_⟩) ?_
    · exact zAE rfl
    · obtain ⟨b30, e30, i30⟩ := H 25 rfl 30 (.gen (zKT (zBx t.kind u.kind) (zCz zBt t.set u.set) (zBx t.mn u.mn) (zBx t.mx u.mx) (zBl t.args u.args)) (zHN _ _ _ _ _)) rfl (by rw [hFs3]; rfl)
      exact zAp (zAT (vs := [(.slice (some ⟨b30, 0, none⟩) 5 5)]) Tryz.func206 nm206 bd206 (zLg e30)) (sor_c _ _ _ (e30 ▸ i30))
    refine DagSteps.cons (fun s' w' X U H => Or.inl ⟨?_, ?_⟩) ?_
    · exact zAE rfl
    · have e31 : s' 31 = (.int .i64 (orL [zBx t.kind u.kind, zCz zBt t.set u.set, zBx t.mn u.mn, zBx t.mx u.mx, zBl t.args u.args])) := H 26 rfl 31 (.eq (.int .i64 (orL [zBx t.kind u.kind, zCz zBt t.set u.set, zBx t.mn u.mn, zBx t.mx u.mx, zBl t.args u.args]))) rfl (by rw [hFs3]; rfl)
      exact zAJ (zDf (v := (I6 (orL [zBx t.kind u.kind, zCz zBt t.set u.set, zBx t.mn u.mn, zBx t.mx u.mx, zBl t.args u.args]))) e31) (Ext.refl _) rfl
    exact DagSteps.nil
  · intro s' w3 X3 U H
    obtain ⟨j3, rfl⟩ := zBG.out (σ := s') (l := [(4, (.int .i64 (orL [zBx t.kind u.kind, zCz zBt t.set u.set, zBx t.mn u.mn, zBx t.mx u.mx, zBl t.args u.args])))]) ⟨(show s' 4 = (.int .i64 (orL [zBx t.kind u.kind, zCz zBt t.set u.set, zBx t.mn u.mn, zBx t.mx u.mx, zBl t.args u.args])) from H 27 4 (.eq (.int .i64 (orL [zBx t.kind u.kind, zCz zBt t.set u.set, zBx t.mn u.mn, zBx t.mx u.mx, zBl t.args u.args]))) rfl (by rw [hFs3]; rfl)), trivial⟩
    clear U H
    replace B1 := X3.keep B1
    replace B2 := X3.keep B2
    replace E := E.ext X3
    refine zAC (zAQ ?_)
    refine zAS Tryz.results184 (v := (.int .i64 (orL [zBx t.kind u.kind, zCz zBt t.set u.set, zBx t.mn u.mn, zBx t.mx u.mx, zBl t.args u.args]))) rfl ?_
    exact ⟨rfl, E⟩
end Go.Proofs
namespace Go.Proofs
open Go Go.Eng Go.Sort
set_option maxRecDepth 100000
abbrev zOu (k : Int) : List Value := [.int .i64 k, .slice none 0 0, .slice none 0 0, .int .i64 0, .int .i64 0, .bool false]
theorem zGc (w0 : World) : Ret Tryz.prog 120 #[] w0 fun v w => v = .agg (zOu 0).toArray ∧ Ext w0 w := by
 refine zAk Tryz.func120 rfl Tryz.ntmps120 (Nat.le_of_ble_eq_true rfl) ?_
 have E : Chg zAh w0 w0 := Chg.refl _ _
 refine zAA ?_
 refine zBD (c := #[(I6 0), (.slice none 0 0), (.slice none 0 0), (I6 0), (I6 0), (.bool false)]) (by decide) zAs rfl ?_
 intro b1 w1 N1
 have F1 := N1.ge E
 replace E := E.ext N1.ext
 have B1 := N1.blk
 refine zAB (zAA ?_)
 refine qV (zBW (ps := [(0, (I6 0))]) (v := (.agg #[(I6 0), (.slice none 0 0), (.slice none 0 0), (I6 0), (I6 0), (.bool false)])) rfl (by kernel_rfl)) ?_
 refine qW (#[(I6 0), (.slice none 0 0), (.slice none 0 0), (I6 0), (I6 0), (.bool false)]) rfl rfl zAH B1 ?_
 intro w2 S2
 replace E := S2.stp E
 replace B1 := S2.blk
 refine zAB (zAQ ?_)
 refine zAm Tryz.results120 (vs := [(.int .i64 0), (.slice none 0 0), (.slice none 0 0), (.int .i64 0), (.int .i64 0), (.bool false)]) (b := b1) rfl zAb zAH rfl (B1.cells rfl) ?_
 exact ⟨rfl, E⟩
theorem zED (w0 : World) : Ret Tryz.prog 117 #[] w0 fun v w => v = .agg (zOu 1).toArray ∧ Ext w0 w := by
 refine zAk Tryz.func117 rfl Tryz.ntmps117 (Nat.le_of_ble_eq_true rfl) ?_
 have E : Chg zAh w0 w0 := Chg.refl _ _
 refine zAA ?_
 refine zBD (c := #[(I6 0), (.slice none 0 0), (.slice none 0 0), (I6 0), (I6 0), (.bool false)]) (by decide) zAs rfl ?_
 intro b1 w1 N1
 have F1 := N1.ge E
 replace E := E.ext N1.ext
 have B1 := N1.blk
 refine zAB (zAA ?_)
 refine qV (zBW (ps := [(0, (I6 1))]) (v := (.agg #[(I6 1), (.slice none 0 0), (.slice none 0 0), (I6 0), (I6 0), (.bool false)])) rfl (by kernel_rfl)) ?_
 refine qW (#[(I6 1), (.slice none 0 0), (.slice none 0 0), (I6 0), (I6 0), (.bool false)]) rfl rfl zAH B1 ?_
 intro w2 S2
 replace E := S2.stp E
 replace B1 := S2.blk
 refine zAB (zAQ ?_)
 refine zAm Tryz.results117 (vs := [(.int .i64 1), (.slice none 0 0), (.slice none 0 0), (.int .i64 0), (.int .i64 0), (.bool false)]) (b := b1) rfl zAb zAH rfl (B1.cells rfl) ?_
 exact ⟨rfl, E⟩
theorem zGd (w0 : World) (t : Re) (vs : List Value) (ht : zBC w0 t vs) : Ret Tryz.prog 136 #[.agg vs.toArray] w0 fun v w => v = .bool (zBU t) ∧ Ext w0 w := by
 obtain ⟨sa, sc, aa, ac, rfl, _, _, _⟩ := ht.form
 refine zAk Tryz.func136 rfl Tryz.ntmps136 (Nat.le_of_ble_eq_true rfl) ?_
 have E : Chg zAh w0 w0 := Chg.refl _ _
 refine zAA ?_
 refine zBL (v := (.agg (R6 t sa sc aa ac))) (c := (R6 t sa sc aa ac)) (by decide) rfl rfl ?_
 intro b1 w1 N1
 have F1 := N1.ge E
 replace E := E.ext N1.ext
 have B1 := N1.blk
 refine qA (.bool false) rfl ?_
 refine zAB (zAA ?_)
 refine qF b1 0 0 rfl Tryz.underlying25 rfl zAw rfl ?_
 refine qV (zAK (v := (I6 t.kind)) rfl zAf (B1.cell rfl)) ?_
 refine qV (zAg (k := .i64) (a := t.kind) (b := 0) rfl rfl) ?_
 refine qA (.bool (decide ((t.kind : Int) = 0))) rfl ?_
 refine zAB (zAQ ?_)
 refine zAS Tryz.results136 (v := (.bool (decide ((t.kind : Int) = 0)))) rfl ?_
 exact ⟨rfl, E⟩
theorem zNH (w0 : World) (t : Re) (vs : List Value) (ht : zBC w0 t vs) : Ret Tryz.prog 168 #[.agg vs.toArray] w0 fun v w => v = .bool (zBo t) ∧ Ext w0 w := by
 obtain ⟨sa, sc, aa, ac, rfl, _, _, _⟩ := ht.form
 refine zAk Tryz.func168 rfl Tryz.ntmps168 (Nat.le_of_ble_eq_true rfl) ?_
 have E : Chg zAh w0 w0 := Chg.refl _ _
 refine zAA ?_
 refine zBL (v := (.agg (R6 t sa sc aa ac))) (c := (R6 t sa sc aa ac)) (by decide) rfl rfl ?_
 intro b1 w1 N1
 have F1 := N1.ge E
 replace E := E.ext N1.ext
 have B1 := N1.blk
 refine qA (.bool false) rfl ?_
 refine zAB (zAA ?_)
 refine qF b1 0 0 rfl Tryz.underlying25 rfl zAw rfl ?_
 refine qV (zAK (v := (I6 t.kind)) rfl zAf (B1.cell rfl)) ?_
 refine qV (zAg (k := .i64) (a := t.kind) (b := 1) rfl rfl) ?_
 refine qA (.bool (decide ((t.kind : Int) = 1))) rfl ?_
 refine zAB (zAQ ?_)
 refine zAS Tryz.results168 (v := (.bool (decide ((t.kind : Int) = 1)))) rfl ?_
 exact ⟨rfl, E⟩
theorem zKe (w0 : World) (t : Re) (vs : List Value) (ht : zBC w0 t vs) (h8 : t.kind = 8 → t.args ≠ []) : Ret Tryz.prog 162 #[.agg vs.toArray] w0 fun v w => v = .bool (zCb t) ∧ Ext w0 w := by
 obtain ⟨sa, sc, aa, ac, rfl, _, _, hargs⟩ := ht.form
 refine zAk Tryz.func162 rfl Tryz.ntmps162 (Nat.le_of_ble_eq_true rfl) ?_
 have E : Chg zAh w0 w0 := Chg.refl _ _
 refine zAA ?_
 refine zBL (v := (.agg (R6 t sa sc aa ac))) (c := (R6 t sa sc aa ac)) (by decide) rfl rfl ?_
 intro br wr Nr
 have Fr := Nr.ge E
 replace E := E.ext Nr.ext
 have Br := Nr.blk
 refine qA (.bool false) rfl ?_
 refine zAB (zAA ?_)
 refine qF br 0 0 rfl Tryz.underlying25 rfl zAw rfl ?_
 refine qV (zAK (v := (I6 t.kind)) rfl zAf (Br.cell rfl)) ?_
 refine qV (zAg (k := .i64) (a := t.kind) (b := 8) rfl rfl) ?_
 refine qM (.bool (decide ((t.kind : Int) = 8))) rfl ?_
 rcases Bool.eq_false_or_eq_true (decide ((t.kind : Int) = 8)) with hk | hk
 ·have khk := hk
  replace khk := of_decide_eq_true khk
  obtain ⟨x, hx⟩ := zAa (l := t.args) (i := 0) (List.length_pos_iff.2 (h8 khk))
  obtain ⟨ab, ao, rfl, hres⟩ := zDZ hargs (List.length_pos_iff.2 (h8 khk))
  have hpl := zAo hx
  obtain ⟨us, hus, hxt⟩ := hres.get hx
  obtain ⟨xsa, xsc, xaa, xac, rfl, _, _, _⟩ := hxt.form
  refine zAF (oj := _) rfl rfl (by decide) (congrArg Value.bool hk) ?_
  refine qF br 0 2 rfl Tryz.underlying25 rfl zBI rfl ?_
  refine zAF (oj := _) rfl rfl (by decide) (congrArg Value.bool hk) ?_
  refine qV (zAK (v := (.slice (some ⟨ab, ao, none⟩) t.args.length ac)) rfl zAv (Br.cell rfl)) ?_
  refine zAF (oj := _) rfl rfl (by decide) (congrArg Value.bool hk) ?_
  refine qV (zAO (b := ab) (o := ao) (len := t.args.length) (cap := ac) (i := 0) (o' := ao + 0 * 6) rfl rfl rfl Tryz.underlying23 zAH (by omega) (by omega)) ?_
  refine zAF (oj := _) rfl rfl (by decide) (congrArg Value.bool hk) ?_
  refine qF ab (ao + 0 * 6) (ao + 0 * 6) rfl Tryz.underlying25 rfl zAw rfl ?_
  refine zAF (oj := _) rfl rfl (by decide) (congrArg Value.bool hk) ?_
  refine qV (zAK (v := (I6 x.kind)) rfl zAf (E.cell (fun f => f) (hus 0 _ rfl))) ?_
  refine zAF (oj := _) rfl rfl (by decide) (congrArg Value.bool hk) ?_
  refine qV (zAg (k := .i64) (a := x.kind) (b := 0) rfl rfl) ?_
  refine qV (zAd (b := decide ((t.kind : Int) = 8)) (v := (.bool (decide ((x.kind : Int) = 0)))) rfl (by rw [hk]; rfl)) ?_
  refine qA (.bool (decide ((x.kind : Int) = 0))) rfl ?_
  refine zAB (zAQ ?_)
  refine zAS Tryz.results162 (v := (.bool (decide ((x.kind : Int) = 0)))) rfl ?_
  exact ⟨zAt (by unfold zCb; rw [zCE hx, khk]; rfl), E⟩
 have khk := hk
 replace khk := of_decide_eq_false khk
 refine zAD (oj := _) rfl rfl (by decide) (v := .bool false) (congrArg Value.bool hk) (Or.inl rfl) ?_
 refine zAD (oj := _) rfl rfl (by decide) (v := .bool false) (congrArg Value.bool hk) (Or.inl rfl) ?_
 refine zAD (oj := _) rfl rfl (by decide) (v := .bool false) (congrArg Value.bool hk) (Or.inl rfl) ?_
 refine zAD (oj := _) rfl rfl (by decide) (v := .bool false) (congrArg Value.bool hk) (Or.inl rfl) ?_
 refine zAD (oj := _) rfl rfl (by decide) (v := .bool false) (congrArg Value.bool hk) (Or.inl rfl) ?_
 refine zAD (oj := _) rfl rfl (by decide) (v := .bool false) (congrArg Value.bool hk) (Or.inl rfl) ?_
 refine qV (zAd (b := decide ((t.kind : Int) = 8)) (v := (.bool false)) rfl (by rw [hk]; rfl)) ?_
 refine qA (.bool false) rfl ?_
 refine zAB (zAQ ?_)
 refine zAS Tryz.results162 (v := (.bool false)) rfl ?_
 exact ⟨zAt (by unfold zCb; simp [hk]), E⟩
theorem zOc (t : Re) : zBg t = if t.kind = 1 ∨ t.kind = 5 then true else if t.kind = 3 ∨ t.kind = 7 ∨ t.kind = 9 then zCp t.args else if t.kind = 4 then zDn t.args else if t.kind = 6 then (decide (t.mn = 0) || zCp t.args) else if t.kind = 8 then !zCp t.args else if t.kind = 10 then (zCp t.args != t.neg) else false := by
  cases t with
  | mk k s a m x g => simp only [zBg]; rfl
set_option maxHeartbeats 4000000 in
theorem zPM : ∀ (n : Nat) (t : Re) (w0 : World) (vs : List Value), t.size ≤ n → n ≤ 2000000 → zBC w0 t vs →
    Ret Tryz.prog 63 #[.agg vs.toArray] w0 fun v w => v = .bool (zBg t) ∧ Ext w0 w := by
  intro n
  induction n with
  | zero => intro t w0 vs h; have := t.size_pos; omega
  | succ n ih =>
  intro t w0 vs hn hnb ht
  have ht0 := ht
  obtain ⟨sa, sc, aa, ac, rfl, hset, hlen, hargs⟩ := ht.form
  have hal := zBm t
  rw [zOc]
  refine zAk Tryz.func63 rfl Tryz.ntmps63 (Nat.le_of_ble_eq_true rfl) ?_
  have E : Chg zAh w0 w0 := Chg.refl _ _
  refine zAA ?_
  refine zBL (v := (.agg (R6 t sa sc aa ac))) (c := (R6 t sa sc aa ac)) (by decide) rfl rfl ?_
  intro b1 w1 N1
  have F1 := N1.ge E
  replace E := E.ext N1.ext
  have B1 := N1.blk
  refine qA (.bool false) rfl ?_
  refine zAB (zAA ?_)
  refine qA (.bool true) rfl ?_
  refine qA (.bool false) rfl ?_
  refine zAB (zAP (zAA ?_))
  refine qF b1 0 2 rfl Tryz.underlying25 rfl zBI rfl ?_
  refine qV (zAK (v := (.slice aa t.args.length ac)) rfl zAv (B1.cell rfl)) ?_
  refine qV (zAV (ad := aa) (n := t.args.length) (cap := ac) Tryz.underlying23 rfl) ?_
  refine qM (I6 0) rfl ?_
  refine zAB (zAZ ?_)
  refine zBA (fun nn_ σ W2 => ∃ (k : Nat) (a s : Bool), (∃ jj_, σ = zCl jj_ [(1, (P6 b1 0)), (9, (.slice aa t.args.length ac)), (10, (I6 (t.args.length : Int))), (11, (I6 (k : Int))), (3, (.bool a)), (4, (.bool s))]) ∧ Chg zAh w0 W2 ∧ Blk W2 b1 (R6 t sa sc aa ac) 25 ∧ (k ≤ t.args.length) ∧ (zCp t.args = (a && zCp (t.args.drop k))) ∧ (zDn t.args = (s || zDn (t.args.drop k))) ∧ nn_ = t.args.length - k) (n := t.args.length - 0) ?_ ?_
  · exact ⟨0, true, false, zBG.out ⟨rfl, rfl, rfl, rfl, rfl, rfl, trivial⟩, E, B1, Nat.zero_le _, (by simp), (by simp), rfl⟩
  · clear E B1
    rintro _ _ W2 ⟨k, a, s, ⟨j2, rfl⟩, E, B1, hk, ha, hs, rfl⟩
    refine zAA ?_
    refine qV (zBS (k := .i64) (a := (k : Int)) (b := (t.args.length : Int)) rfl rfl) ?_
    refine zAB (zAP ?_)
    refine zAM (b := decide (((k : Int) : Int) < (t.args.length : Int))) rfl (fun hlt => ?_) (fun hlt => ?_)
    · have khlt := hlt
      replace hlt := of_decide_eq_true hlt
      obtain ⟨x, hx⟩ := zAa (l := t.args) (i := k) (by omega)
      obtain ⟨ab, ao, rfl, hres⟩ := zDZ hargs (by omega)
      obtain ⟨us, hus, hxt⟩ := hres.get hx
      obtain ⟨xsa, xsc, xaa, xac, rfl, _, _, _⟩ := hxt.form
      rw [zBP hx] at ha hs
      simp only [zCp, zDn] at ha hs
      refine zAR (zAC (zAP (zAZ (zAA ?_))))
      refine qV (zAO (b := ab) (o := ao) (len := t.args.length) (cap := ac) (i := k) (o' := ao + k * 6) rfl rfl rfl Tryz.underlying23 zAH (by omega) (by omega)) ?_
      refine qV (zAG (vs := [(I6 x.kind), (.slice xsa x.set.length xsc), (.slice xaa x.args.length xac), (I6 x.mn), (I6 x.mx), (.bool x.neg)]) rfl zAb zAH rfl (hus.ext E)) ?_
      refine zAi (v := (.agg (R6 x xsa xsc xaa xac))) (c := (R6 x xsa xsc xaa xac)) (n := 6) (by decide) zAs rfl zAH rfl rfl rfl (by simp [Value.oneCell']) ?_
      intro b4 w4 N4
      have F4 := N4.ge E
      have O4_b1 := N4.lt B1
      replace B1 := N4.keep B1
      replace E := E.ext N4.ext
      have B4 := N4.blk
      refine zAB (zAA ?_)
      refine qV (zAG (vs := [(I6 x.kind), (.slice xsa x.set.length xsc), (.slice xaa x.args.length xac), (I6 x.mn), (I6 x.mx), (.bool x.neg)]) rfl zAb zAH rfl (B4.cells rfl)) ?_
      refine zAL rfl rfl (by decide) (zAT (vs := [(.agg (R6 x xsa xsc xaa xac))]) Tryz.func63 nm63 bd63 rfl) (ih x _ _ (by have := Re.size_arg hx; omega) (by omega) (zBC.ext E x hxt)) ?_
      rintro _ w9 ⟨rfl, X9⟩
      replace B1 := X9.keep B1
      replace B4 := X9.keep B4
      replace E := E.ext X9
      refine qA (.bool (zBg x)) rfl ?_
      refine zAB (zAW ?_)
      refine qM (.bool a) rfl ?_
      refine qM (.bool a) rfl ?_
      rcases Bool.eq_false_or_eq_true (a) with ga | ga
      · have kga := ga
        refine zAF (oj := _) rfl rfl (by decide) (congrArg Value.bool ga) ?_
        refine qM (.bool (zBg x)) rfl ?_
        refine qV (zAd (b := a) (v := (.bool (zBg x))) rfl (by rw [ga]; rfl)) ?_
        refine qM (.bool s) rfl ?_
        refine qM (.bool s) rfl ?_
        rcases Bool.eq_false_or_eq_true (s) with gs | gs
        · have kgs := gs
          refine zAD (oj := _) rfl rfl (by decide) (v := .bool true) (congrArg Value.bool gs) (Or.inl rfl) ?_
          refine qV (zAd (b := s) (v := (.bool true)) rfl (by rw [gs]; rfl)) ?_
          refine qA (.bool (zBg x)) rfl ?_
          refine qA (.bool true) rfl ?_
          refine zAB (zAU (zAC (zAW ?_)))
          refine qV (zBQ (k := .i64) (a := (k : Int)) (b := 1) (c := (k : Int) + 1) rfl rfl (zBs (by omega))) ?_
          refine qM (I6 ((k : Int) + 1)) rfl ?_
          refine zAB (zAC ?_)
          exact ⟨t.args.length - (k + 1), by omega, k + 1, zBg x, true, zBG.out ⟨rfl, rfl, rfl, rfl, rfl, rfl, trivial⟩, E, B1, (by omega), (by rw [ha, ga]; rfl), (by rw [hs, gs]; rfl), rfl⟩
        · have kgs := gs
          refine zAF (oj := _) rfl rfl (by decide) (congrArg Value.bool gs) ?_
          refine qM (.bool (zBg x)) rfl ?_
          refine qV (zAd (b := s) (v := (.bool (zBg x))) rfl (by rw [gs]; rfl)) ?_
          refine qA (.bool (zBg x)) rfl ?_
          refine qA (.bool (zBg x)) rfl ?_
          refine zAB (zAU (zAC (zAW ?_)))
          refine qV (zBQ (k := .i64) (a := (k : Int)) (b := 1) (c := (k : Int) + 1) rfl rfl (zBs (by omega))) ?_
          refine qM (I6 ((k : Int) + 1)) rfl ?_
          refine zAB (zAC ?_)
          exact ⟨t.args.length - (k + 1), by omega, k + 1, zBg x, zBg x, zBG.out ⟨rfl, rfl, rfl, rfl, rfl, rfl, trivial⟩, E, B1, (by omega), (by rw [ha, ga]; rfl), (by rw [hs, gs]; rfl), rfl⟩
      · have kga := ga
        refine zAD (oj := _) rfl rfl (by decide) (v := .bool false) (congrArg Value.bool ga) (Or.inl rfl) ?_
        refine qV (zAd (b := a) (v := (.bool false)) rfl (by rw [ga]; rfl)) ?_
        refine qM (.bool s) rfl ?_
        refine qM (.bool s) rfl ?_
        rcases Bool.eq_false_or_eq_true (s) with gs | gs
        · have kgs := gs
          refine zAD (oj := _) rfl rfl (by decide) (v := .bool true) (congrArg Value.bool gs) (Or.inl rfl) ?_
          refine qV (zAd (b := s) (v := (.bool true)) rfl (by rw [gs]; rfl)) ?_
          refine qA (.bool false) rfl ?_
          refine qA (.bool true) rfl ?_
          refine zAB (zAU (zAC (zAW ?_)))
          refine qV (zBQ (k := .i64) (a := (k : Int)) (b := 1) (c := (k : Int) + 1) rfl rfl (zBs (by omega))) ?_
          refine qM (I6 ((k : Int) + 1)) rfl ?_
          refine zAB (zAC ?_)
          exact ⟨t.args.length - (k + 1), by omega, k + 1, false, true, zBG.out ⟨rfl, rfl, rfl, rfl, rfl, rfl, trivial⟩, E, B1, (by omega), (by rw [ha, ga]; rfl), (by rw [hs, gs]; rfl), rfl⟩
        · have kgs := gs
          refine zAF (oj := _) rfl rfl (by decide) (congrArg Value.bool gs) ?_
          refine qM (.bool (zBg x)) rfl ?_
          refine qV (zAd (b := s) (v := (.bool (zBg x))) rfl (by rw [gs]; rfl)) ?_
          refine qA (.bool false) rfl ?_
          refine qA (.bool (zBg x)) rfl ?_
          refine zAB (zAU (zAC (zAW ?_)))
          refine qV (zBQ (k := .i64) (a := (k : Int)) (b := 1) (c := (k : Int) + 1) rfl rfl (zBs (by omega))) ?_
          refine qM (I6 ((k : Int) + 1)) rfl ?_
          refine zAB (zAC ?_)
          exact ⟨t.args.length - (k + 1), by omega, k + 1, false, zBg x, zBG.out ⟨rfl, rfl, rfl, rfl, rfl, rfl, trivial⟩, E, B1, (by omega), (by rw [ha, ga]; rfl), (by rw [hs, gs]; rfl), rfl⟩
    · have khlt := hlt
      replace hlt := of_decide_eq_false hlt
      have hkl : t.args.drop k = [] := List.drop_eq_nil_of_le (by omega)
      rw [hkl] at ha hs
      have ha1 : zCp t.args = a := by rw [ha]; simp [zCp]
      have hs1 : zDn t.args = s := by rw [hs]; simp [zDn]
      rw [ha1, hs1]
      refine zBB (zAe (zAe (zAr (zAC (zAP (zAA ?_))))))
      refine qF b1 0 0 rfl Tryz.underlying25 rfl zAw rfl ?_
      refine qV (zAK (v := (I6 t.kind)) rfl zAf (B1.cell rfl)) ?_
      refine zAB (zAZ (zAP (zAA ?_)))
      refine qV (zAg (k := .i64) (a := t.kind) (b := 1) rfl rfl) ?_
      refine qA (.bool (decide ((t.kind : Int) = 1))) rfl ?_
      refine zAB ?_
      refine zAM (b := decide ((t.kind : Int) = 1)) rfl (fun h1 => ?_) (fun h1 => ?_)
      · have kh1 := h1
        replace h1 := of_decide_eq_true h1
        refine zAR (zAC ?_)
        refine zAl (congrArg Value.bool kh1) ?_
        refine zAA ?_
        refine qA (.bool true) rfl ?_
        refine zAB (zAQ (zAY (zAI ?_)))
        refine zAS Tryz.results63 (v := (.bool true)) rfl ?_
        exact ⟨zAt (by rw [if_pos (.inl h1)]), E⟩
      · have kh1 := h1
        replace h1 := of_decide_eq_false h1
        refine zAW ?_
        refine qV (zAg (k := .i64) (a := t.kind) (b := 5) rfl rfl) ?_
        refine qA (.bool (decide ((t.kind : Int) = 5))) rfl ?_
        refine zAB (zAC ?_)
        refine zAM (b := decide ((t.kind : Int) = 5)) rfl (fun h5 => ?_) (fun h5 => ?_)
        · have kh5 := h5
          replace h5 := of_decide_eq_true h5
          refine zAA ?_
          refine qA (.bool true) rfl ?_
          refine zAB (zAQ (zAY (zAI ?_)))
          refine zAS Tryz.results63 (v := (.bool true)) rfl ?_
          exact ⟨zAt (by rw [if_pos (.inr h5)]), E⟩
        · have kh5 := h5
          replace h5 := of_decide_eq_false h5
          rw [if_neg (show ¬ (t.kind = 1 ∨ t.kind = 5) by omega)]
          refine zAP (zAA ?_)
          refine qV (zAg (k := .i64) (a := t.kind) (b := 3) rfl rfl) ?_
          refine qA (.bool (decide ((t.kind : Int) = 3))) rfl ?_
          refine zAB ?_
          refine zAM (b := decide ((t.kind : Int) = 3)) rfl (fun h3 => ?_) (fun h3 => ?_)
          · have kh3 := h3
            replace h3 := of_decide_eq_true h3
            refine zAR (zAC ?_)
            refine zAl (congrArg Value.bool kh3) ?_
            refine zAA ?_
            refine qM (.bool a) rfl ?_
            refine qA (.bool a) rfl ?_
            refine zAB (zAQ (zAY (zAI ?_)))
            refine zAS Tryz.results63 (v := (.bool a)) rfl ?_
            exact ⟨zAt (by rw [if_pos (.inl h3)]), E⟩
          · have kh3 := h3
            replace h3 := of_decide_eq_false h3
            refine zAA ?_
            refine qV (zAg (k := .i64) (a := t.kind) (b := 7) rfl rfl) ?_
            refine qA (.bool (decide ((t.kind : Int) = 7))) rfl ?_
            refine zAB ?_
            refine zAM (b := decide ((t.kind : Int) = 7)) rfl (fun h7 => ?_) (fun h7 => ?_)
            · have kh7 := h7
              replace h7 := of_decide_eq_true h7
              refine zAR (zAC ?_)
              refine zAl (congrArg Value.bool kh7) ?_
              refine zAA ?_
              refine qM (.bool a) rfl ?_
              refine qA (.bool a) rfl ?_
              refine zAB (zAQ (zAY (zAI ?_)))
              refine zAS Tryz.results63 (v := (.bool a)) rfl ?_
              exact ⟨zAt (by rw [if_pos (.inr (.inl h7))]), E⟩
            · have kh7 := h7
              replace h7 := of_decide_eq_false h7
              refine zAW ?_
              refine qV (zAg (k := .i64) (a := t.kind) (b := 9) rfl rfl) ?_
              refine qA (.bool (decide ((t.kind : Int) = 9))) rfl ?_
              refine zAB (zAC ?_)
              refine zAM (b := decide ((t.kind : Int) = 9)) rfl (fun h9 => ?_) (fun h9 => ?_)
              · have kh9 := h9
                replace h9 := of_decide_eq_true h9
                refine zAA ?_
                refine qM (.bool a) rfl ?_
                refine qA (.bool a) rfl ?_
                refine zAB (zAQ (zAY (zAI ?_)))
                refine zAS Tryz.results63 (v := (.bool a)) rfl ?_
                exact ⟨zAt (by rw [if_pos (.inr (.inr h9))]), E⟩
              · have kh9 := h9
                replace h9 := of_decide_eq_false h9
                rw [if_neg (show ¬ (t.kind = 3 ∨ t.kind = 7 ∨ t.kind = 9) by omega)]
                refine zAA ?_
                refine qV (zAg (k := .i64) (a := t.kind) (b := 4) rfl rfl) ?_
                refine qA (.bool (decide ((t.kind : Int) = 4))) rfl ?_
                refine zAB ?_
                refine zAM (b := decide ((t.kind : Int) = 4)) rfl (fun h4 => ?_) (fun h4 => ?_)
                · have kh4 := h4
                  replace h4 := of_decide_eq_true h4
                  refine zAA ?_
                  refine qM (.bool s) rfl ?_
                  refine qA (.bool s) rfl ?_
                  refine zAB (zAQ (zAY (zAI ?_)))
                  refine zAS Tryz.results63 (v := (.bool s)) rfl ?_
                  exact ⟨zAt (by rw [if_pos h4]), E⟩
                · have kh4 := h4
                  replace h4 := of_decide_eq_false h4
                  refine zAA ?_
                  refine qV (zAg (k := .i64) (a := t.kind) (b := 6) rfl rfl) ?_
                  refine qA (.bool (decide ((t.kind : Int) = 6))) rfl ?_
                  refine zAB ?_
                  refine zAM (b := decide ((t.kind : Int) = 6)) rfl (fun h6 => ?_) (fun h6 => ?_)
                  · have kh6 := h6
                    replace h6 := of_decide_eq_true h6
                    refine zAA ?_
                    refine qF b1 0 3 rfl Tryz.underlying25 rfl zAw rfl ?_
                    refine qV (zAK (v := (I6 t.mn)) rfl zAf (B1.cell rfl)) ?_
                    refine qV (zAg (k := .i64) (a := t.mn) (b := 0) rfl rfl) ?_
                    refine qM (.bool (decide ((t.mn : Int) = 0))) rfl ?_
                    rcases Bool.eq_false_or_eq_true (decide ((t.mn : Int) = 0)) with hm | hm
                    · have khm := hm
                      replace khm := of_decide_eq_true khm
                      refine zAD (oj := _) rfl rfl (by decide) (v := .bool true) (congrArg Value.bool hm) (Or.inl rfl) ?_
                      refine qV (zAd (b := decide ((t.mn : Int) = 0)) (v := (.bool true)) rfl (by rw [hm]; rfl)) ?_
                      refine qA (.bool true) rfl ?_
                      refine zAB (zAQ (zAY (zAI ?_)))
                      refine zAS Tryz.results63 (v := (.bool true)) rfl ?_
                      exact ⟨zAt (by rw [if_neg h4, if_pos h6]; simp [hm]), E⟩
                    · have khm := hm
                      replace khm := of_decide_eq_false khm
                      refine zAF (oj := _) rfl rfl (by decide) (congrArg Value.bool hm) ?_
                      refine qM (.bool a) rfl ?_
                      refine qV (zAd (b := decide ((t.mn : Int) = 0)) (v := (.bool a)) rfl (by rw [hm]; rfl)) ?_
                      refine qA (.bool a) rfl ?_
                      refine zAB (zAQ (zAY (zAI ?_)))
                      refine zAS Tryz.results63 (v := (.bool a)) rfl ?_
                      exact ⟨zAt (by rw [if_neg h4, if_pos h6]; simp [hm]), E⟩
                  · have kh6 := h6
                    replace h6 := of_decide_eq_false h6
                    refine zAA ?_
                    refine qV (zAg (k := .i64) (a := t.kind) (b := 8) rfl rfl) ?_
                    refine qA (.bool (decide ((t.kind : Int) = 8))) rfl ?_
                    refine zAB ?_
                    refine zAM (b := decide ((t.kind : Int) = 8)) rfl (fun h8 => ?_) (fun h8 => ?_)
                    · have kh8 := h8
                      replace h8 := of_decide_eq_true h8
                      refine zAA ?_
                      refine qM (.bool a) rfl ?_
                      refine qV (zCV (b := a) rfl) ?_
                      refine qA (.bool (!a)) rfl ?_
                      refine zAB (zAQ (zAY (zAI ?_)))
                      refine zAS Tryz.results63 (v := (.bool (!a))) rfl ?_
                      exact ⟨zAt (by rw [if_neg h4, if_neg h6, if_pos h8]), E⟩
                    · have kh8 := h8
                      replace h8 := of_decide_eq_false h8
                      refine zAA ?_
                      refine qV (zAg (k := .i64) (a := t.kind) (b := 10) rfl rfl) ?_
                      refine qA (.bool (decide ((t.kind : Int) = 10))) rfl ?_
                      refine zAB ?_
                      refine zAM (b := decide ((t.kind : Int) = 10)) rfl (fun h10 => ?_) (fun h10 => ?_)
                      · have kh10 := h10
                        replace h10 := of_decide_eq_true h10
                        refine zAA ?_
                        refine qM (.bool a) rfl ?_
                        refine qF b1 0 5 rfl Tryz.underlying25 rfl zNq rfl ?_
                        refine qV (zAK (v := (.bool t.neg)) rfl zHv (B1.cell rfl)) ?_
                        refine qV (zMQ (p := a) (q := t.neg) Tryz.underlying4 rfl rfl) ?_
                        refine qA (.bool (a != t.neg)) rfl ?_
                        refine zAB (zAQ (zAY (zAI ?_)))
                        refine zAS Tryz.results63 (v := (.bool (a != t.neg))) rfl ?_
                        exact ⟨zAt (by rw [if_neg h4, if_neg h6, if_neg h8, if_pos h10]), E⟩
                      · have kh10 := h10
                        replace h10 := of_decide_eq_false h10
                        refine zAR (zAU (zAC (zAA ?_)))
                        refine qA (.bool false) rfl ?_
                        refine zAB (zAQ ?_)
                        refine zAS Tryz.results63 (v := (.bool false)) rfl ?_
                        exact ⟨zAt (by rw [if_neg h4, if_neg h6, if_neg h8, if_neg h10]), E⟩
end Go.Proofs
namespace Go.Proofs
open Go Go.Eng Go.Sort
set_option maxRecDepth 100000
theorem zPq {S : Nat → Prop} {w : World} {v : Value} {ts : List Re} (h : zCJ S w v ts) : zIH w v ts := by
 obtain ⟨aa, ac, h1, h2, h3⟩ := h
 refine ⟨aa, ac, h1, h2, ?_⟩
 rcases h3 with h | ⟨b, o, _, h4, h5⟩
 ·exact .inl h
 exact .inr ⟨b, o, h4, zBM.at ts h5⟩
theorem zEV (k : Int) (z : Re) (l : List Re) : (l.length = 0 → zBy k z l = z) ∧ (∀ x, l.length = 1 → l[0]? = some x → zBy k z l = x) ∧ (2 ≤ l.length → zBy k z l = .mk k [] l 0 0 false) := by
 refine ⟨fun h => by rw [List.eq_nil_of_length_eq_zero h]; rfl, fun x h hx => ?_, zJO⟩
 rw [zKW h hx]; rfl
set_option maxHeartbeats 2000000 in
theorem zIy (w0 : World) (S : Nat → Prop) (v : Value) (ts : List Re) (h : zCJ S w0 v ts) (hS : ∀ x, S x → x < w0.heap.size) (hne : ∀ x ∈ ts, x.kind = 3 → x.args ≠ []) (hsz : Re.sizes ts ≤ 1000000) :
  Ret Tryz.prog 118 #[v] w0 fun r w => (∃ vs, r = .agg vs.toArray ∧ zAc (fun b => S b ∨ w0.heap.size ≤ b) w (zEd ts) vs) ∧ Ext w0 w := by
 have h0 := h
 obtain ⟨aa0, ac0, rfl, hac0, _⟩ := h
 have hls := zCg ts
 have hfle := zHu 3 ts ts.length
 rw [List.take_length] at hfle
 obtain ⟨D, hD⟩ : ∃ D, D = zEm zBo (zBO 3 ts) := ⟨_, rfl⟩
 have hDl : D.length ≤ (zBO 3 ts).length := by rw [hD]; exact List.length_filter_le _ _
 have hcat : zEd ts = if (D.any zBU) = true then zBH else zBy 3 zBJ D := by rw [hD]; rfl
 rw [hcat]
 obtain ⟨hw0, hw1, hw2⟩ := zEV 3 zBJ D
 refine zAk Tryz.func118 rfl Tryz.ntmps118 (Nat.le_of_ble_eq_true rfl) ?_
 have E : Chg zAh w0 w0 := Chg.refl _ _
 refine zAA ?_
 refine zBD (c := #[(I6 0), (.slice none 0 0), (.slice none 0 0), (I6 0), (I6 0), (.bool false)]) (by decide) zAs rfl ?_
 intro bo wo No
 have Fo := No.ge E
 replace E := E.ext No.ext
 have Bo := No.blk
 refine zAB (zAA ?_)
 refine qM (.slice aa0 ts.length ac0) rfl ?_
 obtain ⟨base, hbase⟩ : ∃ base, base = wo.heap.size := ⟨_, rfl⟩
 have hob : bo < base := by rw [hbase]; exact Bo.lt
 have hwb : w0.heap.size ≤ base := by omega
 have E2 : Chg zAh wo wo := Chg.refl _ _
 refine zAL rfl rfl (by decide) (zAT (vs := [(I6 3), (.slice aa0 ts.length ac0)]) Tryz.func167 nm167 bd167 rfl) (zPL _ S 3 _ ts (h0.ext E) hne hsz) ?_
 rintro _ wf ⟨la, lc, rows, rfl, hown, hrs, Xf⟩
 replace Bo := Xf.keep Bo
 replace E := E.ext Xf
 rw [← hbase] at hown
 replace E2 : Chg zAh wo wf := Xf
 have hbs : base ≤ wf.heap.size := by rw [hbase]; exact Xf.size
 refine zAL rfl rfl (by decide) (zAT (vs := [(.slice la ((zBO 3 ts).length) lc), (.func (.func 168) #[] #[])]) Tryz.func166 nm166 bd166 rfl) ((del_c wo _ base S _ _ (zBO 3 ts) rows zBo E2 hown hrs (fun x hx => by have := hS x hx; omega) (by omega) (fun w x vs _ hx => zBu.mk (first := #[]) (cap := #[]) Tryz.func168 nm168 bd168 rfl (zNH w x vs hx))).mono (R' := fun r w => ∃ la lc rows', r = .slice la D.length lc ∧ w.ownsRow base TRe 6 r D.length rows'.flatten ∧ zAj S wo D rows' ∧ Chg (fun x => base ≤ x) wf w) (fun r w h9 => by rw [hD]; exact h9)) ?_
 rintro _ wd ⟨la2, lc2, rows2, rfl, hown2, hrs2, Cd⟩
 replace Bo := Cd.keep (by omega) Bo
 replace E := E.step Cd (by intro x hx hm; omega)
 replace E2 := E2.step Cd (by intro x hx hm; omega)
 have hrsat : zIH wd (.slice la2 D.length lc2) D := zPG hown2 (hrs2.ext E2) rfl
 refine qA (.slice la2 D.length lc2) rfl ?_
 refine zAB (zAP (zAA ?_))
 refine qM (.slice la2 D.length lc2) rfl ?_
 refine zAL rfl rfl (by decide) (zAT (vs := [(.slice la2 D.length lc2), (.func (.func 136) #[] #[])]) Tryz.func26 nm26 bd26 rfl) (zMH _ _ _ D zBU hrsat (fun w x vs _ _ hx => zBu.mk (first := #[]) (cap := #[]) Tryz.func136 zQO zQx rfl (zGd w x vs hx))) ?_
 rintro _ w19 ⟨rfl, X19⟩
 replace Bo := X19.keep Bo
 replace E := E.ext X19
 replace E2 := E2.ext X19
 replace hown2 := zBE hown2 X19
 obtain ⟨hoc, hocl⟩ := zDz hown2 (hrs2.ext E2) rfl
 refine zAB ?_
 refine zAM (b := D.any zBU) rfl (fun hn => ?_) (fun hn => ?_)
 ·have khn := hn
  refine zAA ?_
  refine zAL rfl rfl (by decide) (zAT (vs := []) Tryz.func120 zMf zNZ rfl) (zGc _) ?_
  rintro _ w29 ⟨rfl, X29⟩
  replace Bo := X29.keep Bo
  replace E := E.ext X29
  refine qW (#[(I6 0), (.slice none 0 0), (.slice none 0 0), (I6 0), (I6 0), (.bool false)]) rfl rfl zAH Bo ?_
  intro w2 S2
  replace E := S2.stp E
  replace Bo := S2.blk
  refine zAB (zAQ (zAI ?_))
  refine zAm Tryz.results118 (vs := [(.int .i64 0), (.slice none 0 0), (.slice none 0 0), (.int .i64 0), (.int .i64 0), (.bool false)]) (b := bo) rfl zAb zAH rfl (Bo.cells rfl) ?_
  exact ⟨⟨_, rfl, by rw [if_pos hn]; exact zBN _ _ _⟩, E⟩
 have khn := hn
 rw [if_neg (by rw [hn]; decide)]
 refine zAR (zAC (zAP (zAA ?_)))
 refine qM (.slice la2 D.length lc2) rfl ?_
 refine qV (zAV (ad := la2) (n := D.length) (cap := lc2) Tryz.underlying23 rfl) ?_
 refine zAB (zAZ (zAA ?_))
 refine qV (zAg (k := .i64) (a := (D.length : Int)) (b := 0) rfl rfl) ?_
 refine qA (.bool (decide (((D.length : Int) : Int) = 0))) rfl ?_
 refine zAB ?_
 refine zAM (b := decide (((D.length : Int) : Int) = 0)) rfl (fun h0l => ?_) (fun h0l => ?_)
 ·have kh0l := h0l
  replace h0l := of_decide_eq_true h0l
  refine zAA ?_
  refine zAL rfl rfl (by decide) (zAT (vs := []) Tryz.func117 zJd zJl rfl) (zED _) ?_
  rintro _ w29 ⟨rfl, X29⟩
  replace Bo := X29.keep Bo
  replace E := E.ext X29
  refine qW (#[(I6 1), (.slice none 0 0), (.slice none 0 0), (I6 0), (I6 0), (.bool false)]) rfl rfl zAH Bo ?_
  intro w4 S4
  replace E := S4.stp E
  replace Bo := S4.blk
  refine zAB (zAQ (zAY (zAI ?_)))
  refine zAm Tryz.results118 (vs := [(.int .i64 1), (.slice none 0 0), (.slice none 0 0), (.int .i64 0), (.int .i64 0), (.bool false)]) (b := bo) rfl zAb zAH rfl (Bo.cells rfl) ?_
  exact ⟨⟨_, rfl, by rw [hw0 (by omega)]; exact zBN _ _ _⟩, E⟩
 have kh0l := h0l
 replace h0l := of_decide_eq_false h0l
 refine zAA ?_
 refine qV (zAg (k := .i64) (a := (D.length : Int)) (b := 1) rfl rfl) ?_
 refine qA (.bool (decide (((D.length : Int) : Int) = 1))) rfl ?_
 refine zAB ?_
 refine zAM (b := decide (((D.length : Int) : Int) = 1)) rfl (fun h1l => ?_) (fun h1l => ?_)
 ·have kh1l := h1l
  replace h1l := of_decide_eq_true h1l
  obtain ⟨x, hx⟩ := zAa (l := D) (i := 0) (by omega)
  obtain ⟨lb, hlb1, hlb2, hlb3, hcl⟩ := hocl.resolve_left (fun h => by rw [h] at hx; simp at hx)
  subst hlb3
  obtain ⟨xs, hcx, hrx⟩ := hcl 0 x hx
  have hrx0 := hrx
  obtain ⟨sa, sc, aa, ac, rfl, _, _, _⟩ := hrx.form
  have hS5 : Chg (fun y => y = bo) (w19) (w19) := Chg.refl _ _
  refine zAA ?_
  refine qM (.slice (some ⟨lb, 0, none⟩) D.length lc2) rfl ?_
  refine qV (zAO (b := lb) (o := 0) (len := D.length) (cap := lc2) (i := 0) (o' := 0) rfl rfl rfl Tryz.underlying23 zAH (by omega) (by omega)) ?_
  refine qV (zAG (vs := [(I6 x.kind), (.slice sa x.set.length sc), (.slice aa x.args.length ac), (I6 x.mn), (I6 x.mx), (.bool x.neg)]) rfl zAb zAH rfl (hcx)) ?_
  refine qW (R6 x sa sc aa ac) rfl rfl zAH Bo ?_
  intro w6 S6
  replace hS5 := S6.chg
  replace E := S6.stp E
  replace Bo := S6.blk
  refine zAB (zAQ (zAY (zAI ?_)))
  refine zAm Tryz.results118 (vs := [(.int .i64 x.kind), (.slice sa x.set.length sc), (.slice aa x.args.length ac), (.int .i64 x.mn), (.int .i64 x.mx), (.bool x.neg)]) (b := bo) rfl zAb zAH rfl (Bo.cells rfl) ?_
  exact ⟨⟨_, rfl, by rw [hw1 x (by omega) hx]; exact zAc.mono (fun y hy => .inl hy) x (zAc.chg hS5 (fun y hy h => by have h1 := hS y hy; have h2 : y = bo := h; omega) x hrx0)⟩, E⟩
 have kh1l := h1l
 replace h1l := of_decide_eq_false h1l
 have hS5 : Chg (fun y => y = bo) (w19) (w19) := Chg.refl _ _
 refine zAR (zAU (zAC (zAA ?_)))
 refine qM (.slice la2 D.length lc2) rfl ?_
 refine qV (zBW (ps := [(0, (I6 3)), (2, (.slice la2 D.length lc2))]) (v := (.agg #[(I6 3), (.slice none 0 0), (.slice la2 D.length lc2), (I6 0), (I6 0), (.bool false)])) rfl (by kernel_rfl)) ?_
 refine qW (#[(I6 3), (.slice none 0 0), (.slice la2 D.length lc2), (I6 0), (I6 0), (.bool false)]) rfl rfl zAH Bo ?_
 intro w7 S7
 replace hS5 := S7.chg
 replace E := S7.stp E
 replace Bo := S7.blk
 refine zAB (zAQ ?_)
 refine zAm Tryz.results118 (vs := [(.int .i64 3), (.slice none 0 0), (.slice la2 D.length lc2), (.int .i64 0), (.int .i64 0), (.bool false)]) (b := bo) rfl zAb zAH rfl (Bo.cells rfl) ?_
 refine ⟨⟨_, rfl, ?_⟩, E⟩
 rw [hw2 (by omega)]
 refine zAc.of (set := []) (zDE.nil _ _ _ _ _) hoc ?_
 rcases hocl with h | ⟨ob, hob1, hob2, hob3, hclo⟩
 ·exact .inl h
 refine .inr ⟨ob, 0, .inr (by omega), hob3, zCx fun i t ht => ?_⟩
 obtain ⟨vs, h6, h7⟩ := hclo i t ht
 exact ⟨vs, h6.chg hS5 (fun h => by have h' : ob = bo := h; omega), zAc.mono (fun y hy => .inl hy) t (zAc.chg hS5 (fun y hy h => by have h1 := hS y hy; have h2 : y = bo := h; omega) t h7)⟩
end Go.Proofs
namespace Go.Proofs
open Go.Shelf
def Tryz.sortRe_ren : Go.Shelf.Ren := ⟨fun | 6 => 183 | 15 => 176 | 14 => 221 | 28 => 204 | 29 => 205 | 20 => 247 | 21 => 248 | 22 => 249 | 23 => 250 | 24 => 251 | 25 => 252 | 26 => 253 | 27 => 254 | 46 => 259 | 47 => 225 | 48 => 226 | 49 => 260 | 50 => 261 | 57 => 262 | n => n, fun | 22 => 23 | 24 => 25 | 25 => 169 | 3 => 3 | 39 => 170 | 0 => 0 | 53 => 182 | 55 => 185 | 4 => 4 | 46 => 194 | 45 => 193 | 50 => 148 | 5 => 5 | 9 => 9 | 66 => 219 | 70 => 223 | 76 => 253 | 77 => 254 | n => n, fun | n => n⟩
theorem Tryz.sortRe : Go.Proofs.SlLaysF0.n6 Tryz.prog Tryz.sortRe_ren := {
 mixed := by kernel_rfl
 f6 := ⟨Tryz.f183.name, by decide, Tryz.func183.trans (congrArg some (by kernel_rfl))⟩
 f14 := ⟨Tryz.f221.name, by decide, Tryz.func221.trans (congrArg some (by kernel_rfl))⟩
 f15 := Tryz.func176.trans (congrArg some (by kernel_rfl))
 f20 := ⟨Tryz.f247.name, by decide, Tryz.func247.trans (congrArg some (by kernel_rfl))⟩
 f21 := ⟨Tryz.f248.name, by decide, Tryz.func248.trans (congrArg some (by kernel_rfl))⟩
 f22 := ⟨Tryz.f249.name, by decide, Tryz.func249.trans (congrArg some (by kernel_rfl))⟩
 f23 := ⟨Tryz.f250.name, by decide, Tryz.func250.trans (congrArg some (by kernel_rfl))⟩
 f24 := ⟨Tryz.f251.name, by decide, Tryz.func251.trans (congrArg some (by kernel_rfl))⟩
 f25 := ⟨Tryz.f252.name, by decide, Tryz.func252.trans (congrArg some (by kernel_rfl))⟩
 f26 := ⟨Tryz.f253.name, by decide, Tryz.func253.trans (congrArg some (by kernel_rfl))⟩
 f27 := ⟨Tryz.f254.name, by decide, Tryz.func254.trans (congrArg some (by kernel_rfl))⟩
 f28 := Tryz.func204.trans (congrArg some (by kernel_rfl))
 f29 := Tryz.func205.trans (congrArg some (by kernel_rfl))
 f46 := ⟨Tryz.f259.name, by decide, Tryz.func259.trans (congrArg some (by kernel_rfl))⟩
 f47 := Tryz.func225.trans (congrArg some (by kernel_rfl))
 f48 := Tryz.func226.trans (congrArg some (by kernel_rfl))
 f49 := ⟨Tryz.f260.name, by decide, Tryz.func260.trans (congrArg some (by kernel_rfl))⟩
 f50 := ⟨Tryz.f261.name, by decide, Tryz.func261.trans (congrArg some (by kernel_rfl))⟩
 f57 := ⟨Tryz.f262.name, by decide, Tryz.func262.trans (congrArg some (by kernel_rfl))⟩
 t0 := Tryz.underlying0
 a0 := Tryz.isAgg0
 z0 := Tryz.sizeOf0
 v0 := Tryz.zeroValue0
 t3 := Tryz.underlying3
 a3 := Tryz.isAgg3
 z3 := Tryz.sizeOf3
 v3 := Tryz.zeroValue3
 t4 := Tryz.underlying4
 a4 := Tryz.isAgg4
 z4 := Tryz.sizeOf4
 v4 := Tryz.zeroValue4
 t5 := Tryz.underlying5
 a5 := Tryz.isAgg5
 z5 := Tryz.sizeOf5
 v5 := Tryz.zeroValue5
 t9 := Tryz.underlying9
 a9 := Tryz.isAgg9
 z9 := Tryz.sizeOf9
 v9 := Tryz.zeroValue9
 t22 := Tryz.underlying23
 a22 := Tryz.isAgg23
 z22 := Tryz.sizeOf23
 v22 := Tryz.zeroValue23
 t25 := Tryz.underlying169
 a25 := Tryz.isAgg169
 z25 := Tryz.sizeOf169
 v25 := Tryz.zeroValue169
 t39 := Tryz.underlying170
 a39 := Tryz.isAgg170
 z39 := Tryz.sizeOf170
 v39 := Tryz.zeroValue170
 t45 := Tryz.underlying193
 a45 := Tryz.isAgg193
 z45 := Tryz.sizeOf193
 v45 := Tryz.zeroValue193
 t46 := Tryz.underlying194
 a46 := Tryz.isAgg194
 z46 := Tryz.sizeOf194
 v46 := Tryz.zeroValue194
 t50 := Tryz.underlying148
 a50 := Tryz.isAgg148
 z50 := Tryz.sizeOf148
 v50 := Tryz.zeroValue148
 t53 := Tryz.underlying182
 a53 := Tryz.isAgg182
 z53 := Tryz.sizeOf182
 v53 := Tryz.zeroValue182
 t55 := Tryz.underlying185
 a55 := Tryz.isAgg185
 z55 := Tryz.sizeOf185
 v55 := Tryz.zeroValue185
 t66 := Tryz.underlying219
 a66 := Tryz.isAgg219
 z66 := Tryz.sizeOf219
 v66 := Tryz.zeroValue219
 t70 := Tryz.underlying223
 a70 := Tryz.isAgg223
 z70 := Tryz.sizeOf223
 v70 := Tryz.zeroValue223
 t76 := Tryz.underlying253
 a76 := Tryz.isAgg253
 z76 := Tryz.sizeOf253
 v76 := Tryz.zeroValue253
 t77 := Tryz.underlying254
 a77 := Tryz.isAgg254
 z77 := Tryz.sizeOf254
 v77 := Tryz.zeroValue254 }
end Go.Proofs
namespace Go.Proofs
open Go Go.Eng Go.Sort
set_option maxRecDepth 100000
/-- An expression with its cells. -/
structure RRow (S : Nat → Prop) (w : World) where
 t : Re
 vs : List Value
 h : zAc S w t vs
instance {S : Nat → Prop} {w : World} : Inhabited (RRow S w) := ⟨⟨_, _, zBN S w 0⟩⟩
def zKd {S : Nat → Prop} {w : World} (r : RRow S w) : List Value := r.vs
def cfR {S : Nat → Prop} {w : World} (x y : RRow S w) : Int := zCB x.t y.t
theorem zNU {S : Nat → Prop} {w : World} (x y : RRow S w) : cfR x y < 0 ↔ zCB x.t y.t < 0 := Iff.rfl
theorem swoR {S : Nat → Prop} {w : World} : SWO (ltOf (cfR (S := S) (w := w))) := by
 refine ⟨fun x => ?_, fun x y z => ?_, fun x y z => ?_⟩
 ·have := zBf x.t x.t
  simp only [ltOf, decide_eq_false_iff_not, zNU]
  omega
 ·have a := zBf x.t y.t
  have b := zBf y.t z.t
  have c := zBf x.t z.t
  have a' := zBf y.t x.t
  have b' := zBf z.t y.t
  have c' := zBf z.t x.t
  have h1 := zJR x.t y.t z.t
  have h2 := zJR z.t y.t x.t
  unfold Tr3 at h1 h2
  simp only [ltOf, decide_eq_true_eq, decide_eq_false_iff_not, zNU]
  omega
 have a := zBf x.t y.t
 have b := zBf y.t z.t
 have c := zBf x.t z.t
 have a' := zBf y.t x.t
 have b' := zBf z.t y.t
 have c' := zBf z.t x.t
 have h1 := zJR x.t y.t z.t
 have h2 := zJR z.t y.t x.t
 unfold Tr3 at h1 h2
 simp only [ltOf, decide_eq_true_eq, decide_eq_false_iff_not, zNU]
 omega
theorem zHT {α : Type} [Inhabited α] (enc : α → List Value) (k : Nat) (hk : 0 < k) (he : ∀ x, (enc x).length = k) (d : List α) : (flatK enc k d.toArray).toList = (d.map enc).flatten := by
 have hrl : (d.map enc).flatten.length = d.length * k := by
  have := zBn (k := k) (rows := d.map enc) (fun r hr => by obtain ⟨x, _, rfl⟩ := List.mem_map.1 hr; exact he x)
  rwa [List.length_map] at this
 apply List.ext_getElem?
 intro t
 by_cases ht : t < d.length * k
 ·have hi : t / k < d.length := Nat.div_lt_of_lt_mul (by rw [Nat.mul_comm]; exact ht)
  have hj : t % k < k := Nat.mod_lt _ hk
  have hx : (d.map enc)[t / k]? = some (enc d[t / k]) := by rw [List.getElem?_map, List.getElem?_eq_getElem hi]; rfl
  have hu : (enc d[t / k])[t % k]? = some ((enc d[t / k])[t % k]'(by rw [he]; exact hj)) := List.getElem?_eq_getElem _
  have h1 := zHJ (k := k) (rows := d.map enc) (rest := []) (fun r hr => by obtain ⟨x, _, rfl⟩ := List.mem_map.1 hr; exact he x) hx _ _ hu
  rw [List.append_nil, Nat.div_add_mod'] at h1
  rw [h1]
  have h2 := get_flatK enc k d.toArray t (by simpa using ht)
  have h3 : t < (flatK enc k d.toArray).size := by rw [size_flatK]; simpa using ht
  rw [getElem!_pos _ t h3] at h2
  rw [Array.getElem?_toList, Array.getElem?_eq_getElem h3, h2]
  have h4 : d.toArray[t / k]! = d[t / k] := by rw [getElem!_pos d.toArray _ (by simpa using hi)]; simp
  rw [h4, getElem!_pos _ _ (by rw [he]; exact hj)]
 rw [List.getElem?_eq_none (by rw [Array.length_toList, size_flatK]; simpa using ht), List.getElem?_eq_none (by omega)]
theorem zLI {α : Type} [Inhabited α] (enc : α → List Value) (k : Nat) (hk : 0 < k) (he : ∀ x, (enc x).length = k) {w : World} {base e g n c : Nat} {d : List α} (h : w.ownsRow base e k (.slice (some ⟨g, 0, none⟩) n c) n (d.map enc).flatten) (hn : d.length = n) : HoldsK enc k w g 0 d.toArray := by
 intro j hj
 rw [size_flatK] at hj
 have hfl := zHT enc k hk he d
 have hj2 : j < (flatK enc k d.toArray).size := by rw [size_flatK]; exact hj
 rw [getElem!_pos _ j hj2]
 have hx : (d.map enc).flatten[j]? = some (flatK enc k d.toArray)[j] := by rw [← hfl, Array.getElem?_toList, Array.getElem?_eq_getElem hj2]
 have h1 := h.cells (g := g) rfl j _ hx
 rw [Addr.add_lit] at h1
 refine ⟨h1, ?_⟩
 rcases h.2 with ⟨h1, _⟩ | ⟨g', cap, cur, hv, _, hg, _⟩
 ·simp at h1
 simp only [Value.slice.injEq] at hv
 obtain ⟨hv, _⟩ := hv
 simp only [Option.some.injEq, Addr.mk.injEq, and_true] at hv
 subst hv
 simp [World.frozen?, hg]
theorem zLH {α : Type} [Inhabited α] (enc : α → List Value) (k : Nat) (hk : 0 < k) (he : ∀ x, (enc x).length = k) {w : World} {base e g n c m : Nat} {os : Array Obj} {d : List α} {xs : List Value} (h : w.ownsRow base e k (.slice (some ⟨g, 0, none⟩) n c) n xs) (hn : d.length = n) : (sortWorldK enc k w g 0 m d.toArray os).ownsRow base e k (.slice (some ⟨g, 0, none⟩) n c) n (d.map enc).flatten := by
 have hrl : (d.map enc).flatten.length = d.length * k := by
  have := zBn (k := k) (rows := d.map enc) (fun r hr => by obtain ⟨x, _, rfl⟩ := List.mem_map.1 hr; exact he x)
  rwa [List.length_map] at this
 rcases h.2 with ⟨h1, _⟩ | ⟨g', cap, cur, hv, hbg, hg, hnc, hcm, hcs, htake⟩
 ·simp at h1
 simp only [Value.slice.injEq, true_and] at hv
 obtain ⟨hv, rfl⟩ := hv
 simp only [Option.some.injEq, Addr.mk.injEq, and_true] at hv
 subst hv
 have hgl : g < w.heap.size := (Array.getElem?_eq_some_iff.1 hg).1
 refine ⟨by rw [hrl, hn], .inr ⟨g, c, putCells id 0 (flatK enc k d.toArray) cur, rfl, hbg, ?_, hnc, hcm, by simp [putCells, hcs], ?_⟩⟩
 ·unfold sortWorldK grow putRowK putRow mapBlock Sort.ahead
  dsimp only
  rw [Array.getElem?_append_left (by simpa using hgl), Array.getElem?_modify, if_pos rfl, hg]
  rfl
 have hle : n * k ≤ c * k := Nat.mul_le_mul_right k hnc
 apply List.ext_getElem?
 intro t
 by_cases ht : t < n * k
 ·rw [List.getElem?_take, if_pos ht, Array.getElem?_toList]
  have h3 : t < (flatK enc k d.toArray).size := by rw [size_flatK]; simpa [hn] using ht
  rw [← zHT enc k hk he d, Array.getElem?_toList, Array.getElem?_eq_getElem h3]
  simp only [putCells, Array.getElem?_mapIdx]
  rw [Array.getElem?_eq_getElem (show t < cur.size by rw [hcs]; omega)]
  simp only [Option.map_some, Nat.zero_le, true_and, Nat.zero_add, Nat.sub_zero, id]
  rw [if_pos h3, getElem!_pos _ t h3]
 rw [List.getElem?_eq_none (by rw [List.length_take]; omega), List.getElem?_eq_none (by rw [hrl, hn]; omega)]
theorem zHG {α : Type} [Inhabited α] (enc : α → List Value) (k : Nat) (w : World) (g off m : Nat) (dk : Array α) (os : Array Obj) : Chg (fun x => x = g) w (sortWorldK enc k w g off m dk os) := by
 refine ⟨rfl, rfl, rfl, Nat.le_add_right _ _, ?_, fun b hb hne => ?_⟩
 ·simp [sortWorldK, grow, putRowK, putRow, mapBlock, ahead]
 simp only [sortWorldK, grow, putRowK, putRow, mapBlock, ahead]
 rw [Array.getElem?_append_left (by simpa using hb), Array.getElem?_modify, if_neg (fun h => hne h.symm)]; rfl
theorem zGu {P : Program} {f : FuncId} {fn : Func} (hf : P.funcs[f]? = some fn) (hn : (fn.name == "runtime.NumGoroutine") = false) (hb : fn.body.isNone = false) : ∀ args w, (callFunc f args).run P w = .ok (.enter f args) w := fun args w => zGL (vs := args) (w := w) hf hn hb
theorem zLZ (w0 : World) : Ret Tryz.prog 176 #[.int .u64 0] w0 fun v w => v = .int .i64 (Lib.bitLen 0 : Nat) ∧ Ext w0 w :=
 (Any.bits_Len (SlLaysF0.n15.bits (P := Tryz.prog) (ρ := Tryz.sortRe_ren) { Tryz.sortRe with }) 0 w0 (by omega) (by omega)).mono fun _ _ ⟨he, hw⟩ => ⟨_, he, rfl, by rw [hw]; exact Ext.refl _⟩
theorem zQW (w0 : World) (a : Option Addr) (c : Nat) (fv : Value) : Ret Tryz.prog 247 #[.slice a 0 c, .int .i64 0, .int .i64 0, fv] w0 fun v w => v = .tuple #[] ∧ Ext w0 w := by
 refine zAk Tryz.func247 rfl Tryz.ntmps247 (Nat.le_of_ble_eq_true rfl) ?_
 have E : Chg zAh w0 w0 := Chg.refl _ _
 refine zAA ?_
 refine qM (I6 0) rfl ?_
 refine qV (zBQ (k := .i64) (a := 0) (b := 1) (c := 1) rfl rfl (by decide)) ?_
 refine qA (I6 1) rfl ?_
 refine zAB (zAZ ?_)
 refine zBA (fun nn_ σ W1 => (∃ jj_, σ = zCl jj_ [(0, (.slice a 0 c)), (1, (I6 0)), (2, (I6 0)), (3, fv), (8, (I6 1))]) ∧ Chg zAh w0 W1 ∧ nn_ = (0 : Nat)) (n := (0 : Nat)) ?_ ?_
 ·exact ⟨zBG.out ⟨rfl, rfl, rfl, rfl, rfl, trivial⟩, E, rfl⟩
 clear E
 rintro _ _ W1 ⟨⟨j1, rfl⟩, E, rfl⟩
 refine zAP (zAA ?_)
 refine qM (I6 1) rfl ?_
 refine qM (I6 0) rfl ?_
 refine qV (zBS (k := .i64) (a := 1) (b := 0) rfl rfl) ?_
 refine zAB ?_
 refine zAX rfl ?_
 refine zBB (zAe (zAe (zAr ?_)))
 refine zKc Tryz.results247 ?_
 exact ⟨rfl, E⟩
theorem zQD (w0 : World) (a : Option Addr) (c : Nat) (n : Int) (fv : Value) : Ret Tryz.prog 221 #[.slice a 0 c, .int .i64 0, .int .i64 0, .int .i64 n, fv] w0 fun v w => v = .tuple #[] ∧ Ext w0 w := by
 refine zAk Tryz.func221 rfl Tryz.ntmps221 (Nat.le_of_ble_eq_true rfl) ?_
 have E : Chg zAh w0 w0 := Chg.refl _ _
 refine zAA ?_
 refine qA (.bool true) rfl ?_
 refine zAB (zAA ?_)
 refine qA (.bool true) rfl ?_
 refine zAB (zAZ ?_)
 refine zBA (fun nn_ σ W1 => (∃ jj_, σ = zCl jj_ [(0, (.slice a 0 c)), (1, (I6 0)), (2, (I6 0)), (4, fv)]) ∧ Chg zAh w0 W1 ∧ nn_ = (0 : Nat)) (n := (0 : Nat)) ?_ ?_
 ·exact ⟨zBG.out ⟨rfl, rfl, rfl, rfl, trivial⟩, E, rfl⟩
 clear E
 rintro _ _ W1 ⟨⟨j1, rfl⟩, E, rfl⟩
 refine zAZ (zAA ?_)
 refine qM (I6 0) rfl ?_
 refine qM (I6 0) rfl ?_
 refine qV (zEh (k := .i64) (a := 0) (b := 0) (c := 0) rfl rfl (by decide)) ?_
 refine qA (I6 0) rfl ?_
 refine zAB (zAP (zAA ?_))
 refine qM (I6 0) rfl ?_
 refine qV (zDu (k := .i64) (a := 0) (b := 12) rfl rfl) ?_
 refine zAB ?_
 refine zAl rfl ?_
 refine zAA ?_
 refine qM (.slice a 0 c) rfl ?_
 refine qM (I6 0) rfl ?_
 refine qM (I6 0) rfl ?_
 refine qM fv rfl ?_
 refine zAL rfl rfl (by decide) (zAT (vs := [(.slice a 0 c), (I6 0), (I6 0), fv]) Tryz.func247 nm247 bd247 rfl) (zQW _ a c fv) ?_
 rintro _ w9 ⟨rfl, X9⟩
 replace E := E.ext X9
 refine zAB (zAQ (zAI (zAY (zAI (zAY ?_)))))
 refine zNE Tryz.results221 ?_
 exact ⟨rfl, E⟩
theorem zNp (w0 : World) (a : Option Addr) (c : Nat) (fv : Value) : Ret Tryz.prog 183 #[.slice a 0 c, fv] w0 fun v w => v = .tuple #[] ∧ Ext w0 w := by
 refine zAk Tryz.func183 rfl Tryz.ntmps183 (Nat.le_of_ble_eq_true rfl) ?_
 have E : Chg zAh w0 w0 := Chg.refl _ _
 refine zAA ?_
 refine qM (.slice a 0 c) rfl ?_
 refine qV (zAV (ad := a) (n := 0) (cap := c) Tryz.underlying23 rfl) ?_
 refine qA (I6 0) rfl ?_
 refine zAB (zAW ?_)
 refine qM (.slice a 0 c) rfl ?_
 refine qM (I6 0) rfl ?_
 refine qM (I6 0) rfl ?_
 refine qV (zMR (k := .i64) (k' := .u64) (n := 0) (c := 0) ⟨_, Tryz.underlying3⟩ Tryz.underlying170 rfl (wU64 (by omega))) ?_
 refine zAL rfl rfl (by decide) (zAT (vs := [(.int .u64 0)]) Tryz.func176 nm176 bd176 rfl) (zLZ _) ?_
 rintro _ w8 ⟨rfl, X8⟩
 replace E := E.ext X8
 refine qM fv rfl ?_
 refine zAL rfl rfl (by decide) (zAT (vs := [(.slice a 0 c), (I6 0), (I6 0), (I6 (Lib.bitLen 0 : Nat)), fv]) Tryz.func221 nm221 bd221 rfl) (zQD _ a c _ fv) ?_
 rintro _ w9 ⟨rfl, X9⟩
 replace E := E.ext X9
 refine zAB ?_
 refine zKc Tryz.results183 ?_
 exact ⟨rfl, E⟩
set_option maxHeartbeats 2000000 in
theorem zPh (wb w0 : World) (S : Nat → Prop) (base : Nat) (v : Value) (ts : List Re) (rows : List (List Value)) (hE : Ext wb w0) (h : w0.ownsRow base TRe 6 v ts.length rows.flatten) (hr : zAj S wb ts rows) (hS : ∀ x, S x → x < base) (hl : ts.length ≤ 1000000) :
    Ret Tryz.prog 183 #[v, .func (.func 184) #[] #[]] w0 fun r w => r = .tuple #[] ∧ (∃ us qs, us.Perm ts ∧ us.Pairwise (fun x y => zCB x y ≤ 0) ∧ w.ownsRow base TRe 6 v us.length qs.flatten ∧ zAj S wb us qs) ∧ Chg (fun x => v.ownBlock = some x) w0 w := by
  have eg := zGu Tryz.func184 nm184 bd184
  rcases h.2 with ⟨rfl, h0⟩ | ⟨g, cap, cur, rfl, hbg, hg, hnc, hcm, hcs, htake⟩
  · have hd : ts = [] := List.eq_nil_of_length_eq_zero h0
    subst hd
    exact (zNp w0 none 0 (.func (.func 184) #[] #[])).mono fun v w' ⟨hv, hw⟩ => ⟨hv, ⟨[], [], List.Perm.refl _, List.Pairwise.nil, World.ownsRow_nil _ _ _ _, rfl⟩, Ext.chg hw⟩
  · obtain ⟨d, hd1, hd2⟩ : ∃ d : List (RRow S wb), d.map (·.t) = ts ∧ d.map zKd = rows := by
      clear h hg htake hnc hl
      induction ts generalizing rows with
      | nil =>
        have hr' : rows = [] := hr
        exact ⟨[], rfl, hr'.symm⟩
      | cons t ts ih =>
        obtain ⟨r, rs, rfl, h1, h2⟩ := hr
        obtain ⟨d, h3, h4⟩ := ih rs h2
        exact ⟨⟨t, r, h1⟩ :: d, by simp [h3], by simp [h4, zKd]⟩
    have hdl : d.length = ts.length := by rw [← hd1, List.length_map]
    have he : ∀ x : RRow S wb, (zKd x).length = 6 := fun x => zAc.len x.h
    have ht : ∀ w, (isAgg (Tryz.sortRe_ren.t 24)).run Tryz.prog w = .ok true w := fun w => zLi.run zAb w
    have hs : ∀ w, (Go.sizeOf (Tryz.sortRe_ren.t 24)).run Tryz.prog w = .ok 6 w := fun w => zAH.run w
    have hH := zLI zKd 6 (by decide) he (d := d) (by rw [hd2]; exact h) hdl
    have hblk : g < w0.heap.size := (Array.getElem?_eq_some_iff.1 hg).1
    have hc : CmpLays Tryz.prog 184 #[] zKd 6 cfR g 0 d.toArray.size w0 := fun m os dk _ x y => by
      have hch := zHG zKd 6 w0 g 0 m dk os
      have hx : zBC (sortWorldK zKd 6 w0 g 0 m dk os) x.t x.vs := zAc.at x.t (zAc.chg hch (fun b hb hm => by have := hS b hb; have hm' : b = g := hm; omega) x.t (zAc.ext hE x.t x.h))
      have hy : zBC (sortWorldK zKd 6 w0 g 0 m dk os) y.t y.vs := zAc.at y.t (zAc.chg hch (fun b hb hm => by have := hS b hb; have hm' : b = g := hm; omega) y.t (zAc.ext hE y.t y.h))
      refine Calls.mono (zQG _ x.t y.t _ _ _ (Nat.le_refl _) hx hy) ?_
      rintro e w' ⟨v, rfl, rfl, hx⟩
      obtain ⟨q, os', hw⟩ := Ext.grown hx
      exact ⟨rfl, q, os', hw⟩
    have hcon := AnyQ.slices_SortFunc Tryz.sortRe 6 ht hs zKd he (fun x u hu => zBC.one (zAc.at x.t x.h) u hu) cfR swoR 184 #[] g 0 cap d.toArray w0 eg hc hH hblk (by simp; omega)
    have hz : ts.length = d.toArray.size := by simp [hdl]
    rw [hz]
    refine Calls.mono hcon ?_
    rintro e w' ⟨rfl, d', n, os, hp, hso, rfl⟩
    have hsz : d'.size = d.length := by have := hp.1; simpa using this
    have hperm : d'.toList.Perm d := by
      have h3 := hp.2.2
      simp only [List.size_toArray] at h3
      rw [show d.length = d'.size from hsz.symm, Array.extract_size] at h3
      rw [hsz] at h3
      simpa using h3
    refine ⟨_, rfl, rfl, ⟨d'.toList.map (·.t), d'.toList.map zKd, by rw [← hd1]; exact hperm.map _, ?_, ?_, ?_⟩, (zHG zKd 6 w0 g 0 n d' os).mono fun x _ hx => by subst hx; rfl⟩
    · rw [List.pairwise_map, List.pairwise_iff_getElem]
      intro i j hi hj hij
      have h4 := hso i j (Nat.zero_le _) hij (by simp at hj ⊢; omega)
      simp only [Array.length_toList] at hi hj
      rw [getElem!_pos d' i hi, getElem!_pos d' j hj] at h4
      have h5 : ¬ zCB d'[j].t d'[i].t < 0 := of_decide_eq_false h4
      have h6 := zBf d'[i].t d'[j].t
      simp only [Array.getElem_toList]
      omega
    · have h7 := zLH zKd 6 (by decide) he (m := n) (os := os) (d := d'.toList) h (by rw [Array.length_toList, hsz, hdl])
      rw [Array.toArray_toList] at h7
      rw [List.length_map, Array.length_toList, hsz, hdl, ← hz]
      exact h7
    · generalize d'.toList = q
      induction q with
      | nil => rfl
      | cons x q ih => exact ⟨zKd x, q.map zKd, rfl, x.h, ih⟩
end Go.Proofs
