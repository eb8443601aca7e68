/- Contracts and plain lemmas, part 6. -/
import Derived.Tactics
import Derived.Deep.Quiet
import Derived.Laws.AppendOwn
import Derived.KernelRfl
import Derived.Laws.Entries
import Derived.Laws.Build
import Derived.Below
import Derived.RowKit3
import Derived.StillTail
import Derived.Sort.Grow
import Derived.Deep.Draws
import Derived.Test.YtfbglkkidenifaaGreatChecked
import Derived.Laws.StructEq
import Derived.MapKept
import Derived.Laws.BytesArg
import Derived.Shelf.SlSortCmp.WholeK
import Derived.Shelf.Sort.Plain
import Derived.Shelf.Slices.CompactI
import Derived.Test.YtfbglkkidenifaaGreatProg
import Derived.OpenShut
import Derived.ChangeSlices
import Derived.Test.YtfbglkkidenifaaGreatRows
import Derived.Test.YtfbglkkidenifaaGreatDt5
namespace Go.Proofs
open Go Go.Eng Go.Sort
set_option maxRecDepth 100000
theorem zJc {k : Int} {s : List (Int × Int)} {a : List Re} {m x : Int} {g : Bool} (h : PreN k s a m x g) : (zCf k s a m x g).size ≤ Re.sizes a + 2 := by
 by_cases h7 : k = 7 ∧ a = []
 ·obtain ⟨rfl, rfl⟩ := h7
  have : zCf 7 s [] m x g = zEy := by unfold zCf; rw [if_neg (by decide), if_neg (by decide), if_pos rfl]; simp [zHz, zBO, zEm, zDO, zFQ, zBy]
  rw [this]
  exact Nat.le_refl 2
 have := zDw (k := k) (s := s) (a := a) (m := m) (x := x) (g := g) (fun e h9 => h7 ⟨e, h9⟩) (fun e h9 => by have := h.one (by omega); rw [h9] at this; simp at this)
 omega
mutual
theorem zNv : ∀ {t : Re}, zJK t → (zCU t).size ≤ 2 * t.size
  | .mk k s a m x g, h => by
    have h1 := zGT h.2
    have h2 := zJc (h.1.len (b := zCq a) (by rw [zCL, List.length_map]))
    simp only [zCU, Re.size]
    omega
theorem zGT : ∀ {ts : List Re}, zGo ts → Re.sizes (zCq ts) ≤ 2 * Re.sizes ts
  | [], _ => by simp [zCq, Re.sizes]
  | t :: ts, h => by
    have h1 := zNv h.1
    have h2 := zGT h.2
    simp only [zCq, Re.sizes]
    omega
end
section
variable {r : Re} {y : Re}
theorem sn3 (hp : PreN r.kind r.set r.args r.mn r.mx r.neg) (ha : ∀ y ∈ r.args, zAq y) (h : r.kind = 3) : zCt r = zQp r.args := by rw [ns3 h, zQo ha]
theorem sn47 (hp : PreN r.kind r.set r.args r.mn r.mx r.neg) (ha : ∀ y ∈ r.args, zAq y) (h : r.kind = 4 ∨ r.kind = 7) : zCt r = zIn r.kind r.args (zNh r.kind) (zMh r.kind) := by
 rcases h with h | h
 ·rw [ns4 h]
  unfold zNh zMh
  rw [if_neg (by omega), if_neg (by omega)]
  exact (zKS ha (fun x hx => zHM hx) (fun x hx => zGZ hx)).symm
 rw [ns7 h]
 unfold zNh zMh
 rw [if_pos h, if_pos h]
 exact (zKS ha (fun x hx => zGZ hx) (fun x hx => zHM hx)).symm
theorem sn5a (hp : PreN r.kind r.set r.args r.mn r.mx r.neg) (hy : r.args[0]? = some y) (ho : zAq y) (h : r.kind = 5) (h1 : y.kind ≤ 1) : zCt r = zBJ := by
 have := ho.n.ks
 rw [ns5 h (zCE hy), if_pos (by omega)]
theorem sn5b (hy : r.args[0]? = some y) (h : r.kind = 5) (h1 : ¬ y.kind ≤ 1) (h5 : y.kind = 5) : zCt r = y := by
 rw [ns5 h (zCE hy), if_neg (by omega), if_pos h5]
theorem sn5c (hy : r.args[0]? = some y) (h : r.kind = 5) (h1 : ¬ y.kind ≤ 1) (h5 : ¬ y.kind = 5) : zCt r = r := by
 rw [ns5 h (zCE hy), if_neg (by omega), if_neg h5]
theorem sn6 (hp : PreN r.kind r.set r.args r.mn r.mx r.neg) (hy : r.args[0]? = some y) (ho : zAq y) (h : r.kind = 6) : zCt r = zEL y r.mn r.mx := by
  have h1 := ho.n.ks
  have h2 := hp.rep h
  have h3 := hp.st (by omega)
  have h4 := hp.ng
  have h5 := hp.one (by omega)
  have ha : r.args = [y] := zKW h5 hy
  rw [ns6 h (zCE hy)]
  unfold zEL
  by_cases c1 : r.mx = 0 ∨ y.kind = 1 ∨ (y.kind = 0 ∧ r.mn = 0)
  · rw [if_pos c1, if_neg (by omega), if_pos (by omega)]
  · rw [if_neg c1]
    by_cases c2 : y.kind = 0
    · rw [if_pos (.inl c2), if_pos (by omega)]
    · rw [if_neg (c := y.kind = 0 ∧ 0 < r.mn) (by omega), if_neg (c := y.kind ≤ 1 ∨ r.mx = 0) (by omega)]
      by_cases c3 : r.mn = 1 ∧ r.mx = 1
      · rw [if_pos (.inr c3), if_pos c3]
      · rw [if_neg (by omega), if_neg c3]
        cases r with
        | mk k s a m x g =>
          simp only [Re.kind, Re.set, Re.args, Re.mn, Re.mx, Re.neg] at h h3 h4 ha ⊢
          rw [h, h3, h4, ha]
theorem sn8a {z : Re} (hy : r.args[0]? = some y) (h : r.kind = 8) (h8 : y.kind = 8) (hz : y.args[0]? = some z) : zCt r = z := by
 rw [ns8 h (zCE hy), if_pos h8, zCE hz]
theorem sn8b (hy : r.args[0]? = some y) (h : r.kind = 8) (h8 : ¬ y.kind = 8) : zCt r = r := by
 rw [ns8 h (zCE hy), if_neg h8]
end
set_option maxHeartbeats 4000000 in
theorem zIX : ∀ (n : Nat) (t : Re) (w0 : World) (vs : List Value) (S : Nat → Prop), t.size ≤ n → t.size ≤ 400000 → zJK t → zAc S w0 t vs → (∀ b, S b → b < w0.heap.size) →
    Ret Tryz.prog 17 #[.agg vs.toArray] w0 fun v w => (∃ us, v = .agg us.toArray ∧ zAc (fun b => S b ∨ w0.heap.size ≤ b) w (zCU t) us) ∧ Ext w0 w := by
  intro n
  induction n with
  | zero => intro t w0 vs S hn; have := t.size_pos; omega
  | succ n ih =>
  intro t w0 vs S hn hM hpt ht hS
  have ht0 := ht
  obtain ⟨sa, sc, aa, ac, rfl, hset, hac, hta⟩ := ht.form
  obtain ⟨r0, hr0⟩ : ∃ r0, r0 = Re.mk t.kind t.set (t.args.map zCU) t.mn t.mx t.neg := ⟨_, rfl⟩
  obtain ⟨N, hNe⟩ : ∃ N, N = zCU t := ⟨_, rfl⟩
  have hN : zCt r0 = N := by rw [hNe, hr0, zLz]; rfl
  rw [← hNe]
  have hp0 : PreN r0.kind r0.set r0.args r0.mn r0.mx r0.neg := by rw [hr0]; exact hpt.n.len (by simp only [Re.args]; rw [List.length_map])
  have ha0 : ∀ y ∈ r0.args, zAq y := by rw [hr0]; intro y hy; obtain ⟨x, hx, rfl⟩ := List.mem_map.1 hy; exact zMT (hpt.a x hx)
  have hz0 : Re.sizes r0.args ≤ 1000000 := by
    have h1 := zGT (zGR.2 hpt.a)
    rw [zCL] at h1
    have := t.size_eq
    rw [hr0]
    show Re.sizes (t.args.map zCU) ≤ 1000000
    omega
  refine zAk Tryz.func17 rfl Tryz.ntmps17 (Nat.le_of_ble_eq_true rfl) ?_
  have E : Chg zAh w0 w0 := Chg.refl _ _
  refine zAA ?_
  refine zBL (v := (.agg (R6 t sa sc aa ac))) (c := (R6 t sa sc aa ac)) (by decide) rfl rfl ?_
  intro br wr Nr
  have Fr := Nr.ge E
  replace E := E.ext Nr.ext
  have Br := Nr.blk
  refine zBD (c := #[(I6 0), (.slice none 0 0), (.slice none 0 0), (I6 0), (I6 0), (.bool false)]) (by decide) zAs rfl ?_
  intro bo wo No
  have Fo := No.ge E
  have Oo_br := No.lt Br
  replace Br := No.keep Br
  replace E := E.ext No.ext
  have Bo := No.blk
  refine zAB (zAA ?_)
  refine qV (zAG (vs := [(I6 t.kind), (.slice sa t.set.length sc), (.slice aa t.args.length ac), (I6 t.mn), (I6 t.mx), (.bool t.neg)]) rfl zAb zAH rfl (Br.cells rfl)) ?_
  obtain ⟨n1, hn1⟩ : ∃ n1, n1 = wo.heap.size := ⟨_, rfl⟩
  have hz1 : w0.heap.size ≤ n1 := by rw [hn1]; exact E.size
  have hbo : bo < n1 := by rw [hn1]; exact Bo.lt
  have hbr : br < n1 := by rw [hn1]; exact Br.lt
  have hT1 : ∀ y, S y ∨ n1 ≤ y → ¬ y = br ∧ ¬ y = bo := fun y hy => by rcases hy with h | h; have := hS y h; omega; omega
  have hT2 : ∀ y, S y ∨ n1 ≤ y → S y ∨ w0.heap.size ≤ y := fun y hy => hy.imp id (fun h => by omega)
  refine zAL rfl rfl (by decide) (zAT (vs := [(.agg (R6 t sa sc aa ac)), (.func (.func 17) #[] #[])]) Tryz.func69 nm69 bd69 rfl) ((zKR _ S t _ _ zCU (zAc.ext E t ht0) (fun y hy => by have := hS y hy; omega) (by omega) (fun w x xs hE hx h => zBu.mk (first := #[]) (cap := #[]) Tryz.func17 nm17 bd17 rfl (by obtain ⟨i, hi⟩ := List.mem_iff_getElem?.1 hx; exact (ih x w xs S (by have := Re.size_arg hi; omega) (by have := Re.size_arg hi; omega) (hpt.a x hx) h (fun y hy => by have := hS y hy; have := hE.size; omega)).mono fun v w h => by obtain ⟨⟨us, h1, h2⟩, h3⟩ := h; exact ⟨us, h1, h2, h3⟩)))) ?_
  rintro _ w9 ⟨us9, rfl, hre9, X9⟩
  replace Br := X9.keep Br
  replace Bo := X9.keep Bo
  replace E := E.ext X9
  rw [← hn1, ← hr0] at hre9
  obtain ⟨ka, kc, kaa, kac, hus9, _, _, hargs9⟩ := hre9.form
  subst hus9
  have hz9 : n1 ≤ w9.heap.size := by rw [hn1]; exact X9.size
  refine qW (R6 r0 ka kc kaa kac) rfl rfl zAH Br ?_
  intro w1 S1
  replace hre9 := zAc.chg S1.chg (fun y hy h => by have h2 : y = _ := h; first | exact (hT1 y hy).1 h2 | exact (hT1 y hy).2 h2) r0 hre9
  replace hz9 := Nat.le_trans hz9 S1.chg.size
  replace Bo := S1.keep (by omega) Bo
  replace E := S1.stp E
  replace Br := S1.blk
  refine zAB (zAP (zAA ?_))
  refine qF br 0 0 rfl Tryz.underlying25 rfl zAw rfl ?_
  refine qV (zAK (v := (I6 r0.kind)) rfl zAf (Br.cell rfl)) ?_
  refine zAB (zAZ (zAA ?_))
  refine qV (zAg (k := .i64) (a := r0.kind) (b := 3) rfl rfl) ?_
  refine qA (.bool (decide ((r0.kind : Int) = 3))) rfl ?_
  refine zAB ?_
  refine zAM (b := decide ((r0.kind : Int) = 3)) rfl (fun h3 => ?_) (fun h3 => ?_)
  · have kh3 := h3
    replace h3 := of_decide_eq_true h3
    have hN1 := sn3 hp0 ha0 h3
    rw [hN] at hN1
    refine zAA ?_
    refine qF br 0 2 rfl Tryz.underlying25 rfl zBI rfl ?_
    refine qV (zAK (v := (.slice kaa r0.args.length kac)) rfl zAv (Br.cell rfl)) ?_
    have hlt9 := zCJ.lt (zEs hre9)
    refine zAL rfl rfl (by decide) (zAT (vs := [(.slice kaa r0.args.length kac)]) Tryz.func70 nm70 bd70 rfl) ((scat_c _ _ _ r0.args hlt9 (fun b hb => hb.2) ha0 hz0).mono (R' := fun r w => reG (fun b => S b ∨ n1 ≤ b) N r w ∧ Ext _ w) (fun r w h => by obtain ⟨⟨us, h1, h2⟩, h3⟩ := h; rw [← hN1] at h2; exact ⟨zBd (fun b hb => by rcases hb with hb | hb; exact hb.1; exact .inr (by omega)) ⟨us, h1, h2⟩, h3⟩)) ?_
    rintro _ w19 ⟨⟨xa, xc, ya, yc, rfl, hres⟩, X19⟩
    replace Br := X19.keep Br
    replace Bo := X19.keep Bo
    replace hz9 := Nat.le_trans hz9 X19.size
    replace hre9 := zAc.ext X19 r0 hre9
    replace E := E.ext X19
    refine qW (R6 N xa xc ya yc) rfl rfl zAH Bo ?_
    intro w3 S3
    replace hre9 := zAc.chg S3.chg (fun y hy h => by have h2 : y = _ := h; first | exact (hT1 y hy).1 h2 | exact (hT1 y hy).2 h2) r0 hre9
    replace hz9 := Nat.le_trans hz9 S3.chg.size
    replace hres := zAc.chg S3.chg (fun b hb h => (hT1 b hb).2 h) N hres
    replace Br := S3.keep (by omega) Br
    replace E := S3.stp E
    replace Bo := S3.blk
    refine zAB (zAQ (zAY (zAI ?_)))
    refine zAm Tryz.results17 (vs := [(.int .i64 N.kind), (.slice xa N.set.length xc), (.slice ya N.args.length yc), (.int .i64 N.mn), (.int .i64 N.mx), (.bool N.neg)]) (b := bo) rfl zAb zAH rfl (Bo.cells rfl) ?_
    exact ⟨⟨_, rfl, zAc.mono hT2 _ hres⟩, E⟩
  · have kh3 := h3
    replace h3 := of_decide_eq_false h3
    refine zAP (zAA ?_)
    refine qV (zAg (k := .i64) (a := r0.kind) (b := 4) rfl rfl) ?_
    refine qA (.bool (decide ((r0.kind : Int) = 4))) rfl ?_
    refine zAB ?_
    refine zAM (b := decide ((r0.kind : Int) = 4)) rfl (fun h4 => ?_) (fun h4 => ?_)
    · have kh4 := h4
      replace h4 := of_decide_eq_true h4
      have hN1 := sn47 hp0 ha0 (by omega)
      rw [hN] at hN1
      refine zAR (zAC ?_)
      refine zAl (congrArg Value.bool kh4) ?_
      refine zAA ?_
      refine qF br 0 0 rfl Tryz.underlying25 rfl zAw rfl ?_
      refine qV (zAK (v := (I6 r0.kind)) rfl zAf (Br.cell rfl)) ?_
      refine qF br 0 2 rfl Tryz.underlying25 rfl zBI rfl ?_
      refine qV (zAK (v := (.slice kaa r0.args.length kac)) rfl zAv (Br.cell rfl)) ?_
      have hlt9 := zCJ.lt (zEs hre9)
      refine zAL rfl rfl (by decide) (zAT (vs := [(I6 r0.kind), (.slice kaa r0.args.length kac)]) Tryz.func71 nm71 bd71 rfl) ((zLw _ _ _ _ r0.args hlt9 (fun b hb => hb.2) (by omega) ha0 hz0).mono (R' := fun r w => reG (fun b => S b ∨ n1 ≤ b) N r w ∧ Ext _ w) (fun r w h => by obtain ⟨⟨us, h1, h2⟩, h3⟩ := h; rw [← hN1] at h2; exact ⟨zBd (fun b hb => by rcases hb with hb | hb; exact hb.1; exact .inr (by omega)) ⟨us, h1, h2⟩, h3⟩)) ?_
      rintro _ w19 ⟨⟨xa, xc, ya, yc, rfl, hres⟩, X19⟩
      replace Br := X19.keep Br
      replace Bo := X19.keep Bo
      replace hz9 := Nat.le_trans hz9 X19.size
      replace hre9 := zAc.ext X19 r0 hre9
      replace E := E.ext X19
      refine qW (R6 N xa xc ya yc) rfl rfl zAH Bo ?_
      intro w5 S5
      replace hre9 := zAc.chg S5.chg (fun y hy h => by have h2 : y = _ := h; first | exact (hT1 y hy).1 h2 | exact (hT1 y hy).2 h2) r0 hre9
      replace hz9 := Nat.le_trans hz9 S5.chg.size
      replace hres := zAc.chg S5.chg (fun b hb h => (hT1 b hb).2 h) N hres
      replace Br := S5.keep (by omega) Br
      replace E := S5.stp E
      replace Bo := S5.blk
      refine zAB (zAQ (zAY (zAI ?_)))
      refine zAm Tryz.results17 (vs := [(.int .i64 N.kind), (.slice xa N.set.length xc), (.slice ya N.args.length yc), (.int .i64 N.mn), (.int .i64 N.mx), (.bool N.neg)]) (b := bo) rfl zAb zAH rfl (Bo.cells rfl) ?_
      exact ⟨⟨_, rfl, zAc.mono hT2 _ hres⟩, E⟩
    · have kh4 := h4
      replace h4 := of_decide_eq_false h4
      refine zAW ?_
      refine qV (zAg (k := .i64) (a := r0.kind) (b := 7) rfl rfl) ?_
      refine qA (.bool (decide ((r0.kind : Int) = 7))) rfl ?_
      refine zAB (zAC ?_)
      refine zAM (b := decide ((r0.kind : Int) = 7)) rfl (fun h7 => ?_) (fun h7 => ?_)
      · have kh7 := h7
        replace h7 := of_decide_eq_true h7
        have hN1 := sn47 hp0 ha0 (by omega)
        rw [hN] at hN1
        refine zAA ?_
        refine qF br 0 0 rfl Tryz.underlying25 rfl zAw rfl ?_
        refine qV (zAK (v := (I6 r0.kind)) rfl zAf (Br.cell rfl)) ?_
        refine qF br 0 2 rfl Tryz.underlying25 rfl zBI rfl ?_
        refine qV (zAK (v := (.slice kaa r0.args.length kac)) rfl zAv (Br.cell rfl)) ?_
        have hlt9 := zCJ.lt (zEs hre9)
        refine zAL rfl rfl (by decide) (zAT (vs := [(I6 r0.kind), (.slice kaa r0.args.length kac)]) Tryz.func71 nm71 bd71 rfl) ((zLw _ _ _ _ r0.args hlt9 (fun b hb => hb.2) (by omega) ha0 hz0).mono (R' := fun r w => reG (fun b => S b ∨ n1 ≤ b) N r w ∧ Ext _ w) (fun r w h => by obtain ⟨⟨us, h1, h2⟩, h3⟩ := h; rw [← hN1] at h2; exact ⟨zBd (fun b hb => by rcases hb with hb | hb; exact hb.1; exact .inr (by omega)) ⟨us, h1, h2⟩, h3⟩)) ?_
        rintro _ w19 ⟨⟨xa, xc, ya, yc, rfl, hres⟩, X19⟩
        replace Br := X19.keep Br
        replace Bo := X19.keep Bo
        replace hz9 := Nat.le_trans hz9 X19.size
        replace hre9 := zAc.ext X19 r0 hre9
        replace E := E.ext X19
        refine qW (R6 N xa xc ya yc) rfl rfl zAH Bo ?_
        intro w7 S7
        replace hre9 := zAc.chg S7.chg (fun y hy h => by have h2 : y = _ := h; first | exact (hT1 y hy).1 h2 | exact (hT1 y hy).2 h2) r0 hre9
        replace hz9 := Nat.le_trans hz9 S7.chg.size
        replace hres := zAc.chg S7.chg (fun b hb h => (hT1 b hb).2 h) N hres
        replace Br := S7.keep (by omega) Br
        replace E := S7.stp E
        replace Bo := S7.blk
        refine zAB (zAQ (zAY (zAI ?_)))
        refine zAm Tryz.results17 (vs := [(.int .i64 N.kind), (.slice xa N.set.length xc), (.slice ya N.args.length yc), (.int .i64 N.mn), (.int .i64 N.mx), (.bool N.neg)]) (b := bo) rfl zAb zAH rfl (Bo.cells rfl) ?_
        exact ⟨⟨_, rfl, zAc.mono hT2 _ hres⟩, E⟩
      · have kh7 := h7
        replace h7 := of_decide_eq_false h7
        refine zAA ?_
        refine qV (zAg (k := .i64) (a := r0.kind) (b := 5) rfl rfl) ?_
        refine qA (.bool (decide ((r0.kind : Int) = 5))) rfl ?_
        refine zAB ?_
        refine zAM (b := decide ((r0.kind : Int) = 5)) rfl (fun h5 => ?_) (fun h5 => ?_)
        · have kh5 := h5
          replace h5 := of_decide_eq_true h5
          have hone := hp0.one (by omega)
          obtain ⟨y, hy⟩ := zAa (l := r0.args) (i := 0) (by omega)
          have hyo := ha0 y (List.mem_of_getElem? hy)
          obtain ⟨yb, yo, rfl, hcl9⟩ := zCJ.cells (zEs hre9) (by omega)
          obtain ⟨ys, hcy, hry⟩ := hcl9 0 y hy
          have hry0 := hry
          obtain ⟨ysa, ysc, yaa, yac, rfl, _, _, hya⟩ := hry.form
          refine zAP (zAA ?_)
          refine qF br 0 2 rfl Tryz.underlying25 rfl zBI rfl ?_
          refine qV (zAK (v := (.slice (some ⟨yb, yo, none⟩) r0.args.length kac)) rfl zAv (Br.cell rfl)) ?_
          refine qV (zAO (b := yb) (o := yo) (len := r0.args.length) (cap := kac) (i := 0) (o' := yo + 0 * 6) rfl rfl rfl Tryz.underlying23 zAH (by omega) (by omega)) ?_
          refine qF yb (yo + 0 * 6) (yo + 0 * 6) rfl Tryz.underlying25 rfl zAw rfl ?_
          refine qV (zAK (v := (I6 y.kind)) rfl zAf (hcy.at0)) ?_
          refine qV (zDu (k := .i64) (a := y.kind) (b := 1) rfl rfl) ?_
          refine zAB ?_
          refine zAM (b := decide ((y.kind : Int) ≤ 1)) rfl (fun c1 => ?_) (fun c1 => ?_)
          · have kc1 := c1
            replace c1 := of_decide_eq_true c1
            have hN1 := sn5a hp0 hy hyo h5 c1
            rw [hN] at hN1
            refine zAA ?_
            refine zAL rfl rfl (by decide) (zAT (vs := []) Tryz.func72 nm72 bd72 rfl) (zFy _) ?_
            rintro _ w29 ⟨rfl, X29⟩
            replace Br := X29.keep Br
            replace Bo := X29.keep Bo
            replace hz9 := Nat.le_trans hz9 X29.size
            replace hre9 := zAc.ext X29 r0 hre9
            replace E := E.ext X29
            refine qW (#[(I6 1), (.slice none 0 0), (.slice none 0 0), (I6 0), (I6 0), (.bool false)]) rfl rfl zAH Bo ?_
            intro w10 S10
            replace hre9 := zAc.chg S10.chg (fun y hy h => by have h2 : y = _ := h; first | exact (hT1 y hy).1 h2 | exact (hT1 y hy).2 h2) r0 hre9
            replace hz9 := Nat.le_trans hz9 S10.chg.size
            replace Br := S10.keep (by omega) Br
            replace E := S10.stp E
            replace Bo := S10.blk
            refine zAB (zAQ (zAI (zAY (zAI ?_))))
            refine zAm Tryz.results17 (vs := [(.int .i64 1), (.slice none 0 0), (.slice none 0 0), (.int .i64 0), (.int .i64 0), (.bool false)]) (b := bo) rfl zAb zAH rfl (Bo.cells rfl) ?_
            exact ⟨⟨_, rfl, by rw [hN1]; exact zBN _ _ _⟩, E⟩
          · have kc1 := c1
            replace c1 := of_decide_eq_false c1
            refine zAR (zAC (zAA ?_))
            refine qF br 0 2 rfl Tryz.underlying25 rfl zBI rfl ?_
            refine qV (zAK (v := (.slice (some ⟨yb, yo, none⟩) r0.args.length kac)) rfl zAv (Br.cell rfl)) ?_
            refine qV (zAO (b := yb) (o := yo) (len := r0.args.length) (cap := kac) (i := 0) (o' := yo + 0 * 6) rfl rfl rfl Tryz.underlying23 zAH (by omega) (by omega)) ?_
            refine qF yb (yo + 0 * 6) (yo + 0 * 6) rfl Tryz.underlying25 rfl zAw rfl ?_
            refine qV (zAK (v := (I6 y.kind)) rfl zAf (hcy.at0)) ?_
            refine qV (zAg (k := .i64) (a := y.kind) (b := 5) rfl rfl) ?_
            refine zAB ?_
            refine zAM (b := decide ((y.kind : Int) = 5)) rfl (fun c5 => ?_) (fun c5 => ?_)
            · have kc5 := c5
              replace c5 := of_decide_eq_true c5
              have hN1 := sn5b hy h5 c1 c5
              rw [hN] at hN1
              refine zAA ?_
              refine qF br 0 2 rfl Tryz.underlying25 rfl zBI rfl ?_
              refine qV (zAK (v := (.slice (some ⟨yb, yo, none⟩) r0.args.length kac)) rfl zAv (Br.cell rfl)) ?_
              refine qV (zAO (b := yb) (o := yo) (len := r0.args.length) (cap := kac) (i := 0) (o' := yo + 0 * 6) rfl rfl rfl Tryz.underlying23 zAH (by omega) (by omega)) ?_
              refine qV (zAG (vs := [(I6 y.kind), (.slice ysa y.set.length ysc), (.slice yaa y.args.length yac), (I6 y.mn), (I6 y.mx), (.bool y.neg)]) rfl zAb zAH rfl (hcy)) ?_
              refine qW (R6 y ysa ysc yaa yac) rfl rfl zAH Bo ?_
              intro w12 S12
              replace hre9 := zAc.chg S12.chg (fun y hy h => by have h2 : y = _ := h; first | exact (hT1 y hy).1 h2 | exact (hT1 y hy).2 h2) r0 hre9
              replace hz9 := Nat.le_trans hz9 S12.chg.size
              replace hry0 := zAc.chg S12.chg (fun b hb h => (hT1 b hb).2 h) y hry0
              replace Br := S12.keep (by omega) Br
              replace E := S12.stp E
              replace Bo := S12.blk
              refine zAB (zAQ (zAY (zAI ?_)))
              refine zAm Tryz.results17 (vs := [(.int .i64 y.kind), (.slice ysa y.set.length ysc), (.slice yaa y.args.length yac), (.int .i64 y.mn), (.int .i64 y.mx), (.bool y.neg)]) (b := bo) rfl zAb zAH rfl (Bo.cells rfl) ?_
              exact ⟨⟨_, rfl, by rw [hN1]; exact zAc.mono hT2 _ hry0⟩, E⟩
            · have kc5 := c5
              replace c5 := of_decide_eq_false c5
              have hN1 := sn5c hy h5 c1 c5
              rw [hN] at hN1
              have hrr := hre9
              refine zAR (zAU (zAC (zAA ?_)))
              refine qV (zAG (vs := [(I6 r0.kind), (.slice ka r0.set.length kc), (.slice (some ⟨yb, yo, none⟩) r0.args.length kac), (I6 r0.mn), (I6 r0.mx), (.bool r0.neg)]) rfl zAb zAH rfl (Br.cells rfl)) ?_
              refine qW (R6 r0 ka kc (some ⟨yb, yo, none⟩) kac) rfl rfl zAH Bo ?_
              intro w13 S13
              replace hre9 := zAc.chg S13.chg (fun y hy h => by have h2 : y = _ := h; first | exact (hT1 y hy).1 h2 | exact (hT1 y hy).2 h2) r0 hre9
              replace hz9 := Nat.le_trans hz9 S13.chg.size
              replace hrr := zAc.chg S13.chg (fun b hb h => (hT1 b hb).2 h) r0 hrr
              replace Br := S13.keep (by omega) Br
              replace E := S13.stp E
              replace Bo := S13.blk
              refine zAB (zAQ ?_)
              refine zAm Tryz.results17 (vs := [(.int .i64 r0.kind), (.slice ka r0.set.length kc), (.slice (some ⟨yb, yo, none⟩) r0.args.length kac), (.int .i64 r0.mn), (.int .i64 r0.mx), (.bool r0.neg)]) (b := bo) rfl zAb zAH rfl (Bo.cells rfl) ?_
              exact ⟨⟨_, rfl, by rw [hN1]; exact zAc.mono hT2 _ hrr⟩, E⟩
        · have kh5 := h5
          replace h5 := of_decide_eq_false h5
          refine zAA ?_
          refine qV (zAg (k := .i64) (a := r0.kind) (b := 6) rfl rfl) ?_
          refine qA (.bool (decide ((r0.kind : Int) = 6))) rfl ?_
          refine zAB ?_
          refine zAM (b := decide ((r0.kind : Int) = 6)) rfl (fun h6 => ?_) (fun h6 => ?_)
          · have kh6 := h6
            replace h6 := of_decide_eq_true h6
            have hone := hp0.one (by omega)
            obtain ⟨y, hy⟩ := zAa (l := r0.args) (i := 0) (by omega)
            have hyo := ha0 y (List.mem_of_getElem? hy)
            obtain ⟨yb, yo, rfl, hcl9⟩ := zCJ.cells (zEs hre9) (by omega)
            obtain ⟨ys, hcy, hry⟩ := hcl9 0 y hy
            have hry0 := hry
            obtain ⟨ysa, ysc, yaa, yac, rfl, _, _, hya⟩ := hry.form
            have hN1 := sn6 hp0 hy hyo h6
            rw [hN] at hN1
            have hry1 := zAc.lt y hry0
            have hz_15 : w0.heap.size ≤ w1.heap.size := E.size
            have lz_15_br : br < w1.heap.size := Br.lt
            have lz_15_bo : bo < w1.heap.size := Bo.lt
            refine zAP ?_
            obtain ⟨Fs15, hFs15⟩ : ∃ Fs : List Fact, Fs = [.eq (P6 br 2), .eq (.slice (some ⟨yb, yo, none⟩) r0.args.length kac), .eq (.pointer (some ⟨yb, yo + 0 * 6, none⟩)), .eq (.agg (R6 y ysa ysc yaa yac)), .eq (P6 br 3), .eq (I6 r0.mn), .eq (P6 br 4), .eq (I6 r0.mx), .gen (reG (fun b => S b ∨ n1 ≤ b) N) (zAy _ _), .eq undef] := ⟨_, rfl⟩
            refine zDo [true, true, true, true, true, true, true, true, true, false] [9] [41, 42, 43, 44, 45, 46, 47, 48, 49, 75] [[], [0], [1], [2], [], [4], [], [6], [3, 5, 7], []] Fs15 hFs15 mixed (by kernel_rfl) (by kernel_rfl) (by kernel_rfl) (by kernel_rfl) ?_ ?_
            · intro wd X0
              refine DagStepsP.cons (fun s' w' X U H => Or.inl ⟨?_, ?_⟩) ?_
              · exact zAE rfl
              · exact zAJ (zAN (b := br) (o := 0) (o' := 2) (U 1 rfl) Tryz.underlying25 rfl zBI rfl) (Ext.refl _) rfl
              refine DagStepsP.cons (fun s' w' X U H => Or.inl ⟨?_, ?_⟩) ?_
              · exact zAE rfl
              · have e41 : s' 41 = (.pointer (some ⟨br, 2, none⟩)) := H 0 rfl 41 (.eq (.pointer (some ⟨br, 2, none⟩))) rfl (by rw [hFs15]; rfl)
                exact zAJ (zAK (v := (.slice (some ⟨yb, yo, none⟩) r0.args.length kac)) e41 zAv (((X0.trans X).keep Br).cell rfl)) (Ext.refl _) rfl
              refine DagStepsP.cons (fun s' w' X U H => Or.inl ⟨?_, ?_⟩) ?_
              · exact zAE rfl
              · have e42 : s' 42 = (.slice (some ⟨yb, yo, none⟩) r0.args.length kac) := H 1 rfl 42 (.eq (.slice (some ⟨yb, yo, none⟩) r0.args.length kac)) rfl (by rw [hFs15]; rfl)
                exact zAJ (zAO (b := yb) (o := yo) (len := r0.args.length) (cap := kac) (i := 0) (o' := yo + 0 * 6) e42 rfl rfl Tryz.underlying23 zAH (by omega) (by omega)) (Ext.refl _) rfl
              refine DagStepsP.cons (fun s' w' X U H => Or.inl ⟨?_, ?_⟩) ?_
              · exact zAE rfl
              · have e43 : s' 43 = (.pointer (some ⟨yb, yo + 0 * 6, none⟩)) := H 2 rfl 43 (.eq (.pointer (some ⟨yb, yo + 0 * 6, none⟩))) rfl (by rw [hFs15]; rfl)
                exact zAJ (zAG (vs := [(I6 y.kind), (.slice ysa y.set.length ysc), (.slice yaa y.args.length yac), (I6 y.mn), (I6 y.mx), (.bool y.neg)]) e43 zAb zAH rfl (hcy.ext (X0.trans X))) (Ext.refl _) rfl
              refine DagStepsP.cons (fun s' w' X U H => Or.inl ⟨?_, ?_⟩) ?_
              · exact zAE rfl
              · exact zAJ (zAN (b := br) (o := 0) (o' := 3) (U 1 rfl) Tryz.underlying25 rfl zAw rfl) (Ext.refl _) rfl
              refine DagStepsP.cons (fun s' w' X U H => Or.inl ⟨?_, ?_⟩) ?_
              · exact zAE rfl
              · have e45 : s' 45 = (.pointer (some ⟨br, 3, none⟩)) := H 4 rfl 45 (.eq (.pointer (some ⟨br, 3, none⟩))) rfl (by rw [hFs15]; rfl)
                exact zAJ (zAK (v := (I6 r0.mn)) e45 zAf (((X0.trans X).keep Br).cell rfl)) (Ext.refl _) rfl
              refine DagStepsP.cons (fun s' w' X U H => Or.inl ⟨?_, ?_⟩) ?_
              · exact zAE rfl
              · exact zAJ (zAN (b := br) (o := 0) (o' := 4) (U 1 rfl) Tryz.underlying25 rfl zAw rfl) (Ext.refl _) rfl
              refine DagStepsP.cons (fun s' w' X U H => Or.inl ⟨?_, ?_⟩) ?_
              · exact zAE rfl
              · have e47 : s' 47 = (.pointer (some ⟨br, 4, none⟩)) := H 6 rfl 47 (.eq (.pointer (some ⟨br, 4, none⟩))) rfl (by rw [hFs15]; rfl)
                exact zAJ (zAK (v := (I6 r0.mx)) e47 zAf (((X0.trans X).keep Br).cell rfl)) (Ext.refl _) rfl
              refine DagStepsP.cons (fun s' w' X U H => Or.inl ⟨?_, ?_⟩) ?_
              · exact zAE rfl
              · have e44 : s' 44 = (.agg #[(.int .i64 y.kind), (.slice ysa y.set.length ysc), (.slice yaa y.args.length yac), (.int .i64 y.mn), (.int .i64 y.mx), (.bool y.neg)]) := H 3 rfl 44 (.eq (.agg #[(.int .i64 y.kind), (.slice ysa y.set.length ysc), (.slice yaa y.args.length yac), (.int .i64 y.mn), (.int .i64 y.mx), (.bool y.neg)])) rfl (by rw [hFs15]; rfl)
                have e46 : s' 46 = (.int .i64 r0.mn) := H 5 rfl 46 (.eq (.int .i64 r0.mn)) rfl (by rw [hFs15]; rfl)
                have e48 : s' 48 = (.int .i64 r0.mx) := H 7 rfl 48 (.eq (.int .i64 r0.mx)) rfl (by rw [hFs15]; rfl)
                exact zAp (zAT (vs := [(.agg (R6 y ysa ysc yaa yac)), (I6 r0.mn), (I6 r0.mx)]) Tryz.func73 nm73 bd73 (lst3 e44 e46 e48)) ((zNm _ _ y r0.mn r0.mx _ (zAc.ext (X0.trans X) y hry1) (fun b hb => by have := hb.2; have := X0.size; have := X.size; omega)).mono (fun r w h => by obtain ⟨⟨us, h1, h2⟩, h3⟩ := h; rw [← hN1] at h2; exact ⟨zBd (fun b hb => by rcases hb with hb | hb; exact hb.1; exact .inr (by have := X0.size; have := X.size; omega)) ⟨us, h1, h2⟩, h3⟩))
              refine DagStepsP.tail ?_
              exact DagStepsP.nil
            · intro s' w15 X15 U H
              obtain ⟨xa49, xc49, ya49, yc49, e49, r49⟩ := H 8 rfl 49 (.gen (reG (fun b => S b ∨ n1 ≤ b) N) (zAy _ _)) rfl (by rw [hFs15]; rfl)
              obtain ⟨j15, rfl⟩ := zBG.out (σ := s') (l := [(2, (.pointer (some ⟨bo, 0, none⟩))), (49, (.agg #[(.int .i64 N.kind), (.slice xa49 N.set.length xc49), (.slice ya49 N.args.length yc49), (.int .i64 N.mn), (.int .i64 N.mx), (.bool N.neg)]))]) ⟨U 2 rfl, e49, trivial⟩
              clear U H
              replace Br := X15.keep Br
              replace Bo := X15.keep Bo
              replace hz9 := Nat.le_trans hz9 X15.size
              replace hre9 := zAc.ext X15 r0 hre9
              replace E := E.ext X15
              refine qW (R6 N xa49 xc49 ya49 yc49) rfl rfl zAH Bo ?_
              intro w16 S16
              replace hre9 := zAc.chg S16.chg (fun y hy h => by have h2 : y = _ := h; first | exact (hT1 y hy).1 h2 | exact (hT1 y hy).2 h2) r0 hre9
              replace hz9 := Nat.le_trans hz9 S16.chg.size
              replace r49 := zAc.chg S16.chg (fun b hb h => (hT1 b hb).2 h) N r49
              replace Br := S16.keep (by omega) Br
              replace E := S16.stp E
              replace Bo := S16.blk
              refine zAB (zAC (zAQ (zAY (zAI ?_))))
              refine zAm Tryz.results17 (vs := [(.int .i64 N.kind), (.slice xa49 N.set.length xc49), (.slice ya49 N.args.length yc49), (.int .i64 N.mn), (.int .i64 N.mx), (.bool N.neg)]) (b := bo) rfl zAb zAH rfl (Bo.cells rfl) ?_
              exact ⟨⟨_, rfl, zAc.mono hT2 _ r49⟩, E⟩
          · have kh6 := h6
            replace h6 := of_decide_eq_false h6
            refine zAA ?_
            refine qV (zAg (k := .i64) (a := r0.kind) (b := 8) rfl rfl) ?_
            refine qA (.bool (decide ((r0.kind : Int) = 8))) rfl ?_
            refine zAB ?_
            refine zAM (b := decide ((r0.kind : Int) = 8)) rfl (fun h8 => ?_) (fun h8 => ?_)
            · have kh8 := h8
              replace h8 := of_decide_eq_true h8
              have hone := hp0.one (by omega)
              obtain ⟨y, hy⟩ := zAa (l := r0.args) (i := 0) (by omega)
              have hyo := ha0 y (List.mem_of_getElem? hy)
              obtain ⟨yb, yo, rfl, hcl9⟩ := zCJ.cells (zEs hre9) (by omega)
              obtain ⟨ys, hcy, hry⟩ := hcl9 0 y hy
              have hry0 := hry
              obtain ⟨ysa, ysc, yaa, yac, rfl, _, _, hya⟩ := hry.form
              refine zAA ?_
              refine qF br 0 2 rfl Tryz.underlying25 rfl zBI rfl ?_
              refine qV (zAK (v := (.slice (some ⟨yb, yo, none⟩) r0.args.length kac)) rfl zAv (Br.cell rfl)) ?_
              refine qV (zAO (b := yb) (o := yo) (len := r0.args.length) (cap := kac) (i := 0) (o' := yo + 0 * 6) rfl rfl rfl Tryz.underlying23 zAH (by omega) (by omega)) ?_
              refine qF yb (yo + 0 * 6) (yo + 0 * 6) rfl Tryz.underlying25 rfl zAw rfl ?_
              refine qV (zAK (v := (I6 y.kind)) rfl zAf (hcy.at0)) ?_
              refine qV (zAg (k := .i64) (a := y.kind) (b := 8) rfl rfl) ?_
              refine zAB ?_
              refine zAM (b := decide ((y.kind : Int) = 8)) rfl (fun c8 => ?_) (fun c8 => ?_)
              · have kc8 := c8
                replace c8 := of_decide_eq_true c8
                obtain ⟨z, hz⟩ := zAa (l := y.args) (i := 0) (List.length_pos_iff.2 ((zBk hyo).2 c8))
                have hzl := zAo hz
                obtain ⟨zb, zo, _, rfl, hzr⟩ := hya.resolve_left ((zBk hyo).2 c8)
                obtain ⟨zs, hcz, hrz⟩ := zBM.get hzr hz
                have hrz0 := hrz
                obtain ⟨zsa, zsc, zaa, zac, rfl, _, _, _⟩ := hrz.form
                have hN1 := sn8a hy h8 c8 hz
                rw [hN] at hN1
                refine zAA ?_
                refine qF br 0 2 rfl Tryz.underlying25 rfl zBI rfl ?_
                refine qV (zAK (v := (.slice (some ⟨yb, yo, none⟩) r0.args.length kac)) rfl zAv (Br.cell rfl)) ?_
                refine qV (zAO (b := yb) (o := yo) (len := r0.args.length) (cap := kac) (i := 0) (o' := yo + 0 * 6) rfl rfl rfl Tryz.underlying23 zAH (by omega) (by omega)) ?_
                refine qF yb (yo + 0 * 6) (yo + 0 * 6 + 2) rfl Tryz.underlying25 rfl zBI rfl ?_
                refine qV (zAK (v := (.slice (some ⟨zb, zo, none⟩) y.args.length yac)) rfl zAv (hcy 2 _ rfl)) ?_
                refine qV (zAO (b := zb) (o := zo) (len := y.args.length) (cap := yac) (i := 0) (o' := zo + 0 * 6) rfl rfl rfl Tryz.underlying23 zAH (by omega) (by omega)) ?_
                refine qV (zAG (vs := [(I6 z.kind), (.slice zsa z.set.length zsc), (.slice zaa z.args.length zac), (I6 z.mn), (I6 z.mx), (.bool z.neg)]) rfl zAb zAH rfl (hcz)) ?_
                refine qW (R6 z zsa zsc zaa zac) rfl rfl zAH Bo ?_
                intro w19 S19
                replace hre9 := zAc.chg S19.chg (fun y hy h => by have h2 : y = _ := h; first | exact (hT1 y hy).1 h2 | exact (hT1 y hy).2 h2) r0 hre9
                replace hz9 := Nat.le_trans hz9 S19.chg.size
                replace hrz0 := zAc.chg S19.chg (fun b hb h => (hT1 b hb).2 h) z hrz0
                replace Br := S19.keep (by omega) Br
                replace E := S19.stp E
                replace Bo := S19.blk
                refine zAB (zAQ (zAY (zAI ?_)))
                refine zAm Tryz.results17 (vs := [(.int .i64 z.kind), (.slice zsa z.set.length zsc), (.slice zaa z.args.length zac), (.int .i64 z.mn), (.int .i64 z.mx), (.bool z.neg)]) (b := bo) rfl zAb zAH rfl (Bo.cells rfl) ?_
                exact ⟨⟨_, rfl, by rw [hN1]; exact zAc.mono hT2 _ hrz0⟩, E⟩
              · have kc8 := c8
                replace c8 := of_decide_eq_false c8
                have hN1 := sn8b hy h8 c8
                rw [hN] at hN1
                have hrr := hre9
                refine zAR (zAU (zAC (zAA ?_)))
                refine qV (zAG (vs := [(I6 r0.kind), (.slice ka r0.set.length kc), (.slice (some ⟨yb, yo, none⟩) r0.args.length kac), (I6 r0.mn), (I6 r0.mx), (.bool r0.neg)]) rfl zAb zAH rfl (Br.cells rfl)) ?_
                refine qW (R6 r0 ka kc (some ⟨yb, yo, none⟩) kac) rfl rfl zAH Bo ?_
                intro w20 S20
                replace hre9 := zAc.chg S20.chg (fun y hy h => by have h2 : y = _ := h; first | exact (hT1 y hy).1 h2 | exact (hT1 y hy).2 h2) r0 hre9
                replace hz9 := Nat.le_trans hz9 S20.chg.size
                replace hrr := zAc.chg S20.chg (fun b hb h => (hT1 b hb).2 h) r0 hrr
                replace Br := S20.keep (by omega) Br
                replace E := S20.stp E
                replace Bo := S20.blk
                refine zAB (zAQ ?_)
                refine zAm Tryz.results17 (vs := [(.int .i64 r0.kind), (.slice ka r0.set.length kc), (.slice (some ⟨yb, yo, none⟩) r0.args.length kac), (.int .i64 r0.mn), (.int .i64 r0.mx), (.bool r0.neg)]) (b := bo) rfl zAb zAH rfl (Bo.cells rfl) ?_
                exact ⟨⟨_, rfl, by rw [hN1]; exact zAc.mono hT2 _ hrr⟩, E⟩
            · have kh8 := h8
              replace h8 := of_decide_eq_false h8
              have hN1 : N = r0 := hN.symm.trans (nsn ⟨h3, h4, h5, h6, h7, h8⟩)
              have hrr := hre9
              refine zAR (zAU (zAC (zAA ?_)))
              refine qV (zAG (vs := [(I6 r0.kind), (.slice ka r0.set.length kc), (.slice kaa r0.args.length kac), (I6 r0.mn), (I6 r0.mx), (.bool r0.neg)]) rfl zAb zAH rfl (Br.cells rfl)) ?_
              refine qW (R6 r0 ka kc kaa kac) rfl rfl zAH Bo ?_
              intro w21 S21
              replace hre9 := zAc.chg S21.chg (fun y hy h => by have h2 : y = _ := h; first | exact (hT1 y hy).1 h2 | exact (hT1 y hy).2 h2) r0 hre9
              replace hz9 := Nat.le_trans hz9 S21.chg.size
              replace hrr := zAc.chg S21.chg (fun b hb h => (hT1 b hb).2 h) r0 hrr
              replace Br := S21.keep (by omega) Br
              replace E := S21.stp E
              replace Bo := S21.blk
              refine zAB (zAQ ?_)
              refine zAm Tryz.results17 (vs := [(.int .i64 r0.kind), (.slice ka r0.set.length kc), (.slice kaa r0.args.length kac), (.int .i64 r0.mn), (.int .i64 r0.mx), (.bool r0.neg)]) (b := bo) rfl zAb zAH rfl (Bo.cells rfl) ?_
              exact ⟨⟨_, rfl, by rw [hN1]; exact zAc.mono hT2 _ hrr⟩, E⟩
end Go.Proofs
namespace Go.Proofs
open Go Go.Eng
set_option maxRecDepth 100000
theorem zHj (text : List Int) (k : Int) (set : List (Int × Int)) (args : List Re) (mn mx : Int) (ng : Bool) : zAz text (.mk k set args mn mx ng) = zHK text k set (args.map (zAz text)) mn mx ng := zCI text (.mk k set args mn mx ng)
section
variable {text : List Int} (hn : text.length ≤ 24) {t x : Re} {i j : Nat}
theorem rk0 (h : t.kind = 0) : zAz text t i j = false := by
 rw [zCI]; simp [zHK, h, noR]
theorem rk1 (h : t.kind = 1) (hi : i ≤ text.length) : zAz text t i j = decide ((i : Int) = (j : Int)) := by
 rw [zCI]; simp only [zHK, h, if_true, idR]; rw [Bool.eq_iff_iff]; simp; omega
theorem rk2 {c : Int} (h : t.kind = 2) (hc : text[i]? = some c) : zAz text t i j = (inS t.set c && decide (j = i + 1)) := by
 rw [zCI]; simp [zHK, h, setR, hc]
theorem rk2' (h : t.kind = 2) (hj : j ≠ i + 1) : zAz text t i j = false := by
 rw [zCI]; simp [zHK, h, setR, hj]
theorem zMK (text : List Int) (ts : List Re) : ∀ R ∈ ts.map (zAz text), Wf text.length R := by
 intro R hR
 rw [List.mem_map] at hR
 obtain ⟨y, _, rfl⟩ := hR
 exact zEK text y
include hn
theorem rk3 {r : List Re} (h : t.kind = 3) (ha : t.args = x :: r) : zAz text t i j = true ↔ ∃ k, i ≤ k ∧ k ≤ j ∧ zAz text x i k = true ∧ zAz text (.mk 3 [] r 0 0 false) k j = true := by
 rw [zCI text t, zHj]
 simp only [zHK, h, ha, List.map_cons]
 simp only [show ¬ (3 : Int) = 1 from by decide, show ¬ (3 : Int) = 2 from by decide, if_false, if_true]
 rw [zOl hn (zEK text x) _ (zMK text r)]
 exact zFR hn (zEK text x) (zEo _ _ (zJP _) (zMK text r)) i j
theorem rk3_1 (h : t.kind = 3) (ha : t.args = [x]) : zAz text t = zAz text x := by
 rw [zCI text t]
 simp only [zHK, h, ha, List.map_cons, List.map_nil, List.foldl_cons, List.foldl_nil]
 simp only [show ¬ (3 : Int) = 1 from by decide, show ¬ (3 : Int) = 2 from by decide, if_false, if_true]
 exact zHs hn (zEK text x)
omit hn in
theorem rk4 (h : t.kind = 4) : zAz text t i j = t.args.any fun a => zAz text a i j := by
 rw [zCI text t]
 simp [zHK, h, zHQ, noR, List.any_map]
 rfl
omit hn in
theorem rk7 (h : t.kind = 7) (h0 : 0 < t.args.length) : zAz text t i j = t.args.all fun a => zAz text a i j := by
  rw [zCI text t]
  cases ha : t.args with
  | nil => rw [ha] at h0; simp at h0
  | cons y r =>
    simp only [zHK, h, show ¬ (7 : Int) = 1 from by decide, show ¬ (7 : Int) = 2 from by decide, show ¬ (7 : Int) = 3 from by decide, show ¬ (7 : Int) = 4 from by decide, if_false, if_true]
    rw [zGb]
    simp [List.all_map, ← Bool.and_assoc]
    rfl
theorem rk5 (h : t.kind = 5) (ha : t.args[0]? = some x) (hi : i ≤ text.length) : zAz text t i j = true ↔ i = j ∨ ∃ k, i + 1 ≤ k ∧ k ≤ j ∧ zAz text x i k = true ∧ zAz text t k j = true := by
  have hR : zAz text t = zEM text.length (zAz text x) (text.length + 1) := by
    rw [zCI text t]
    cases hh : t.args with
    | nil => rw [hh] at ha; simp at ha
    | cons y r => rw [hh] at ha; simp at ha; subst ha; simp [zHK, h]
  rw [hR]
  exact zKv hn (zEK text x) hi
theorem rk6 (h : t.kind = 6) (ha : t.args[0]? = some x) (h0 : 0 ≤ t.mn) (h1 : t.mn ≤ t.mx) (hi : i ≤ text.length) : zAz text t i j = true ↔ (t.mn = 0 ∧ i = j) ∨ (t.mx ≠ 0 ∧ ∃ k, i ≤ k ∧ k ≤ j ∧ zAz text x i k = true ∧ zAz text (.mk 6 [] t.args (max 0 (t.mn - 1)) (t.mx - 1) false) k j = true) := by
  cases hh : t.args with
  | nil => rw [hh] at ha; simp at ha
  | cons y r =>
    rw [hh] at ha; simp at ha; subst ha
    rw [zCI text t, zHj]
    simp only [zHK, h, hh, List.map_cons, List.headD_cons]
    simp only [show ¬ (6 : Int) = 1 from by decide, show ¬ (6 : Int) = 2 from by decide, show ¬ (6 : Int) = 3 from by decide, show ¬ (6 : Int) = 4 from by decide, show ¬ (6 : Int) = 5 from by decide, show ¬ (6 : Int) = 7 from by decide, show ¬ (6 : Int) = 8 from by decide, if_false, if_true]
    exact zMJ hn (zEK text y) h0 h1 hi
omit hn in
theorem rk8 (h : t.kind = 8) (ha : t.args[0]? = some x) (hij : i ≤ j) (hj : j ≤ text.length) : zAz text t i j = !zAz text x i j := by
  rw [zCI text t]
  cases hh : t.args with
  | nil => rw [hh] at ha; simp at ha
  | cons y r => rw [hh] at ha; simp at ha; subst ha; simp [zHK, h, not_in hij hj]
omit hn in
theorem rk9 (h : t.kind = 9) (ha : t.args[0]? = some x) : zAz text t = zAz text x := by
  rw [zCI text t]
  cases hh : t.args with
  | nil => rw [hh] at ha; simp at ha
  | cons y r => rw [hh] at ha; simp at ha; subst ha; simp [zHK, h]
theorem rk10 (h : t.kind = 10) (ha : t.args[0]? = some x) (hi : i ≤ text.length) : zAz text t i j = (decide (i = j) && (((List.range (text.length + 1)).any fun k => decide (i ≤ k) && zAz text x i k) != t.neg)) := by
  rw [zCI text t]
  cases hh : t.args with
  | nil => rw [hh] at ha; simp at ha
  | cons y r =>
    rw [hh] at ha; simp at ha; subst ha; simp only [zHK, h]
    simp [zQS hn (zEK text y) hi]
end
theorem zMb {t : Re} (h : zDh t) (hk : t.kind ≠ 6) : t.mx = 0 := by
 have := (zDT h).2.2
 unfold zCu at this
 simp [hk] at this
 omega
def okM (t : Re) : Prop := (t.kind = 3 ∧ 0 < t.args.length ∧ zDB t.args ∧ t.mx = 0) ∨ (zDh t ∧ t.kind ≠ 3)
theorem zCa {t : Re} (h : zDh t) : okM t := by
 by_cases hk : t.kind = 3
 ·exact .inl ⟨hk, by have := zHn h (.inl hk); omega, zCD h, zMb h (by omega)⟩
 exact .inr ⟨h, hk⟩
theorem zFF {t : Re} (h : okM t) : t.mx.toNat ≤ 8 := by
 rcases h with ⟨_, _, _, h⟩ | ⟨h, _⟩
 ·omega
 by_cases hk : t.kind = 6
 ·have := zHo h hk; omega
 have := zMb h hk; omega
theorem zNz {t : Re} (h : okM t) : zDB t.args := by
 rcases h with ⟨_, _, h, _⟩ | ⟨h, _⟩
 ·exact h
 exact zCD h
def msr (t : Re) (i j : Nat) : Nat := t.size * 1000 + t.mx.toNat * 50 + (j - i)
theorem zDm {t x : Re} {i j i' j' : Nat} (hs : x.size < t.size) (hx : x.mx.toNat ≤ 8) (h : j' - i' ≤ 24) : msr x i' j' < msr t i j := by
 unfold msr; omega
def zNc (text : List Int) (M : Nat) : Prop := ∀ t i j, i ≤ j → j ≤ text.length → msr t i j < M → okM t → ∀ (w0 : World) (vs : List Value) (vt : Value), zBC w0 t vs → zBr w0 vt text →
  Ret Tryz.prog 75 #[.agg vs.toArray, vt, .int .i64 (i : Int), .int .i64 (j : Int)] w0 fun v w => v = .bool (zAz text t i j) ∧ Ext w0 w
theorem zDY {b : Bool} (h : b = true) : Value.bool true = .bool b := by rw [h]
theorem zCd {b : Bool} (h : ¬ b = true) : Value.bool false = .bool b := by simp at h; rw [h]
theorem zCr {P : Nat → Prop} {lo k : Nat} (hp : ∀ m, lo ≤ m → m < k → ¬ P m) (hk : ¬ P k) : ∀ m, lo ≤ m → m < k + 1 → ¬ P m := by
 intro m h1 h2
 rcases Nat.lt_or_ge m k with h | h
 ·exact hp m h1 h
 obtain rfl : m = k := by omega
 exact hk
set_option maxHeartbeats 2000000 in
theorem zMI (text : List Int) (hn : text.length ≤ 24) (M : Nat) (ih : zNc text M) (t : Re) (i j : Nat) (hij : i ≤ j) (hj : j ≤ text.length) (hM : msr t i j ≤ M) (hok : zDh t) (h6 : t.kind = 6) (w0 : World) (vs : List Value) (vt : Value) (ht : zBC w0 t vs) (htx : zBr w0 vt text) :
    Ret Tryz.prog 133 #[.agg vs.toArray, vt, .int .i64 (i : Int), .int .i64 (j : Int)] w0 fun v w => v = .bool (zAz text t i j) ∧ Ext w0 w := by
  have ht0 := ht
  obtain ⟨sa, sc, aa, ac, rfl, hset, hlen, hargs⟩ := ht.form
  obtain ⟨ta, tc, rfl⟩ := zCA.form htx
  simp only [List.length_map] at htx ⊢
  have hone := zEa hok (by omega)
  have hrep := zHo hok h6
  obtain ⟨x, hx⟩ := zAa (l := t.args) (i := 0) (by omega)
  have hxo := zCQ (zCD hok) hx
  have hxs := Re.size_arg hx
  have hsp := rk6 hn h6 hx hrep.1 hrep.2.1 (i := i) (j := j) (by omega)
  obtain ⟨ab, ao, rfl, hres⟩ := zDZ hargs (by omega)
  obtain ⟨us, hus, hxt⟩ := hres.get hx
  refine zAk Tryz.func133 rfl Tryz.ntmps133 (Nat.le_of_ble_eq_true rfl) ?_
  have E : Chg zAh w0 w0 := Chg.refl _ _
  refine zAA ?_
  refine zBL (v := (.agg (R6 t sa sc (some ⟨ab, ao, none⟩) ac))) (c := (R6 t sa sc (some ⟨ab, ao, none⟩) ac)) (by decide) rfl rfl ?_
  intro b1 w1 N1
  have F1 := N1.ge E
  replace E := E.ext N1.ext
  have B1 := N1.blk
  refine qA (.bool false) rfl ?_
  refine zAB (zAP (zAA ?_))
  refine qF b1 0 3 rfl Tryz.underlying25 rfl zAw rfl ?_
  refine qV (zAK (v := (I6 t.mn)) rfl zAf (B1.cell rfl)) ?_
  obtain ⟨e2, he2⟩ : ∃ e, (decide ((t.mn : Int) = 0)) = e := ⟨_, rfl⟩
  refine qV ((zAg (k := .i64) (a := t.mn) (b := 0) rfl rfl).trans (by rw [he2]; try rfl)) ?_
  refine qM (.bool e2) rfl ?_
  refine qG (.bool e2) (yU e2 (I6 (i : Int))) (by cases e2 <;> first | exact gA | exact gB | exact .inl ⟨rfl, zAn (v := (I6 (i : Int))) rfl⟩) ?_
  refine qG (.bool e2) (yU e2 (I6 (j : Int))) (by cases e2 <;> first | exact gA | exact gB | exact .inl ⟨rfl, zAn (v := (I6 (j : Int))) rfl⟩) ?_
  obtain ⟨e3, he3⟩ : ∃ e, (decide ((((i : Nat) : Int) : Int) = ((j : Nat) : Int))) = e := ⟨_, rfl⟩
  refine qG (.bool e2) (yU e2 (.bool e3)) (by cases e2 <;> first | exact gA | exact gB | exact .inl ⟨rfl, (zAg (k := .i64) (a := (i : Int)) (b := (j : Int)) rfl rfl).trans (by rw [he3]; try rfl)⟩) ?_
  obtain ⟨e4, he4⟩ : ∃ e, (e2 && e3) = e := ⟨_, rfl⟩
  refine qV (zAd (b := e2) (v := .bool e4) rfl (by rw [← he4]; cases e2 <;> rfl)) ?_
  refine zAB ?_
  subst he4
  subst he3
  subst he2
  refine zAM (b := ((decide ((t.mn : Int) = 0)) && (decide (((i : Int) : Int) = (j : Int))))) rfl (fun h0 => ?_) (fun h0 => ?_)
  · have kh0 := h0
    simp at h0
    refine zAA ?_
    refine qA (.bool true) rfl ?_
    refine zAB (zAQ (zAI ?_))
    refine zAS Tryz.results133 (v := (.bool true)) rfl ?_
    exact ⟨zDY (hsp.2 (.inl ⟨h0.1, by omega⟩)), E⟩
  · have kh0 := h0
    simp at h0
    refine zAR (zAC (zAP (zAA ?_)))
    refine qF b1 0 4 rfl Tryz.underlying25 rfl zAw rfl ?_
    refine qV (zAK (v := (I6 t.mx)) rfl zAf (B1.cell rfl)) ?_
    refine qV (zAg (k := .i64) (a := t.mx) (b := 0) rfl rfl) ?_
    refine zAB ?_
    refine zAM (b := decide ((t.mx : Int) = 0)) rfl (fun hmx => ?_) (fun hmx => ?_)
    · have khmx := hmx
      replace hmx := of_decide_eq_true hmx
      refine zAA ?_
      refine qA (.bool false) rfl ?_
      refine zAB (zAQ (zAI ?_))
      refine zAS Tryz.results133 (v := (.bool false)) rfl ?_
      exact ⟨zCd (fun h => by rcases hsp.1 h with h | h <;> omega), E⟩
    · have khmx := hmx
      replace hmx := of_decide_eq_false hmx
      refine zAR (zAC (zAA ?_))
      refine qF b1 0 3 rfl Tryz.underlying25 rfl zAw rfl ?_
      refine qV (zAK (v := (I6 t.mn)) rfl zAf (B1.cell rfl)) ?_
      refine qV (zEh (k := .i64) (a := t.mn) (b := 1) (c := t.mn - 1) rfl rfl (zBs (by omega))) ?_
      refine qV (zPD (a := 0) (b := t.mn - 1) (c := max 0 (t.mn - 1)) rfl rfl rfl) ?_
      refine qF b1 0 4 rfl Tryz.underlying25 rfl zAw rfl ?_
      refine qV (zAK (v := (I6 t.mx)) rfl zAf (B1.cell rfl)) ?_
      refine qV (zEh (k := .i64) (a := t.mx) (b := 1) (c := t.mx - 1) rfl rfl (zBs (by omega))) ?_
      refine qF b1 0 2 rfl Tryz.underlying25 rfl zBI rfl ?_
      refine qV (zAK (v := (.slice (some ⟨ab, ao, none⟩) t.args.length ac)) rfl zAv (B1.cell rfl)) ?_
      refine qV (zBW (ps := [(0, (I6 6)), (3, (I6 (max 0 (t.mn - 1)))), (4, (I6 (t.mx - 1))), (2, (.slice (some ⟨ab, ao, none⟩) t.args.length ac))]) (v := (.agg #[(I6 6), (.slice none 0 0), (.slice (some ⟨ab, ao, none⟩) t.args.length ac), (I6 (max 0 (t.mn - 1))), (I6 (t.mx - 1)), (.bool false)])) rfl (by kernel_rfl)) ?_
      refine zAi (v := (.agg #[(I6 6), (.slice none 0 0), (.slice (some ⟨ab, ao, none⟩) t.args.length ac), (I6 (max 0 (t.mn - 1))), (I6 (t.mx - 1)), (.bool false)])) (c := #[(I6 6), (.slice none 0 0), (.slice (some ⟨ab, ao, none⟩) t.args.length ac), (I6 (max 0 (t.mn - 1))), (I6 (t.mx - 1)), (.bool false)]) (n := 6) (by decide) zAs rfl zAH rfl rfl rfl (by simp [Value.oneCell']) ?_
      intro b7 w7 N7
      have F7 := N7.ge E
      have O7_b1 := N7.lt B1
      replace B1 := N7.keep B1
      replace E := E.ext N7.ext
      have B7 := N7.blk
      refine zAB (zAP (zAA ?_))
      refine qM (I6 (i : Int)) rfl ?_
      refine qA (I6 (i : Int)) rfl ?_
      refine zAB (zAZ ?_)
      have hrest : zBC w0 (.mk 6 [] t.args (max 0 (t.mn - 1)) (t.mx - 1) false) [.int .i64 6, .slice none 0 0, .slice (some ⟨ab, ao, none⟩) t.args.length ac, .int .i64 (max 0 (t.mn - 1)), .int .i64 (t.mx - 1), .bool false] := zBC.of (set := []) (zCA.nil _ _ _ _) hlen (.inr ⟨ab, ao, rfl, hres⟩)
      have hrok : zDh (.mk 6 [] t.args (max 0 (t.mn - 1)) (t.mx - 1) false) := by
        have hax : t.args = [x] := by
          match h : t.args, hone, hx with
          | [y], _, hy => simp at hy; rw [hy]
        rw [hax]; simp only [zDh, zDB]
        exact ⟨zOB (by omega) (by omega) (by omega) x, hxo, trivial⟩
      have hrms : ∀ k, i ≤ k → k ≤ j → msr (.mk 6 [] t.args (max 0 (t.mn - 1)) (t.mx - 1) false) k j < M := by
        intro k h1 h2
        have hz : (Re.mk 6 [] t.args (max 0 (t.mn - 1)) (t.mx - 1) false).size = t.size := by rw [Re.size_eq, Re.size_eq]; rfl
        have e1 : (t.mx - 1).toNat + 1 = t.mx.toNat := by omega
        unfold msr at hM ⊢
        rw [hz, show (Re.mk 6 [] t.args (max 0 (t.mn - 1)) (t.mx - 1) false).mx = t.mx - 1 from rfl]; clear hz; generalize (t.mx - 1).toNat = p at e1 ⊢; generalize t.mx.toNat = q at e1 hM; omega
      refine zBA (fun nn_ σ W8 => ∃ (k : Nat), (∃ jj_, σ = zCl jj_ [(1, (.slice ta text.length tc)), (2, (I6 (i : Int))), (3, (I6 (j : Int))), (4, (P6 b1 0)), (9, (P6 b7 0)), (10, (I6 (k : Int)))]) ∧ Chg zAh w0 W8 ∧ Blk W8 b1 (R6 t sa sc (some ⟨ab, ao, none⟩) ac) 25 ∧ Blk W8 b7 #[(I6 6), (.slice none 0 0), (.slice (some ⟨ab, ao, none⟩) t.args.length ac), (I6 (max 0 (t.mn - 1))), (I6 (t.mx - 1)), (.bool false)] 25 ∧ (i ≤ k ∧ k ≤ j + 1) ∧ (∀ m, i ≤ m → m < k → ¬ (zAz text x i m = true ∧ zAz text (.mk 6 [] t.args (max 0 (t.mn - 1)) (t.mx - 1) false) m j = true)) ∧ nn_ = j + 1 - k) (n := j + 1 - i) ?_ ?_
      · exact ⟨i, zBG.out ⟨rfl, rfl, rfl, rfl, rfl, rfl, trivial⟩, E, B1, B7, (by omega), (fun m h1 h2 => by omega), rfl⟩
      · clear E B1 B7
        rintro _ _ W8 ⟨k, ⟨j8, rfl⟩, E, B1, B7, hk, hp, rfl⟩
        refine zAP (zAA ?_)
        refine qM (I6 (k : Int)) rfl ?_
        refine qM (I6 (j : Int)) rfl ?_
        refine qV (zDu (k := .i64) (a := (k : Int)) (b := (j : Int)) rfl rfl) ?_
        refine zAB ?_
        refine zAM (b := decide (((k : Int) : Int) ≤ (j : Int))) rfl (fun hlt => ?_) (fun hlt => ?_)
        · have khlt := hlt
          replace hlt := of_decide_eq_true hlt
          refine zAR (zAC (zAP (zAZ (zAA ?_))))
          refine qF b1 0 2 rfl Tryz.underlying25 rfl zBI rfl ?_
          refine qV (zAK (v := (.slice (some ⟨ab, ao, none⟩) t.args.length ac)) rfl zAv (B1.cell rfl)) ?_
          refine qV (zAO (b := ab) (o := ao) (len := t.args.length) (cap := ac) (i := 0) (o' := ao + 0 * 6) rfl rfl rfl Tryz.underlying23 zAH (by omega) (by omega)) ?_
          refine qV (zAG (vs := us) rfl zAb zAH hxt.len (hus.ext E)) ?_
          refine qM (.slice ta text.length tc) rfl ?_
          refine qM (I6 (i : Int)) rfl ?_
          refine qM (I6 (k : Int)) rfl ?_
          refine zAL rfl rfl (by decide) (zAT (vs := [(.agg us.toArray), (.slice ta text.length tc), (I6 (i : Int)), (I6 (k : Int))]) Tryz.func75 zLM zLa rfl) (ih x i k (by omega) (by omega) (Nat.lt_of_lt_of_le (zDm hxs (zFF (zCa hxo)) (by omega)) hM) (zCa hxo) _ us _ (zBC.ext E x hxt) (htx.ext E)) ?_
          rintro _ w9 ⟨rfl, X9⟩
          replace B1 := X9.keep B1
          replace B7 := X9.keep B7
          replace E := E.ext X9
          refine qM (.bool (zAz text x i k)) rfl ?_
          rcases Bool.eq_false_or_eq_true (zAz text x i k) with hA | hA
          · have khA := hA
            refine zAF (oj := _) rfl rfl (by decide) (congrArg Value.bool hA) ?_
            refine qV (zAG (vs := [(I6 6), (.slice none 0 0), (.slice (some ⟨ab, ao, none⟩) t.args.length ac), (I6 (max 0 (t.mn - 1))), (I6 (t.mx - 1)), (.bool false)]) rfl zAb zAH rfl (B7.cells rfl)) ?_
            refine zAF (oj := _) rfl rfl (by decide) (congrArg Value.bool hA) ?_
            refine qM (.slice ta text.length tc) rfl ?_
            refine zAF (oj := _) rfl rfl (by decide) (congrArg Value.bool hA) ?_
            refine qM (I6 (k : Int)) rfl ?_
            refine zAF (oj := _) rfl rfl (by decide) (congrArg Value.bool hA) ?_
            refine qM (I6 (j : Int)) rfl ?_
            refine zAF (oj := _) rfl rfl (by decide) (congrArg Value.bool hA) ?_
            refine zAL rfl rfl (by decide) (zAT (vs := [(.agg #[(I6 6), (.slice none 0 0), (.slice (some ⟨ab, ao, none⟩) t.args.length ac), (I6 (max 0 (t.mn - 1))), (I6 (t.mx - 1)), (.bool false)]), (.slice ta text.length tc), (I6 (k : Int)), (I6 (j : Int))]) Tryz.func75 zLM zLa rfl) (ih _ k j (by omega) (by omega) (hrms k (by omega) (by omega)) (zCa hrok) _ _ _ (zBC.ext E _ hrest) (htx.ext E)) ?_
            rintro _ w19 ⟨rfl, X19⟩
            replace B1 := X19.keep B1
            replace B7 := X19.keep B7
            replace E := E.ext X19
            refine qV (zAd (b := zAz text x i k) (v := (.bool (zAz text (.mk 6 [] t.args (max 0 (t.mn - 1)) (t.mx - 1) false) k j))) rfl (by rw [hA]; rfl)) ?_
            refine zAB ?_
            refine zAM (b := zAz text (.mk 6 [] t.args (max 0 (t.mn - 1)) (t.mx - 1) false) k j) rfl (fun hB => ?_) (fun hB => ?_)
            · have khB := hB
              refine zAA ?_
              refine qA (.bool true) rfl ?_
              refine zAB (zAQ (zAY (zAI (zAI (zAY (zAI ?_))))))
              refine zAS Tryz.results133 (v := (.bool true)) rfl ?_
              exact ⟨zDY (hsp.2 (.inr ⟨hmx, k, by omega, by omega, hA, hB⟩)), E⟩
            · have khB := hB
              refine zAR (zAU (zAC (zAW ?_)))
              refine qM (I6 (k : Int)) rfl ?_
              refine qV (zBQ (k := .i64) (a := (k : Int)) (b := 1) (c := (k : Int) + 1) rfl rfl (zBs (by omega))) ?_
              refine qA (I6 ((k : Int) + 1)) rfl ?_
              refine zAB (zAC ?_)
              exact ⟨j + 1 - (k + 1), by omega, k + 1, zBG.out ⟨rfl, rfl, rfl, rfl, rfl, rfl, trivial⟩, E, B1, B7, (by omega), zCr hp (fun h => absurd h.2 (by rw [hB]; decide)), rfl⟩
          · have khA := hA
            refine zAD (oj := _) rfl rfl (by decide) (v := .bool false) (congrArg Value.bool hA) (Or.inl rfl) ?_
            refine zAD (oj := _) rfl rfl (by decide) (v := .bool false) (congrArg Value.bool hA) (Or.inl rfl) ?_
            refine zAD (oj := _) rfl rfl (by decide) (v := .bool false) (congrArg Value.bool hA) (Or.inl rfl) ?_
            refine zAD (oj := _) rfl rfl (by decide) (v := .bool false) (congrArg Value.bool hA) (Or.inl rfl) ?_
            refine zAD (oj := _) rfl rfl (by decide) (v := .bool false) (congrArg Value.bool hA) (Or.inl rfl) ?_
            refine qV (zAd (b := zAz text x i k) (v := (.bool false)) rfl (by rw [hA]; rfl)) ?_
            refine zAB ?_
            refine zAX rfl ?_
            refine zAR (zAU (zAC (zAW ?_)))
            refine qM (I6 (k : Int)) rfl ?_
            refine qV (zBQ (k := .i64) (a := (k : Int)) (b := 1) (c := (k : Int) + 1) rfl rfl (zBs (by omega))) ?_
            refine qA (I6 ((k : Int) + 1)) rfl ?_
            refine zAB (zAC ?_)
            exact ⟨j + 1 - (k + 1), by omega, k + 1, zBG.out ⟨rfl, rfl, rfl, rfl, rfl, rfl, trivial⟩, E, B1, B7, (by omega), zCr hp (fun h => absurd h.1 (by rw [hA]; decide)), rfl⟩
        · have khlt := hlt
          replace hlt := of_decide_eq_false hlt
          refine zBB (zAe (zAe (zAr (zAC (zAA ?_)))))
          refine qA (.bool false) rfl ?_
          refine zAB (zAQ ?_)
          refine zAS Tryz.results133 (v := (.bool false)) rfl ?_
          exact ⟨zCd (fun h => by rcases hsp.1 h with h | ⟨_, m, h1, h2, h3, h4⟩; omega; exact hp m h1 (by omega) ⟨h3, h4⟩), E⟩
set_option maxHeartbeats 8000000 in
theorem zQP (text : List Int) (hn : text.length ≤ 24) : ∀ M, zNc text M := by
  intro M
  induction M with
  | zero => intro t i j _ _ h; omega
  | succ M ih =>
  intro t i j hij hj hM hok w0 vs vt ht htx
  have ht0 := ht
  have hok0 := hok
  have hoka := zNz hok
  obtain ⟨sa, sc, aa, ac, rfl, hset, hlen, hargs⟩ := ht.form
  obtain ⟨ta, tc, rfl⟩ := zCA.form htx
  simp only [List.length_map] at htx ⊢
  have hM' : msr t i j ≤ M := by omega
  refine zAk Tryz.func75 rfl Tryz.ntmps75 (Nat.le_of_ble_eq_true rfl) ?_
  have E : Chg zAh w0 w0 := Chg.refl _ _
  refine zAA ?_
  refine zBL (v := (.agg (R6 t sa sc aa ac))) (c := (R6 t sa sc aa ac)) (by decide) rfl rfl ?_
  intro b1 w1 N1
  have F1 := N1.ge E
  replace E := E.ext N1.ext
  have B1 := N1.blk
  refine qA (.bool false) rfl ?_
  refine zAB (zAP (zAA ?_))
  refine qF b1 0 0 rfl Tryz.underlying25 rfl zAw rfl ?_
  refine qV (zAK (v := (I6 t.kind)) rfl zAf (B1.cell rfl)) ?_
  refine zAB (zAZ (zAA ?_))
  refine qV (zAg (k := .i64) (a := t.kind) (b := 1) rfl rfl) ?_
  refine qA (.bool (decide ((t.kind : Int) = 1))) rfl ?_
  refine zAB ?_
  refine zAM (b := decide ((t.kind : Int) = 1)) rfl (fun h1 => ?_) (fun h1 => ?_)
  · have kh1 := h1
    replace h1 := of_decide_eq_true h1
    refine zAA ?_
    refine qM (I6 (i : Int)) rfl ?_
    refine qM (I6 (j : Int)) rfl ?_
    refine qV (zAg (k := .i64) (a := (i : Int)) (b := (j : Int)) rfl rfl) ?_
    refine qA (.bool (decide (((i : Int) : Int) = (j : Int)))) rfl ?_
    refine zAB (zAQ (zAY (zAI ?_)))
    refine zAS Tryz.results75 (v := (.bool (decide ((((i : Nat) : Int) : Int) = ((j : Nat) : Int))))) rfl ?_
    exact ⟨zAt (rk1 h1 (by omega)).symm, E⟩
  · have kh1 := h1
    replace h1 := of_decide_eq_false h1
    refine zAA ?_
    refine qV (zAg (k := .i64) (a := t.kind) (b := 2) rfl rfl) ?_
    refine qA (.bool (decide ((t.kind : Int) = 2))) rfl ?_
    refine zAB ?_
    refine zAM (b := decide ((t.kind : Int) = 2)) rfl (fun h2 => ?_) (fun h2 => ?_)
    · have kh2 := h2
      replace h2 := of_decide_eq_true h2
      rcases Bool.eq_false_or_eq_true (decide (((j : Nat) : Int) = ((i : Nat) : Int) + 1)) with hs | hs
      · have khs := hs
        replace khs := of_decide_eq_true khs
        obtain ⟨c, hc⟩ := zAa (l := text) (i := i) (by omega)
        obtain ⟨tb, to_, rfl, hcl⟩ := zBv htx (by omega)
        refine zAP ?_
        obtain ⟨Fs4, hFs4⟩ : ∃ Fs : List Fact, Fs = [.eq (I6 (j : Int)), .eq (I6 (i : Int)), .eq (I6 ((i : Int) + 1)), .eq (.bool true), .eq (.bool true), .eq (P6 b1 1), .eq (.slice sa t.set.length sc), .eq (.slice (some ⟨tb, to_, none⟩) text.length tc), .eq (I6 (i : Int)), .eq (.pointer (some ⟨tb, to_ + i, none⟩)), .eq (I6 c), .eq (.bool (inS t.set c)), .eq (.bool (inS t.set c)), .eq (.bool (inS t.set c))] := ⟨_, rfl⟩
        refine zEF [27, 28, 29, 30, 31, 32, 33, 34, 35, 36, 37, 38, 39, 8] [[], [], [1], [0, 2], [3], [4], [4, 5], [4], [4], [4, 7, 8], [4, 9], [4, 6, 10], [4, 11], [0, 1, 2, 3, 4, 5, 6, 7, 8, 9, 10, 11, 12]] Fs4 hFs4 mixed (by kernel_rfl) (by kernel_rfl) ?_ ?_
        · intro wd X0
          refine DagSteps.cons (fun s' w' X U H => Or.inl ⟨?_, ?_⟩) ?_
          · exact zAE rfl
          · exact zAJ (zAn (v := (I6 (j : Int))) (U 3 rfl)) (Ext.refl _) rfl
          refine DagSteps.cons (fun s' w' X U H => Or.inl ⟨?_, ?_⟩) ?_
          · exact zAE rfl
          · exact zAJ (zAn (v := (I6 (i : Int))) (U 2 rfl)) (Ext.refl _) rfl
          refine DagSteps.cons (fun s' w' X U H => Or.inl ⟨?_, ?_⟩) ?_
          · exact zAE rfl
          · have e28 : s' 28 = (.int .i64 ((i : Nat) : Int)) := H 1 rfl 28 (.eq (.int .i64 ((i : Nat) : Int))) rfl (by rw [hFs4]; rfl)
            exact zAJ (zBQ (k := .i64) (a := (i : Int)) (b := 1) (c := (i : Int) + 1) e28 rfl (zBs (by omega))) (Ext.refl _) rfl
          refine DagSteps.cons (fun s' w' X U H => Or.inl ⟨?_, ?_⟩) ?_
          · exact zAE rfl
          · have e27 : s' 27 = (.int .i64 ((j : Nat) : Int)) := H 0 rfl 27 (.eq (.int .i64 ((j : Nat) : Int))) rfl (by rw [hFs4]; rfl)
            have e29 : s' 29 = (.int .i64 (((i : Nat) : Int) + 1)) := H 2 rfl 29 (.eq (.int .i64 (((i : Nat) : Int) + 1))) rfl (by rw [hFs4]; rfl)
            exact zAJ (Eq.trans (zAg (k := .i64) (a := (j : Int)) (b := (i : Int) + 1) e27 e29) (by rw [hs])) (Ext.refl _) rfl
          refine DagSteps.cons (fun s' w' X U H => Or.inl ⟨?_, ?_⟩) ?_
          · exact zAE rfl
          · have e30 : s' 30 = (.bool true) := H 3 rfl 30 (.eq (.bool true)) rfl (by rw [hFs4]; rfl)
            exact zAJ (zAn (v := (.bool true)) e30) (Ext.refl _) rfl
          refine DagSteps.cons (fun s' w' X U H => Or.inl ⟨?_, ?_⟩) ?_
          · exact zBV rfl rfl (d := 31) (H 4 rfl 31 (.eq (.bool true)) rfl (by rw [hFs4]; rfl))
          · exact zAJ (zAN (b := b1) (o := 0) (o' := 1) (U 4 rfl) Tryz.underlying25 rfl zDb rfl) (Ext.refl _) rfl
          refine DagSteps.cons (fun s' w' X U H => Or.inl ⟨?_, ?_⟩) ?_
          · exact zBV rfl rfl (d := 31) (H 4 rfl 31 (.eq (.bool true)) rfl (by rw [hFs4]; rfl))
          · have e32 : s' 32 = (.pointer (some ⟨b1, 1, none⟩)) := H 5 rfl 32 (.eq (.pointer (some ⟨b1, 1, none⟩))) rfl (by rw [hFs4]; rfl)
            exact zAJ (zAK (v := (.slice sa t.set.length sc)) e32 zCc (((X0.trans X).keep B1).cell rfl)) (Ext.refl _) rfl
          refine DagSteps.cons (fun s' w' X U H => Or.inl ⟨?_, ?_⟩) ?_
          · exact zBV rfl rfl (d := 31) (H 4 rfl 31 (.eq (.bool true)) rfl (by rw [hFs4]; rfl))
          · exact zAJ (zAn (v := (.slice (some ⟨tb, to_, none⟩) text.length tc)) (U 1 rfl)) (Ext.refl _) rfl
          refine DagSteps.cons (fun s' w' X U H => Or.inl ⟨?_, ?_⟩) ?_
          · exact zBV rfl rfl (d := 31) (H 4 rfl 31 (.eq (.bool true)) rfl (by rw [hFs4]; rfl))
          · exact zAJ (zAn (v := (I6 (i : Int))) (U 2 rfl)) (Ext.refl _) rfl
          refine DagSteps.cons (fun s' w' X U H => Or.inl ⟨?_, ?_⟩) ?_
          · exact zBV rfl rfl (d := 31) (H 4 rfl 31 (.eq (.bool true)) rfl (by rw [hFs4]; rfl))
          · have e34 : s' 34 = (.slice (some ⟨tb, to_, none⟩) text.length tc) := H 7 rfl 34 (.eq (.slice (some ⟨tb, to_, none⟩) text.length tc)) rfl (by rw [hFs4]; rfl)
            have e35 : s' 35 = (.int .i64 ((i : Nat) : Int)) := H 8 rfl 35 (.eq (.int .i64 ((i : Nat) : Int))) rfl (by rw [hFs4]; rfl)
            exact zAJ (zAO (b := tb) (o := to_) (len := text.length) (cap := tc) (i := i) (o' := to_ + i) e34 e35 rfl Tryz.underlying26 zAw (by omega) (by omega)) (Ext.refl _) rfl
          refine DagSteps.cons (fun s' w' X U H => Or.inl ⟨?_, ?_⟩) ?_
          · exact zBV rfl rfl (d := 31) (H 4 rfl 31 (.eq (.bool true)) rfl (by rw [hFs4]; rfl))
          · have e36 : s' 36 = (.pointer (some ⟨tb, to_ + i, none⟩)) := H 9 rfl 36 (.eq (.pointer (some ⟨tb, to_ + i, none⟩))) rfl (by rw [hFs4]; rfl)
            exact zAJ (zAK (v := (I6 c)) e36 zAf ((Ext.trans E (X0.trans X)).cell (hcl i c hc))) (Ext.refl _) rfl
          refine DagSteps.cons (fun s' w' X U H => Or.inl ⟨?_, ?_⟩) ?_
          · exact zBV rfl rfl (d := 31) (H 4 rfl 31 (.eq (.bool true)) rfl (by rw [hFs4]; rfl))
          · have e33 : s' 33 = (.slice sa t.set.length sc) := H 6 rfl 33 (.eq (.slice sa t.set.length sc)) rfl (by rw [hFs4]; rfl)
            have e37 : s' 37 = (.int .i64 c) := H 10 rfl 37 (.eq (.int .i64 c)) rfl (by rw [hFs4]; rfl)
            exact zAp (zAT (vs := [(.slice sa t.set.length sc), (I6 c)]) Tryz.func85 nm85 bd85 (zGt e33 e37)) (zMu _ _ t.set c (hset.ext (Ext.trans E (X0.trans X))))
          refine DagSteps.cons (fun s' w' X U H => Or.inl ⟨?_, ?_⟩) ?_
          · exact zAE rfl
          · have e31 : s' 31 = (.bool true) := H 4 rfl 31 (.eq (.bool true)) rfl (by rw [hFs4]; rfl)
            have e38 : s' 38 = (.bool (inS t.set c)) := H 11 rfl 38 (.eq (.bool (inS t.set c))) rfl (by rw [hFs4]; rfl)
            exact zAJ (zAd (b := true) (v := (.bool (inS t.set c))) e31 e38) (Ext.refl _) rfl
          refine DagSteps.cons (fun s' w' X U H => Or.inl ⟨?_, ?_⟩) ?_
          · exact zAE rfl
          · have e39 : s' 39 = (.bool (inS t.set c)) := H 12 rfl 39 (.eq (.bool (inS t.set c))) rfl (by rw [hFs4]; rfl)
            exact zAJ (zDf (v := (.bool (inS t.set c))) e39) (Ext.refl _) rfl
          exact DagSteps.nil
        · intro s' w4 X4 U H
          obtain ⟨j4, rfl⟩ := zBG.out (σ := s') (l := [(8, (.bool (inS t.set c)))]) ⟨(show s' 8 = (.bool (inS t.set c)) from H 13 8 (.eq (.bool (inS t.set c))) rfl (by rw [hFs4]; rfl)), trivial⟩
          clear U H
          replace B1 := X4.keep B1
          replace E := E.ext X4
          refine zAC (zAQ (zAY (zAI ?_)))
          refine zAS Tryz.results75 (v := (.bool (inS t.set c))) rfl ?_
          exact ⟨zAt (by rw [rk2 h2 hc, show decide (j = i + 1) = true from decide_eq_true (by omega)]; simp), E⟩
      · have khs := hs
        replace khs := of_decide_eq_false khs
        refine zAP ?_
        obtain ⟨Fs5, hFs5⟩ : ∃ Fs : List Fact, Fs = [.eq (I6 (j : Int)), .eq (I6 (i : Int)), .eq (I6 ((i : Int) + 1)), .eq (.bool false), .eq (.bool false), .eq undef, .eq undef, .eq undef, .eq undef, .eq undef, .eq undef, .eq undef, .eq (.bool false), .eq (.bool false)] := ⟨_, rfl⟩
        refine zEF [27, 28, 29, 30, 31, 32, 33, 34, 35, 36, 37, 38, 39, 8] [[], [], [1], [0, 2], [3], [4], [4, 5], [4], [4], [4, 7, 8], [4, 9], [4, 6, 10], [4, 11], [0, 1, 2, 3, 4, 5, 6, 7, 8, 9, 10, 11, 12]] Fs5 hFs5 mixed (by kernel_rfl) (by kernel_rfl) ?_ ?_
        · intro wd X0
          refine DagSteps.cons (fun s' w' X U H => Or.inl ⟨?_, ?_⟩) ?_
          · exact zAE rfl
          · exact zAJ (zAn (v := (I6 (j : Int))) (U 3 rfl)) (Ext.refl _) rfl
          refine DagSteps.cons (fun s' w' X U H => Or.inl ⟨?_, ?_⟩) ?_
          · exact zAE rfl
          · exact zAJ (zAn (v := (I6 (i : Int))) (U 2 rfl)) (Ext.refl _) rfl
          refine DagSteps.cons (fun s' w' X U H => Or.inl ⟨?_, ?_⟩) ?_
          · exact zAE rfl
          · have e28 : s' 28 = (.int .i64 ((i : Nat) : Int)) := H 1 rfl 28 (.eq (.int .i64 ((i : Nat) : Int))) rfl (by rw [hFs5]; rfl)
            exact zAJ (zBQ (k := .i64) (a := (i : Int)) (b := 1) (c := (i : Int) + 1) e28 rfl (zBs (by omega))) (Ext.refl _) rfl
          refine DagSteps.cons (fun s' w' X U H => Or.inl ⟨?_, ?_⟩) ?_
          · exact zAE rfl
          · have e27 : s' 27 = (.int .i64 ((j : Nat) : Int)) := H 0 rfl 27 (.eq (.int .i64 ((j : Nat) : Int))) rfl (by rw [hFs5]; rfl)
            have e29 : s' 29 = (.int .i64 (((i : Nat) : Int) + 1)) := H 2 rfl 29 (.eq (.int .i64 (((i : Nat) : Int) + 1))) rfl (by rw [hFs5]; rfl)
            exact zAJ (Eq.trans (zAg (k := .i64) (a := (j : Int)) (b := (i : Int) + 1) e27 e29) (by rw [hs])) (Ext.refl _) rfl
          refine DagSteps.cons (fun s' w' X U H => Or.inl ⟨?_, ?_⟩) ?_
          · exact zAE rfl
          · have e30 : s' 30 = (.bool false) := H 3 rfl 30 (.eq (.bool false)) rfl (by rw [hFs5]; rfl)
            exact zAJ (zAn (v := (.bool false)) e30) (Ext.refl _) rfl
          refine DagSteps.cons (fun s' w' X U H => Or.inr ⟨?_, rfl⟩) ?_
          · exact zEE rfl rfl (d := 31) (Or.inl (H 4 rfl 31 (.eq (.bool false)) rfl (by rw [hFs5]; rfl)))
          refine DagSteps.cons (fun s' w' X U H => Or.inr ⟨?_, rfl⟩) ?_
          · exact zEE rfl rfl (d := 31) (Or.inl (H 4 rfl 31 (.eq (.bool false)) rfl (by rw [hFs5]; rfl)))
          refine DagSteps.cons (fun s' w' X U H => Or.inr ⟨?_, rfl⟩) ?_
          · exact zEE rfl rfl (d := 31) (Or.inl (H 4 rfl 31 (.eq (.bool false)) rfl (by rw [hFs5]; rfl)))
          refine DagSteps.cons (fun s' w' X U H => Or.inr ⟨?_, rfl⟩) ?_
          · exact zEE rfl rfl (d := 31) (Or.inl (H 4 rfl 31 (.eq (.bool false)) rfl (by rw [hFs5]; rfl)))
          refine DagSteps.cons (fun s' w' X U H => Or.inr ⟨?_, rfl⟩) ?_
          · exact zEE rfl rfl (d := 31) (Or.inl (H 4 rfl 31 (.eq (.bool false)) rfl (by rw [hFs5]; rfl)))
          refine DagSteps.cons (fun s' w' X U H => Or.inr ⟨?_, rfl⟩) ?_
          · exact zEE rfl rfl (d := 31) (Or.inl (H 4 rfl 31 (.eq (.bool false)) rfl (by rw [hFs5]; rfl)))
          refine DagSteps.cons (fun s' w' X U H => Or.inr ⟨?_, rfl⟩) ?_
          · exact zEE rfl rfl (d := 31) (Or.inl (H 4 rfl 31 (.eq (.bool false)) rfl (by rw [hFs5]; rfl)))
          refine DagSteps.cons (fun s' w' X U H => Or.inl ⟨?_, ?_⟩) ?_
          · exact zAE rfl
          · have e31 : s' 31 = (.bool false) := H 4 rfl 31 (.eq (.bool false)) rfl (by rw [hFs5]; rfl)
            exact zAJ (zAd (b := false) (v := (.bool false)) e31 rfl) (Ext.refl _) rfl
          refine DagSteps.cons (fun s' w' X U H => Or.inl ⟨?_, ?_⟩) ?_
          · exact zAE rfl
          · have e39 : s' 39 = (.bool false) := H 12 rfl 39 (.eq (.bool false)) rfl (by rw [hFs5]; rfl)
            exact zAJ (zDf (v := (.bool false)) e39) (Ext.refl _) rfl
          exact DagSteps.nil
        · intro s' w5 X5 U H
          obtain ⟨j5, rfl⟩ := zBG.out (σ := s') (l := [(8, (.bool false))]) ⟨(show s' 8 = (.bool false) from H 13 8 (.eq (.bool false)) rfl (by rw [hFs5]; rfl)), trivial⟩
          clear U H
          replace B1 := X5.keep B1
          replace E := E.ext X5
          refine zAC (zAQ (zAY (zAI ?_)))
          refine zAS Tryz.results75 (v := (.bool false)) rfl ?_
          exact ⟨zCd (by rw [rk2' h2 (by omega)]; decide), E⟩
    · have kh2 := h2
      replace h2 := of_decide_eq_false h2
      refine zAA ?_
      refine qV (zAg (k := .i64) (a := t.kind) (b := 3) rfl rfl) ?_
      refine qA (.bool (decide ((t.kind : Int) = 3))) rfl ?_
      refine zAB ?_
      refine zAM (b := decide ((t.kind : Int) = 3)) rfl (fun h3 => ?_) (fun h3 => ?_)
      · have kh3 := h3
        replace h3 := of_decide_eq_true h3
        have hlen0 : 0 < t.args.length := by
          rcases hok with ⟨_, h, _, _⟩ | ⟨_, h⟩
          · exact h
          · exact absurd h3 h
        obtain ⟨x, hx⟩ := zAa (l := t.args) (i := 0) (by omega)
        have hxo := zCQ hoka hx
        have hxs := Re.size_arg hx
        obtain ⟨ab, ao, rfl, hres⟩ := zDZ hargs (by omega)
        obtain ⟨us, hus, hxt⟩ := hres.get hx
        have hcons : t.args = x :: t.args.drop 1 := by rw [← zBP hx]; rfl
        refine zAP (zAA ?_)
        refine qF b1 0 2 rfl Tryz.underlying25 rfl zBI rfl ?_
        refine qV (zAK (v := (.slice (some ⟨ab, ao, none⟩) t.args.length ac)) rfl zAv (B1.cell rfl)) ?_
        refine qV (zAV (ad := some ⟨ab, ao, none⟩) (n := t.args.length) (cap := ac) Tryz.underlying23 rfl) ?_
        refine qV (zAg (k := .i64) (a := (t.args.length : Int)) (b := 1) rfl rfl) ?_
        refine zAB ?_
        refine zAM (b := decide (((t.args.length : Int) : Int) = 1)) rfl (fun hl1 => ?_) (fun hl1 => ?_)
        · have khl1 := hl1
          replace hl1 := of_decide_eq_true hl1
          refine zAA ?_
          refine qF b1 0 2 rfl Tryz.underlying25 rfl zBI rfl ?_
          refine qV (zAK (v := (.slice (some ⟨ab, ao, none⟩) t.args.length ac)) rfl zAv (B1.cell rfl)) ?_
          refine qV (zAO (b := ab) (o := ao) (len := t.args.length) (cap := ac) (i := 0) (o' := ao + 0 * 6) rfl rfl rfl Tryz.underlying23 zAH (by omega) (by omega)) ?_
          refine qV (zAG (vs := us) rfl zAb zAH hxt.len (hus.ext E)) ?_
          refine qM (.slice ta text.length tc) rfl ?_
          refine qM (I6 (i : Int)) rfl ?_
          refine qM (I6 (j : Int)) rfl ?_
          refine zAL rfl rfl (by decide) (zAT (vs := [(.agg us.toArray), (.slice ta text.length tc), (I6 (i : Int)), (I6 (j : Int))]) Tryz.func75 zLM zLa rfl) (ih x i j hij hj (Nat.lt_of_lt_of_le (zDm hxs (zFF (zCa hxo)) (by omega)) hM') (zCa hxo) _ us _ (zBC.ext E x hxt) (htx.ext E)) ?_
          rintro _ w9 ⟨rfl, X9⟩
          replace B1 := X9.keep B1
          replace E := E.ext X9
          refine qA (.bool (zAz text x i j)) rfl ?_
          refine zAB (zAQ (zAI (zAY (zAI ?_))))
          refine zAS Tryz.results75 (v := (.bool (zAz text x i j))) rfl ?_
          exact ⟨zAt (by rw [rk3_1 hn h3 (x := x) (by rw [hcons, List.drop_eq_nil_of_le (by omega)])]), E⟩
        · have khl1 := hl1
          replace hl1 := of_decide_eq_false hl1
          have hsp := rk3 hn h3 hcons (i := i) (j := j)
          refine zAR (zAC (zAA ?_))
          refine qF b1 0 2 rfl Tryz.underlying25 rfl zBI rfl ?_
          refine qV (zAK (v := (.slice (some ⟨ab, ao, none⟩) t.args.length ac)) rfl zAv (B1.cell rfl)) ?_
          obtain ⟨sl, hsl⟩ : ∃ a' : Option Addr, (if ac = 1 then (some ⟨ab, ao, none⟩) else Option.map (fun q : Addr => q.add (1 * 6)) (some ⟨ab, ao, none⟩)) = a' := ⟨_, rfl⟩
          refine qV (zDR (a := (some ⟨ab, ao, none⟩)) (len := t.args.length) (cap := ac) (lo := 1) (l := 1) (n' := (t.args.length - 1)) (c' := (ac - 1)) Tryz.underlying23 zAH rfl rfl (by omega) (by omega) hsl (by omega) (by omega)) ?_
          rw [if_neg (by omega)] at hsl
          simp only [Option.map_some, Addr.add_lit] at hsl
          subst hsl
          have hdl : (t.args.drop 1).length = t.args.length - 1 := by simp
          have hrest : zBC w0 (.mk 3 [] (t.args.drop 1) 0 0 false) [.int .i64 3, .slice none 0 0, .slice (some ⟨ab, ao + 1 * 6, none⟩) (t.args.length - 1) (ac - 1), .int .i64 0, .int .i64 0, .bool false] := by
            rw [← hdl]
            refine zBC.of (set := []) (zCA.nil _ _ _ _) ⟨by omega, by omega⟩ (.inr ⟨ab, ao + 1 * 6, rfl, zBw.mk fun i' t' ht' => ?_⟩)
            rw [List.getElem?_drop] at ht'
            have := hres.get ht'
            rwa [show ao + (1 + i') * 6 = ao + 1 * 6 + i' * 6 from by omega] at this
          have hroka : zDB (t.args.drop 1) := by rw [hcons] at hoka; simp only [zDB] at hoka; exact hoka.2
          have hrok : okM (.mk 3 [] (t.args.drop 1) 0 0 false) := .inl ⟨rfl, by show 0 < (t.args.drop 1).length; omega, hroka, rfl⟩
          have hrs : (Re.mk 3 [] (t.args.drop 1) 0 0 false).size < t.size := by
            have hz : Re.sizes t.args = x.size + Re.sizes (t.args.drop 1) := by rw [hcons]; simp [Re.sizes]
            have hp := x.size_pos
            rw [Re.size_eq, Re.size_eq t]
            show Re.sizes (t.args.drop 1) + 1 < _
            omega
          refine qV (zBW (ps := [(0, (I6 3)), (2, (.slice (some ⟨ab, ao + 1 * 6, none⟩) (t.args.length - 1) (ac - 1)))]) (v := (.agg #[(I6 3), (.slice none 0 0), (.slice (some ⟨ab, ao + 1 * 6, none⟩) (t.args.length - 1) (ac - 1)), (I6 0), (I6 0), (.bool false)])) rfl (by kernel_rfl)) ?_
          refine zAi (v := (.agg #[(I6 3), (.slice none 0 0), (.slice (some ⟨ab, ao + 1 * 6, none⟩) (t.args.length - 1) (ac - 1)), (I6 0), (I6 0), (.bool false)])) (c := #[(I6 3), (.slice none 0 0), (.slice (some ⟨ab, ao + 1 * 6, none⟩) (t.args.length - 1) (ac - 1)), (I6 0), (I6 0), (.bool false)]) (n := 6) (by decide) zAs rfl zAH rfl rfl rfl (by simp [Value.oneCell']) ?_
          intro bq wq Nq
          have Fq := Nq.ge E
          have Oq_b1 := Nq.lt B1
          replace B1 := Nq.keep B1
          replace E := E.ext Nq.ext
          have Bq := Nq.blk
          refine zAB (zAA ?_)
          refine qM (I6 (i : Int)) rfl ?_
          refine qA (I6 (i : Int)) rfl ?_
          refine zAB (zAZ ?_)
          refine zBA (fun nn_ σ W8 => ∃ (k : Nat), (∃ jj_, σ = zCl jj_ [(1, (.slice ta text.length tc)), (2, (I6 (i : Int))), (3, (I6 (j : Int))), (4, (P6 b1 0)), (9, (P6 bq 0)), (10, (I6 (k : Int)))]) ∧ Chg zAh w0 W8 ∧ Blk W8 b1 (R6 t sa sc (some ⟨ab, ao, none⟩) ac) 25 ∧ Blk W8 bq #[(I6 3), (.slice none 0 0), (.slice (some ⟨ab, ao + 1 * 6, none⟩) (t.args.length - 1) (ac - 1)), (I6 0), (I6 0), (.bool false)] 25 ∧ (i ≤ k ∧ k ≤ j + 1) ∧ (∀ m, i ≤ m → m < k → ¬ (zAz text x i m = true ∧ zAz text (.mk 3 [] (t.args.drop 1) 0 0 false) m j = true)) ∧ nn_ = j + 1 - k) (n := j + 1 - i) ?_ ?_
          · exact ⟨i, zBG.out ⟨rfl, rfl, rfl, rfl, rfl, rfl, trivial⟩, E, B1, Bq, (by omega), (fun m h1 h2 => by omega), rfl⟩
          · clear E B1 Bq
            rintro _ _ W8 ⟨k, ⟨j8, rfl⟩, E, B1, Bq, hk, hp, rfl⟩
            refine zAP (zAA ?_)
            refine qM (I6 (k : Int)) rfl ?_
            refine qM (I6 (j : Int)) rfl ?_
            refine qV (zDu (k := .i64) (a := (k : Int)) (b := (j : Int)) rfl rfl) ?_
            refine zAB ?_
            refine zAM (b := decide (((k : Int) : Int) ≤ (j : Int))) rfl (fun hlt => ?_) (fun hlt => ?_)
            · have khlt := hlt
              replace hlt := of_decide_eq_true hlt
              refine zAR (zAC (zAP (zAZ (zAA ?_))))
              refine qF b1 0 2 rfl Tryz.underlying25 rfl zBI rfl ?_
              refine qV (zAK (v := (.slice (some ⟨ab, ao, none⟩) t.args.length ac)) rfl zAv (B1.cell rfl)) ?_
              refine qV (zAO (b := ab) (o := ao) (len := t.args.length) (cap := ac) (i := 0) (o' := ao + 0 * 6) rfl rfl rfl Tryz.underlying23 zAH (by omega) (by omega)) ?_
              refine qV (zAG (vs := us) rfl zAb zAH hxt.len (hus.ext E)) ?_
              refine qM (.slice ta text.length tc) rfl ?_
              refine qM (I6 (i : Int)) rfl ?_
              refine qM (I6 (k : Int)) rfl ?_
              refine zAL rfl rfl (by decide) (zAT (vs := [(.agg us.toArray), (.slice ta text.length tc), (I6 (i : Int)), (I6 (k : Int))]) Tryz.func75 zLM zLa rfl) (ih x i k (by omega) (by omega) (Nat.lt_of_lt_of_le (zDm hxs (zFF (zCa hxo)) (by omega)) hM') (zCa hxo) _ us _ (zBC.ext E x hxt) (htx.ext E)) ?_
              rintro _ w9 ⟨rfl, X9⟩
              replace B1 := X9.keep B1
              replace Bq := X9.keep Bq
              replace E := E.ext X9
              refine qM (.bool (zAz text x i k)) rfl ?_
              rcases Bool.eq_false_or_eq_true (zAz text x i k) with hA | hA
              · have khA := hA
                refine zAF (oj := _) rfl rfl (by decide) (congrArg Value.bool hA) ?_
                refine qV (zAG (vs := [(I6 3), (.slice none 0 0), (.slice (some ⟨ab, ao + 1 * 6, none⟩) (t.args.length - 1) (ac - 1)), (I6 0), (I6 0), (.bool false)]) rfl zAb zAH rfl (Bq.cells rfl)) ?_
                refine zAF (oj := _) rfl rfl (by decide) (congrArg Value.bool hA) ?_
                refine qM (.slice ta text.length tc) rfl ?_
                refine zAF (oj := _) rfl rfl (by decide) (congrArg Value.bool hA) ?_
                refine qM (I6 (k : Int)) rfl ?_
                refine zAF (oj := _) rfl rfl (by decide) (congrArg Value.bool hA) ?_
                refine qM (I6 (j : Int)) rfl ?_
                refine zAF (oj := _) rfl rfl (by decide) (congrArg Value.bool hA) ?_
                refine zAL rfl rfl (by decide) (zAT (vs := [(.agg #[(I6 3), (.slice none 0 0), (.slice (some ⟨ab, ao + 1 * 6, none⟩) (t.args.length - 1) (ac - 1)), (I6 0), (I6 0), (.bool false)]), (.slice ta text.length tc), (I6 (k : Int)), (I6 (j : Int))]) Tryz.func75 zLM zLa rfl) (ih _ k j (by omega) (by omega) (Nat.lt_of_lt_of_le (zDm hrs (Nat.zero_le _) (by omega)) hM') hrok _ _ _ (zBC.ext E _ hrest) (htx.ext E)) ?_
                rintro _ w19 ⟨rfl, X19⟩
                replace B1 := X19.keep B1
                replace Bq := X19.keep Bq
                replace E := E.ext X19
                refine qV (zAd (b := zAz text x i k) (v := (.bool (zAz text (.mk 3 [] (t.args.drop 1) 0 0 false) k j))) rfl (by rw [hA]; rfl)) ?_
                refine zAB ?_
                refine zAM (b := zAz text (.mk 3 [] (t.args.drop 1) 0 0 false) k j) rfl (fun hB => ?_) (fun hB => ?_)
                · have khB := hB
                  refine zAA ?_
                  refine qA (.bool true) rfl ?_
                  refine zAB (zAQ (zAY (zAI (zAI (zAY (zAY (zAI ?_)))))))
                  refine zAS Tryz.results75 (v := (.bool true)) rfl ?_
                  exact ⟨zDY (hsp.2 ⟨k, by omega, by omega, hA, hB⟩), E⟩
                · have khB := hB
                  refine zAR (zAU (zAC (zAW ?_)))
                  refine qM (I6 (k : Int)) rfl ?_
                  refine qV (zBQ (k := .i64) (a := (k : Int)) (b := 1) (c := (k : Int) + 1) rfl rfl (zBs (by omega))) ?_
                  refine qA (I6 ((k : Int) + 1)) rfl ?_
                  refine zAB (zAC ?_)
                  exact ⟨j + 1 - (k + 1), by omega, k + 1, zBG.out ⟨rfl, rfl, rfl, rfl, rfl, rfl, trivial⟩, E, B1, Bq, (by omega), zCr hp (fun h => absurd h.2 (by rw [hB]; decide)), rfl⟩
              · have khA := hA
                refine zAD (oj := _) rfl rfl (by decide) (v := .bool false) (congrArg Value.bool hA) (Or.inl rfl) ?_
                refine zAD (oj := _) rfl rfl (by decide) (v := .bool false) (congrArg Value.bool hA) (Or.inl rfl) ?_
                refine zAD (oj := _) rfl rfl (by decide) (v := .bool false) (congrArg Value.bool hA) (Or.inl rfl) ?_
                refine zAD (oj := _) rfl rfl (by decide) (v := .bool false) (congrArg Value.bool hA) (Or.inl rfl) ?_
                refine zAD (oj := _) rfl rfl (by decide) (v := .bool false) (congrArg Value.bool hA) (Or.inl rfl) ?_
                refine qV (zAd (b := zAz text x i k) (v := (.bool false)) rfl (by rw [hA]; rfl)) ?_
                refine zAB ?_
                refine zAX rfl ?_
                refine zAR (zAU (zAC (zAW ?_)))
                refine qM (I6 (k : Int)) rfl ?_
                refine qV (zBQ (k := .i64) (a := (k : Int)) (b := 1) (c := (k : Int) + 1) rfl rfl (zBs (by omega))) ?_
                refine qA (I6 ((k : Int) + 1)) rfl ?_
                refine zAB (zAC ?_)
                exact ⟨j + 1 - (k + 1), by omega, k + 1, zBG.out ⟨rfl, rfl, rfl, rfl, rfl, rfl, trivial⟩, E, B1, Bq, (by omega), zCr hp (fun h => absurd h.1 (by rw [hA]; decide)), rfl⟩
            · have khlt := hlt
              replace hlt := of_decide_eq_false hlt
              refine zBB (zAe (zAe (zAr (zAU (zAC (zAA ?_))))))
              refine qA (.bool false) rfl ?_
              refine zAB (zAQ ?_)
              refine zAS Tryz.results75 (v := (.bool false)) rfl ?_
              exact ⟨zCd (fun h => by obtain ⟨m, h1, h2, h3, h4⟩ := hsp.1 h; exact hp m h1 (by omega) ⟨h3, h4⟩), E⟩
      · have kh3 := h3
        replace h3 := of_decide_eq_false h3
        have hokr : zDh t := by
          rcases hok with ⟨h, _⟩ | ⟨h, _⟩
          · exact absurd h h3
          · exact h
        refine zAA ?_
        refine qV (zAg (k := .i64) (a := t.kind) (b := 4) rfl rfl) ?_
        refine qA (.bool (decide ((t.kind : Int) = 4))) rfl ?_
        refine zAB ?_
        refine zAM (b := decide ((t.kind : Int) = 4)) rfl (fun h4 => ?_) (fun h4 => ?_)
        · have kh4 := h4
          replace h4 := of_decide_eq_true h4
          have hsp := rk4 (text := text) h4 (i := i) (j := j)
          refine zAA ?_
          refine qF b1 0 2 rfl Tryz.underlying25 rfl zBI rfl ?_
          refine qV (zAK (v := (.slice aa t.args.length ac)) rfl zAv (B1.cell rfl)) ?_
          refine qV (zAV (ad := aa) (n := t.args.length) (cap := ac) Tryz.underlying23 rfl) ?_
          refine qM (I6 0) rfl ?_
          refine zAB (zAZ ?_)
          refine zBA (fun nn_ σ W13 => ∃ (k : Nat), (∃ jj_, σ = zCl jj_ [(1, (.slice ta text.length tc)), (2, (I6 (i : Int))), (3, (I6 (j : Int))), (82, (.slice aa t.args.length ac)), (83, (I6 (t.args.length : Int))), (84, (I6 (k : Int)))]) ∧ Chg zAh w0 W13 ∧ Blk W13 b1 (R6 t sa sc aa ac) 25 ∧ (k ≤ t.args.length) ∧ ((t.args.any fun a => zAz text a i j) = ((t.args.drop k).any fun a => zAz text a i j)) ∧ nn_ = t.args.length - k) (n := t.args.length - 0) ?_ ?_
          · exact ⟨0, zBG.out ⟨rfl, rfl, rfl, rfl, rfl, rfl, trivial⟩, E, B1, Nat.zero_le _, rfl, rfl⟩
          · clear E B1
            rintro _ _ W13 ⟨k, ⟨j13, rfl⟩, E, B1, hk, hp, rfl⟩
            refine zAA ?_
            refine qV (zBS (k := .i64) (a := (k : Int)) (b := (t.args.length : Int)) rfl rfl) ?_
            refine zAB (zAP ?_)
            refine zAM (b := decide (((k : Int) : Int) < (t.args.length : Int))) rfl (fun hlt => ?_) (fun hlt => ?_)
            · have khlt := hlt
              replace hlt := of_decide_eq_true hlt
              obtain ⟨x, hx⟩ := zAa (l := t.args) (i := k) (by omega)
              have hxo := zCQ hoka hx
              have hxs := Re.size_arg hx
              obtain ⟨ab, ao, rfl, hres⟩ := zDZ hargs (by omega)
              obtain ⟨us, hus, hxt⟩ := hres.get hx
              have hd := zBP hx
              refine zAR (zAC (zAP (zAZ (zAA ?_))))
              refine qV (zAO (b := ab) (o := ao) (len := t.args.length) (cap := ac) (i := k) (o' := ao + k * 6) rfl rfl rfl Tryz.underlying23 zAH (by omega) (by omega)) ?_
              refine qV (zAG (vs := us) rfl zAb zAH hxt.len (hus.ext E)) ?_
              refine zAi (v := (.agg us.toArray)) (c := us.toArray) (n := 6) (by decide) zAs rfl zAH rfl rfl (by simpa using hxt.len) (by simpa using zBC.one hxt) ?_
              intro b15 w15 N15
              have F15 := N15.ge E
              have O15_b1 := N15.lt B1
              replace B1 := N15.keep B1
              replace E := E.ext N15.ext
              have B15 := N15.blk
              refine zAB (zAA ?_)
              refine qV (zAG (vs := us) rfl zAb zAH hxt.len (B15.cells (by simp))) ?_
              refine qM (.slice ta text.length tc) rfl ?_
              refine qM (I6 (i : Int)) rfl ?_
              refine qM (I6 (j : Int)) rfl ?_
              refine zAL rfl rfl (by decide) (zAT (vs := [(.agg us.toArray), (.slice ta text.length tc), (I6 (i : Int)), (I6 (j : Int))]) Tryz.func75 zLM zLa rfl) (ih x i j hij hj (Nat.lt_of_lt_of_le (zDm hxs (zFF (zCa hxo)) (by omega)) hM') (zCa hxo) _ us _ (zBC.ext E x hxt) (htx.ext E)) ?_
              rintro _ w9 ⟨rfl, X9⟩
              replace B1 := X9.keep B1
              replace B15 := X9.keep B15
              replace E := E.ext X9
              refine zAB ?_
              refine zAM (b := zAz text x i j) rfl (fun hB => ?_) (fun hB => ?_)
              · have khB := hB
                refine zAA ?_
                refine qA (.bool true) rfl ?_
                refine zAB (zAQ (zAY (zAI (zAI (zAY (zAY (zAI ?_)))))))
                refine zAS Tryz.results75 (v := (.bool true)) rfl ?_
                exact ⟨zDY (by rw [hsp, hp, hd, List.any_cons, hB]; rfl), E⟩
              · have khB := hB
                refine zAR (zAU (zAC (zAW ?_)))
                refine qV (zBQ (k := .i64) (a := (k : Int)) (b := 1) (c := (k : Int) + 1) rfl rfl (zBs (by omega))) ?_
                refine qM (I6 ((k : Int) + 1)) rfl ?_
                refine zAB (zAC ?_)
                exact ⟨t.args.length - (k + 1), by omega, k + 1, zBG.out ⟨rfl, rfl, rfl, rfl, rfl, rfl, trivial⟩, E, B1, (by omega), (by rw [hp, hd, List.any_cons, hB]; rfl), rfl⟩
            · have khlt := hlt
              replace hlt := of_decide_eq_false hlt
              have hkl : t.args.drop k = [] := List.drop_eq_nil_of_le (by omega)
              refine zBB (zAe (zAe (zAr (zAU (zAC (zAA ?_))))))
              refine qA (.bool false) rfl ?_
              refine zAB (zAQ ?_)
              refine zAS Tryz.results75 (v := (.bool false)) rfl ?_
              exact ⟨zCd (by rw [hsp, hp, hkl]; simp), E⟩
        · have kh4 := h4
          replace h4 := of_decide_eq_false h4
          refine zAA ?_
          refine qV (zAg (k := .i64) (a := t.kind) (b := 5) rfl rfl) ?_
          refine qA (.bool (decide ((t.kind : Int) = 5))) rfl ?_
          refine zAB ?_
          refine zAM (b := decide ((t.kind : Int) = 5)) rfl (fun h5 => ?_) (fun h5 => ?_)
          · have kh5 := h5
            replace h5 := of_decide_eq_true h5
            have hone := zEa hokr (by omega)
            obtain ⟨x, hx⟩ := zAa (l := t.args) (i := 0) (by omega)
            have hxo := zCQ hoka hx
            have hxs := Re.size_arg hx
            obtain ⟨ab, ao, rfl, hres⟩ := zDZ hargs (by omega)
            obtain ⟨us, hus, hxt⟩ := hres.get hx
            have hsp := rk5 hn h5 hx (i := i) (j := j) (by omega)
            refine zAP (zAA ?_)
            refine qM (I6 (i : Int)) rfl ?_
            refine qM (I6 (j : Int)) rfl ?_
            refine qV (zAg (k := .i64) (a := (i : Int)) (b := (j : Int)) rfl rfl) ?_
            refine zAB ?_
            refine zAM (b := decide (((i : Int) : Int) = (j : Int))) rfl (fun he => ?_) (fun he => ?_)
            · have khe := he
              replace he := of_decide_eq_true he
              refine zAA ?_
              refine qA (.bool true) rfl ?_
              refine zAB (zAQ (zAI (zAY (zAI ?_))))
              refine zAS Tryz.results75 (v := (.bool true)) rfl ?_
              exact ⟨zDY (hsp.2 (.inl (by omega))), E⟩
            · have khe := he
              replace he := of_decide_eq_false he
              refine zAR (zAC (zAA ?_))
              refine qM (I6 (i : Int)) rfl ?_
              refine qV (zBQ (k := .i64) (a := (i : Int)) (b := 1) (c := ((i + 1 : Nat) : Int)) rfl rfl (by rw [zBs (by omega)]; omega)) ?_
              refine qA (I6 ((i + 1 : Nat) : Int)) rfl ?_
              refine zAB (zAZ ?_)
              refine zBA (fun nn_ σ W19 => ∃ (k : Nat), (∃ jj_, σ = zCl jj_ [(1, (.slice ta text.length tc)), (2, (I6 (i : Int))), (3, (I6 (j : Int))), (4, (P6 b1 0)), (13, (I6 (k : Int)))]) ∧ Chg zAh w0 W19 ∧ Blk W19 b1 (R6 t sa sc (some ⟨ab, ao, none⟩) ac) 25 ∧ (i + 1 ≤ k ∧ k ≤ j + 1) ∧ (∀ m, i + 1 ≤ m → m < k → ¬ (zAz text x i m = true ∧ zAz text t m j = true)) ∧ nn_ = j + 1 - k) (n := j + 1 - (i + 1)) ?_ ?_
              · exact ⟨i + 1, zBG.out ⟨rfl, rfl, rfl, rfl, rfl, trivial⟩, E, B1, (by omega), (fun m h1 h2 => by omega), rfl⟩
              · clear E B1
                rintro _ _ W19 ⟨k, ⟨j19, rfl⟩, E, B1, hk, hp, rfl⟩
                refine zAP (zAA ?_)
                refine qM (I6 (k : Int)) rfl ?_
                refine qM (I6 (j : Int)) rfl ?_
                refine qV (zDu (k := .i64) (a := (k : Int)) (b := (j : Int)) rfl rfl) ?_
                refine zAB ?_
                refine zAM (b := decide (((k : Int) : Int) ≤ (j : Int))) rfl (fun hlt => ?_) (fun hlt => ?_)
                · have khlt := hlt
                  replace hlt := of_decide_eq_true hlt
                  refine zAR (zAC (zAP (zAZ (zAA ?_))))
                  refine qF b1 0 2 rfl Tryz.underlying25 rfl zBI rfl ?_
                  refine qV (zAK (v := (.slice (some ⟨ab, ao, none⟩) t.args.length ac)) rfl zAv (B1.cell rfl)) ?_
                  refine qV (zAO (b := ab) (o := ao) (len := t.args.length) (cap := ac) (i := 0) (o' := ao + 0 * 6) rfl rfl rfl Tryz.underlying23 zAH (by omega) (by omega)) ?_
                  refine qV (zAG (vs := us) rfl zAb zAH hxt.len (hus.ext E)) ?_
                  refine qM (.slice ta text.length tc) rfl ?_
                  refine qM (I6 (i : Int)) rfl ?_
                  refine qM (I6 (k : Int)) rfl ?_
                  refine zAL rfl rfl (by decide) (zAT (vs := [(.agg us.toArray), (.slice ta text.length tc), (I6 (i : Int)), (I6 (k : Int))]) Tryz.func75 zLM zLa rfl) (ih x i k (by omega) (by omega) (Nat.lt_of_lt_of_le (zDm hxs (zFF (zCa hxo)) (by omega)) hM') (zCa hxo) _ us _ (zBC.ext E x hxt) (htx.ext E)) ?_
                  rintro _ w9 ⟨rfl, X9⟩
                  replace B1 := X9.keep B1
                  replace E := E.ext X9
                  refine qM (.bool (zAz text x i k)) rfl ?_
                  rcases Bool.eq_false_or_eq_true (zAz text x i k) with hA | hA
                  · have khA := hA
                    refine zAF (oj := _) rfl rfl (by decide) (congrArg Value.bool hA) ?_
                    refine qV (zAG (vs := [(I6 t.kind), (.slice sa t.set.length sc), (.slice (some ⟨ab, ao, none⟩) t.args.length ac), (I6 t.mn), (I6 t.mx), (.bool t.neg)]) rfl zAb zAH rfl (B1.cells rfl)) ?_
                    refine zAF (oj := _) rfl rfl (by decide) (congrArg Value.bool hA) ?_
                    refine qM (.slice ta text.length tc) rfl ?_
                    refine zAF (oj := _) rfl rfl (by decide) (congrArg Value.bool hA) ?_
                    refine qM (I6 (k : Int)) rfl ?_
                    refine zAF (oj := _) rfl rfl (by decide) (congrArg Value.bool hA) ?_
                    refine qM (I6 (j : Int)) rfl ?_
                    refine zAF (oj := _) rfl rfl (by decide) (congrArg Value.bool hA) ?_
                    refine zAL rfl rfl (by decide) (zAT (vs := [(.agg (R6 t sa sc (some ⟨ab, ao, none⟩) ac)), (.slice ta text.length tc), (I6 (k : Int)), (I6 (j : Int))]) Tryz.func75 zLM zLa rfl) (ih t k j (by omega) (by omega) (by unfold msr at hM' ⊢; omega) hok0 _ _ _ (zBC.ext E t ht0) (htx.ext E)) ?_
                    rintro _ w19 ⟨rfl, X19⟩
                    replace B1 := X19.keep B1
                    replace E := E.ext X19
                    refine qV (zAd (b := zAz text x i k) (v := (.bool (zAz text t k j))) rfl (by rw [hA]; rfl)) ?_
                    refine zAB ?_
                    refine zAM (b := zAz text t k j) rfl (fun hB => ?_) (fun hB => ?_)
                    · have khB := hB
                      refine zAA ?_
                      refine qA (.bool true) rfl ?_
                      refine zAB (zAQ (zAY (zAI (zAI (zAY (zAY (zAI ?_)))))))
                      refine zAS Tryz.results75 (v := (.bool true)) rfl ?_
                      exact ⟨zDY (hsp.2 (.inr ⟨k, by omega, by omega, hA, hB⟩)), E⟩
                    · have khB := hB
                      refine zAR (zAU (zAC (zAW ?_)))
                      refine qM (I6 (k : Int)) rfl ?_
                      refine qV (zBQ (k := .i64) (a := (k : Int)) (b := 1) (c := (k : Int) + 1) rfl rfl (zBs (by omega))) ?_
                      refine qA (I6 ((k : Int) + 1)) rfl ?_
                      refine zAB (zAC ?_)
                      exact ⟨j + 1 - (k + 1), by omega, k + 1, zBG.out ⟨rfl, rfl, rfl, rfl, rfl, trivial⟩, E, B1, (by omega), zCr hp (fun h => absurd h.2 (by rw [hB]; decide)), rfl⟩
                  · have khA := hA
                    refine zAD (oj := _) rfl rfl (by decide) (v := .bool false) (congrArg Value.bool hA) (Or.inl rfl) ?_
                    refine zAD (oj := _) rfl rfl (by decide) (v := .bool false) (congrArg Value.bool hA) (Or.inl rfl) ?_
                    refine zAD (oj := _) rfl rfl (by decide) (v := .bool false) (congrArg Value.bool hA) (Or.inl rfl) ?_
                    refine zAD (oj := _) rfl rfl (by decide) (v := .bool false) (congrArg Value.bool hA) (Or.inl rfl) ?_
                    refine zAD (oj := _) rfl rfl (by decide) (v := .bool false) (congrArg Value.bool hA) (Or.inl rfl) ?_
                    refine qV (zAd (b := zAz text x i k) (v := (.bool false)) rfl (by rw [hA]; rfl)) ?_
                    refine zAB ?_
                    refine zAX rfl ?_
                    refine zAR (zAU (zAC (zAW ?_)))
                    refine qM (I6 (k : Int)) rfl ?_
                    refine qV (zBQ (k := .i64) (a := (k : Int)) (b := 1) (c := (k : Int) + 1) rfl rfl (zBs (by omega))) ?_
                    refine qA (I6 ((k : Int) + 1)) rfl ?_
                    refine zAB (zAC ?_)
                    exact ⟨j + 1 - (k + 1), by omega, k + 1, zBG.out ⟨rfl, rfl, rfl, rfl, rfl, trivial⟩, E, B1, (by omega), zCr hp (fun h => absurd h.1 (by rw [hA]; decide)), rfl⟩
                · have khlt := hlt
                  replace hlt := of_decide_eq_false hlt
                  refine zBB (zAe (zAe (zAr (zAU (zAC (zAA ?_))))))
                  refine qA (.bool false) rfl ?_
                  refine zAB (zAQ ?_)
                  refine zAS Tryz.results75 (v := (.bool false)) rfl ?_
                  exact ⟨zCd (fun h => by rcases hsp.1 h with h | ⟨m, h1, h2, h3, h4⟩; omega; exact hp m h1 (by omega) ⟨h3, h4⟩), E⟩
          · have kh5 := h5
            replace h5 := of_decide_eq_false h5
            refine zAA ?_
            refine qV (zAg (k := .i64) (a := t.kind) (b := 6) rfl rfl) ?_
            refine qA (.bool (decide ((t.kind : Int) = 6))) rfl ?_
            refine zAB ?_
            refine zAM (b := decide ((t.kind : Int) = 6)) rfl (fun h6 => ?_) (fun h6 => ?_)
            · have kh6 := h6
              replace h6 := of_decide_eq_true h6
              refine zAA ?_
              refine qV (zAG (vs := [(I6 t.kind), (.slice sa t.set.length sc), (.slice aa t.args.length ac), (I6 t.mn), (I6 t.mx), (.bool t.neg)]) rfl zAb zAH rfl (B1.cells rfl)) ?_
              refine qM (.slice ta text.length tc) rfl ?_
              refine qM (I6 (i : Int)) rfl ?_
              refine qM (I6 (j : Int)) rfl ?_
              refine zAL rfl rfl (by decide) (zAT (vs := [(.agg (R6 t sa sc aa ac)), (.slice ta text.length tc), (I6 (i : Int)), (I6 (j : Int))]) Tryz.func133 nm133 bd133 rfl) (zMI text hn M ih t i j hij hj hM' hokr h6 _ _ _ (zBC.ext E t ht0) (htx.ext E)) ?_
              rintro _ w9 ⟨rfl, X9⟩
              replace B1 := X9.keep B1
              replace E := E.ext X9
              refine qA (.bool (zAz text t i j)) rfl ?_
              refine zAB (zAQ (zAY (zAI ?_)))
              refine zAS Tryz.results75 (v := (.bool (zAz text t i j))) rfl ?_
              exact ⟨rfl, E⟩
            · have kh6 := h6
              replace h6 := of_decide_eq_false h6
              refine zAA ?_
              refine qV (zAg (k := .i64) (a := t.kind) (b := 7) rfl rfl) ?_
              refine qA (.bool (decide ((t.kind : Int) = 7))) rfl ?_
              refine zAB ?_
              refine zAM (b := decide ((t.kind : Int) = 7)) rfl (fun h7 => ?_) (fun h7 => ?_)
              · have kh7 := h7
                replace h7 := of_decide_eq_true h7
                have hsp := rk7 (text := text) h7 (by have := zHn hokr (by omega); omega) (i := i) (j := j)
                refine zAP (zAA ?_)
                refine qF b1 0 2 rfl Tryz.underlying25 rfl zBI rfl ?_
                refine qV (zAK (v := (.slice aa t.args.length ac)) rfl zAv (B1.cell rfl)) ?_
                refine qV (zAV (ad := aa) (n := t.args.length) (cap := ac) Tryz.underlying23 rfl) ?_
                refine qM (I6 0) rfl ?_
                refine zAB (zAZ ?_)
                refine zBA (fun nn_ σ W25 => ∃ (k : Nat), (∃ jj_, σ = zCl jj_ [(1, (.slice ta text.length tc)), (2, (I6 (i : Int))), (3, (I6 (j : Int))), (131, (.slice aa t.args.length ac)), (132, (I6 (t.args.length : Int))), (133, (I6 (k : Int)))]) ∧ Chg zAh w0 W25 ∧ Blk W25 b1 (R6 t sa sc aa ac) 25 ∧ (k ≤ t.args.length) ∧ ((t.args.all fun a => zAz text a i j) = ((t.args.drop k).all fun a => zAz text a i j)) ∧ nn_ = t.args.length - k) (n := t.args.length - 0) ?_ ?_
                · exact ⟨0, zBG.out ⟨rfl, rfl, rfl, rfl, rfl, rfl, trivial⟩, E, B1, Nat.zero_le _, rfl, rfl⟩
                · clear E B1
                  rintro _ _ W25 ⟨k, ⟨j25, rfl⟩, E, B1, hk, hp, rfl⟩
                  refine zAA ?_
                  refine qV (zBS (k := .i64) (a := (k : Int)) (b := (t.args.length : Int)) rfl rfl) ?_
                  refine zAB (zAP ?_)
                  refine zAM (b := decide (((k : Int) : Int) < (t.args.length : Int))) rfl (fun hlt => ?_) (fun hlt => ?_)
                  · have khlt := hlt
                    replace hlt := of_decide_eq_true hlt
                    obtain ⟨x, hx⟩ := zAa (l := t.args) (i := k) (by omega)
                    have hxo := zCQ hoka hx
                    have hxs := Re.size_arg hx
                    obtain ⟨ab, ao, rfl, hres⟩ := zDZ hargs (by omega)
                    obtain ⟨us, hus, hxt⟩ := hres.get hx
                    have hd := zBP hx
                    refine zAR (zAC (zAP (zAZ (zAA ?_))))
                    refine qV (zAO (b := ab) (o := ao) (len := t.args.length) (cap := ac) (i := k) (o' := ao + k * 6) rfl rfl rfl Tryz.underlying23 zAH (by omega) (by omega)) ?_
                    refine qV (zAG (vs := us) rfl zAb zAH hxt.len (hus.ext E)) ?_
                    refine zAi (v := (.agg us.toArray)) (c := us.toArray) (n := 6) (by decide) zAs rfl zAH rfl rfl (by simpa using hxt.len) (by simpa using zBC.one hxt) ?_
                    intro b27 w27 N27
                    have F27 := N27.ge E
                    have O27_b1 := N27.lt B1
                    replace B1 := N27.keep B1
                    replace E := E.ext N27.ext
                    have B27 := N27.blk
                    refine zAB (zAA ?_)
                    refine qV (zAG (vs := us) rfl zAb zAH hxt.len (B27.cells (by simp))) ?_
                    refine qM (.slice ta text.length tc) rfl ?_
                    refine qM (I6 (i : Int)) rfl ?_
                    refine qM (I6 (j : Int)) rfl ?_
                    refine zAL rfl rfl (by decide) (zAT (vs := [(.agg us.toArray), (.slice ta text.length tc), (I6 (i : Int)), (I6 (j : Int))]) Tryz.func75 zLM zLa rfl) (ih x i j hij hj (Nat.lt_of_lt_of_le (zDm hxs (zFF (zCa hxo)) (by omega)) hM') (zCa hxo) _ us _ (zBC.ext E x hxt) (htx.ext E)) ?_
                    rintro _ w9 ⟨rfl, X9⟩
                    replace B1 := X9.keep B1
                    replace B27 := X9.keep B27
                    replace E := E.ext X9
                    refine qV (zCV (b := zAz text x i j) rfl) ?_
                    refine zAB ?_
                    refine zAM (b := !(zAz text x i j)) rfl (fun hB => ?_) (fun hB => ?_)
                    · have khB := hB
                      replace hB := by simpa using hB
                      refine zAA ?_
                      refine qA (.bool false) rfl ?_
                      refine zAB (zAQ (zAY (zAI (zAI (zAY (zAI (zAY (zAI ?_))))))))
                      refine zAS Tryz.results75 (v := (.bool false)) rfl ?_
                      exact ⟨zCd (by rw [hsp, hp, hd, List.all_cons, hB]; simp), E⟩
                    · have khB := hB
                      replace hB := by simpa using hB
                      refine zAR (zAU (zAC (zAW ?_)))
                      refine qV (zBQ (k := .i64) (a := (k : Int)) (b := 1) (c := (k : Int) + 1) rfl rfl (zBs (by omega))) ?_
                      refine qM (I6 ((k : Int) + 1)) rfl ?_
                      refine zAB (zAC ?_)
                      exact ⟨t.args.length - (k + 1), by omega, k + 1, zBG.out ⟨rfl, rfl, rfl, rfl, rfl, rfl, trivial⟩, E, B1, (by omega), (by rw [hp, hd, List.all_cons, hB]; rfl), rfl⟩
                  · have khlt := hlt
                    replace hlt := of_decide_eq_false hlt
                    have hkl : t.args.drop k = [] := List.drop_eq_nil_of_le (by omega)
                    refine zBB (zAe (zAe (zAr (zAC (zAA ?_)))))
                    refine qA (.bool true) rfl ?_
                    refine zAB (zAQ (zAY (zAI ?_)))
                    refine zAS Tryz.results75 (v := (.bool true)) rfl ?_
                    exact ⟨zDY (by rw [hsp, hp, hkl]; rfl), E⟩
              · have kh7 := h7
                replace h7 := of_decide_eq_false h7
                refine zAA ?_
                refine qV (zAg (k := .i64) (a := t.kind) (b := 8) rfl rfl) ?_
                refine qA (.bool (decide ((t.kind : Int) = 8))) rfl ?_
                refine zAB ?_
                refine zAM (b := decide ((t.kind : Int) = 8)) rfl (fun h8 => ?_) (fun h8 => ?_)
                · have kh8 := h8
                  replace h8 := of_decide_eq_true h8
                  have hone := zEa hokr (by omega)
                  obtain ⟨x, hx⟩ := zAa (l := t.args) (i := 0) (by omega)
                  have hxo := zCQ hoka hx
                  have hxs := Re.size_arg hx
                  obtain ⟨ab, ao, rfl, hres⟩ := zDZ hargs (by omega)
                  obtain ⟨us, hus, hxt⟩ := hres.get hx
                  refine zAA ?_
                  refine qF b1 0 2 rfl Tryz.underlying25 rfl zBI rfl ?_
                  refine qV (zAK (v := (.slice (some ⟨ab, ao, none⟩) t.args.length ac)) rfl zAv (B1.cell rfl)) ?_
                  refine qV (zAO (b := ab) (o := ao) (len := t.args.length) (cap := ac) (i := 0) (o' := ao + 0 * 6) rfl rfl rfl Tryz.underlying23 zAH (by omega) (by omega)) ?_
                  refine qV (zAG (vs := us) rfl zAb zAH hxt.len (hus.ext E)) ?_
                  refine qM (.slice ta text.length tc) rfl ?_
                  refine qM (I6 (i : Int)) rfl ?_
                  refine qM (I6 (j : Int)) rfl ?_
                  refine zAL rfl rfl (by decide) (zAT (vs := [(.agg us.toArray), (.slice ta text.length tc), (I6 (i : Int)), (I6 (j : Int))]) Tryz.func75 zLM zLa rfl) (ih x i j hij hj (Nat.lt_of_lt_of_le (zDm hxs (zFF (zCa hxo)) (by omega)) hM') (zCa hxo) _ us _ (zBC.ext E x hxt) (htx.ext E)) ?_
                  rintro _ w9 ⟨rfl, X9⟩
                  replace B1 := X9.keep B1
                  replace E := E.ext X9
                  refine qV (zCV (b := zAz text x i j) rfl) ?_
                  refine qA (.bool (!(zAz text x i j))) rfl ?_
                  refine zAB (zAQ (zAY (zAI ?_)))
                  refine zAS Tryz.results75 (v := (.bool (!(zAz text x i j)))) rfl ?_
                  exact ⟨zAt (rk8 h8 hx hij hj).symm, E⟩
                · have kh8 := h8
                  replace h8 := of_decide_eq_false h8
                  refine zAA ?_
                  refine qV (zAg (k := .i64) (a := t.kind) (b := 9) rfl rfl) ?_
                  refine qA (.bool (decide ((t.kind : Int) = 9))) rfl ?_
                  refine zAB ?_
                  refine zAM (b := decide ((t.kind : Int) = 9)) rfl (fun h9 => ?_) (fun h9 => ?_)
                  · have kh9 := h9
                    replace h9 := of_decide_eq_true h9
                    have hone := zEa hokr (by omega)
                    obtain ⟨x, hx⟩ := zAa (l := t.args) (i := 0) (by omega)
                    have hxo := zCQ hoka hx
                    have hxs := Re.size_arg hx
                    obtain ⟨ab, ao, rfl, hres⟩ := zDZ hargs (by omega)
                    obtain ⟨us, hus, hxt⟩ := hres.get hx
                    refine zAA ?_
                    refine qF b1 0 2 rfl Tryz.underlying25 rfl zBI rfl ?_
                    refine qV (zAK (v := (.slice (some ⟨ab, ao, none⟩) t.args.length ac)) rfl zAv (B1.cell rfl)) ?_
                    refine qV (zAO (b := ab) (o := ao) (len := t.args.length) (cap := ac) (i := 0) (o' := ao + 0 * 6) rfl rfl rfl Tryz.underlying23 zAH (by omega) (by omega)) ?_
                    refine qV (zAG (vs := us) rfl zAb zAH hxt.len (hus.ext E)) ?_
                    refine qM (.slice ta text.length tc) rfl ?_
                    refine qM (I6 (i : Int)) rfl ?_
                    refine qM (I6 (j : Int)) rfl ?_
                    refine zAL rfl rfl (by decide) (zAT (vs := [(.agg us.toArray), (.slice ta text.length tc), (I6 (i : Int)), (I6 (j : Int))]) Tryz.func75 zLM zLa rfl) (ih x i j hij hj (Nat.lt_of_lt_of_le (zDm hxs (zFF (zCa hxo)) (by omega)) hM') (zCa hxo) _ us _ (zBC.ext E x hxt) (htx.ext E)) ?_
                    rintro _ w9 ⟨rfl, X9⟩
                    replace B1 := X9.keep B1
                    replace E := E.ext X9
                    refine qA (.bool (zAz text x i j)) rfl ?_
                    refine zAB (zAQ (zAY (zAI ?_)))
                    refine zAS Tryz.results75 (v := (.bool (zAz text x i j))) rfl ?_
                    exact ⟨zAt (by rw [rk9 h9 hx]), E⟩
                  · have kh9 := h9
                    replace h9 := of_decide_eq_false h9
                    refine zAA ?_
                    refine qV (zAg (k := .i64) (a := t.kind) (b := 10) rfl rfl) ?_
                    refine qA (.bool (decide ((t.kind : Int) = 10))) rfl ?_
                    refine zAB ?_
                    refine zAM (b := decide ((t.kind : Int) = 10)) rfl (fun h10 => ?_) (fun h10 => ?_)
                    · have kh10 := h10
                      replace h10 := of_decide_eq_true h10
                      have hone := zEa hokr (by omega)
                      obtain ⟨x, hx⟩ := zAa (l := t.args) (i := 0) (by omega)
                      have hxo := zCQ hoka hx
                      have hxs := Re.size_arg hx
                      obtain ⟨ab, ao, rfl, hres⟩ := zDZ hargs (by omega)
                      obtain ⟨us, hus, hxt⟩ := hres.get hx
                      have hsp := rk10 hn h10 hx (i := i) (j := j) (by omega)
                      refine zAA ?_
                      refine qA (.bool false) rfl ?_
                      refine zAB (zAP (zAA ?_))
                      refine qM (I6 (i : Int)) rfl ?_
                      refine qA (I6 (i : Int)) rfl ?_
                      refine zAB (zAZ ?_)
                      refine zBA (fun nn_ σ W32 => ∃ (k : Nat) (s : Bool), (∃ jj_, σ = zCl jj_ [(1, (.slice ta text.length tc)), (2, (I6 (i : Int))), (3, (I6 (j : Int))), (4, (P6 b1 0)), (17, (I6 (k : Int))), (16, (.bool s))]) ∧ Chg zAh w0 W32 ∧ Blk W32 b1 (R6 t sa sc (some ⟨ab, ao, none⟩) ac) 25 ∧ (i ≤ k ∧ k ≤ text.length + 1) ∧ (s = (List.range k).any fun m => decide (i ≤ m) && zAz text x i m) ∧ (i ≠ j → k = i) ∧ nn_ = text.length + 1 - k) (n := text.length + 1 - i) ?_ ?_
                      · exact ⟨i, false, zBG.out ⟨rfl, rfl, rfl, rfl, rfl, rfl, trivial⟩, E, B1, (by omega), (by symm; rw [List.any_eq_false]; intro m hm; simp at hm ⊢; omega), (fun _ => rfl), rfl⟩
                      · clear E B1
                        rintro _ _ W32 ⟨k, s, ⟨j32, rfl⟩, E, B1, hk, hp, hq, rfl⟩
                        refine zAP (zAA ?_)
                        refine qM (I6 (k : Int)) rfl ?_
                        refine qM (.slice ta text.length tc) rfl ?_
                        refine qV (zAV (ad := ta) (n := text.length) (cap := tc) Tryz.underlying26 rfl) ?_
                        obtain ⟨e33, he33⟩ : ∃ e, (decide ((((k : Nat) : Int) : Int) ≤ ((text.length : Nat) : Int))) = e := ⟨_, rfl⟩
                        refine qV ((zDu (k := .i64) (a := (k : Int)) (b := (text.length : Int)) rfl rfl).trans (by rw [he33]; try rfl)) ?_
                        refine qM (.bool e33) rfl ?_
                        refine qG (.bool e33) (yU e33 (I6 (i : Int))) (by cases e33 <;> first | exact gA | exact gB | exact .inl ⟨rfl, zAn (v := (I6 (i : Int))) rfl⟩) ?_
                        refine qG (.bool e33) (yU e33 (I6 (j : Int))) (by cases e33 <;> first | exact gA | exact gB | exact .inl ⟨rfl, zAn (v := (I6 (j : Int))) rfl⟩) ?_
                        obtain ⟨e34, he34⟩ : ∃ e, (decide ((((i : Nat) : Int) : Int) = ((j : Nat) : Int))) = e := ⟨_, rfl⟩
                        refine qG (.bool e33) (yU e33 (.bool e34)) (by cases e33 <;> first | exact gA | exact gB | exact .inl ⟨rfl, (zAg (k := .i64) (a := (i : Int)) (b := (j : Int)) rfl rfl).trans (by rw [he34]; try rfl)⟩) ?_
                        obtain ⟨e35, he35⟩ : ∃ e, (e33 && e34) = e := ⟨_, rfl⟩
                        refine qV (zAd (b := e33) (v := .bool e35) rfl (by rw [← he35]; cases e33 <;> rfl)) ?_
                        refine zAB ?_
                        subst he35
                        subst he34
                        subst he33
                        refine zAM (b := ((decide (((k : Int) : Int) ≤ (text.length : Int))) && (decide (((i : Int) : Int) = (j : Int))))) rfl (fun hlt => ?_) (fun hlt => ?_)
                        · have khlt := hlt
                          simp at hlt
                          refine zAR (zAC (zAP (zAZ (zAW ?_))))
                          refine qM (.bool s) rfl ?_
                          refine qM (.bool s) rfl ?_
                          rcases Bool.eq_false_or_eq_true (s) with hS | hS
                          · have khS := hS
                            refine zAD (oj := _) rfl rfl (by decide) (v := .bool true) (congrArg Value.bool hS) (Or.inl rfl) ?_
                            refine zAD (oj := _) rfl rfl (by decide) (v := .bool true) (congrArg Value.bool hS) (Or.inl rfl) ?_
                            refine zAD (oj := _) rfl rfl (by decide) (v := .bool true) (congrArg Value.bool hS) (Or.inl rfl) ?_
                            refine zAD (oj := _) rfl rfl (by decide) (v := .bool true) (congrArg Value.bool hS) (Or.inl rfl) ?_
                            refine zAD (oj := _) rfl rfl (by decide) (v := .bool true) (congrArg Value.bool hS) (Or.inl rfl) ?_
                            refine zAD (oj := _) rfl rfl (by decide) (v := .bool true) (congrArg Value.bool hS) (Or.inl rfl) ?_
                            refine zAD (oj := _) rfl rfl (by decide) (v := .bool true) (congrArg Value.bool hS) (Or.inl rfl) ?_
                            refine zAD (oj := _) rfl rfl (by decide) (v := .bool true) (congrArg Value.bool hS) (Or.inl rfl) ?_
                            refine qV (zAd (b := s) (v := (.bool true)) rfl (by rw [hS]; rfl)) ?_
                            refine qA (.bool true) rfl ?_
                            refine zAB (zAU (zAC (zAW ?_)))
                            refine qM (I6 (k : Int)) rfl ?_
                            refine qV (zBQ (k := .i64) (a := (k : Int)) (b := 1) (c := (k : Int) + 1) rfl rfl (zBs (by omega))) ?_
                            refine qA (I6 ((k : Int) + 1)) rfl ?_
                            refine zAB (zAC ?_)
                            exact ⟨text.length + 1 - (k + 1), by omega, k + 1, true, zBG.out ⟨rfl, rfl, rfl, rfl, rfl, rfl, trivial⟩, E, B1, (by omega), (by rw [zEn, ← hp, hS]; rfl), (fun h => by omega), rfl⟩
                          · have khS := hS
                            refine zAF (oj := _) rfl rfl (by decide) (congrArg Value.bool hS) ?_
                            refine qF b1 0 2 rfl Tryz.underlying25 rfl zBI rfl ?_
                            refine zAF (oj := _) rfl rfl (by decide) (congrArg Value.bool hS) ?_
                            refine qV (zAK (v := (.slice (some ⟨ab, ao, none⟩) t.args.length ac)) rfl zAv (B1.cell rfl)) ?_
                            refine zAF (oj := _) rfl rfl (by decide) (congrArg Value.bool hS) ?_
                            refine qV (zAO (b := ab) (o := ao) (len := t.args.length) (cap := ac) (i := 0) (o' := ao + 0 * 6) rfl rfl rfl Tryz.underlying23 zAH (by omega) (by omega)) ?_
                            refine zAF (oj := _) rfl rfl (by decide) (congrArg Value.bool hS) ?_
                            refine qV (zAG (vs := us) rfl zAb zAH hxt.len (hus.ext E)) ?_
                            refine zAF (oj := _) rfl rfl (by decide) (congrArg Value.bool hS) ?_
                            refine qM (.slice ta text.length tc) rfl ?_
                            refine zAF (oj := _) rfl rfl (by decide) (congrArg Value.bool hS) ?_
                            refine qM (I6 (i : Int)) rfl ?_
                            refine zAF (oj := _) rfl rfl (by decide) (congrArg Value.bool hS) ?_
                            refine qM (I6 (k : Int)) rfl ?_
                            refine zAF (oj := _) rfl rfl (by decide) (congrArg Value.bool hS) ?_
                            refine zAL rfl rfl (by decide) (zAT (vs := [(.agg us.toArray), (.slice ta text.length tc), (I6 (i : Int)), (I6 (k : Int))]) Tryz.func75 zLM zLa rfl) (ih x i k (by omega) (by omega) (Nat.lt_of_lt_of_le (zDm hxs (zFF (zCa hxo)) (by omega)) hM') (zCa hxo) _ us _ (zBC.ext E x hxt) (htx.ext E)) ?_
                            rintro _ w9 ⟨rfl, X9⟩
                            replace B1 := X9.keep B1
                            replace E := E.ext X9
                            refine qV (zAd (b := s) (v := (.bool (zAz text x i k))) rfl (by rw [hS]; rfl)) ?_
                            refine qA (.bool (zAz text x i k)) rfl ?_
                            refine zAB (zAU (zAC (zAW ?_)))
                            refine qM (I6 (k : Int)) rfl ?_
                            refine qV (zBQ (k := .i64) (a := (k : Int)) (b := 1) (c := (k : Int) + 1) rfl rfl (zBs (by omega))) ?_
                            refine qA (I6 ((k : Int) + 1)) rfl ?_
                            refine zAB (zAC ?_)
                            exact ⟨text.length + 1 - (k + 1), by omega, k + 1, zAz text x i k, zBG.out ⟨rfl, rfl, rfl, rfl, rfl, rfl, trivial⟩, E, B1, (by omega), (by rw [zEn, ← hp, hS, show decide (i ≤ k) = true from decide_eq_true (by omega)]; rfl), (fun h => by omega), rfl⟩
                        · have khlt := hlt
                          simp at hlt
                          refine zBB (zAe (zAe (zAr (zAC (zAA ?_)))))
                          refine qM (I6 (i : Int)) rfl ?_
                          refine qM (I6 (j : Int)) rfl ?_
                          obtain ⟨e38, he38⟩ : ∃ e, (decide ((((i : Nat) : Int) : Int) = ((j : Nat) : Int))) = e := ⟨_, rfl⟩
                          refine qV ((zAg (k := .i64) (a := (i : Int)) (b := (j : Int)) rfl rfl).trans (by rw [he38]; try rfl)) ?_
                          refine qM (.bool e38) rfl ?_
                          refine qG (.bool e38) (yU e38 (.bool s)) (by cases e38 <;> first | exact gA | exact gB | exact .inl ⟨rfl, zAn (v := (.bool s)) rfl⟩) ?_
                          refine qG (.bool e38) (yU e38 (P6 b1 5)) (by cases e38 <;> first | exact gA | exact gB | exact .inl ⟨rfl, zAN (b := b1) (o := 0) (o' := 5) rfl Tryz.underlying25 rfl zNq rfl⟩) ?_
                          refine qG (.bool e38) (yU e38 (.bool t.neg)) (by cases e38 <;> first | exact gA | exact gB | exact .inl ⟨rfl, zAK (v := (.bool t.neg)) rfl zHv (B1.cell rfl)⟩) ?_
                          refine qG (.bool e38) (yU e38 (.bool (s != t.neg))) (by cases e38 <;> first | exact gA | exact gB | exact .inl ⟨rfl, zMQ (p := s) (q := t.neg) Tryz.underlying4 rfl rfl⟩) ?_
                          obtain ⟨e39, he39⟩ : ∃ e, (e38 && (s != t.neg)) = e := ⟨_, rfl⟩
                          refine qV (zAd (b := e38) (v := .bool e39) rfl (by rw [← he39]; cases e38 <;> rfl)) ?_
                          refine qA (.bool e39) rfl ?_
                          refine zAB ?_
                          subst he39
                          subst he38
                          refine zAQ (zAY (zAI ?_))
                          refine zAS Tryz.results75 (v := (.bool ((decide ((((i : Nat) : Int) : Int) = ((j : Nat) : Int))) && (s != t.neg)))) rfl ?_
                          exact ⟨zAt (by rw [hsp]; by_cases hh : i = j; obtain rfl : k = text.length + 1 := (by omega); rw [← hp]; subst hh; simp; simp [hh, show ¬ ((i : Int) = (j : Int)) from by omega]), E⟩
                    · have kh10 := h10
                      replace h10 := of_decide_eq_false h10
                      have h0 : t.kind = 0 := by have := zDT hokr; omega
                      refine zAR (zAU (zAC (zAA ?_)))
                      refine qA (.bool false) rfl ?_
                      refine zAB (zAQ ?_)
                      refine zAS Tryz.results75 (v := (.bool false)) rfl ?_
                      exact ⟨zCd (by rw [rk0 h0]; decide), E⟩
end Go.Proofs
namespace Go.Proofs
open Go Go.Eng Go.Sort
set_option maxRecDepth 100000
theorem zLU (ts : List Re) : zCp ts = ts.all zBg := by
  induction ts with
  | nil => rfl
  | cons t ts ih => simp [zCp, ih]
theorem zJj (ts : List Re) : zDn ts = ts.any zBg := by
  induction ts with
  | nil => rfl
  | cons t ts ih => simp [zDn, ih]
theorem zOq {f g : Re → Bool} {a : List Re} (h : ∀ x ∈ a, f x = g x) : a.any f = a.any g := by
  induction a with
  | nil => rfl
  | cons y a ih => simp only [List.any_cons, h y (by simp), ih fun x hx => h x (by simp [hx])]
theorem zOr {f g : Re → Bool} {a : List Re} (h : ∀ x ∈ a, f x = g x) : a.all f = a.all g := by
  induction a with
  | nil => rfl
  | cons y a ih => simp only [List.all_cons, h y (by simp), ih fun x hx => h x (by simp [hx])]
theorem zKA : ∀ (r : List Re), (∀ x ∈ r, zAz [] x 0 0 = zBg x) → zAz [] (.mk 3 [] r 0 0 false) 0 0 = r.all zBg
  | [], _ => by simp [zHj, zHK, idR]
  | x :: r, h => by
    have ih := zKA r fun y hy => h y (by simp [hy])
    have hx := h x (by simp)
    rw [Bool.eq_iff_iff, rk3 (text := []) (by simp) (t := .mk 3 [] (x :: r) 0 0 false) rfl rfl, List.all_cons, ← ih, ← hx, Bool.and_eq_true]
    constructor
    · rintro ⟨k, h0, h1, h2, h3⟩
      have e : k = 0 := by omega
      subst e
      exact ⟨h2, h3⟩
    · rintro ⟨h2, h3⟩
      exact ⟨0, by omega, by omega, h2, h3⟩
theorem zNt {y : Re} : ∀ (n : Nat) (s : List (Int × Int)) (m x : Int) (g : Bool), m.toNat ≤ n → 0 ≤ m → m ≤ x → zAz [] y 0 0 = zBg y → zAz [] (.mk 6 s [y] m x g) 0 0 = (decide (m = 0) || zBg y) := by
  intro n
  induction n with
  | zero =>
    intro s m x g hn h0 h1 hy
    have e : m = 0 := by omega
    subst e
    rw [(rk6 (text := []) (by simp) (t := .mk 6 s [y] 0 x g) (i := 0) (j := 0) (x := y) rfl rfl (by simp [Re.mn]) (by simpa [Re.mn, Re.mx] using h1) (by simp)).2 (.inl ⟨rfl, rfl⟩)]
    simp
  | succ n ih =>
    intro s m x g hn h0 h1 hy
    rw [Bool.eq_iff_iff, rk6 (text := []) (by simp) (t := .mk 6 s [y] m x g) (i := 0) (j := 0) (x := y) rfl rfl (by simpa [Re.mn] using h0) (by simpa [Re.mn, Re.mx] using h1) (by simp)]
    simp only [Re.mn, Re.mx, Re.args, Bool.or_eq_true, decide_eq_true_eq, and_true]
    by_cases hm : m = 0
    · simp [hm]
    · have h2 := ih [] (max 0 (m - 1)) (x - 1) false (by omega) (by omega) (by omega) hy
      constructor
      · rintro (h | ⟨_, k, h3, h4, h5, _⟩)
        · exact absurd h hm
        · have e : k = 0 := by omega
          subst e
          rw [hy] at h5
          exact .inr h5
      · rintro (h | h)
        · exact absurd h hm
        · exact .inr ⟨by omega, 0, by omega, by omega, by rw [hy]; exact h, by rw [h2, h]; simp⟩
theorem zPu : ∀ (n : Nat) (t : Re), t.size ≤ n → zAq t → zAz [] t 0 0 = zBg t := by
  intro n
  induction n with
  | zero => intro t h; have := t.size_pos; omega
  | succ n ih =>
  intro t hz h
  have hn := h.n
  have hse := t.size_eq
  have ha : ∀ x ∈ t.args, zAz [] x 0 0 = zBg x := fun x hx => ih x (by have := zDp hx; omega) (h.a x hx)
  obtain ⟨k, s, a, m, x, g⟩ := t
  simp only [Re.kind, Re.set, Re.args, Re.mn, Re.mx, Re.neg] at hn ha
  have hr := zLU a
  have hr2 := zJj a
  simp only [zBg]
  rcases hn.ks with rfl | rfl | rfl | rfl | rfl | rfl | rfl | rfl | rfl
  · rw [rk0 (t := .mk 0 s a m x g) rfl]; simp
  · rw [rk1 (t := .mk 1 s a m x g) rfl (by simp)]; simp
  · rw [rk2' (t := .mk 2 s a m x g) rfl (by omega)]; simp
  · obtain ⟨e1, e2⟩ := hn.mm (by decide)
    rw [hn.st (by decide), e1, e2, hn.ng, zKA a ha, hr]
    simp
  · rw [rk4 (t := .mk 4 s a m x g) rfl, hr2]
    simp only [Re.args]
    rw [zOq ha]
    simp
  · obtain ⟨y, rfl, _⟩ := hn.k5 rfl
    have := (rk5 (text := []) (by simp) (i := 0) (j := 0) (t := .mk 5 s [y] m x g) (x := y) rfl rfl (by simp)).2 (.inl rfl)
    rw [this]; simp
  · obtain ⟨y, rfl, _, _, m0, m1, m2, m3, _⟩ := hn.k6 rfl
    have hy := ha y (by simp)
    rw [zNt m.toNat s m x g (by omega) m0 m1 hy]
    simp [zCp]
  · obtain ⟨h2, _⟩ := hn.k7 rfl
    rw [rk7 (t := .mk 7 s a m x g) rfl (by simp only [Re.args]; omega), hr]
    simp only [Re.args]
    rw [zOr ha]
    simp
  · obtain ⟨y, rfl, _⟩ := hn.k8 rfl
    have hy := ha y (by simp)
    rw [rk8 (t := .mk 8 s [y] m x g) (x := y) rfl rfl (by omega) (by simp), hy]
    simp [zCp]
end Go.Proofs
namespace Go.Proofs
open Go Go.Eng Go.Sort
set_option maxRecDepth 100000
theorem zLy (t : Re) : zCU t = zCt (.mk t.kind t.set (t.args.map zCU) t.mn t.mx t.neg) := zLz t
/-- Rows that grow: expressions within some blocks. -/
theorem zGM {S : Nat → Prop} {w : World} {ts : List Re} {rows : List (List Value)} {x : Re} {r : List Value} (h : zAj S w ts rows) (hx : zAc S w x r) : zAj S w (ts ++ [x]) (rows ++ [r]) := zAj.append (zAj.single hx) h
theorem zRL {T A : Nat → Prop} {w w' : World} {b : Nat} {c : Array Value} {e : TypeId} (h : ∀ y, T y → A y ∧ y < w.heap.size) (x : Put w w' b c e) : ∀ y, T y → A y ∧ y < w'.heap.size := fun y hy => ⟨(h y hy).1, Nat.lt_of_lt_of_le (h y hy).2 x.chg.size⟩
theorem zHD {T A : Nat → Prop} {w w' : World} (h : ∀ y, T y → A y ∧ y < w.heap.size) (x : Ext w w') : ∀ y, T y → A y ∧ y < w'.heap.size := fun y hy => ⟨(h y hy).1, Nat.lt_of_lt_of_le (h y hy).2 x.size⟩
theorem zHB {ks : List Int} : ∀ {ts : List Re} {i : Nat} {x : Re}, zCo ks ts = false → ts[i]? = some x → zCk ks x = false
  | [], i, x, _, h => by simp at h
  | t :: ts, 0, x, h, hx => by simp at hx; subst hx; simp only [zCo, Bool.or_eq_false_iff] at h; exact h.1
  | t :: ts, i + 1, x, h, hx => by simp only [zCo, Bool.or_eq_false_iff] at h; exact zHB h.2 (by simpa using hx)
set_option maxHeartbeats 4000000 in
theorem zNG : ∀ (n : Nat) (t : Re) (w0 : World) (S : Nat → Prop) (vs : List Value), t.size ≤ n → n ≤ 1000000 → zDh t → zCk [9, 10] t = false → zAc S w0 t vs → (∀ x, S x → x < w0.heap.size) →
    Ret Tryz.prog 58 #[.agg vs.toArray] w0 fun r w => (∃ us, r = .agg us.toArray ∧ zAc (fun b => S b ∨ w0.heap.size ≤ b) w (zCU t) us) ∧ Ext w0 w := by
  intro n
  induction n with
  | zero => intro t w0 S vs h; have := t.size_pos; omega
  | succ n ih =>
  intro t w0 S vs hn hnb hok hu ht hS
  have ht0 := ht
  obtain ⟨sa, sc, aa, ac, rfl, hset, hlen, hargs⟩ := ht.form
  have hal := zBm t
  have hu2 : zCo [9, 10] t.args = false := by cases t; exact (zFA hu).2
  have hk9 : t.kind ≠ 9 ∧ t.kind ≠ 10 := by cases t with | mk k s a m x g => have h1 := (zFA hu).1; constructor <;> intro e <;> simp only [Re.kind] at e <;> subst e <;> simp at h1
  have hssz := zFW (zCD hok)
  rw [zCL] at hssz
  have hsz := t.size_eq
  rw [zLy]
  refine zAk Tryz.func58 rfl Tryz.ntmps58 (Nat.le_of_ble_eq_true rfl) ?_
  have E : Chg zAh w0 w0 := Chg.refl _ _
  refine zAA ?_
  refine zBL (v := (.agg (R6 t sa sc aa ac))) (c := (R6 t sa sc aa ac)) (by decide) rfl rfl ?_
  intro br wr Nr
  have Fr := Nr.ge E
  replace E := E.ext Nr.ext
  have Br := Nr.blk
  refine zBD (c := #[(I6 0), (.slice none 0 0), (.slice none 0 0), (I6 0), (I6 0), (.bool false)]) (by decide) zAs rfl ?_
  intro bo wo No
  have Fo := No.ge E
  have Oo_br := No.lt Br
  replace Br := No.keep Br
  replace E := E.ext No.ext
  have Bo := No.blk
  refine zAB (zAA ?_)
  refine qF br 0 2 rfl Tryz.underlying25 rfl zBI rfl ?_
  refine qV (zAK (v := (.slice aa t.args.length ac)) rfl zAv (Br.cell rfl)) ?_
  refine qV (zAV (ad := aa) (n := t.args.length) (cap := ac) Tryz.underlying23 rfl) ?_
  obtain ⟨n1, hn1⟩ : ∃ n1, n1 = wo.heap.size := ⟨_, rfl⟩
  have hob : br < n1 ∧ bo < n1 ∧ w0.heap.size ≤ bo ∧ w0.heap.size ≤ br ∧ w0.heap.size ≤ n1 := ⟨by rw [hn1]; exact Br.lt, by rw [hn1]; exact Bo.lt, by omega, by omega, by rw [hn1]; exact E.size⟩
  have hn1w : n1 ≤ wo.heap.size := by omega
  refine zMC (n := t.args.length) (base := n1) (size := 6) (bytes := 80) (by decide) Tryz.underlying23 zAH zEj zAs rfl rfl (by omega) (by omega) (hn1w) ?_
  intro w1 X1 hO0
  replace Br := X1.keep Br
  replace Bo := X1.keep Bo
  replace hn1w := Nat.le_trans hn1w X1.size
  replace E := E.ext X1
  refine qA (.slice (some ⟨wo.heap.size, 0, none⟩) 0 t.args.length) rfl ?_
  refine zAB (zAP (zAA ?_))
  refine qF br 0 2 rfl Tryz.underlying25 rfl zBI rfl ?_
  refine qV (zAK (v := (.slice aa t.args.length ac)) rfl zAv (Br.cell rfl)) ?_
  refine qV (zAV (ad := aa) (n := t.args.length) (cap := ac) Tryz.underlying23 rfl) ?_
  refine qM (I6 0) rfl ?_
  refine zAB (zAZ ?_)
  refine zBA (fun nn_ σ W2 => ∃ (i : Nat) (la : Option Addr) (lc : Nat) (rows : List (List Value)) (T : Nat → Prop), (∃ jj_, σ = zCl jj_ [(1, (P6 br 0)), (2, (P6 bo 0)), (11, (.slice aa t.args.length ac)), (12, (I6 (t.args.length : Int))), (13, (I6 (i : Int))), (3, (.slice la i lc))]) ∧ Chg zAh w0 W2 ∧ Blk W2 br (R6 t sa sc aa ac) 25 ∧ Blk W2 bo #[(I6 0), (.slice none 0 0), (.slice none 0 0), (I6 0), (I6 0), (.bool false)] 25 ∧ (i ≤ t.args.length) ∧ (W2.ownsRow n1 TRe 6 (.slice la i lc) i rows.flatten) ∧ (zAj T W2 ((t.args.take i).map zCU) rows) ∧ (n1 ≤ W2.heap.size) ∧ (∀ y, T y → (S y ∨ n1 ≤ y) ∧ y < W2.heap.size) ∧ (∀ b, (Value.slice la i lc).ownBlock = some b → ¬ T b) ∧ nn_ = t.args.length - i) (n := t.args.length - 0) ?_ ?_
  · exact ⟨0, some ⟨wo.heap.size, 0, none⟩, t.args.length, [], (fun _ => False), zBG.out ⟨rfl, rfl, rfl, rfl, rfl, rfl, trivial⟩, E, Br, Bo, Nat.zero_le _, hO0, rfl, hn1w, (fun y h => h.elim), (fun b _ h => h), rfl⟩
  · clear E Br Bo
    rintro _ _ W2 ⟨i, la, lc, rows, T, ⟨j2, rfl⟩, E, Br, Bo, hi, hO, hR, hbs, hT, hTn, rfl⟩
    refine zAA ?_
    refine qV (zBS (k := .i64) (a := (i : Int)) (b := (t.args.length : Int)) rfl rfl) ?_
    refine zAB (zAP ?_)
    refine zAM (b := decide (((i : Int) : Int) < (t.args.length : Int))) rfl (fun hlt => ?_) (fun hlt => ?_)
    · have khlt := hlt
      replace hlt := of_decide_eq_true hlt
      obtain ⟨x, hx⟩ := zAa (l := t.args) (i := i) (by omega)
      have hxo := zCQ (zCD hok) hx
      have hxu : zCk [9, 10] x = false := zHB hu2 hx
      have hxz := Re.size_arg hx
      obtain ⟨ab, ao, hab, rfl, hres⟩ := hargs.resolve_left (fun h => by rw [h] at hx; cases hx)
      obtain ⟨us, hus, hxt⟩ := hres.get hx
      have hxt0 := hxt
      obtain ⟨xsa, xsc, xaa, xac, rfl, _, _, _⟩ := hxt.form
      obtain ⟨M, hM⟩ : ∃ M, M = zCU x := ⟨_, rfl⟩
      refine zAR (zAC (zAP (zAZ (zAA ?_))))
      refine qV (zAO (b := ab) (o := ao) (len := t.args.length) (cap := ac) (i := i) (o' := ao + i * 6) rfl rfl rfl Tryz.underlying23 zAH (by omega) (by omega)) ?_
      refine qV (zAG (vs := [(I6 x.kind), (.slice xsa x.set.length xsc), (.slice xaa x.args.length xac), (I6 x.mn), (I6 x.mx), (.bool x.neg)]) rfl zAb zAH rfl (hus.ext E)) ?_
      refine zAi (v := (.agg (R6 x xsa xsc xaa xac))) (c := (R6 x xsa xsc xaa xac)) (n := 6) (by decide) zAs rfl zAH rfl rfl rfl (by simp [Value.oneCell']) ?_
      intro bu wu Nu
      have Fu := Nu.ge E
      have Ou_br := Nu.lt Br
      have Ou_bo := Nu.lt Bo
      replace Br := Nu.keep Br
      replace Bo := Nu.keep Bo
      replace hO := zBE hO Nu.ext
      replace hR := zAj.ext Nu.ext hR
      replace hbs := Nat.le_trans hbs Nu.ext.size
      replace hT := zHD hT Nu.ext
      replace E := E.ext Nu.ext
      have Bu := Nu.blk
      refine zAB (zAW ?_)
      refine qM (.slice la i lc) rfl ?_
      refine qV (zAG (vs := [(I6 x.kind), (.slice xsa x.set.length xsc), (.slice xaa x.args.length xac), (I6 x.mn), (I6 x.mx), (.bool x.neg)]) rfl zAb zAH rfl (Bu.cells rfl)) ?_
      obtain ⟨n2, hn2⟩ : ∃ n2, n2 = (wu).heap.size := ⟨_, rfl⟩
      have hn12 : n1 ≤ n2 := by rw [hn2]; exact hbs
      have hOb : ∀ b, (Value.slice la i lc).ownBlock = some b → n1 ≤ b ∧ b < n2 := fun b hb => ⟨(hO.lt b hb).1, by rw [hn2]; exact (hO.lt b hb).2⟩
      refine zAL rfl rfl (by decide) (zAT (vs := [(.agg (R6 x xsa xsc xaa xac))]) Tryz.func58 nm58 bd58 rfl) ((ih x _ S _ (by omega) (by omega) hxo hxu (zAc.ext E x hxt0) (fun y hy => by have := hS y hy; have := E.size; omega)).mono (R' := fun r w => reG (fun b => S b ∨ n2 ≤ b) M r w ∧ Ext wu w) (fun r w h => ⟨zBd (S' := fun b => S b ∨ _ ≤ b) (fun b hb => by rcases hb with h1 | h1; exact .inl h1; exact .inr (by rw [hn2]; exact h1)) (by rw [hM]; exact h.1), h.2⟩)) ?_
      rintro _ w9 ⟨⟨ma, mc, pa, pc, rfl, hX⟩, X9⟩
      replace Br := X9.keep Br
      replace Bo := X9.keep Bo
      replace Bu := X9.keep Bu
      replace hO := zBE hO X9
      replace hR := zAj.ext X9 hR
      replace hbs := Nat.le_trans hbs X9.size
      replace hT := zHD hT X9
      replace E := E.ext X9
      have hXl := zAc.lt M hX
      refine zAu (ps := [(0, (.agg (R6 M ma mc pa pc)))]) (c := (R6 M ma mc pa pc)) (by decide) rfl Tryz.underlying23 zAH zAs (by decide) (by decide) (by kernel_rfl) ?_
      intro bz wz Nz
      have Fz := Nz.ge E
      have Oz_br := Nz.lt Br
      have Oz_bo := Nz.lt Bo
      have Oz_bu := Nz.lt Bu
      replace Br := Nz.keep Br
      replace Bo := Nz.keep Bo
      replace Bu := Nz.keep Bu
      replace hO := zBE hO Nz.ext
      replace hR := zAj.ext Nz.ext hR
      replace hbs := Nat.le_trans hbs Nz.ext.size
      replace hT := zHD hT Nz.ext
      replace hXl := zAc.ext Nz.ext M hXl
      replace E := E.ext Nz.ext
      have Bz := Nz.blk
      have hQ9 : True := trivial
      refine zBh (base := n1) (n := i) (m := 1) (xs := rows.flatten) (news := [(I6 M.kind), (.slice ma M.set.length mc), (.slice pa M.args.length pc), (I6 M.mn), (I6 M.mx), (.bool M.neg)]) (size := 6) (bytes := 80) (v := (.slice la i lc)) (by decide) Tryz.underlying23 zAH zEj zAs rfl (by decide) rfl hO rfl (rfl) (Bz.cells rfl) (by simp [Value.oneCell']) (by unfold maxLen; omega) (by omega) (hbs) ?_
      intro v9 w39 Ov9 Cv9 Dv9
      replace Br := Cv9.keep (fun h => by have := (hO.lt _ h).1; omega) Br
      replace Bo := Cv9.keep (fun h => by have := (hO.lt _ h).1; omega) Bo
      replace E := E.step Cv9 (fun x hx h => absurd (hO.lt x h).1 (by omega))
      obtain ⟨la2, lc2, rfl⟩ := zBY Ov9
      have hT2 : ∀ y, (T y ∨ ((S y ∨ n2 ≤ y) ∧ y < w9.heap.size)) → (S y ∨ n1 ≤ y) ∧ y < (w39).heap.size ∧ (Value.slice la i lc).ownBlock ≠ some y := by
        intro y hy
        have hz1 := Nz.ext.size
        have hz2 := Cv9.size
        rcases hy with hy | ⟨hy, hy2⟩
        · exact ⟨(hT y hy).1, by have := (hT y hy).2; omega, fun hb => hTn y hb hy⟩
        · refine ⟨hy.imp id (fun h => by have := X9.size; omega), by omega, fun hb => ?_⟩
          have h9 := hOb y hb
          rcases hy with h1 | h1
          · have := hS y h1; omega
          · omega
      have hR9 : zAj (fun y => T y ∨ ((S y ∨ n2 ≤ y) ∧ y < w9.heap.size)) (w39) ((t.args.take (i + 1)).map zCU) (rows ++ [[.int .i64 M.kind, .slice ma M.set.length mc, .slice pa M.args.length pc, .int .i64 M.mn, .int .i64 M.mx, .bool M.neg]]) := by
        rw [List.take_add_one, hx, Option.toList_some, List.map_append, List.map_cons, List.map_nil, ← hM]
        exact zGM (zAj.mono (fun y hy => .inl hy) (zAj.chg Cv9 (fun y hy hm => hTn y hm hy) hR)) (zAc.mono (fun y hy => .inr hy) M (zAc.chg Cv9 (fun y hy hm => (hT2 y (.inr hy)).2.2 hm) M hXl))
      refine qA (.slice la2 (i + 1) lc2) rfl ?_
      refine zAB (zAU (zAC (zAW ?_)))
      refine qV (zBQ (k := .i64) (a := (i : Int)) (b := 1) (c := (i : Int) + 1) rfl rfl (zBs (by omega))) ?_
      refine qM (I6 ((i : Int) + 1)) rfl ?_
      refine zAB (zAC ?_)
      exact ⟨t.args.length - (i + 1), by omega, i + 1, la2, lc2, rows ++ [[.int .i64 M.kind, .slice ma M.set.length mc, .slice pa M.args.length pc, .int .i64 M.mn, .int .i64 M.mx, .bool M.neg]], (fun y => T y ∨ ((S y ∨ n2 ≤ y) ∧ y < w9.heap.size)), zBG.out ⟨rfl, rfl, rfl, rfl, rfl, rfl, trivial⟩, E, Br, Bo, (by omega), (by simpa using Ov9), hR9, Nat.le_trans hbs Cv9.size, (fun y hy => ⟨(hT2 y hy).1, (hT2 y hy).2.1⟩), (fun b hb hy => by rcases Dv9 b hb with h | h; exact (hT2 b hy).2.2 h; have hz1 := Nz.ext.size; rcases hy with hy | hy; have := (hT b hy).2; omega; have := hy.2; omega), rfl⟩
    · have khlt := hlt
      replace hlt := of_decide_eq_false hlt
      have hii : i = t.args.length := by omega
      rw [hii] at hO hR hTn
      rw [hii]
      rw [List.take_length] at hR
      refine zBB (zAe (zAe (zAr (zAC (zAA ?_)))))
      refine qM (.slice la t.args.length lc) rfl ?_
      refine qF br 0 2 rfl Tryz.underlying25 rfl zBI rfl ?_
      refine zDQ (b := br) (o := 2) (c' := (R6 t sa sc la lc)) (v := (.slice la t.args.length lc)) rfl rfl rfl zBI Br (by simp) rfl ?_
      intro w4 S4
      replace hO := zCs hO S4.chg (fun y hy h => by have h2 : y = br := h; have := (hO.lt y hy).1; omega)
      replace hR := zAj.chg S4.chg (fun y hy h => by have h2 : y = br := h; rcases (hT y hy).1 with h1 | h1; have := hS y h1; omega; omega) hR
      replace hT := zRL hT S4
      replace hbs := Nat.le_trans hbs S4.chg.size
      replace Bo := S4.keep (by omega) Bo
      replace E := S4.stp E
      replace Br := S4.blk
      refine zAB (zAA ?_)
      refine qV (zAG (vs := [(I6 t.kind), (.slice sa t.set.length sc), (.slice la t.args.length lc), (I6 t.mn), (I6 t.mx), (.bool t.neg)]) rfl zAb zAH rfl (Br.cells rfl)) ?_
      have hml : (t.args.map zCU).length = t.args.length := List.length_map _
      obtain ⟨hoc, hocl⟩ := zDz hO hR hml
      have hTS : zAc (fun y => (S y ∨ n1 ≤ y) ∧ y < (w4).heap.size) (w4) (.mk t.kind t.set (t.args.map zCU) t.mn t.mx t.neg) [.int .i64 t.kind, .slice sa t.set.length sc, .slice la t.args.length lc, .int .i64 t.mn, .int .i64 t.mx, .bool t.neg] := by
        have h9 := zAc.of (S := fun y => (S y ∨ n1 ≤ y) ∧ y < (w4).heap.size) (w := w4) (k := t.kind) (set := t.set) (args := t.args.map zCU) (mn := t.mn) (mx := t.mx) (ng := t.neg) (sa := sa) (sc := sc) (aa := la) (ac := lc) (zDE.mono (zDE.chg hset E (fun _ _ f => f)) fun y hy => ⟨.inl hy, by have := hS y hy; have := E.size; omega⟩) (by rw [hml]; exact hoc) (by
          rcases hocl with h | ⟨ob, hob1, hob2, hob3, hclo⟩
          · exact .inl h
          · exact .inr ⟨ob, 0, ⟨.inr hob1, hob2⟩, hob3, zCx fun i t ht => by obtain ⟨vs, h6, h7⟩ := hclo i t ht; exact ⟨vs, h6, zAc.mono (fun y hy => hT y hy) t h7⟩⟩)
        rw [hml] at h9
        exact h9
      obtain ⟨N, hN⟩ : ∃ N, N = zCt (.mk t.kind t.set (t.args.map zCU) t.mn t.mx t.neg) := ⟨_, rfl⟩
      have hnb1 : n1 ≤ (w4).heap.size := hbs
      refine zAL rfl rfl (by decide) (zAT (vs := [(.agg (R6 t sa sc la lc))]) Tryz.func115 zOE zOp rfl) ((zHx _ _ _ _ hTS (fun y hy => hy.2) (zMU hok hk9.1 hk9.2 hml) (fun y hy => zHd (zCD hok) hu2 y (by rw [zCL]; exact hy)) (by show Re.sizes (t.args.map zCU) ≤ 1000000; omega)).mono (R' := fun r w => reG (fun b => S b ∨ n1 ≤ b) N r w ∧ Ext _ w) (fun r w h => ⟨zBd (S' := fun b => ((S b ∨ n1 ≤ b) ∧ b < _) ∨ _ ≤ b) (fun b hb => by rcases hb with h1 | h1; exact h1.1; exact .inr (Nat.le_trans hnb1 h1)) (by rw [hN]; exact h.1), h.2⟩)) ?_
      rintro _ w49 ⟨⟨xa, xc, ya, yc, rfl, hR4⟩, X49⟩
      replace Br := X49.keep Br
      replace Bo := X49.keep Bo
      replace E := E.ext X49
      refine qW (R6 N xa xc ya yc) rfl rfl zAH Bo ?_
      intro w5 S5
      replace hR4 := zAc.chg S5.chg (fun y hy h => by have h2 : y = bo := h; rcases hy with h1 | h1; have := hS y h1; omega; omega) _ hR4
      replace Br := S5.keep (by omega) Br
      replace E := S5.stp E
      replace Bo := S5.blk
      refine zAB (zAQ ?_)
      refine zAm Tryz.results58 (vs := [(.int .i64 N.kind), (.slice xa N.set.length xc), (.slice ya N.args.length yc), (.int .i64 N.mn), (.int .i64 N.mx), (.bool N.neg)]) (b := bo) rfl zAb zAH rfl (Bo.cells rfl) ?_
      exact ⟨⟨_, rfl, by rw [← hN]; exact zAc.mono (fun y hy => by rcases hy with h1 | h1; exact .inl h1; exact .inr (by omega)) _ hR4⟩, E⟩
end Go.Proofs
namespace Go.Proofs
open Go Go.Eng Go.Sort
set_option maxRecDepth 100000
def rsG (S : Nat → Prop) (l : List Re) : Fct := fun v w => ∃ b, v = .slice (some ⟨b, 0, none⟩) l.length l.length ∧ zCJ S w (.slice (some ⟨b, 0, none⟩) l.length l.length) l
theorem zCH (S : Nat → Prop) (l : List Re) : zGn (rsG S l) := by
 rintro v w w' e ⟨b, h1, h2⟩
 exact ⟨b, h1, zCJ.ext h2 e⟩
section
variable {N : Nat} {σ : Env} {w : World} {dst : Option Tmp} {ty : TypeId} {pos : String} {af : Array Edge} {g : Option (Nat × Bool)} {S : Nat → Prop} {X Y : Re} {x y z : Operand} {sa aa sa' aa' : Option Addr} {sc ac sc' ac' : Nat}
theorem zDl (hx : ev σ x = .agg #[.int .i64 X.kind, .slice sa X.set.length sc, .slice aa X.args.length ac, .int .i64 X.mn, .int .i64 X.mx, .bool X.neg]) (hy : ev σ y = .agg #[.int .i64 Y.kind, .slice sa' Y.set.length sc', .slice aa' Y.args.length ac', .int .i64 Y.mn, .int .i64 Y.mx, .bool Y.neg]) (h1 : zAc S w X [.int .i64 X.kind, .slice sa X.set.length sc, .slice aa X.args.length ac, .int .i64 X.mn, .int .i64 X.mx, .bool X.neg]) (h2 : zAc S w Y [.int .i64 Y.kind, .slice sa' Y.set.length sc', .slice aa' Y.args.length ac', .int .i64 Y.mn, .int .i64 Y.mx, .bool Y.neg]) (hS : ∀ b, w.heap.size ≤ b → S b) :
  zLf Tryz.prog N ⟨dst, .buildSlice 23 2 #[(0, x), (1, y)], ty, pos, af, g⟩ (rsG S [X, Y]) σ w := by
 have hn := New.mk' w (#[.int .i64 X.kind, .slice sa X.set.length sc, .slice aa X.args.length ac, .int .i64 X.mn, .int .i64 X.mx, .bool X.neg, .int .i64 Y.kind, .slice sa' Y.set.length sc', .slice aa' Y.args.length ac', .int .i64 Y.mn, .int .i64 Y.mx, .bool Y.neg]) TRe
 refine zAJ (zCG (parts := [(0, x), (1, y)]) (ps := [(0, .agg #[.int .i64 X.kind, .slice sa X.set.length sc, .slice aa X.args.length ac, .int .i64 X.mn, .int .i64 X.mx, .bool X.neg]), (1, .agg #[.int .i64 Y.kind, .slice sa' Y.set.length sc', .slice aa' Y.args.length ac', .int .i64 Y.mn, .int .i64 Y.mx, .bool Y.neg])]) (by simp only [List.map, hx, hy]) Tryz.underlying23 zAH zAs (by decide) (by decide) (by kernel_rfl)) hn.ext ⟨_, rfl, ?_⟩
 exact ⟨_, _, rfl, by simp, .inr ⟨_, 0, hS _ (Nat.le_refl _), rfl, zBM.two (hn.blk.cells (by rfl)) (zAc.ext hn.ext _ h1) (hn.blk.cells (by rfl)) (zAc.ext hn.ext _ h2)⟩⟩
theorem zNd (hx : ev σ x = .agg #[.int .i64 X.kind, .slice sa X.set.length sc, .slice aa X.args.length ac, .int .i64 X.mn, .int .i64 X.mx, .bool X.neg]) (h1 : zAc S w X [.int .i64 X.kind, .slice sa X.set.length sc, .slice aa X.args.length ac, .int .i64 X.mn, .int .i64 X.mx, .bool X.neg]) (hS : ∀ b, w.heap.size ≤ b → S b) :
  zLf Tryz.prog N ⟨dst, .buildSlice 23 1 #[(0, x)], ty, pos, af, g⟩ (rsG S [X]) σ w := by
 have hn := New.mk' w #[.int .i64 X.kind, .slice sa X.set.length sc, .slice aa X.args.length ac, .int .i64 X.mn, .int .i64 X.mx, .bool X.neg] TRe
 refine zAJ (zCG (parts := [(0, x)]) (ps := [(0, .agg #[.int .i64 X.kind, .slice sa X.set.length sc, .slice aa X.args.length ac, .int .i64 X.mn, .int .i64 X.mx, .bool X.neg])]) (by simp only [List.map, hx]) Tryz.underlying23 zAH zAs (by decide) (by decide) (by kernel_rfl)) hn.ext ⟨_, rfl, ?_⟩
 exact ⟨_, _, rfl, by simp, .inr ⟨_, 0, hS _ (Nat.le_refl _), rfl, zBM.one (hn.blk.cells (by rfl)) (zAc.ext hn.ext _ h1)⟩⟩
theorem zPs {b n : Nat} {l : List Re} {k m x : Int} (h : zCJ S w (.slice (some ⟨b, 0, none⟩) n n) l) (hn : l.length = n) : zAc S w (.mk k [] l m x false) [.int .i64 k, .slice none 0 0, .slice (some ⟨b, 0, none⟩) l.length l.length, .int .i64 m, .int .i64 x, .bool false] := by
 subst hn
 obtain ⟨aa, ac, h1, h2, h3⟩ := h
 simp only [Value.slice.injEq, true_and] at h1
 obtain ⟨rfl, rfl⟩ := h1
 exact zAc.of (set := []) (zDE.nil _ _ _ _ _) h2 h3
theorem zLc {b n : Nat} {l : List Re} (hx : ev σ x = .slice (some ⟨b, 0, none⟩) n n) (h : zCJ S w (.slice (some ⟨b, 0, none⟩) n n) l) (hn : l.length = n) :
  zLf Tryz.prog N ⟨dst, .build 25 #[(0, .const (.int .i64 4)), (2, x)], ty, pos, af, g⟩ (reG S (.mk 4 [] l 0 0 false)) σ w := by
 subst hn
 exact zAJ (zBW (parts := [(0, .const (I6 4)), (2, x)]) (ps := [(0, .int .i64 4), (2, .slice (some ⟨b, 0, none⟩) l.length l.length)]) (v := .agg #[.int .i64 4, .slice none 0 0, .slice (some ⟨b, 0, none⟩) l.length l.length, .int .i64 0, .int .i64 0, .bool false]) (by simp only [List.map, hx]; rfl) (by kernel_rfl)) (Ext.refl _) ⟨none, 0, some ⟨b, 0, none⟩, l.length, rfl, zPs h rfl⟩
theorem zLb {b n : Nat} {l : List Re} {m u : Int} (hx : ev σ x = .slice (some ⟨b, 0, none⟩) n n) (hy : ev σ y = .int .i64 m) (hz : ev σ z = .int .i64 u) (h : zCJ S w (.slice (some ⟨b, 0, none⟩) n n) l) (hn : l.length = n) :
  zLf Tryz.prog N ⟨dst, .build 25 #[(0, .const (.int .i64 6)), (2, x), (3, y), (4, z)], ty, pos, af, g⟩ (reG S (.mk 6 [] l m u false)) σ w := by
 subst hn
 exact zAJ (zBW (parts := [(0, .const (I6 6)), (2, x), (3, y), (4, z)]) (ps := [(0, .int .i64 6), (2, .slice (some ⟨b, 0, none⟩) l.length l.length), (3, .int .i64 m), (4, .int .i64 u)]) (v := .agg #[.int .i64 6, .slice none 0 0, .slice (some ⟨b, 0, none⟩) l.length l.length, .int .i64 m, .int .i64 u, .bool false]) (by simp only [List.map, hx, hy, hz]; rfl) (by kernel_rfl)) (Ext.refl _) ⟨none, 0, some ⟨b, 0, none⟩, l.length, rfl, zPs h rfl⟩
end
set_option maxHeartbeats 1000000 in
theorem zNQ (w0 : World) (S : Nat → Prop) (v : Value) (ts : List Re) (h : zCJ S w0 v ts) (hne : ts ≠ []) (hl : ts.length ≤ 1000000) :
  Ret Tryz.prog 119 #[v] w0 fun r w => (∃ a c, r = .slice a ts.length c ∧ zCJ (fun b => S b ∨ w0.heap.size ≤ b) w r ts) ∧ Ext w0 w := by
 obtain ⟨aa, c, rfl, hlen, h3⟩ := h
 obtain ⟨b, o, hSb, rfl, hres⟩ := h3.resolve_left hne
 have hpos := List.length_pos_iff.2 hne
 obtain ⟨rows, hrows, hcells⟩ := zBM.rows hres
 obtain ⟨base, hbase⟩ : ∃ base, base = w0.heap.size := ⟨_, rfl⟩
 refine zAk Tryz.func119 rfl Tryz.ntmps119 (Nat.le_of_ble_eq_true rfl) ?_
 have E : Chg zAh w0 w0 := Chg.refl _ _
 refine zAA ?_
 refine qA (.slice none 0 0) rfl ?_
 refine zAB (zAP (zAA ?_))
 refine qM (.slice (some ⟨b, o, none⟩) ts.length c) rfl ?_
 refine zCi (v := (.bool false)) rfl rfl (by decide) (zKE (a := some ⟨b, o, none⟩) Tryz.underlying23 rfl rfl) ?_
 refine zAB ?_
 refine zAX rfl ?_
 refine zAR (zAC (zAA ?_))
 refine zHf (by decide) Tryz.underlying23 zAH ?_
 intro bq wq Nq
 have Fq := Nq.ge E
 replace E := E.ext Nq.ext
 have Bq := Nq.blk
 refine qM (.slice (some ⟨b, o, none⟩) ts.length c) rfl ?_
 have hown := zIi (base := base) (size := 6) Bq (by omega)
 have hbs : base ≤ wq.heap.size := by have := Nq.ext.size; omega
 refine zBh (base := base) (n := 0) (m := ts.length) (xs := []) (news := rows.flatten) (size := 6) (bytes := 80) (v := (.slice (some ⟨bq, 0, none⟩) 0 0)) (by decide) Tryz.underlying23 zAH zEj zAs rfl (by decide) rfl hown rfl (by rw [zBn hrows.six, hrows.len]) (hcells.ext Nq.ext) (hrows.one) (by unfold maxLen; omega) (by omega) (hbs) ?_
 intro v9 w29 Ov9 Cv9 Dv9
 replace E := E.step Cv9 (fun x hx h => absurd (hown.lt x h).1 (by omega))
 obtain ⟨la, lc, rfl⟩ := zBY Ov9
 refine qA (.slice la (0 + ts.length) lc) rfl ?_
 refine zAB (zAQ ?_)
 refine zAS Tryz.results119 (v := (.slice la (0 + ts.length) lc)) rfl ?_
 simp only [Nat.zero_add, List.nil_append] at Ov9
 obtain ⟨hoc, hocl⟩ := zDz Ov9 (hrows.ext E) rfl
 simp only [Nat.zero_add]
 refine ⟨⟨la, lc, rfl, la, lc, rfl, hoc, ?_⟩, E⟩
 rcases hocl with h | ⟨ob, hob1, hob2, hob3, hclo⟩
 ·exact .inl h
 exact .inr ⟨ob, 0, .inr (by omega), hob3, zCx fun i t ht => by obtain ⟨vs, h6, h7⟩ := hclo i t ht; exact ⟨vs, h6, zAc.mono (fun y hy => .inl hy) t h7⟩⟩
/-- The derivative of smaller expressions, as a contract. -/
def zEx (c : Int) (n : Nat) : Prop := ∀ (t : Re) (w0 : World) (S : Nat → Prop) (vs : List Value), t.size < n → zAq t → zAc S w0 t vs → (∀ x, S x → x < w0.heap.size) →
  Ret Tryz.prog 60 #[.agg vs.toArray, .int .i64 c] w0 fun r w => (∃ us, r = .agg us.toArray ∧ zAc (fun b => S b ∨ w0.heap.size ≤ b) w (zBK c t) us) ∧ Ext w0 w
section
variable {c : Int} {t x : Re}
theorem zEW (c : Int) (t : Re) : zBK c t = if t.kind = 2 then (if inS t.set c = true then zBJ else zBH) else if t.kind = 3 then zEg c t.args else if t.kind = 4 ∨ t.kind = 7 ∨ t.kind = 8 then zCf t.kind [] (zBq c t.args) 0 0 false else if t.kind = 5 then zEd [(zBq c t.args).headD zBH, t] else if t.kind = 6 then zEd [(zBq c t.args).headD zBH, zCf 6 [] [t.args.headD zBH] (max 0 (t.mn - 1)) (t.mx - 1) false] else zBH := by
 cases t; simp only [zBK]; rfl
theorem st2 (h : t.kind = 2) : zBK c t = if inS t.set c = true then zBJ else zBH := by rw [zEW]; simp [h]
theorem st3 (h : t.kind = 3) : zBK c t = zEg c t.args := by rw [zEW]; simp [h]
theorem st478 (h : t.kind = 4 ∨ t.kind = 7 ∨ t.kind = 8) : zBK c t = zCt (.mk t.kind [] (t.args.map (zBK c)) 0 0 false) := by rw [zEW, if_neg (by omega), if_neg (by omega), if_pos h, zHE]; rfl
theorem st5 (h : t.kind = 5) (ha : t.args = [x]) : zBK c t = zEd [zBK c x, t] := by rw [zEW, if_neg (by omega), if_neg (by omega), if_neg (by omega), if_pos h, ha]; rfl
theorem st6 (h : t.kind = 6) (ha : t.args = [x]) : zBK c t = zEd [zBK c x, zCt (.mk 6 [] [x] (max 0 (t.mn - 1)) (t.mx - 1) false)] := by rw [zEW, if_neg (by omega), if_neg (by omega), if_neg (by omega), if_neg (by omega), if_pos h, ha]; rfl
theorem stn (h : t.kind = 0 ∨ t.kind = 1) : zBK c t = zBH := by rw [zEW, if_neg (by omega), if_neg (by omega), if_neg (by omega), if_neg (by omega), if_neg (by omega)]
end
end Go.Proofs
namespace Go.Proofs
open Go Go.Eng Go.Sort
set_option maxRecDepth 100000
set_option maxHeartbeats 1000000 in
theorem zPe (c : Int) (n : Nat) (ih : zEx c n) (t : Re) (hn : t.size ≤ n) (h300 : t.size ≤ 300) (hok : zAq t) (hk : t.kind = 2) (w0 : World) (S : Nat → Prop) (vs : List Value) (ht : zAc S w0 t vs) (hS : ∀ x, S x → x < w0.heap.size) :
  Ret Tryz.prog 60 #[.agg vs.toArray, .int .i64 c] w0 fun r w => (∃ us, r = .agg us.toArray ∧ zAc (fun b => S b ∨ w0.heap.size ≤ b) w (zBK c t) us) ∧ Ext w0 w := by
 have ht0 := ht
 obtain ⟨sa, sc, aa, ac, rfl, hset, hlen, hargs⟩ := ht.form
 have hRs : zCJ S w0 (.slice aa t.args.length ac) t.args := zEs ht0
 have hal := zBm t
 have hszt := t.size_eq
 refine zAk Tryz.func60 rfl Tryz.ntmps60 (Nat.le_of_ble_eq_true rfl) ?_
 have E : Chg zAh w0 w0 := Chg.refl _ _
 refine zAA ?_
 refine zBL (v := (.agg (R6 t sa sc aa ac))) (c := (R6 t sa sc aa ac)) (by decide) rfl rfl ?_
 intro br wr Nr
 have Fr := Nr.ge E
 replace E := E.ext Nr.ext
 have Br := Nr.blk
 refine zBD (c := #[(I6 0), (.slice none 0 0), (.slice none 0 0), (I6 0), (I6 0), (.bool false)]) (by decide) zAs rfl ?_
 intro bo wo No
 have Fo := No.ge E
 have Oo_br := No.lt Br
 replace Br := No.keep Br
 replace E := E.ext No.ext
 have Bo := No.blk
 refine zAB (zAP (zAA ?_))
 refine qF br 0 0 rfl Tryz.underlying25 rfl zAw rfl ?_
 refine qV (zAK (v := (I6 t.kind)) rfl zAf (Br.cell rfl)) ?_
 refine zAB (zAZ (zAA ?_))
 refine qV (zAg (k := .i64) (a := t.kind) (b := 2) rfl rfl) ?_
 refine qA (.bool (decide ((t.kind : Int) = 2))) rfl ?_
 refine zAB ?_
 have hc1 : (decide ((t.kind : Int) = 2)) = true := decide_eq_true hk
 refine zAl (congrArg Value.bool hc1) ?_
 refine zAA ?_
 refine qF br 0 1 rfl Tryz.underlying25 rfl zDb rfl ?_
 refine qV (zAK (v := (.slice sa t.set.length sc)) rfl zCc (Br.cell rfl)) ?_
 refine qM (I6 c) rfl ?_
 refine zAL rfl rfl (by decide) (zAT (vs := [(.slice sa t.set.length sc), (I6 c)]) Tryz.func116 nm116 bd116 rfl) (in_c _ _ t.set c (hset.at.ext E)) ?_
 rintro _ w9 ⟨rfl, X9⟩
 replace Br := X9.keep Br
 replace Bo := X9.keep Bo
 replace E := E.ext X9
 refine zAB ?_
 refine zAM (b := inS t.set c) rfl (fun hin => ?_) (fun hin => ?_)
 ·have khin := hin
  refine zAA ?_
  refine zAL rfl rfl (by decide) (zAT (vs := []) Tryz.func117 zJd zJl rfl) (zED _) ?_
  rintro _ w29 ⟨rfl, X29⟩
  replace Br := X29.keep Br
  replace Bo := X29.keep Bo
  replace E := E.ext X29
  refine qW (#[(I6 1), (.slice none 0 0), (.slice none 0 0), (I6 0), (I6 0), (.bool false)]) rfl rfl zAH Bo ?_
  intro w3 S3
  replace Br := S3.keep (by omega) Br
  replace E := S3.stp E
  replace Bo := S3.blk
  refine zAB (zAQ (zAY (zAI ?_)))
  refine zAm Tryz.results60 (vs := [(.int .i64 1), (.slice none 0 0), (.slice none 0 0), (.int .i64 0), (.int .i64 0), (.bool false)]) (b := bo) rfl zAb zAH rfl (Bo.cells rfl) ?_
  exact ⟨⟨_, rfl, by rw [st2 hk, if_pos hin]; exact zBN _ _ _⟩, E⟩
 have khin := hin
 refine zAR (zAU (zAC (zAA ?_)))
 refine zAL rfl rfl (by decide) (zAT (vs := []) Tryz.func120 zMf zNZ rfl) (zGc _) ?_
 rintro _ w29 ⟨rfl, X29⟩
 replace Br := X29.keep Br
 replace Bo := X29.keep Bo
 replace E := E.ext X29
 refine qW (#[(I6 0), (.slice none 0 0), (.slice none 0 0), (I6 0), (I6 0), (.bool false)]) rfl rfl zAH Bo ?_
 intro w4 S4
 replace Br := S4.keep (by omega) Br
 replace E := S4.stp E
 replace Bo := S4.blk
 refine zAB (zAQ ?_)
 refine zAm Tryz.results60 (vs := [(.int .i64 0), (.slice none 0 0), (.slice none 0 0), (.int .i64 0), (.int .i64 0), (.bool false)]) (b := bo) rfl zAb zAH rfl (Bo.cells rfl) ?_
 exact ⟨⟨_, rfl, by rw [st2 hk, if_neg (by rw [hin]; decide)]; exact zBN _ _ _⟩, E⟩
set_option maxHeartbeats 1000000 in
theorem zPf (c : Int) (n : Nat) (ih : zEx c n) (t : Re) (hn : t.size ≤ n) (h300 : t.size ≤ 300) (hok : zAq t) (hk : t.kind = 0 ∨ t.kind = 1) (w0 : World) (S : Nat → Prop) (vs : List Value) (ht : zAc S w0 t vs) (hS : ∀ x, S x → x < w0.heap.size) :
  Ret Tryz.prog 60 #[.agg vs.toArray, .int .i64 c] w0 fun r w => (∃ us, r = .agg us.toArray ∧ zAc (fun b => S b ∨ w0.heap.size ≤ b) w (zBK c t) us) ∧ Ext w0 w := by
 have ht0 := ht
 obtain ⟨sa, sc, aa, ac, rfl, hset, hlen, hargs⟩ := ht.form
 have hRs : zCJ S w0 (.slice aa t.args.length ac) t.args := zEs ht0
 have hal := zBm t
 have hszt := t.size_eq
 refine zAk Tryz.func60 rfl Tryz.ntmps60 (Nat.le_of_ble_eq_true rfl) ?_
 have E : Chg zAh w0 w0 := Chg.refl _ _
 refine zAA ?_
 refine zBL (v := (.agg (R6 t sa sc aa ac))) (c := (R6 t sa sc aa ac)) (by decide) rfl rfl ?_
 intro br wr Nr
 have Fr := Nr.ge E
 replace E := E.ext Nr.ext
 have Br := Nr.blk
 refine zBD (c := #[(I6 0), (.slice none 0 0), (.slice none 0 0), (I6 0), (I6 0), (.bool false)]) (by decide) zAs rfl ?_
 intro bo wo No
 have Fo := No.ge E
 have Oo_br := No.lt Br
 replace Br := No.keep Br
 replace E := E.ext No.ext
 have Bo := No.blk
 refine zAB (zAP (zAA ?_))
 refine qF br 0 0 rfl Tryz.underlying25 rfl zAw rfl ?_
 refine qV (zAK (v := (I6 t.kind)) rfl zAf (Br.cell rfl)) ?_
 refine zAB (zAZ (zAA ?_))
 refine qV (zAg (k := .i64) (a := t.kind) (b := 2) rfl rfl) ?_
 refine qA (.bool (decide ((t.kind : Int) = 2))) rfl ?_
 refine zAB ?_
 have hc1 : (decide ((t.kind : Int) = 2)) = false := decide_eq_false (by omega)
 refine zAX (congrArg Value.bool hc1) ?_
 refine zAA ?_
 refine qV (zAg (k := .i64) (a := t.kind) (b := 3) rfl rfl) ?_
 refine qA (.bool (decide ((t.kind : Int) = 3))) rfl ?_
 refine zAB ?_
 have hc2 : (decide ((t.kind : Int) = 3)) = false := decide_eq_false (by omega)
 refine zAX (congrArg Value.bool hc2) ?_
 refine zAP (zAA ?_)
 refine qV (zAg (k := .i64) (a := t.kind) (b := 4) rfl rfl) ?_
 refine qA (.bool (decide ((t.kind : Int) = 4))) rfl ?_
 refine zAB ?_
 have hc3 : (decide ((t.kind : Int) = 4)) = false := decide_eq_false (by omega)
 refine zAX (congrArg Value.bool hc3) ?_
 refine zAA ?_
 refine qV (zAg (k := .i64) (a := t.kind) (b := 7) rfl rfl) ?_
 refine qA (.bool (decide ((t.kind : Int) = 7))) rfl ?_
 refine zAB ?_
 have hc4 : (decide ((t.kind : Int) = 7)) = false := decide_eq_false (by omega)
 refine zAX (congrArg Value.bool hc4) ?_
 refine zAW ?_
 refine qV (zAg (k := .i64) (a := t.kind) (b := 8) rfl rfl) ?_
 refine qA (.bool (decide ((t.kind : Int) = 8))) rfl ?_
 refine zAB (zAC ?_)
 have hc5 : (decide ((t.kind : Int) = 8)) = false := decide_eq_false (by omega)
 refine zAX (congrArg Value.bool hc5) ?_
 refine zAA ?_
 refine qV (zAg (k := .i64) (a := t.kind) (b := 5) rfl rfl) ?_
 refine qA (.bool (decide ((t.kind : Int) = 5))) rfl ?_
 refine zAB ?_
 have hc6 : (decide ((t.kind : Int) = 5)) = false := decide_eq_false (by omega)
 refine zAX (congrArg Value.bool hc6) ?_
 refine zAA ?_
 refine qV (zAg (k := .i64) (a := t.kind) (b := 6) rfl rfl) ?_
 refine qA (.bool (decide ((t.kind : Int) = 6))) rfl ?_
 refine zAB ?_
 have hc7 : (decide ((t.kind : Int) = 6)) = false := decide_eq_false (by omega)
 refine zAX (congrArg Value.bool hc7) ?_
 refine zAR (zAU (zAC (zAA ?_)))
 refine zAL rfl rfl (by decide) (zAT (vs := []) Tryz.func120 zMf zNZ rfl) (zGc _) ?_
 rintro _ w29 ⟨rfl, X29⟩
 replace Br := X29.keep Br
 replace Bo := X29.keep Bo
 replace E := E.ext X29
 refine qW (#[(I6 0), (.slice none 0 0), (.slice none 0 0), (I6 0), (I6 0), (.bool false)]) rfl rfl zAH Bo ?_
 intro w8 S8
 replace Br := S8.keep (by omega) Br
 replace E := S8.stp E
 replace Bo := S8.blk
 refine zAB (zAQ ?_)
 refine zAm Tryz.results60 (vs := [(.int .i64 0), (.slice none 0 0), (.slice none 0 0), (.int .i64 0), (.int .i64 0), (.bool false)]) (b := bo) rfl zAb zAH rfl (Bo.cells rfl) ?_
 exact ⟨⟨_, rfl, by rw [stn hk]; exact zBN _ _ _⟩, E⟩
set_option maxHeartbeats 1000000 in
theorem zPb (c : Int) (n : Nat) (ih : zEx c n) (t : Re) (hn : t.size ≤ n) (h300 : t.size ≤ 300) (hok : zAq t) (hk : t.kind = 5) (w0 : World) (S : Nat → Prop) (vs : List Value) (ht : zAc S w0 t vs) (hS : ∀ x, S x → x < w0.heap.size) :
  Ret Tryz.prog 60 #[.agg vs.toArray, .int .i64 c] w0 fun r w => (∃ us, r = .agg us.toArray ∧ zAc (fun b => S b ∨ w0.heap.size ≤ b) w (zBK c t) us) ∧ Ext w0 w := by
 have ht0 := ht
 obtain ⟨sa, sc, aa, ac, rfl, hset, hlen, hargs⟩ := ht.form
 have hRs : zCJ S w0 (.slice aa t.args.length ac) t.args := zEs ht0
 have hal := zBm t
 have hszt := t.size_eq
 refine zAk Tryz.func60 rfl Tryz.ntmps60 (Nat.le_of_ble_eq_true rfl) ?_
 have E : Chg zAh w0 w0 := Chg.refl _ _
 refine zAA ?_
 refine zBL (v := (.agg (R6 t sa sc aa ac))) (c := (R6 t sa sc aa ac)) (by decide) rfl rfl ?_
 intro br wr Nr
 have Fr := Nr.ge E
 replace E := E.ext Nr.ext
 have Br := Nr.blk
 refine zBD (c := #[(I6 0), (.slice none 0 0), (.slice none 0 0), (I6 0), (I6 0), (.bool false)]) (by decide) zAs rfl ?_
 intro bo wo No
 have Fo := No.ge E
 have Oo_br := No.lt Br
 replace Br := No.keep Br
 replace E := E.ext No.ext
 have Bo := No.blk
 refine zAB (zAP (zAA ?_))
 refine qF br 0 0 rfl Tryz.underlying25 rfl zAw rfl ?_
 refine qV (zAK (v := (I6 t.kind)) rfl zAf (Br.cell rfl)) ?_
 refine zAB (zAZ (zAA ?_))
 refine qV (zAg (k := .i64) (a := t.kind) (b := 2) rfl rfl) ?_
 refine qA (.bool (decide ((t.kind : Int) = 2))) rfl ?_
 refine zAB ?_
 obtain ⟨n1, hn1⟩ : ∃ n1, n1 = wo.heap.size := ⟨_, rfl⟩
 have hob : br < n1 ∧ bo < n1 ∧ w0.heap.size ≤ bo ∧ w0.heap.size ≤ n1 := ⟨by rw [hn1]; exact Br.lt, by rw [hn1]; exact Bo.lt, by omega, by rw [hn1]; exact E.size⟩
 have hn1w : n1 ≤ wo.heap.size := by omega
 have E1 : Ext wo wo := Ext.refl _
 have hc1 : (decide ((t.kind : Int) = 2)) = false := decide_eq_false (by omega)
 refine zAX (congrArg Value.bool hc1) ?_
 refine zAA ?_
 refine qV (zAg (k := .i64) (a := t.kind) (b := 3) rfl rfl) ?_
 refine qA (.bool (decide ((t.kind : Int) = 3))) rfl ?_
 refine zAB ?_
 have hc2 : (decide ((t.kind : Int) = 3)) = false := decide_eq_false (by omega)
 refine zAX (congrArg Value.bool hc2) ?_
 refine zAP (zAA ?_)
 refine qV (zAg (k := .i64) (a := t.kind) (b := 4) rfl rfl) ?_
 refine qA (.bool (decide ((t.kind : Int) = 4))) rfl ?_
 refine zAB ?_
 have hc3 : (decide ((t.kind : Int) = 4)) = false := decide_eq_false (by omega)
 refine zAX (congrArg Value.bool hc3) ?_
 refine zAA ?_
 refine qV (zAg (k := .i64) (a := t.kind) (b := 7) rfl rfl) ?_
 refine qA (.bool (decide ((t.kind : Int) = 7))) rfl ?_
 refine zAB ?_
 have hc4 : (decide ((t.kind : Int) = 7)) = false := decide_eq_false (by omega)
 refine zAX (congrArg Value.bool hc4) ?_
 refine zAW ?_
 refine qV (zAg (k := .i64) (a := t.kind) (b := 8) rfl rfl) ?_
 refine qA (.bool (decide ((t.kind : Int) = 8))) rfl ?_
 refine zAB (zAC ?_)
 have hc5 : (decide ((t.kind : Int) = 8)) = false := decide_eq_false (by omega)
 refine zAX (congrArg Value.bool hc5) ?_
 refine zAA ?_
 refine qV (zAg (k := .i64) (a := t.kind) (b := 5) rfl rfl) ?_
 refine qA (.bool (decide ((t.kind : Int) = 5))) rfl ?_
 refine zAB ?_
 have hc6 : (decide ((t.kind : Int) = 5)) = true := decide_eq_true hk
 refine zAl (congrArg Value.bool hc6) ?_
 obtain ⟨x, hax, hx0⟩ : ∃ x, t.args = [x] ∧ zAq x := by obtain ⟨y, hy, _⟩ := hok.n.k5 hk; exact ⟨y, hy, hok.a y (by rw [hy]; simp)⟩
 have hx : t.args[0]? = some x := by rw [hax]; rfl
 have hal1 : t.args.length = 1 := by rw [hax]; rfl
 have hxz := Re.size_arg hx
 obtain ⟨ab, ao, hab, rfl, hres⟩ := hargs.resolve_left (fun h => by rw [h] at hx; cases hx)
 obtain ⟨us, hus, hxt⟩ := hres.get hx
 have hxt0 := hxt
 obtain ⟨xsa, xsc, xaa, xac, rfl, _, _, _⟩ := hxt.form
 have hsm := zCY (c := c) hx0 (by omega)
 obtain ⟨N, hN⟩ : ∃ N, N = zBK c t := ⟨_, rfl⟩
 obtain ⟨D, hD⟩ : ∃ D, D = zBK c x := ⟨_, rfl⟩
 have hN5 : N = zEd [D, t] := by rw [hN, hD]; exact st5 hk hax
 have hz_7 : w0.heap.size ≤ wo.heap.size := E.size
 have lz_7_br : br < wo.heap.size := Br.lt
 have lz_7_bo : bo < wo.heap.size := Bo.lt
 refine zAP ?_
 obtain ⟨Fs7, hFs7⟩ : ∃ Fs : List Fact, Fs = [.eq (P6 br 2), .eq (.slice (some ⟨ab, ao, none⟩) t.args.length ac), .eq (.pointer (some ⟨ab, ao + 0 * 6, none⟩)), .eq (.agg (R6 x xsa xsc xaa xac)), .eq (I6 c), .gen (reG (fun b => S b ∨ n1 ≤ b) D) (zAy _ _), .eq (.agg (R6 t sa sc (some ⟨ab, ao, none⟩) ac)), .gen (rsG (fun b => S b ∨ n1 ≤ b) [D, t]) (zCH _ _), .gen (reG (fun b => S b ∨ n1 ≤ b) N) (zAy _ _), .eq undef] := ⟨_, rfl⟩
 refine zDo [true, true, true, true, true, true, true, true, true, false] [9] [75, 76, 77, 78, 79, 80, 81, 82, 83, 119] [[], [0], [1], [2], [], [3, 4], [], [5, 6], [5, 7], []] Fs7 hFs7 mixed (by kernel_rfl) (by kernel_rfl) (by kernel_rfl) (by kernel_rfl) ?_ ?_
 ·intro wd X0
  refine DagStepsP.cons (fun s' w' X U H => Or.inl ⟨?_, ?_⟩) ?_
  ·exact zAE rfl
  ·exact zAJ (zAN (b := br) (o := 0) (o' := 2) (U 2 rfl) Tryz.underlying25 rfl zBI rfl) (Ext.refl _) rfl
  refine DagStepsP.cons (fun s' w' X U H => Or.inl ⟨?_, ?_⟩) ?_
  ·exact zAE rfl
  ·have e75 : s' 75 = (.pointer (some ⟨br, 2, none⟩)) := H 0 rfl 75 (.eq (.pointer (some ⟨br, 2, none⟩))) rfl (by rw [hFs7]; rfl)
   exact zAJ (zAK (v := (.slice (some ⟨ab, ao, none⟩) t.args.length ac)) e75 zAv (((X0.trans X).keep Br).cell rfl)) (Ext.refl _) rfl
  refine DagStepsP.cons (fun s' w' X U H => Or.inl ⟨?_, ?_⟩) ?_
  ·exact zAE rfl
  ·have e76 : s' 76 = (.slice (some ⟨ab, ao, none⟩) t.args.length ac) := H 1 rfl 76 (.eq (.slice (some ⟨ab, ao, none⟩) t.args.length ac)) rfl (by rw [hFs7]; rfl)
   exact zAJ (zAO (b := ab) (o := ao) (len := t.args.length) (cap := ac) (i := 0) (o' := ao + 0 * 6) e76 rfl rfl Tryz.underlying23 zAH (by omega) (by omega)) (Ext.refl _) rfl
  refine DagStepsP.cons (fun s' w' X U H => Or.inl ⟨?_, ?_⟩) ?_
  ·exact zAE rfl
  ·have e77 : s' 77 = (.pointer (some ⟨ab, ao + 0 * 6, none⟩)) := H 2 rfl 77 (.eq (.pointer (some ⟨ab, ao + 0 * 6, none⟩))) rfl (by rw [hFs7]; rfl)
   exact zAJ (zAG (vs := [(I6 x.kind), (.slice xsa x.set.length xsc), (.slice xaa x.args.length xac), (I6 x.mn), (I6 x.mx), (.bool x.neg)]) e77 zAb zAH rfl (hus.ext (Ext.trans E (X0.trans X)))) (Ext.refl _) rfl
  refine DagStepsP.cons (fun s' w' X U H => Or.inl ⟨?_, ?_⟩) ?_
  ·exact zAE rfl
  ·exact zAJ (zAn (v := (I6 c)) (U 1 rfl)) (Ext.refl _) rfl
  refine DagStepsP.cons (fun s' w' X U H => Or.inl ⟨?_, ?_⟩) ?_
  ·exact zAE rfl
  ·have e78 : s' 78 = (.agg #[(.int .i64 x.kind), (.slice xsa x.set.length xsc), (.slice xaa x.args.length xac), (.int .i64 x.mn), (.int .i64 x.mx), (.bool x.neg)]) := H 3 rfl 78 (.eq (.agg #[(.int .i64 x.kind), (.slice xsa x.set.length xsc), (.slice xaa x.args.length xac), (.int .i64 x.mn), (.int .i64 x.mx), (.bool x.neg)])) rfl (by rw [hFs7]; rfl)
   have e79 : s' 79 = (.int .i64 c) := H 4 rfl 79 (.eq (.int .i64 c)) rfl (by rw [hFs7]; rfl)
   exact zAp (zAT (vs := [(.agg (R6 x xsa xsc xaa xac)), (I6 c)]) Tryz.func60 zQL zQu (zGt e78 e79)) ((ih x _ S _ (by omega) hx0 (zAc.ext (Ext.trans E (X0.trans X)) x hxt0) (fun y hy => by have := hS y hy; have := E.size; have := X0.size; have := X.size; omega)).mono (fun r w h => ⟨zBd (S' := fun b => S b ∨ w'.heap.size ≤ b) (fun b hb => by rcases hb with h1 | h1; exact .inl h1; exact .inr (by have := E.size; have := X0.size; have := X.size; omega)) (by rw [hD]; exact h.1), h.2⟩))
  refine DagStepsP.cons (fun s' w' X U H => Or.inl ⟨?_, ?_⟩) ?_
  ·exact zAE rfl
  ·exact zAJ (zAG (vs := [(I6 t.kind), (.slice sa t.set.length sc), (.slice (some ⟨ab, ao, none⟩) t.args.length ac), (I6 t.mn), (I6 t.mx), (.bool t.neg)]) (U 2 rfl) zAb zAH rfl (((X0.trans X).keep Br).cells rfl)) (Ext.refl _) rfl
  refine DagStepsP.cons (fun s' w' X U H => Or.inl ⟨?_, ?_⟩) ?_
  ·exact zAE rfl
  ·obtain ⟨xa80, xc80, ya80, yc80, e80, r80⟩ := H 5 rfl 80 (.gen (reG (fun b => S b ∨ n1 ≤ b) D) (zAy _ _)) rfl (by rw [hFs7]; rfl)
   have e81 : s' 81 = (.agg #[(.int .i64 t.kind), (.slice sa t.set.length sc), (.slice (some ⟨ab, ao, none⟩) t.args.length ac), (.int .i64 t.mn), (.int .i64 t.mx), (.bool t.neg)]) := H 6 rfl 81 (.eq (.agg #[(.int .i64 t.kind), (.slice sa t.set.length sc), (.slice (some ⟨ab, ao, none⟩) t.args.length ac), (.int .i64 t.mn), (.int .i64 t.mx), (.bool t.neg)])) rfl (by rw [hFs7]; rfl)
   exact zDl e80 e81 r80 (zAc.mono (fun y hy => .inl hy) t (zAc.ext (Ext.trans E (X0.trans X)) t ht0)) (fun b hb => .inr (by have := E.size; have := X0.size; have := X.size; omega))
  refine DagStepsP.cons (fun s' w' X U H => Or.inl ⟨?_, ?_⟩) ?_
  ·exact zAE rfl
  ·obtain ⟨b82, e82, q82⟩ := H 7 rfl 82 (.gen (rsG (fun b => S b ∨ n1 ≤ b) [D, t]) (zCH _ _)) rfl (by rw [hFs7]; rfl)
   exact zAp (zAT (vs := [(.slice (some ⟨b82, 0, none⟩) 2 2)]) Tryz.func118 zMg zNa (zLg e82)) ((zIy _ (fun b => (S b ∨ n1 ≤ b) ∧ b < w'.heap.size) _ [D, t] (zCJ.lt q82) (fun y hy => hy.2) (fun y hm hk => by rcases List.mem_cons.1 hm with rfl | hm; exact (zBk (by rw [hD]; exact zDN c hx0)).1 (.inl hk); simp at hm; subst hm; omega) (by simp only [Re.sizes]; rw [hD]; omega)).mono (fun r w h => ⟨zBd (S' := fun b => ((S b ∨ n1 ≤ b) ∧ b < w'.heap.size) ∨ w'.heap.size ≤ b) (fun b hb => by rcases hb with h1 | h1; exact h1.1; exact .inr (by have := E.size; have := X0.size; have := X.size; omega)) (by rw [hN5]; exact h.1), h.2⟩))
  refine DagStepsP.tail ?_
  exact DagStepsP.nil
 intro s' w7 X7 U H
 obtain ⟨xa83, xc83, ya83, yc83, e83, r83⟩ := H 8 rfl 83 (.gen (reG (fun b => S b ∨ n1 ≤ b) N) (zAy _ _)) rfl (by rw [hFs7]; rfl)
 obtain ⟨j7, rfl⟩ := zBG.out (σ := s') (l := [(4, (.pointer (some ⟨bo, 0, none⟩))), (83, (.agg #[(.int .i64 N.kind), (.slice xa83 N.set.length xc83), (.slice ya83 N.args.length yc83), (.int .i64 N.mn), (.int .i64 N.mx), (.bool N.neg)]))]) ⟨U 4 rfl, e83, trivial⟩
 clear U H
 replace Br := X7.keep Br
 replace Bo := X7.keep Bo
 replace E := E.ext X7
 refine qW (R6 N xa83 xc83 ya83 yc83) rfl rfl zAH Bo ?_
 intro w8 S8
 replace r83 := zAc.chg S8.chg (fun y hy h => by have h2 : y = bo := h; rcases hy with h1 | h1; have := hS y h1; omega; omega) _ r83
 replace Br := S8.keep (by omega) Br
 replace E := S8.stp E
 replace Bo := S8.blk
 refine zAB (zAC (zAQ (zAY (zAI ?_))))
 refine zAm Tryz.results60 (vs := [(.int .i64 N.kind), (.slice xa83 N.set.length xc83), (.slice ya83 N.args.length yc83), (.int .i64 N.mn), (.int .i64 N.mx), (.bool N.neg)]) (b := bo) rfl zAb zAH rfl (Bo.cells rfl) ?_
 exact ⟨⟨_, rfl, by rw [← hN]; exact zAc.mono (fun y hy => by rcases hy with h1 | h1; exact .inl h1; exact .inr (by omega)) _ r83⟩, E⟩
end Go.Proofs
namespace Go.Eng
open Go
/-- The facts of the operations that are done before the variable is made, as facts afterwards. -/
inductive Cvs (n : Nat) : List Fact → List Fact → Prop where
  | nil : Cvs n [] []
  | cons {F F' : Fact} {l l' : List Fact} (h : ∀ v w, w.heap.size = n → F.In v w → F'.In v w) (t : Cvs n l l') : Cvs n (F :: l) (F' :: l')
theorem Cvs.get {n : Nat} : ∀ {l l' : List Fact}, Cvs n l l' → ∀ {j : Nat} {F' : Fact}, l'[j]? = some F' → ∃ F, l[j]? = some F ∧ ∀ v w, w.heap.size = n → F.In v w → F'.In v w
  | _, _, .nil, _, _, h => by simp at h
  | _, _, .cons h _, 0, _, h1 => by simp at h1; subst h1; exact ⟨_, rfl, h⟩
  | _, _, .cons _ t, j + 1, _, h1 => by
    obtain ⟨F, h2, h3⟩ := t.get (j := j) (by simpa using h1)
    exact ⟨F, by simpa using h2, h3⟩
theorem Cvs.same {n : Nat} {F : Fact} {l l' : List Fact} (t : Cvs n l l') : Cvs n (F :: l) (F :: l') := .cons (fun _ _ _ h => h) t
def zRF (P : Program) (t : TypeId) (c : Array Value) (d : Nat) (o : Oper) : Prop :=
 (∃ z rt pos af, Zer P t z ∧ z.cells = c ∧ o = ⟨some d, .alloc t, rt, pos, af, none⟩) ∧ o.dst = some d ∧ o.guard = none
theorem zRF.mk' {P : Program} {t : TypeId} {c : Array Value} {d : Nat} {z : Value} {rt : TypeId} {pos : String} {af : Array Edge} (hz : Zer P t z) (hc : z.cells = c) : zRF P t c d ⟨some d, .alloc t, rt, pos, af, none⟩ := ⟨⟨_, _, _, _, hz, hc, rfl⟩, rfl, rfl⟩
/-- Each operation is of the head or of the tail; the first of the tail waits for the whole head but for one, each other of the tail for another of the tail. -/
def zRN (l : List Oper) (hd : List Bool) (ts : List Nat) (lt f : Nat) : Bool :=
 (List.range l.length).all fun i => hd.getD i false || (ts.contains i && bif Nat.beq i f then (List.range l.length).all (fun u => !hd.getD u false || (Nat.beq u lt || zIw l i u)) else ts.any fun p => !hd.getD p true && zIw l i p)
def lateB (ops : Array Oper) (hd : List Bool) (ts : List Nat) (lt f al : Nat) (ks : List Nat) : Bool := !hd.getD lt false || (zJb ops ks (((hd.set lt false).set f true).toArray) && (Nat.beq ks.length ts.length && !Nat.beq al lt))
theorem zFf : ∀ hd : List Bool, zDU hd hd = 0
  | [] => rfl
  | true :: hd => by have := zFf hd; simpa [zDU] using this
  | false :: hd => by have := zFf hd; simpa [zDU] using this
theorem zJm {P : Program} {N : Nat} {Q : zFl} {σ : Env} {w : World} {id : Nat} {l : List Oper} (hd : List Bool) (ts : List Nat) (lt f : Nat) (ks : List Nat) (ds : List Nat) (wss : List (List Nat)) (Fs : (Nat → Prop) → List Fact) {Gs : (Nat → Prop) → List Fact} (hG : Fs = Gs) (R0 : Nat → Prop) (hR0 : ∀ y, w.heap.size ≤ y → R0 y) (al dA : Nat) {tA : TypeId} {oA : Oper} {cA : Array Value} {lo : Nat} (hlo : lo ≤ w.heap.size) (hdA : ds[al]? = some dA) (hoA : l[al]? = some oA) (hoA2 : zRF P tA cA dA oA) (hFA : ∀ R, ∃ h, (Fs R)[al]? = some (.gen (alF tA cA lo) h))
    (hcv : ∀ n, Cvs n (Fs R0) (Fs fun y => R0 y ∧ y ≠ n)) (hm : P.follows .mixedOrders = true) (hB : zEi N hd 0 l ds wss hd = true) (hn : zGU ds = true)
    (hAt : hd[al]? = some true) (hT : (zRN l hd ts lt f && zJb l.toArray ts hd.toArray) = true) (hL : lateB l.toArray hd ts lt f al ks = true) (hN : Nat.beq (zDU hd (List.replicate l.length false) + ts.length) l.length = true)
    (steps : ∀ w1, Ext w w1 → ∀ RR : Nat → Prop, (∀ y, y < w.heap.size → R0 y → RR y) → (∀ y, w1.heap.size ≤ y → RR y) → DagStepsP P N ds (Fs RR) σ w1 l wss hd (Gs RR))
    (k : ∀ σ' w' (RR : Nat → Prop) β, Ext w w' → (∀ t, ds.contains t = false → σ' t = σ t) → (∀ y, RR y → R0 y ∧ y ≠ β) → σ' dA = .pointer (some ⟨β, 0, none⟩) → (∀ j, hd[j]? = some true → zFm ds (Fs RR) j σ' w') → WpL P N l.toArray (Q .normal) Q (ts.filterMap fun k => l[k]?) σ' w')
    (k2 : hd.getD lt false = true → ∀ σ' w' (RR : Nat → Prop) β, Ext w w' → (∀ t, ds.contains t = false → σ' t = σ t) → (∀ y, RR y → R0 y ∧ y ≠ β) → σ' dA = .pointer (some ⟨β, 0, none⟩) → (∀ j, hd[j]? = some true → j ≠ lt → zFm ds (Fs RR) j σ' w') → WpL P N l.toArray (Q .normal) Q ((f :: ks).filterMap fun k => l[k]?) σ' w') : Wp P N (.region id l.toArray true) Q σ w := by
  intro a ha he
  have eQ : zFG N (thn (Q .normal) Q) = zFG N Q := by funext e a w; cases e <;> rfl
  refine wp_region_any hm ?_
  obtain ⟨w1, hw1⟩ : ∃ w1 : World, w1 = { w with drawn := w.drawn + 1 } := ⟨_, rfl⟩
  have hE1 : Ext w w1 := by rw [hw1]; exact zFL w
  rw [← hw1]
  have hst0 := steps w1 hE1 R0 (fun y _ h => h) (fun y hy => hR0 y (by have := hE1.size; omega))
  rw [← hG] at hst0
  rw [Bool.and_eq_true] at hT
  obtain ⟨hT1, hT2⟩ := hT
  obtain ⟨hlen, hlen2⟩ := zGg hB
  obtain ⟨hopA, hAft, hGA⟩ := hoA2
  have key : ∀ (m : Nat) (RR : Nat → Prop) (wB : World) (listed : Array Bool) (a : Act) (w' : World), DagStepsP P N ds (Fs RR) σ wB l wss hd (Fs RR) → Ext w wB → (listed.getD al false = false → RR = R0) → (listed.getD al false = true → ∃ β, (∀ y, RR y → R0 y ∧ y ≠ β) ∧ env a dA = .pointer (some ⟨β, 0, none⟩)) → zDU hd listed.toList = m → listed.size = l.length → (∀ (t : Nat), hd[t]? = some false → listed.toList[t]? = some false) → Ok N a → Ext wB w' → (∀ t, ds.contains t = false → env a t = σ t) → (∀ j, hd[j]? = some true → listed.getD j false = true → zFm ds (Fs RR) j (env a) w') →
      wpAny P .any l.toArray (zFG N Q) (m + ts.length) listed a w' := by
    intro m
    induction m with
    | zero =>
      intro RR wB listed a w' hst hEB hA1 hA2 hc0 hsz htl ha hx hu hh
      have hl : listed = hd.toArray := by
        apply Array.ext'
        exact zFe (by simp; omega) hc0 htl
      have hlA : listed.getD al false = true := by
        rw [hl]
        exact zCS (by simpa using hAt)
      rw [Nat.zero_add]
      obtain ⟨β, hβ1, hβ2⟩ := hA2 hlA
      have h1 := k (env a) w' RR β (hEB.trans hx) hu hβ1 hβ2 (fun j hj => hh j hj (zCS (by rw [hl]; exact hj))) a ha rfl
      rw [eQ] at h1
      exact zDI ts listed a w' (by rw [hl]; exact hT2) (by simpa using h1)
    | succ m ih =>
      intro RR wB listed a w' hst hEB hA1 hA2 hcm hsz htl ha hx hu hh
      obtain ⟨i0, hi0, hi1⟩ := zGY (hd := hd) (listed := listed.toList) (by omega)
      rw [show m + 1 + ts.length = (m + ts.length) + 1 by omega]
      refine ⟨fun hr => ?_, fun i hi => ?_⟩
      · exfalso
        have hall : ∀ i : Nat, hd[i]? = some true → listed.getD i true = true := by
          intro i
          induction i using Nat.strongRecOn with
          | _ i ihi =>
            intro hi
            cases hv : listed.getD i true with
            | true => rfl
            | false =>
              exfalso
              obtain ⟨o, ho⟩ := zAa (l := l) (i := i) (by have := zAo hi; omega)
              obtain ⟨d, ws, h, _, _, h2, h3⟩ := zDW hB ho
              rw [hi] at h2
              cases h2
              simp only [cond_true, Bool.and_eq_true, Nat.zero_add] at h3
              have : i ∈ Region.ready .any l.toArray listed := by
                refine mem_ready.2 ⟨hv, o, by simpa using ho, fun e he hb => ?_⟩
                have h4 := h3.1
                simp only [zDk, Bool.and_eq_true, Array.all_eq_true_iff_forall_mem, Bool.or_eq_true, Bool.not_eq_true'] at h4
                have h5 := h3.2.1
                simp only [Array.all_eq_true_iff_forall_mem, Bool.or_eq_true, Bool.not_eq_true'] at h5
                have h6 := (h4.1.2 e he).resolve_left (by simp [hb])
                have hlt : e.on < i := by simpa [Nat.blt_eq] using h6
                have h7 := (h5 e he).resolve_left (by simp [hb])
                have hj0 : e.on < hd.length := by have := zAo hi; omega
                have h8 : hd[e.on]? = some true := by
                  rw [List.getD_eq_getElem?_getD, List.getElem?_eq_getElem hj0, Option.getD_some] at h7
                  rw [List.getElem?_eq_getElem hj0, h7]
                have h9 := ihi e.on hlt h8
                have hj : e.on < listed.size := by omega
                simpa only [Array.getD_eq_getD_getElem?, Array.getElem?_eq_getElem hj, Option.getD_some] using h9
              rw [hr] at this
              cases this
        have := hall i0 hi0
        rw [zCS hi1] at this
        cases this
      · obtain ⟨h1, o, h2, h3⟩ := mem_ready.1 hi
        have ho : l[i]? = some o := by simpa using h2
        have hil : i < l.length := zAo ho
        by_cases hih : hd[i]? = some true
        rotate_left
        · -- one of the tail: all of the head but one are listed
          have hb : hd[i]? = some false := by
            obtain ⟨b, hb⟩ := zAa (l := hd) (i := i) (by omega)
            cases b with
            | true => exact absurd hb hih
            | false => exact hb
          have h4 := List.all_eq_true.1 hT1 i (List.mem_range.2 hil)
          rw [List.getD_eq_getElem?_getD, hb, Option.getD_some, Bool.false_or, Bool.and_eq_true] at h4
          have edge : ∀ u, zIw l i u = true → listed.getD u false = true := fun u hu' => by
            unfold zIw at hu'
            rw [ho] at hu'
            simp only [Array.any_eq_true', Bool.and_eq_true] at hu'
            obtain ⟨e, he, hb1, hb2⟩ := hu'
            have := Nat.eq_of_beq_eq_true hb2
            rw [← this]
            exact h3 e he hb1
          cases hif : Nat.beq i f with
          | false =>
            exfalso
            rw [hif, cond_false] at h4
            obtain ⟨p, _, h6⟩ := List.any_eq_true.1 h4.2
            rw [Bool.and_eq_true, Bool.not_eq_true'] at h6
            have h7 := edge p h6.2
            have hp : hd[p]? = some false := by
              have h8 := h6.1
              rw [List.getD_eq_getElem?_getD] at h8
              cases h9 : hd[p]? with
              | none => rw [h9] at h8; cases h8
              | some b => rw [h9, Option.getD_some] at h8; rw [h8]
            rw [zCS (htl p hp)] at h7
            cases h7
          | true =>
            rw [hif, cond_true] at h4
            have hfi : i = f := Nat.eq_of_beq_eq_true hif
            have hdone : ∀ u, hd[u]? = some true → u ≠ lt → listed.getD u false = true := fun u hu1 hu2 => by
              have h6 := List.all_eq_true.1 h4.2 u (List.mem_range.2 (by have := zAo hu1; omega))
              rw [List.getD_eq_getElem?_getD, hu1, Option.getD_some, Bool.not_true, Bool.false_or, Bool.or_eq_true] at h6
              rcases h6 with h6 | h6
              · exact absurd (Nat.eq_of_beq_eq_true h6) hu2
              · exact edge u h6
            have hi0l : i0 = lt := Classical.byContradiction fun hne => by
              have := hdone i0 hi0 hne
              rw [zCS hi1] at this; cases this
            subst hi0l
            have hlE : listed.toList = hd.set i0 false := by
              apply List.ext_getElem?
              intro t
              rw [List.getElem?_set]
              by_cases ht : i0 = t
              · subst ht
                rw [if_pos rfl, if_pos (zAo hi0)]
                exact hi1
              · rw [if_neg ht]
                cases h9 : hd[t]? with
                | none => exact List.getElem?_eq_none (by have := List.getElem?_eq_none_iff.1 h9; simp; omega)
                | some b =>
                  cases b with
                  | false => exact htl t h9
                  | true =>
                    have h10 := hdone t h9 (Ne.symm ht)
                    have h11 : t < listed.size := by have := zAo h9; omega
                    simp only [Array.getD_eq_getD_getElem?, Array.getElem?_eq_getElem h11, Option.getD_some] at h10
                    rw [Array.getElem?_toList, Array.getElem?_eq_getElem h11, h10]
            have hm0 : m = 0 := by
              have h9 := zFI hi0 hi1
              have h10 : listed.toList.set i0 true = hd := by
                rw [hlE, List.set_set]
                apply List.ext_getElem?
                intro t
                rw [List.getElem?_set]
                by_cases ht : i0 = t
                · subst ht; rw [if_pos rfl, if_pos (zAo hi0), hi0]
                · rw [if_neg ht]
              rw [h10, zFf] at h9
              omega
            subst hm0
            have hgd : hd.getD i0 false = true := by rw [List.getD_eq_getElem?_getD, hi0, Option.getD_some]
            unfold lateB at hL
            rw [hgd, Bool.not_true, Bool.false_or, Bool.and_eq_true, Bool.and_eq_true, Bool.not_eq_true'] at hL
            obtain ⟨hp1, hp2, hp3⟩ := hL
            have hp2 := Nat.eq_of_beq_eq_true hp2
            have hne : al ≠ i0 := fun e => by rw [e, Nat.beq_refl] at hp3; cases hp3
            obtain ⟨β, hβ1, hβ2⟩ := hA2 (hdone al hAt hne)
            have h9 := k2 hgd (env a) w' RR β (hEB.trans hx) hu hβ1 hβ2 (fun j hj hjn => hh j hj (hdone j hj hjn)) a ha rfl
            rw [eQ] at h9
            have h9' : wpList P l.toArray (zFG N Q) ((f :: ks).filterMap fun k => l.toArray[k]?) a w' := by simpa using h9
            have hw : wpOp P l.toArray (zFG N Q) i (wpList P l.toArray (zFG N Q) (ks.filterMap fun k => l.toArray[k]?)) a w' := by
              rw [List.filterMap_cons, ← hfi, h2] at h9'
              unfold wpOp; simp only [h2]; exact h9'
            rw [Nat.zero_add, ← hp2]
            refine wpOp_mono (fun a2 w2 h10 => zDI ks _ a2 w2 ?_ h10) hw
            have hle : listed.setIfInBounds i true = (((hd.set i0 false).set f true).toArray) := by
              apply Array.ext'
              rw [Array.toList_setIfInBounds, hlE, hfi]
            rw [hle]; exact hp1
        obtain ⟨d, ws, h, hd', hws, hhs, h4⟩ := zDW hB ho
        rw [hih] at hhs
        cases hhs
        obtain ⟨ws', F, hws', hF, hstep⟩ := hst.get ho hih
        rw [hws] at hws'
        cases hws'
        simp only [cond_true, Bool.and_eq_true, Nat.zero_add] at h4
        have hgB := h4.2.2
        have h4 := h4.1
        simp only [zDk, Bool.and_eq_true, List.all_eq_true, Array.any_eq_true', Array.all_eq_true_iff_forall_mem, Bool.or_eq_true, Bool.not_eq_true'] at h4
        obtain ⟨⟨⟨hdst, hdN⟩, _⟩, hwait⟩ := h4
        have hdst : o.dst = some d := by
          split at hdst
          · rename_i d' h; rw [h, Nat.eq_of_beq_eq_true hdst]
          · cases hdst
        have hdN : d < N := by simpa [Nat.blt_eq] using hdN
        have hH : ∀ j, ws.contains j = true → zFm ds (Fs RR) j (env a) w' := by
          intro j hj
          have hj' : j ∈ ws := by simpa using hj
          obtain ⟨e, he, hb⟩ := hwait j hj'
          obtain ⟨hb1, hb2⟩ := hb
          have hej : e.on = j := Nat.eq_of_beq_eq_true hb2
          have hl1 := h3 e he hb1
          rw [hej] at hl1
          refine hh j ?_ hl1
          obtain ⟨b, hb⟩ := zAa (l := hd) (i := j) (by
            rcases Nat.lt_or_ge j listed.size with h9 | h9
            · omega
            · simp [Array.getD_eq_getD_getElem?, Array.getElem?_eq_none h9] at hl1)
          cases b with
          | true => exact hb
          | false => rw [zCS (htl j hb)] at hl1; cases hl1
        have gd : ∀ j b, o.guard = some (j, b) → ∀ dj, ds[j]? = some dj → (∃ oj, l[j]? = some oj ∧ oj.dst = some dj) ∧ dj < N := fun j b hgd dj hdj => by
          obtain ⟨oj, hoj⟩ := zAa (l := l) (i := j) (by have := zAo hdj; omega)
          obtain ⟨dj', _, hj, hdj', _, h5, h6⟩ := zDW hB hoj
          rw [hdj] at hdj'
          cases hdj'
          unfold zKV at hgB
          rw [hgd] at hgB
          simp only at hgB
          have h7 : hj = true := by rw [List.getD_eq_getElem?_getD, h5, Option.getD_some] at hgB; exact hgB
          rw [h7] at h6
          simp only [cond_true, Bool.and_eq_true, zDk] at h6
          obtain ⟨⟨⟨hdst2, hdN2⟩, _⟩, _⟩ := h6.1
          refine ⟨⟨oj, hoj, ?_⟩, by simpa [Nat.blt_eq] using hdN2⟩
          split at hdst2
          · rename_i d' h; rw [h, Nat.eq_of_beq_eq_true hdst2]
          · cases hdst2
        have cont0 : ∀ (R2 : Nat → Prop) (wC : World) v w2, DagStepsP P N ds (Fs R2) σ wC l wss hd (Fs R2) → Ext w wC → Ext wC w2 → ((listed.setIfInBounds i true).getD al false = false → R2 = R0) → ((listed.setIfInBounds i true).getD al false = true → ∃ β, (∀ y, R2 y → R0 y ∧ y ≠ β) ∧ upd (env a) d v dA = .pointer (some ⟨β, 0, none⟩)) → (∀ F, (Fs R2)[i]? = some F → F.In v w2) → (∀ j, j ≠ i → hd[j]? = some true → listed.getD j false = true → zFm ds (Fs R2) j (env a) w2) → wpAny P .any l.toArray (zFG N Q) (m + ts.length) (listed.setIfInBounds i true) (a.put o.dst v) w2 := by
          intro R2 wC v w2 hst2 hEC hxC hB1 hB2 hv hh2
          have henv : env (a.put o.dst v) = upd (env a) d v := by rw [hdst]; exact zEC ha hdN v
          have hlf : listed.toList[i]? = some false := by
            have hj : i < listed.size := by omega
            simp only [Array.getD_eq_getD_getElem?, Array.getElem?_eq_getElem hj, Option.getD_some] at h1
            rw [Array.getElem?_toList, Array.getElem?_eq_getElem hj, h1]
          refine ih R2 wC _ _ _ hst2 hEC hB1 (fun h => by obtain ⟨β, h5, h6⟩ := hB2 h; exact ⟨β, h5, by rw [henv]; exact h6⟩) ?_ (by simpa using hsz) (fun t ht => ?_) (ha.put _ _) hxC ?_ ?_
          · rw [Array.toList_setIfInBounds]
            have := zFI hih hlf
            omega
          · rw [Array.toList_setIfInBounds, List.getElem?_set]
            have hne : i ≠ t := fun e => by rw [← e, hih] at ht; cases ht
            rw [if_neg hne]
            exact htl t ht
          · intro t ht
            rw [henv, ← hu t ht]
            simp only [upd]
            cases hb : Nat.beq t d
            · rfl
            · exfalso
              have : t = d := Nat.eq_of_beq_eq_true hb
              subst this
              have := List.mem_of_getElem? hd'
              simp [this] at ht
          · intro j hjh hj d' F' hd'' hF'
            rw [henv]
            by_cases hij : j = i
            · subst hij
              rw [hd'] at hd''; cases hd''
              simp only [upd, Nat.beq_refl, cond_true]
              exact hv _ hF'
            · have hne : Nat.beq d' d = false := by
                cases hb : Nat.beq d' d
                · rfl
                · exfalso
                  have : d' = d := Nat.eq_of_beq_eq_true hb
                  subst this
                  exact hij (zDL hn hd'' hd')
              simp only [upd, hne, cond_false]
              rw [getD_set_ne _ (Ne.symm hij)] at hj
              exact hh2 j hij hjh hj d' F' hd'' hF'
        by_cases hia : i = al
        · -- the new variable itself
          subst hia
          rw [hoA] at ho; cases ho
          rw [hdA] at hd'; cases hd'
          have hA0 := hA1 (getD_both h1)
          subst hA0
          obtain ⟨z, rt, pos, af, hz, hzc, hop⟩ := hopA
          have hw : Region.wanted oA (yielded l.toArray a.tmps) = true := by simp [Region.wanted, hGA]
          have hdo : zLf P N oA (fun v w2 => v = .pointer (some ⟨w'.heap.size, 0, none⟩) ∧ Blk w2 w'.heap.size cA tA ∧ w'.heap.size < w2.heap.size) (env a) w' := by
            subst hop
            subst hzc
            have hn := New.mk' w' z.cells tA
            exact zAJ (v := .pointer (some ⟨w'.heap.size, 0, none⟩)) (by simp [execOp, Instr.alloc, hz.run, newVar, newRow]) hn.ext ⟨rfl, hn.blk, hn.blk.lt⟩
          unfold wpOp
          simp only [h2, hw, if_true]
          refine Or.inl (hdo a ha rfl _ _ ?_)
          rintro v w2 hx2 ⟨rfl, hblk, hlt⟩
          have hEB2 := hEB.trans hx
          have hs1 := hEB2.size
          have hst2 := steps w2 (hEB2.trans hx2) (fun y => RR y ∧ y ≠ w'.heap.size) (fun y hy h => ⟨h, by omega⟩) (fun y hy => ⟨hR0 y (by omega), by omega⟩)
          rw [← hG] at hst2
          refine cont0 _ w2 _ w2 hst2 (hEB2.trans hx2) (Ext.refl _) (fun h => ?_) (fun _ => ⟨w'.heap.size, fun y h => h, by simp [upd]⟩) (fun F2 hF2 => ?_) (fun j hij hjh hj => ?_)
          · rw [zCS (b := true) (by rw [Array.toList_setIfInBounds, List.getElem?_set, if_pos rfl, if_pos (by simpa using (by omega : i < listed.size))])] at h; cases h
          · obtain ⟨h5, h6⟩ := hFA fun y => RR y ∧ y ≠ w'.heap.size
            rw [h6] at hF2; cases hF2
            exact ⟨_, rfl, hblk, by omega⟩
          · intro dj Fj hdj hFj
            obtain ⟨F0, hF0, hc⟩ := (hcv w'.heap.size).get hFj
            exact Fact.ext (hc _ _ rfl (hh j hjh hj dj F0 hdj hF0)) hx2
        have cont : ∀ v w2, Ext w' w2 → F.In v w2 → wpAny P .any l.toArray (zFG N Q) (m + ts.length) (listed.setIfInBounds i true) (a.put o.dst v) w2 := by
          intro v w2 hx2 hv
          refine cont0 RR wB v w2 hst hEB (hx.trans hx2) (fun h => hA1 (by rw [getD_set_ne _ (by omega : i ≠ al)] at h; exact h)) (fun h => ?_) (fun F2 hF2 => by rw [hF] at hF2; cases hF2; exact hv) (fun j _ hjh hj d3 F3 hd3 hF3 => Fact.ext (hh j hjh hj d3 F3 hd3 hF3) hx2)
          rw [getD_set_ne _ (by omega : i ≠ al)] at h
          obtain ⟨β, h5, h6⟩ := hA2 h
          refine ⟨β, h5, ?_⟩
          have hne : Nat.beq dA d = false := by
            cases hb : Nat.beq dA d
            · rfl
            · exfalso
              have : dA = d := Nat.eq_of_beq_eq_true hb
              subst this
              exact hia (zDL hn hd' hdA)
          simp only [upd, hne, cond_false]
          exact h6
        rcases hstep (env a) w' hx hu hH with ⟨hg, hdo⟩ | ⟨⟨j, b, dj, hgd, hdj, hvj⟩, hund⟩
        · have hw : Region.wanted o (yielded l.toArray a.tmps) = true := by
            cases hgd : o.guard with
            | none => simp [Region.wanted, hgd]
            | some p =>
              obtain ⟨j, b⟩ := p
              obtain ⟨dj, hdj, hvj⟩ := hg j b hgd
              obtain ⟨hdst2, hdN2⟩ := gd j b hgd dj hdj
              have h6 : a.tmps[dj]? = some (Value.bool b) := by
                have h2 : a.tmps.getD dj undef = .bool b := hvj
                have hlt : dj < a.tmps.size := by rw [ha.size]; exact hdN2
                rw [Array.getElem?_eq_getElem hlt]
                simpa [hlt] using h2
              obtain ⟨oj, hoj, hdst2⟩ := hdst2
              simp [Region.wanted, hgd, yielded, hoj, hdst2, h6]
          unfold wpOp
          simp only [h2, hw, if_true]
          exact Or.inl (hdo a ha rfl _ _ cont)
        · have hw : Region.wanted o (yielded l.toArray a.tmps) = false := by
            obtain ⟨hdst2, hdN2⟩ := gd j b hgd dj hdj
            have hlt : dj < a.tmps.size := by rw [ha.size]; exact hdN2
            have h6 : a.tmps[dj]? = some (env a dj) := by
              rw [Array.getElem?_eq_getElem hlt]
              simp [env, hlt]
            obtain ⟨oj, hoj, hdst2⟩ := hdst2
            rcases hvj with hvj | hvj
            · rw [hvj] at h6
              cases b <;> simp [Region.wanted, hgd, yielded, hoj, hdst2, h6]
            · rw [hvj] at h6
              simp [Region.wanted, hgd, yielded, hoj, hdst2, h6, undef]
          unfold wpOp
          simp only [h2, hw, Bool.false_eq_true, if_false]
          exact cont undef w' (Ext.refl _) hund
  have h1 := key (zDU hd (Array.replicate l.toArray.size false).toList) R0 w1 (Array.replicate l.toArray.size false) a w1 hst0 hE1 (fun _ => rfl) (fun h => by rw [getD_replicate_false] at h; cases h) rfl (by simp) (fun t ht => by have h9 := zAo ht; rw [Array.toList_replicate, List.getElem?_replicate, if_pos (by rw [List.size_toArray]; omega)]) ha (Ext.refl _) (fun t _ => by rw [he]) (fun j _ hj => by rw [getD_replicate_false] at hj; cases hj)
  have e3 : zDU hd (Array.replicate l.toArray.size false).toList + ts.length = l.toArray.size := by have h9 := Nat.eq_of_beq_eq_true hN; simpa using h9
  rw [e3] at h1
  exact h1
end Go.Eng
namespace Go.Proofs
open Go Go.Eng Go.Sort
set_option maxRecDepth 100000
theorem zMM {S : Nat → Prop} {x : Re} {v : Value} {w : World} {n : Nat} (e : w.heap.size = n) (h : reG S x v w) : reG (fun y => S y ∧ y ≠ n) x v w := by
 obtain ⟨sa, sc, aa, ac, h1, h2⟩ := h
 exact ⟨sa, sc, aa, ac, h1, zAc.mono (fun y hy => ⟨hy.1, by omega⟩) x (zAc.lt x h2)⟩
theorem zMF {S : Nat → Prop} {l : List Re} {v : Value} {w : World} {n : Nat} (e : w.heap.size = n) (h : rsG S l v w) : rsG (fun y => S y ∧ y ≠ n) l v w := by
 obtain ⟨b, h1, h2⟩ := h
 exact ⟨b, h1, zFa (fun y hy => ⟨hy.1, by omega⟩) (zCJ.lt h2)⟩
theorem zME {S : Nat → Prop} {w : World} {ab ao ac : Nat} {x : Re} {l : List Re} (h : zCJ S w (.slice (some ⟨ab, ao, none⟩) (x :: l).length ac) (x :: l)) : zCJ S w (.slice (some ⟨ab, ao + 6, none⟩) l.length (ac - 1)) l := by
 obtain ⟨aa, ac', h1, h2, h3⟩ := h
 simp only [Value.slice.injEq, true_and] at h1
 obtain ⟨rfl, rfl⟩ := h1
 obtain ⟨b, o, h4, h5, h6⟩ := h3.resolve_left (by simp)
 simp only [Option.some.injEq, Addr.mk.injEq, and_true] at h5
 obtain ⟨rfl, rfl⟩ := h5
 simp only [List.length_cons] at h2
 simp only [zBM] at h6
 exact ⟨_, _, rfl, by omega, .inr ⟨_, _, h4, rfl, h6.2⟩⟩
theorem zOk {l : List Re} (h : ∀ y ∈ l, y.kind ≠ 0 ∧ y.kind ≠ 1 ∧ y.kind ≠ 3) : zEd l = zBy 3 zBJ l := by
  have h1 : zBO 3 l = l := by
    induction l with
    | nil => rfl
    | cons y l ih =>
      have hy := h y (by simp)
      have hl := ih fun z hz => h z (by simp [hz])
      unfold zBO at hl ⊢
      rw [List.flatMap_cons, hl]
      simp [hy]
  have h2 : zEm zBo l = l := List.filter_eq_self.2 fun y hy => by
    have := h y hy
    simp [zBo, this]
  have h3 : l.any zBU = false := by
    rw [List.any_eq_false]
    intro y hy
    have := h y hy
    simp [zBU, this]
  unfold zEd
  simp only [h1, h2, h3]
  simp
theorem zKt (c : Int) {l : List Re} (h : l ≠ []) : zBK c (zBy 3 zBJ l) = zEg c l := by
  match l, h with
  | [y], _ => simp [zBy, zEg]
  | y :: z :: l, _ => show zBK c (.mk 3 [] (y :: z :: l) 0 0 false) = _; simp [zBK]
theorem pre4 (l : List Re) : PreN 4 [] l 0 0 false := ⟨by omega, rfl, fun _ => rfl, fun _ => ⟨rfl, rfl⟩, by omega, by omega, by omega, by omega⟩
theorem st3' {c : Int} {t x : Re} {l : List Re} (h : t.kind = 3) (ha : t.args = x :: l) (hl : l ≠ []) : zBK c t = if zBg x = true then zCt (.mk 4 [] [zEd [zBK c x, zBy 3 zBJ l], zBK c (zBy 3 zBJ l)] 0 0 false) else zEd [zBK c x, zBy 3 zBJ l] := by
 rw [st3 h, ha, zKt c hl]
 conv => lhs; unfold zEg
 rw [if_neg hl]
 rfl
set_option maxHeartbeats 2000000 in
theorem zPd (c : Int) (n : Nat) (ih : zEx c n) (t : Re) (hn : t.size ≤ n) (h300 : t.size ≤ 300) (hok : zAq t) (hk : t.kind = 3) (w0 : World) (S : Nat → Prop) (vs : List Value) (ht : zAc S w0 t vs) (hS : ∀ x, S x → x < w0.heap.size) :
    Ret Tryz.prog 60 #[.agg vs.toArray, .int .i64 c] w0 fun r w => (∃ us, r = .agg us.toArray ∧ zAc (fun b => S b ∨ w0.heap.size ≤ b) w (zBK c t) us) ∧ Ext w0 w := by
  have ht0 := ht
  obtain ⟨sa, sc, aa, ac, rfl, hset, hlen, hargs⟩ := ht.form
  have hRs : zCJ S w0 (.slice aa t.args.length ac) t.args := zEs ht0
  have hal := zBm t
  have hszt := t.size_eq
  obtain ⟨hk2, hk3⟩ := hok.n.k3 hk
  obtain ⟨x, l, hax, hl0⟩ : ∃ x l, t.args = x :: l ∧ l ≠ [] := by
    match h : t.args with
    | [] => rw [h] at hk2; simp at hk2
    | [y] => rw [h] at hk2; simp at hk2
    | y :: z :: l => exact ⟨y, z :: l, rfl, by simp⟩
  have hkl : ∀ y ∈ l, y.kind ≠ 0 ∧ y.kind ≠ 1 ∧ y.kind ≠ 3 := fun y hy => hk3 y (by rw [hax]; simp [hy])
  have hox : zAq x := hok.a x (by rw [hax]; simp)
  have hol : ∀ y ∈ l, zAq y := fun y hy => hok.a y (by rw [hax]; simp [hy])
  have hx : t.args[0]? = some x := by rw [hax]; rfl
  have hal1 : t.args.length = l.length + 1 := by rw [hax]; rfl
  have hl1 : 0 < l.length := List.length_pos_iff.2 hl0
  have hxz := Re.size_arg hx
  obtain ⟨ab, ao, hab, rfl, hres⟩ := hargs.resolve_left (fun h => by rw [h] at hx; cases hx)
  obtain ⟨us, hus, hxt⟩ := hres.get hx
  have hxt0 := hxt
  obtain ⟨xsa, xsc, xaa, xac, rfl, _, _, _⟩ := hxt.form
  have hRl : zCJ S w0 (.slice (some ⟨ab, ao + 6, none⟩) l.length (ac - 1)) l := by
    refine zME (x := x) ?_
    rw [← hax]; exact hRs
  obtain ⟨R, hR⟩ : ∃ R, R = zBy 3 zBJ l := ⟨_, rfl⟩
  have hRc : zEd l = R := by rw [hR]; exact zOk hkl
  have hRo : zAq R := by rw [hR]; exact zLj hol hkl
  have hszl : t.size = x.size + Re.sizes l + 1 := by rw [hszt, hax]; simp only [Re.sizes]
  have hRz : R.size ≤ Re.sizes l + 1 := by rw [hR]; exact zII l
  have hxp := x.size_pos
  obtain ⟨D, hD⟩ : ∃ D, D = zBK c x := ⟨_, rfl⟩
  obtain ⟨F, hF⟩ : ∃ F, F = zEd [D, R] := ⟨_, rfl⟩
  obtain ⟨G, hG⟩ : ∃ G, G = zBK c R := ⟨_, rfl⟩
  obtain ⟨N, hN⟩ : ∃ N, N = zCt (.mk 4 [] [F, G] 0 0 false) := ⟨_, rfl⟩
  have hDo : zAq D := by rw [hD]; exact zDN c hox
  have hGo : zAq G := by rw [hG]; exact zDN c hRo
  have hst : zBK c t = if zBg x = true then N else F := by rw [hN, hG, hF, hD, hR]; exact st3' hk hax hl0
  have hDz : D.size ≤ 200000 := by rw [hD]; exact zCY hox (by omega)
  have hGz : G.size ≤ 200000 := by rw [hG]; exact zCY hRo (by omega)
  have hFo : zAq F := by
    rw [hF]
    refine zGl fun z hz => ?_
    simp only [List.mem_cons, List.not_mem_nil, or_false] at hz
    rcases hz with rfl | rfl
    · exact hDo
    · exact hRo
  have hFz : F.size ≤ 200400 := by
    have := zET [D, R]
    rw [← hF] at this
    simp only [Re.sizes] at this
    omega
  rw [hst]
  clear hst hszt hk2 hk3
  refine zAk Tryz.func60 rfl Tryz.ntmps60 (Nat.le_of_ble_eq_true rfl) ?_
  have E : Chg zAh w0 w0 := Chg.refl _ _
  refine zAA ?_
  refine zBL (v := (.agg (R6 t sa sc (some ⟨ab, ao, none⟩) ac))) (c := (R6 t sa sc (some ⟨ab, ao, none⟩) ac)) (by decide) rfl rfl ?_
  intro br wr Nr
  have Fr := Nr.ge E
  replace E := E.ext Nr.ext
  have Br := Nr.blk
  refine zBD (c := #[(I6 0), (.slice none 0 0), (.slice none 0 0), (I6 0), (I6 0), (.bool false)]) (by decide) zAs rfl ?_
  intro bo wo No
  have Fo := No.ge E
  have Oo_br := No.lt Br
  replace Br := No.keep Br
  replace E := E.ext No.ext
  have Bo := No.blk
  refine zAB (zAP (zAA ?_))
  refine qF br 0 0 rfl Tryz.underlying25 rfl zAw rfl ?_
  refine qV (zAK (v := (I6 t.kind)) rfl zAf (Br.cell rfl)) ?_
  refine zAB (zAZ (zAA ?_))
  refine qV (zAg (k := .i64) (a := t.kind) (b := 2) rfl rfl) ?_
  refine qA (.bool (decide ((t.kind : Int) = 2))) rfl ?_
  refine zAB ?_
  obtain ⟨n1, hn1⟩ : ∃ n1, n1 = wo.heap.size := ⟨_, rfl⟩
  have hob : br < n1 ∧ bo < n1 ∧ w0.heap.size ≤ bo ∧ w0.heap.size ≤ n1 := ⟨by rw [hn1]; exact Br.lt, by rw [hn1]; exact Bo.lt, by omega, by rw [hn1]; exact E.size⟩
  have hn1w : n1 ≤ wo.heap.size := by omega
  have E1 : Chg zAh wo wo := Chg.refl _ _
  have hc1 : (decide ((t.kind : Int) = 2)) = false := decide_eq_false (by omega)
  refine zAX (congrArg Value.bool hc1) ?_
  refine zAA ?_
  refine qV (zAg (k := .i64) (a := t.kind) (b := 3) rfl rfl) ?_
  refine qA (.bool (decide ((t.kind : Int) = 3))) rfl ?_
  refine zAB ?_
  have hc2 : (decide ((t.kind : Int) = 3)) = true := decide_eq_true hk
  refine zAl (congrArg Value.bool hc2) ?_
  refine zAA ?_
  refine qF br 0 2 rfl Tryz.underlying25 rfl zBI rfl ?_
  refine qV (zAK (v := (.slice (some ⟨ab, ao, none⟩) t.args.length ac)) rfl zAv (Br.cell rfl)) ?_
  obtain ⟨a24, ha24⟩ : ∃ a' : Option Addr, (if ac = 1 then (some ⟨ab, ao, none⟩) else Option.map (fun q : Addr => q.add (1 * 6)) (some ⟨ab, ao, none⟩)) = a' := ⟨_, rfl⟩
  refine qV (zDR (a := (some ⟨ab, ao, none⟩)) (len := t.args.length) (cap := ac) (lo := 1) (l := 1) (n' := l.length) (c' := ac - 1) Tryz.underlying23 zAH rfl rfl (by omega) (by omega) ha24 (by omega) (by omega)) ?_
  have ha24' : a24 = some ⟨ab, ao + 6, none⟩ := by rw [← ha24, if_neg (by omega)]; rfl
  rw [← ha24'] at hRl
  refine zAL rfl rfl (by decide) (zAT (vs := [(.slice a24 l.length (ac - 1))]) Tryz.func119 nm119 bd119 rfl) ((zNQ _ S _ l (hRl.ext E) hl0 (by omega)).mono (R' := fun r w => (∃ a c, r = .slice a l.length c ∧ zCJ (fun b => S b ∨ n1 ≤ b) w r l) ∧ Ext wo w) (fun r w h => ⟨by obtain ⟨⟨a, c, h1, h2⟩, _⟩ := h; exact ⟨a, c, h1, zFa (fun b hb => by rcases hb with h1 | h1; exact .inl h1; exact .inr (by omega)) h2⟩, h.2⟩)) ?_
  rintro _ w25 ⟨⟨ca, cc, rfl, hcl⟩, X25⟩
  replace Br := X25.keep Br
  replace Bo := X25.keep Bo
  replace E := E.ext X25
  replace E1 := E1.ext X25
  obtain ⟨h25, hh25⟩ : ∃ h, h = w25.heap.size := ⟨_, rfl⟩
  refine zAL rfl rfl (by decide) (zAT (vs := [(.slice ca l.length cc)]) Tryz.func118 zMg zNa rfl) ((zIy _ _ _ l (zCJ.lt hcl) (fun y hy => hy.2) (fun y hy hk => by have := hkl y hy; omega) (by omega)).mono (R' := fun r w => reG (fun b => S b ∨ n1 ≤ b) R r w ∧ Ext w25 w) (fun r w h => ⟨zBd (S' := fun b => ((S b ∨ n1 ≤ b) ∧ b < w25.heap.size) ∨ w25.heap.size ≤ b) (fun b hb => by rcases hb with h1 | h1; exact h1.1; exact .inr (by have := X25.size; omega)) (by rw [← hRc]; exact h.1), h.2⟩)) ?_
  rintro _ w26 ⟨⟨xa, xc, ya, yc, rfl, hR0⟩, X26⟩
  replace Br := X26.keep Br
  replace Bo := X26.keep Bo
  replace E := E.ext X26
  replace E1 := E1.ext X26
  have hR1 := zAc.lt R hR0
  obtain ⟨h26, hh26⟩ : ∃ h, h = w26.heap.size := ⟨_, rfl⟩
  rw [← hh26] at hR1
  have E2 : Chg zAh w26 w26 := Chg.refl _ _
  refine zAi (v := (.agg (R6 R xa xc ya yc))) (c := (R6 R xa xc ya yc)) (n := 6) (by decide) zAs rfl zAH rfl rfl rfl (by simp [Value.oneCell']) ?_
  intro bq wq Nq
  have Fq := Nq.ge E
  have Fq_E1 := Nq.ge E1
  have Fq_E2 := Nq.ge E2
  have Oq_br := Nq.lt Br
  have Oq_bo := Nq.lt Bo
  replace Br := Nq.keep Br
  replace Bo := Nq.keep Bo
  replace hR1 := zAc.ext Nq.ext _ hR1
  replace E := E.ext Nq.ext
  have Bq := Nq.blk
  replace E1 := E1.ext Nq.ext
  replace E2 := E2.ext Nq.ext
  refine zAB ?_
  have hz_3 : w0.heap.size ≤ wq.heap.size := E.size
  have lz_3_br : br < wq.heap.size := Br.lt
  have lz_3_bo : bo < wq.heap.size := Bo.lt
  have lz_3_bq : bq < wq.heap.size := Bq.lt
  refine zAP ?_
  obtain ⟨Fs3, hFs3⟩ : ∃ Fs : (Nat → Prop) → List Fact, Fs = fun RR => [.eq (P6 br 2), .eq (.slice (some ⟨ab, ao, none⟩) t.args.length ac), .eq (.pointer (some ⟨ab, ao + 0 * 6, none⟩)), .eq (.agg (R6 x xsa xsc xaa xac)), .eq (I6 c), .gen (reG RR D) (zAy _ _), .eq (.agg (R6 R xa xc ya yc)), .gen (rsG RR [D, R]) (zCH _ _), .gen (reG RR F) (zAy _ _), .gen (alF 25 #[(I6 0), (.slice none 0 0), (.slice none 0 0), (I6 0), (I6 0), (.bool false)] wq.heap.size) (zFk _ _ _), .eq undef] := ⟨_, rfl⟩
  refine zJm [true, true, true, true, true, true, true, true, true, true, false] [10] 11 10 [] [27, 28, 29, 30, 31, 32, 33, 34, 35, 6, 120] [[], [0], [1], [2], [], [3, 4], [], [5, 6], [5, 7], [], []] Fs3 hFs3 (fun b => S b ∨ n1 ≤ b) (fun y hy => .inr (by have := E1.size; omega)) 9 6 (lo := wq.heap.size) (Nat.le_refl _) rfl rfl (zRF.mk' zAs rfl) (fun RR => ⟨_, by rw [hFs3]; rfl⟩) (fun n => by rw [hFs3]; repeat (first | exact Cvs.nil | refine Cvs.same ?_ | refine Cvs.cons (fun v w e h => by first | exact zMM e h | exact zMF e h | exact zJQ e h) ?_)) mixed (by kernel_rfl) (by kernel_rfl) rfl (by kernel_rfl) (by kernel_rfl) (by kernel_rfl) ?_ ?_ (fun h9 => absurd h9 (by decide))
  · intro wd X0 RR hRR1 hRR2
    refine DagStepsP.cons (fun s' w' X U H => Or.inl ⟨?_, ?_⟩) ?_
    · exact zAE rfl
    · exact zAJ (zAN (b := br) (o := 0) (o' := 2) (U 2 rfl) Tryz.underlying25 rfl zBI rfl) (Ext.refl _) rfl
    refine DagStepsP.cons (fun s' w' X U H => Or.inl ⟨?_, ?_⟩) ?_
    · exact zAE rfl
    · have e27 : s' 27 = (.pointer (some ⟨br, 2, none⟩)) := H 0 rfl 27 (.eq (.pointer (some ⟨br, 2, none⟩))) rfl (by rw [hFs3]; rfl)
      exact zAJ (zAK (v := (.slice (some ⟨ab, ao, none⟩) t.args.length ac)) e27 zAv (((X0.trans X).keep Br).cell rfl)) (Ext.refl _) rfl
    refine DagStepsP.cons (fun s' w' X U H => Or.inl ⟨?_, ?_⟩) ?_
    · exact zAE rfl
    · have e28 : s' 28 = (.slice (some ⟨ab, ao, none⟩) t.args.length ac) := H 1 rfl 28 (.eq (.slice (some ⟨ab, ao, none⟩) t.args.length ac)) rfl (by rw [hFs3]; rfl)
      exact zAJ (zAO (b := ab) (o := ao) (len := t.args.length) (cap := ac) (i := 0) (o' := ao + 0 * 6) e28 rfl rfl Tryz.underlying23 zAH (by omega) (by omega)) (Ext.refl _) rfl
    refine DagStepsP.cons (fun s' w' X U H => Or.inl ⟨?_, ?_⟩) ?_
    · exact zAE rfl
    · have e29 : s' 29 = (.pointer (some ⟨ab, ao + 0 * 6, none⟩)) := H 2 rfl 29 (.eq (.pointer (some ⟨ab, ao + 0 * 6, none⟩))) rfl (by rw [hFs3]; rfl)
      exact zAJ (zAG (vs := [(I6 x.kind), (.slice xsa x.set.length xsc), (.slice xaa x.args.length xac), (I6 x.mn), (I6 x.mx), (.bool x.neg)]) e29 zAb zAH rfl (hus.ext (Ext.trans E (X0.trans X)))) (Ext.refl _) rfl
    refine DagStepsP.cons (fun s' w' X U H => Or.inl ⟨?_, ?_⟩) ?_
    · exact zAE rfl
    · exact zAJ (zAn (v := (I6 c)) (U 1 rfl)) (Ext.refl _) rfl
    refine DagStepsP.cons (fun s' w' X U H => Or.inl ⟨?_, ?_⟩) ?_
    · exact zAE rfl
    · have e30 : s' 30 = (.agg #[(.int .i64 x.kind), (.slice xsa x.set.length xsc), (.slice xaa x.args.length xac), (.int .i64 x.mn), (.int .i64 x.mx), (.bool x.neg)]) := H 3 rfl 30 (.eq (.agg #[(.int .i64 x.kind), (.slice xsa x.set.length xsc), (.slice xaa x.args.length xac), (.int .i64 x.mn), (.int .i64 x.mx), (.bool x.neg)])) rfl (by rw [hFs3]; rfl)
      have e31 : s' 31 = (.int .i64 c) := H 4 rfl 31 (.eq (.int .i64 c)) rfl (by rw [hFs3]; rfl)
      exact zAp (zAT (vs := [(.agg (R6 x xsa xsc xaa xac)), (I6 c)]) Tryz.func60 zQL zQu (zGt e30 e31)) ((ih x _ S _ (by omega) hox (zAc.ext (Ext.trans E (X0.trans X)) x hxt0) (fun y hy => by have := hS y hy; have := E.size; have := X0.size; have := X.size; omega)).mono (fun r w h => ⟨zBd (S' := fun b => S b ∨ w'.heap.size ≤ b) (fun b hb => by rcases hb with h1 | h1; exact hRR1 b (by have := hS b h1; have := E.size; omega) (.inl h1); exact hRR2 b (by have := X.size; omega)) (by rw [hD]; exact h.1), h.2⟩))
    refine DagStepsP.cons (fun s' w' X U H => Or.inl ⟨?_, ?_⟩) ?_
    · exact zAE rfl
    · exact zAJ (zAG (vs := [(I6 R.kind), (.slice xa R.set.length xc), (.slice ya R.args.length yc), (I6 R.mn), (I6 R.mx), (.bool R.neg)]) (U 5 rfl) zAb zAH rfl (((X0.trans X).keep Bq).cells rfl)) (Ext.refl _) rfl
    refine DagStepsP.cons (fun s' w' X U H => Or.inl ⟨?_, ?_⟩) ?_
    · exact zAE rfl
    · obtain ⟨xa32, xc32, ya32, yc32, e32, r32⟩ := H 5 rfl 32 (.gen (reG RR D) (zAy _ _)) rfl (by rw [hFs3]; rfl)
      have e33 : s' 33 = (.agg #[(.int .i64 R.kind), (.slice xa R.set.length xc), (.slice ya R.args.length yc), (.int .i64 R.mn), (.int .i64 R.mx), (.bool R.neg)]) := H 6 rfl 33 (.eq (.agg #[(.int .i64 R.kind), (.slice xa R.set.length xc), (.slice ya R.args.length yc), (.int .i64 R.mn), (.int .i64 R.mx), (.bool R.neg)])) rfl (by rw [hFs3]; rfl)
      exact zDl e32 e33 r32 (zAc.mono (S := fun b => (S b ∨ n1 ≤ b) ∧ b < h26) (fun y hy => hRR1 y (by have := hy.2; have := E2.size; omega) hy.1) R (zAc.ext (X0.trans X) R hR1)) (fun b hb => hRR2 b (by have := X.size; omega))
    refine DagStepsP.cons (fun s' w' X U H => Or.inl ⟨?_, ?_⟩) ?_
    · exact zAE rfl
    · obtain ⟨b34, e34, q34⟩ := H 7 rfl 34 (.gen (rsG RR [D, R]) (zCH _ _)) rfl (by rw [hFs3]; rfl)
      exact zAp (zAT (vs := [(.slice (some ⟨b34, 0, none⟩) 2 2)]) Tryz.func118 zMg zNa (zLg e34)) ((zIy _ (fun b => RR b ∧ b < w'.heap.size) _ [D, R] (zCJ.lt q34) (fun y hy => hy.2) (fun y hm hk => by rcases List.mem_cons.1 hm with rfl | hm; exact (zBk hDo).1 (.inl hk); simp at hm; subst hm; exact (zBk hRo).1 (.inl hk)) (by simp only [Re.sizes]; omega)).mono (fun r w h => ⟨zBd (S' := fun b => (RR b ∧ b < w'.heap.size) ∨ w'.heap.size ≤ b) (fun b hb => by rcases hb with h1 | h1; exact h1.1; exact hRR2 b (by have := X.size; omega)) (by rw [hF]; exact h.1), h.2⟩))
    refine DagStepsP.cons (fun s' w' X U H => Or.inl ⟨?_, ?_⟩) ?_
    · exact zAE rfl
    · exact zFn (c := #[(I6 0), (.slice none 0 0), (.slice none 0 0), (I6 0), (I6 0), (.bool false)]) zAs rfl (by have := X0.size; have := X.size; omega)
    refine DagStepsP.tail ?_
    exact DagStepsP.nil
  · intro s' w3 RR β X3 U hRA hβ H
    obtain ⟨xa35, xc35, ya35, yc35, e35, r35⟩ := H 8 rfl 35 (.gen (reG RR F) (zAy _ _)) rfl (by rw [hFs3]; rfl)
    obtain ⟨b6, e6, B6, g6⟩ := H 9 rfl 6 (.gen (alF 25 #[(.int .i64 0), (.slice none 0 0), (.slice none 0 0), (.int .i64 0), (.int .i64 0), (.bool false)] wq.heap.size) (zFk _ _ _)) rfl (by rw [hFs3]; rfl)
    have hβ2 : β = b6 := by have h9 := e6.symm.trans hβ; simpa using h9.symm
    rw [hβ2] at hRA
    clear hβ hβ2 β
    obtain ⟨j3, rfl⟩ := zBG.out (σ := s') (l := [(1, (.int .i64 c)), (2, (.pointer (some ⟨br, 0, none⟩))), (4, (.pointer (some ⟨bo, 0, none⟩))), (5, (.pointer (some ⟨bq, 0, none⟩))), (35, (.agg #[(.int .i64 F.kind), (.slice xa35 F.set.length xc35), (.slice ya35 F.args.length yc35), (.int .i64 F.mn), (.int .i64 F.mx), (.bool F.neg)])), (6, (.pointer (some ⟨b6, 0, none⟩)))]) ⟨U 1 rfl, U 2 rfl, U 4 rfl, U 5 rfl, e35, e6, trivial⟩
    clear U H
    replace Br := X3.keep Br
    replace Bo := X3.keep Bo
    replace Bq := X3.keep Bq
    replace hR1 := zAc.ext X3 _ hR1
    replace E := E.ext X3
    replace E1 := E1.ext X3
    replace E2 := E2.ext X3
    refine qW (R6 F xa35 xc35 ya35 yc35) rfl rfl zAH B6 ?_
    intro w4 S4
    replace hR1 := zAc.chg S4.chg (fun y hy h => by have h2 : y = b6 := h; have := hy.2; omega) _ hR1
    replace r35 := zAc.chg S4.chg (fun y hy h => by have h2 : y = b6 := h; have := (hRA y hy).2; omega) _ r35
    replace Br := S4.keep (by omega) Br
    replace Bo := S4.keep (by omega) Bo
    replace Bq := S4.keep (by omega) Bq
    replace E := S4.stp E
    replace E1 := S4.step E1 (Or.inl (by omega))
    replace E2 := S4.step E2 (Or.inl (by omega))
    replace B6 := S4.blk
    refine zAB (zAC (zAP (zAA ?_)))
    refine qF br 0 2 rfl Tryz.underlying25 rfl zBI rfl ?_
    refine qV (zAK (v := (.slice (some ⟨ab, ao, none⟩) t.args.length ac)) rfl zAv (Br.cell rfl)) ?_
    refine qV (zAO (b := ab) (o := ao) (len := t.args.length) (cap := ac) (i := 0) (o' := ao + 0 * 6) rfl rfl rfl Tryz.underlying23 zAH (by omega) (by omega)) ?_
    refine qV (zAG (vs := [(I6 x.kind), (.slice xsa x.set.length xsc), (.slice xaa x.args.length xac), (I6 x.mn), (I6 x.mx), (.bool x.neg)]) rfl zAb zAH rfl (hus.ext E)) ?_
    refine zAL rfl rfl (by decide) (zAT (vs := [(.agg (R6 x xsa xsc xaa xac))]) Tryz.func63 nm63 bd63 rfl) (zPM 300 x _ _ (by omega) (by omega) (zAc.at x (zAc.ext E x hxt0))) ?_
    rintro _ w40 ⟨rfl, X40⟩
    replace Br := X40.keep Br
    replace Bo := X40.keep Bo
    replace Bq := X40.keep Bq
    replace B6 := X40.keep B6
    replace hR1 := zAc.ext X40 _ hR1
    replace r35 := zAc.ext X40 _ r35
    replace E := E.ext X40
    replace E1 := E1.ext X40
    replace E2 := E2.ext X40
    refine qV (zCV (b := zBg x) rfl) ?_
    refine zAB ?_
    refine zAM (b := !(zBg x)) rfl (fun he => ?_) (fun he => ?_)
    · have khe := he
      replace he := by simpa using he
      refine zAA ?_
      refine qV (zAG (vs := [(I6 F.kind), (.slice xa35 F.set.length xc35), (.slice ya35 F.args.length yc35), (I6 F.mn), (I6 F.mx), (.bool F.neg)]) rfl zAb zAH rfl (B6.cells rfl)) ?_
      refine qW (R6 F xa35 xc35 ya35 yc35) rfl rfl zAH Bo ?_
      intro w6 S6
      replace r35 := zAc.chg S6.chg (fun y hy h => by have h2 : y = bo := h; rcases (hRA y hy).1 with h1 | h1; have := hS y h1; omega; omega) _ r35
      replace Br := S6.keep (by omega) Br
      replace Bq := S6.keep (by omega) Bq
      replace B6 := S6.keep (by omega) B6
      replace E := S6.stp E
      replace Bo := S6.blk
      refine zAB (zAQ (zAI (zAY (zAI ?_))))
      refine zAm Tryz.results60 (vs := [(.int .i64 F.kind), (.slice xa35 F.set.length xc35), (.slice ya35 F.args.length yc35), (.int .i64 F.mn), (.int .i64 F.mx), (.bool F.neg)]) (b := bo) rfl zAb zAH rfl (Bo.cells rfl) ?_
      exact ⟨⟨_, rfl, by rw [if_neg (by simpa using he)]; exact zAc.mono (fun y hy => by rcases (hRA y hy).1 with h1 | h1; exact .inl h1; exact .inr (by omega)) _ r35⟩, E⟩
    · have khe := he
      replace he := by simpa using he
      refine zAR (zAC ?_)
      have hz_7 : w0.heap.size ≤ w40.heap.size := E.size
      have lz_7_br : br < w40.heap.size := Br.lt
      have lz_7_bo : bo < w40.heap.size := Bo.lt
      have lz_7_bq : bq < w40.heap.size := Bq.lt
      have lz_7_b6 : b6 < w40.heap.size := B6.lt
      refine zAP ?_
      obtain ⟨Fs7, hFs7⟩ : ∃ Fs : List Fact, Fs = [.eq (.agg (R6 F xa35 xc35 ya35 yc35)), .eq (.agg (R6 R xa xc ya yc)), .eq (I6 c), .gen (reG (fun b => S b ∨ n1 ≤ b) G) (zAy _ _), .gen (rsG (fun b => S b ∨ n1 ≤ b) [F, G]) (zCH _ _), .gen (reG (fun b => S b ∨ n1 ≤ b) (.mk 4 [] [F, G] 0 0 false)) (zAy _ _), .gen (reG (fun b => S b ∨ n1 ≤ b) N) (zAy _ _), .eq undef] := ⟨_, rfl⟩
      refine zDo [true, true, true, true, true, true, true, false] [7] [43, 44, 45, 46, 47, 48, 49, 117] [[], [], [], [1, 2], [0, 3], [4], [3, 5], []] Fs7 hFs7 mixed (by kernel_rfl) (by kernel_rfl) (by kernel_rfl) (by kernel_rfl) ?_ ?_
      · intro wd X0
        refine DagStepsP.cons (fun s' w' X U H => Or.inl ⟨?_, ?_⟩) ?_
        · exact zAE rfl
        · exact zAJ (zAG (vs := [(I6 F.kind), (.slice xa35 F.set.length xc35), (.slice ya35 F.args.length yc35), (I6 F.mn), (I6 F.mx), (.bool F.neg)]) (U 6 rfl) zAb zAH rfl (((X0.trans X).keep B6).cells rfl)) (Ext.refl _) rfl
        refine DagStepsP.cons (fun s' w' X U H => Or.inl ⟨?_, ?_⟩) ?_
        · exact zAE rfl
        · exact zAJ (zAG (vs := [(I6 R.kind), (.slice xa R.set.length xc), (.slice ya R.args.length yc), (I6 R.mn), (I6 R.mx), (.bool R.neg)]) (U 5 rfl) zAb zAH rfl (((X0.trans X).keep Bq).cells rfl)) (Ext.refl _) rfl
        refine DagStepsP.cons (fun s' w' X U H => Or.inl ⟨?_, ?_⟩) ?_
        · exact zAE rfl
        · exact zAJ (zAn (v := (I6 c)) (U 1 rfl)) (Ext.refl _) rfl
        refine DagStepsP.cons (fun s' w' X U H => Or.inl ⟨?_, ?_⟩) ?_
        · exact zAE rfl
        · have e44 : s' 44 = (.agg #[(.int .i64 R.kind), (.slice xa R.set.length xc), (.slice ya R.args.length yc), (.int .i64 R.mn), (.int .i64 R.mx), (.bool R.neg)]) := H 1 rfl 44 (.eq (.agg #[(.int .i64 R.kind), (.slice xa R.set.length xc), (.slice ya R.args.length yc), (.int .i64 R.mn), (.int .i64 R.mx), (.bool R.neg)])) rfl (by rw [hFs7]; rfl)
          have e45 : s' 45 = (.int .i64 c) := H 2 rfl 45 (.eq (.int .i64 c)) rfl (by rw [hFs7]; rfl)
          exact zAp (zAT (vs := [(.agg (R6 R xa xc ya yc)), (I6 c)]) Tryz.func60 zQL zQu (zGt e44 e45)) ((ih R _ (fun b => (S b ∨ n1 ≤ b) ∧ b < h26) _ (by omega) hRo (zAc.ext (X0.trans X) R hR1) (fun y hy => by have := hy.2; have := X0.size; have := X.size; omega)).mono (fun r w h => ⟨zBd (S' := fun b => ((S b ∨ n1 ≤ b) ∧ b < h26) ∨ w'.heap.size ≤ b) (fun b hb => by rcases hb with h1 | h1; exact h1.1; exact .inr (by have := X0.size; have := X.size; omega)) (by rw [hG]; exact h.1), h.2⟩))
        refine DagStepsP.cons (fun s' w' X U H => Or.inl ⟨?_, ?_⟩) ?_
        · exact zAE rfl
        · have e43 : s' 43 = (.agg #[(.int .i64 F.kind), (.slice xa35 F.set.length xc35), (.slice ya35 F.args.length yc35), (.int .i64 F.mn), (.int .i64 F.mx), (.bool F.neg)]) := H 0 rfl 43 (.eq (.agg #[(.int .i64 F.kind), (.slice xa35 F.set.length xc35), (.slice ya35 F.args.length yc35), (.int .i64 F.mn), (.int .i64 F.mx), (.bool F.neg)])) rfl (by rw [hFs7]; rfl)
          obtain ⟨xa46, xc46, ya46, yc46, e46, r46⟩ := H 3 rfl 46 (.gen (reG (fun b => S b ∨ n1 ≤ b) G) (zAy _ _)) rfl (by rw [hFs7]; rfl)
          exact zDl e43 e46 (zAc.mono (fun y hy => (hRA y hy).1) F (zAc.ext (X0.trans X) F r35)) r46 (fun b hb => .inr (by have := X0.size; have := X.size; omega))
        refine DagStepsP.cons (fun s' w' X U H => Or.inl ⟨?_, ?_⟩) ?_
        · exact zAE rfl
        · obtain ⟨b47, e47, q47⟩ := H 4 rfl 47 (.gen (rsG (fun b => S b ∨ n1 ≤ b) [F, G]) (zCH _ _)) rfl (by rw [hFs7]; rfl)
          exact zLc e47 q47 rfl
        refine DagStepsP.cons (fun s' w' X U H => Or.inl ⟨?_, ?_⟩) ?_
        · exact zAE rfl
        · obtain ⟨xa48, xc48, ya48, yc48, e48, r48⟩ := H 5 rfl 48 (.gen (reG (fun b => S b ∨ n1 ≤ b) (.mk 4 [] [F, G] 0 0 false)) (zAy _ _)) rfl (by rw [hFs7]; rfl)
          exact zAp (zAT (vs := [(.agg #[(I6 4), (.slice xa48 0 xc48), (.slice ya48 2 yc48), (I6 0), (I6 0), (.bool false)])]) Tryz.func115 zOE zOp (zLg e48)) ((zHx _ (fun b => (S b ∨ n1 ≤ b) ∧ b < w'.heap.size) (.mk 4 [] [F, G] 0 0 false) _ (zAc.lt _ r48) (fun y hy => hy.2) (pre4 _) (fun y hy => by simp only [Re.args, List.mem_cons, List.not_mem_nil, or_false] at hy; rcases hy with rfl | rfl; exact hFo; exact hGo) (by simp only [Re.args, Re.sizes]; omega)).mono (fun r w h => ⟨zBd (S' := fun b => ((S b ∨ n1 ≤ b) ∧ b < w'.heap.size) ∨ w'.heap.size ≤ b) (fun b hb => by rcases hb with h1 | h1; exact h1.1; exact .inr (by have := X0.size; have := X.size; omega)) (by rw [hN]; exact h.1), h.2⟩))
        refine DagStepsP.tail ?_
        exact DagStepsP.nil
      · intro s' w7 X7 U H
        obtain ⟨xa49, xc49, ya49, yc49, e49, r49⟩ := H 6 rfl 49 (.gen (reG (fun b => S b ∨ n1 ≤ b) N) (zAy _ _)) rfl (by rw [hFs7]; rfl)
        obtain ⟨j7, rfl⟩ := zBG.out (σ := s') (l := [(4, (.pointer (some ⟨bo, 0, none⟩))), (49, (.agg #[(.int .i64 N.kind), (.slice xa49 N.set.length xc49), (.slice ya49 N.args.length yc49), (.int .i64 N.mn), (.int .i64 N.mx), (.bool N.neg)]))]) ⟨U 4 rfl, e49, trivial⟩
        clear U H
        replace Br := X7.keep Br
        replace Bo := X7.keep Bo
        replace Bq := X7.keep Bq
        replace B6 := X7.keep B6
        replace E := E.ext X7
        refine qW (R6 N xa49 xc49 ya49 yc49) rfl rfl zAH Bo ?_
        intro w8 S8
        replace r49 := zAc.chg S8.chg (fun y hy h => by have h2 : y = bo := h; rcases hy with h1 | h1; have := hS y h1; omega; omega) _ r49
        replace Br := S8.keep (by omega) Br
        replace Bq := S8.keep (by omega) Bq
        replace B6 := S8.keep (by omega) B6
        replace E := S8.stp E
        replace Bo := S8.blk
        refine zAB (zAC (zAQ (zAY (zAI ?_))))
        refine zAm Tryz.results60 (vs := [(.int .i64 N.kind), (.slice xa49 N.set.length xc49), (.slice ya49 N.args.length yc49), (.int .i64 N.mn), (.int .i64 N.mx), (.bool N.neg)]) (b := bo) rfl zAb zAH rfl (Bo.cells rfl) ?_
        exact ⟨⟨_, rfl, by rw [if_pos (by simpa using he)]; exact zAc.mono (fun y hy => by rcases hy with h1 | h1; exact .inl h1; exact .inr (by omega)) _ r49⟩, E⟩
end Go.Proofs
