/- Contracts and plain lemmas, part 3. -/
import Derived.Tactics
import Derived.Deep.Quiet
import Derived.Laws.AppendOwn
import Derived.KernelRfl
import Derived.Laws.Entries
import Derived.Laws.Build
import Derived.Below
import Derived.RowKit3
import Derived.StillTail
import Derived.Sort.Grow
import Derived.Deep.Draws
import Derived.Test.YtgifkdbbgffemaaChecked
import Derived.Laws.StructEq
import Derived.MapKept
import Derived.Laws.BytesArg
import Derived.DeepKeys3
import Derived.Test.YtgifkdbbgffemaaCp2
namespace Go.Proofs
open Go Go.Eng Go.Sort
set_option maxRecDepth 100000
theorem frg_5 {set : List (Int × Int)} {y : Re} {args : List Re} {mn mx : Int} {ng : Bool} (a d t : Nat) : frgOf (.mk 5 set (y :: args) mn mx ng) a d t = (.split (a + 1) (a + 2 + (frgOf y (a + 2) (d + 1) t).1.length + 2) :: .ent (d + 1) :: ((frgOf y (a + 2) (d + 1) t).1 ++ [.chk (d + 1), .jump a]), (frgOf y (a + 2) (d + 1) t).2) := by simp [frgOf, frgK, frgsOf_eq, starF]
theorem get_mid {α : Type} {l r : List α} {x : α} {n : Nat} (h : l.length = n) : (l ++ x :: r)[n]? = some x := by
  rw [List.getElem?_append_right (by omega), h, Nat.sub_self]; rfl
theorem set_mid {α : Type} {l r : List α} {x y : α} {n : Nat} (h : l.length = n) : (l ++ x :: r).set n y = l ++ y :: r := by
  rw [List.set_append_right _ _ (by omega), h, Nat.sub_self]; rfl
theorem PSt2.form' {F : Nat → Prop} {w : World} {base pb n m : Nat} {v : Value} {code : List Ins} {t d : Nat} (h : PSt2 F w base pb v n code t d) (hm : n = m) : ∃ a c, v = .slice a m c := by
  subst hm
  exact h.form
theorem PSt2.block {F : Nat → Prop} {w : World} {base pb n : Nat} {a : Option Addr} {c m : Nat} {code : List Ins} {t d : Nat} (h : PSt2 F w base pb (.slice a m c) n code t d) (hn : 0 < n) : ∃ g cur, a = some ⟨g, 0, none⟩ ∧ Blk w g cur TCd ∧ n * 8 ≤ cur.size ∧ base ≤ g ∧ ¬ F g := by
  obtain ⟨rows, h1, _⟩ := h.rows
  obtain ⟨va, vc, e⟩ := own_form h1
  cases e
  have hlt := h1.lt
  obtain ⟨g, rfl, _, _⟩ := own_cells h1 hn
  obtain ⟨cur, h2, h3⟩ := own_blkG h1
  exact ⟨g, cur, rfl, h2, h3, (hlt g rfl).1, h.ho g rfl⟩
theorem split_row {F : Nat → Prop} {w : World} {code : List Ins} {n x z : Nat} (hc : code[n]? = some (.split x 0)) : ∀ row0 pb0 ins0, code[n]? = some ins0 → RowF F w pb0 ins0 row0 → row0.set 2 (iV z) = row8 1 x z 0 0 nilS nilP false := by
  intro row0 pb0 ins0 h1 h2
  rw [hc] at h1
  cases h1
  simp only [RowF] at h2
  subst h2
  rfl
theorem jump_row {F : Nat → Prop} {w : World} {code : List Ins} {n z : Nat} (hc : code[n]? = some (.jump 0)) : ∀ row0 pb0 ins0, code[n]? = some ins0 → RowF F w pb0 ins0 row0 → row0.set 1 (iV z) = row8 2 z 0 0 0 nilS nilP false := by
  intro row0 pb0 ins0 h1 h2
  rw [hc] at h1
  cases h1
  simp only [RowF] at h2
  subst h2
  rfl
set_option maxHeartbeats 1000000 in
theorem of_5 (wb : World) (set : List (Int × Int)) (y : Re) (args : List Re) (mn mx : Int) (ng : Bool) (hih : OfC wb y) : OfC wb (.mk 5 set (y :: args) mn mx ng) := by
  intro base pb F w0 v n code t d vs hx hE hF hP hn ht hd
  simp only [ReAt] at hx
  obtain ⟨sa, sc, aa, ac, rfl, hset, hal, hargs⟩ := hx
  rw [frg_5] at hn ht ⊢
  have hlen := hP.len
  simp only [Re.size, Re.sizes] at hd
  obtain ⟨⟨cb, tb⟩, hr⟩ : ∃ r, frgOf y (n + 2) (d + 1) t = r := ⟨_, rfl⟩
  rw [hr] at hn ht ⊢
  simp only [List.length_cons, List.length_append, List.length_nil] at hn ht hal ⊢
  obtain ⟨b, o, rfl, hres⟩ := res_block (i := 0) hargs (by simp)
  obtain ⟨us, hus, hyt⟩ := hres.get (i := 0) (t := y) rfl
  obtain ⟨m, hm⟩ : ∃ m, m = args.length + 1 := ⟨_, rfl⟩
  have hm1 : 1 ≤ m := by omega
  rw [← hm] at hal ⊢
  refine Ret_of Try.func41 rfl Try.ntmps41 (Nat.le_of_ble_eq_true rfl) ?_
  have E : Chg (fun _ => True) w0 w0 := Chg.refl _ _
  refine Wp_seq_region ?_
  refine s_box (v := (.agg #[(.int .i64 5), (.slice sa set.length sc), (.slice (some ⟨b, o, none⟩) m ac), (.int .i64 mn), (.int .i64 mx), (.bool ng)])) (c := #[(.int .i64 5), (.slice sa set.length sc), (.slice (some ⟨b, o, none⟩) m ac), (.int .i64 mn), (.int .i64 mx), (.bool ng)]) (by decide) rfl rfl ?_
  intro bx wx Nx
  have Fx := Nx.ge E
  replace E := E.ext Nx.ext
  have Bx := Nx.blk
  refine WpL_nil ?_
  refine Wp_seq_region ?_
  refine WpL_val rfl rfl (by decide) (r_fieldAddr (b := bx) (o := 0) (o' := 0) rfl Try.underlying27 rfl siz3 rfl) ?_
  refine WpL_val rfl rfl (by decide) (r_load (v := (.int .i64 5)) rfl flat3 (Bx.cell rfl)) ?_
  refine WpL_nil ?_
  refine Wp_block ?_
  refine Wp_seq_region ?_
  refine WpL_val rfl rfl (by decide) (r_eql (k := .i64) (a := 5) (b := 0) rfl rfl) ?_
  refine WpL_val rfl rfl (by decide) (r_assign (v := (.bool false)) rfl) ?_
  refine WpL_nil ?_
  refine Wp_cond_false rfl ?_
  refine Wp_seq_region ?_
  refine WpL_val rfl rfl (by decide) (r_eql (k := .i64) (a := 5) (b := 2) rfl rfl) ?_
  refine WpL_val rfl rfl (by decide) (r_assign (v := (.bool false)) rfl) ?_
  refine WpL_nil ?_
  refine Wp_cond_false rfl ?_
  refine Wp_seq_region ?_
  refine WpL_val rfl rfl (by decide) (r_eql (k := .i64) (a := 5) (b := 3) rfl rfl) ?_
  refine WpL_val rfl rfl (by decide) (r_assign (v := (.bool false)) rfl) ?_
  refine WpL_nil ?_
  refine Wp_cond_false rfl ?_
  refine Wp_seq_region ?_
  refine WpL_val rfl rfl (by decide) (r_eql (k := .i64) (a := 5) (b := 4) rfl rfl) ?_
  refine WpL_val rfl rfl (by decide) (r_assign (v := (.bool false)) rfl) ?_
  refine WpL_nil ?_
  refine Wp_cond_false rfl ?_
  refine Wp_seq_region ?_
  refine WpL_val rfl rfl (by decide) (r_eql (k := .i64) (a := 5) (b := 5) rfl rfl) ?_
  refine WpL_val rfl rfl (by decide) (r_assign (v := (.bool true)) rfl) ?_
  refine WpL_nil ?_
  refine Wp_cond_true rfl ?_
  refine Wp_seq_region ?_
  refine WpL_val rfl rfl (by decide) (r_move (v := (.pointer (some ⟨pb, 0, none⟩))) rfl) ?_
  refine WpL_val rfl rfl (by decide) (r_fieldAddr (b := bx) (o := 0) (o' := 2) rfl Try.underlying27 rfl siz25 rfl) ?_
  refine WpL_val rfl rfl (by decide) (r_load (v := (.slice (some ⟨b, o, none⟩) m ac)) rfl flat25 (Bx.cell rfl)) ?_
  refine WpL_val rfl rfl (by decide) (r_indexSlice (b := b) (o := o) (len := m) (cap := ac) (i := 0) (o' := o + 0 * 6) rfl rfl rfl Try.underlying25 siz27 (by omega) (by omega)) ?_
  refine WpL_val rfl rfl (by decide) (r_loadAgg (vs := us) rfl agg27 siz27 hyt.len ((by simpa using hus : CellsAt wb b (o + 0 * 6) us).ext (hE.trans Nx.ext))) ?_
  have G1 := (GrX.start hP).frz Nx.ext (b := bx) (by rw [Nx.eq]; exact Nat.le_refl _) Bx.lt
  refine WpL_enter rfl rfl (by decide) (r_callF (vs := [(.pointer (some ⟨pb, 0, none⟩)), (.agg us.toArray)]) Try.func61 nm61 bd61 rfl) (iteration_c wb base pb _ _ v n code t d us y hih hyt (hE.trans Nx.ext) (fun q hq => .inl (hF q hq)) (hlen ▸ G1.st) (frgOf_mono y) (by rw [hr]; dsimp only; omega) (by rw [hr]; exact ht) (by omega)) ?_
  rintro _ w19 ⟨rfl, F2, v2, G2⟩
  replace Bx := G2.chg.keep (G1.st.kept (.inr rfl)) Bx
  replace E := E.step G2.chg (fun _ _ _ => trivial)
  rw [hr] at G2
  dsimp only at G2
  have k2 : F2 bx := G2.sub _ (.inr rfl)
  replace G2 := G1.comp G2
  have hl2 : (code ++ (Ins.split (n + 1) 0 :: Ins.ent (d + 1) :: (cb ++ [Ins.chk (d + 1)]))).length = n + 3 + cb.length := by simp [hlen]; omega
  refine WpL_val rfl rfl (by decide) (r_assign (v := (.int .i64 ((n : Nat) : Int))) rfl) ?_
  refine WpL_nil ?_
  refine Wp_seq_region ?_
  refine WpL_val rfl rfl (by decide) (r_move (v := (.pointer (some ⟨pb, 0, none⟩))) rfl) ?_
  refine WpL_val rfl rfl (by decide) (r_move (v := (.int .i64 ((n : Nat) : Int))) rfl) ?_
  refine WpL_val rfl rfl (by decide) (r_build (ps := [(0, (.int .i64 2)), (1, (.int .i64 ((n : Nat) : Int)))]) (v := (.agg #[(.int .i64 2), (.int .i64 ((n : Nat) : Int)), (.int .i64 0), (.int .i64 0), (.int .i64 0), (.slice none 0 0), (.pointer none), (.bool false)])) rfl (by kernel_rfl)) ?_
  refine WpL_enter rfl rfl (by decide) (r_callF (vs := [(.pointer (some ⟨pb, 0, none⟩)), (.agg #[(.int .i64 2), (.int .i64 ((n : Nat) : Int)), (.int .i64 0), (.int .i64 0), (.int .i64 0), (.slice none 0 0), (.pointer none), (.bool false)])]) Try.func42 nm42 bd42 rfl) (add_c _ _ base pb _ (n + 3 + cb.length) _ tb d (.jump n) 0 2 n 0 0 0 none 0 0 nilP false (hl2 ▸ G2.st) (by omega) rfl rfl (fun _ _ h => by cases h)) ?_
  rintro _ w29 ⟨rfl, F3, v3, G3⟩
  replace Bx := G3.chg.keep (G2.st.kept k2) Bx
  replace E := E.step G3.chg (fun _ _ _ => trivial)
  have k3 : F3 bx := G3.sub _ k2
  replace G3 := G2.comp G3
  have e3 : (code ++ (Ins.split (n + 1) 0 :: Ins.ent (d + 1) :: (cb ++ [Ins.chk (d + 1)]))) ++ [Ins.jump n] = code ++ (Ins.split (n + 1) 0 :: Ins.ent (d + 1) :: (cb ++ [Ins.chk (d + 1), Ins.jump n])) := by simp
  rw [e3] at G3
  have hl3 : (code ++ (Ins.split (n + 1) 0 :: Ins.ent (d + 1) :: (cb ++ [Ins.chk (d + 1), Ins.jump n]))).length = n + 4 + cb.length := by simp [hlen]; omega
  obtain ⟨va3, vc3, rfl⟩ := G3.st.form
  rw [hl3] at G3
  obtain ⟨g, cur, rfl, hg, hgs, hgb, hgF⟩ := G3.st.block (by omega)
  rw [hl3] at hgs
  have hxg : bx ≠ g := fun e => hgF (e ▸ k3)
  have hblk := G3.st.blk
  have hgp := G3.st.pb
  refine WpL_nil ?_
  refine Wp_draw 12 mixed (by kernel_rfl) ?_
  intro w1 X1 _
  replace Bx := X1.keep Bx
  replace hblk := X1.keep hblk
  replace hg := X1.keep hg
  replace G3 := G3.ext X1
  replace E := E.ext X1
  refine WpT_val rfl rfl (by decide) (r_move (v := (.pointer (some ⟨pb, 0, none⟩))) rfl) ?_
  refine WpT_val rfl rfl (by decide) (r_nilCheck (a := ⟨pb, 0, none⟩) rfl) ?_
  refine WpT_val rfl rfl (by decide) (r_fieldAddr (b := pb) (o := 0) (o' := 0) rfl Try.underlying83 rfl siz81 rfl) ?_
  refine WpT_val rfl rfl (by decide) (r_load (v := (.slice (some ⟨g, 0, none⟩) (n + 4 + cb.length) vc3)) rfl flat81 (hblk.cell rfl)) ?_
  refine WpT_val rfl rfl (by decide) (r_move (v := (.int .i64 ((n : Nat) : Int))) rfl) ?_
  refine WpT_val rfl rfl (by decide) (r_move (v := (.pointer (some ⟨pb, 0, none⟩))) rfl) ?_
  refine WpT_val rfl rfl (by decide) (r_nilCheck (a := ⟨pb, 0, none⟩) rfl) ?_
  refine WpT_val rfl rfl (by decide) (r_fieldAddr (b := pb) (o := 0) (o' := 0) rfl Try.underlying83 rfl siz81 rfl) ?_
  refine WpT_val rfl rfl (by decide) (r_load (v := (.slice (some ⟨g, 0, none⟩) (n + 4 + cb.length) vc3)) rfl flat81 (hblk.cell rfl)) ?_
  refine WpT_val rfl rfl (by decide) (r_lenSlice (ad := some ⟨g, 0, none⟩) (n := (n + 4 + cb.length)) (cap := vc3) Try.underlying81 rfl) ?_
  refine WpT_val rfl rfl (by decide) (r_indexSlice (b := g) (o := 0) (len := (n + 4 + cb.length)) (cap := vc3) (i := n) (o' := 0 + n * 8) rfl rfl rfl Try.underlying81 siz87 (by omega) (by omega)) ?_
  refine WpT_val rfl rfl (by decide) (r_fieldAddr (b := g) (o := 0 + n * 8) (o' := 0 + n * 8 + 2) rfl Try.underlying87 rfl siz3 rfl) ?_
  refine WpT_zero ?_
  refine s_store (b := g) (o := 0 + n * 8 + 2) (c' := cur.setIfInBounds (n * 8 + 2) (iV (n + 4 + cb.length))) (v := (.int .i64 (((n + 4 + cb.length) : Nat) : Int))) rfl rfl rfl siz3 hg (by omega) (by rw [Nat.zero_add]) ?_
  intro w2 S2
  replace G3 := G3.patch (i := n) (f := 2) (x := iV (n + 4 + cb.length)) (ins := .split (n + 1) (n + 4 + cb.length)) hl3.symm hg S2 (by omega) (by omega) (split_row (get_mid hlen)) (fun _ _ => rfl) (fun _ _ h => by cases h)
  replace Bx := S2.keep (by omega) Bx
  replace hblk := S2.keep (by omega) hblk
  replace E := S2.step E (by first | exact Or.inl (by omega) | exact Or.inr rfl | exact Or.inr (by assumption) | exact Or.inr (by simp) | exact Or.inr (by omega) | exact Or.inr (by dsimp only; omega))
  replace hg := S2.blk
  refine WpL_nil ?_
  refine inB_normal ?_
  refine fin_none Try.results41 ?_
  rw [set_mid hlen] at G3
  rw [show n + 2 + cb.length + 2 = n + 4 + cb.length by omega]
  exact ⟨F3, _, G3⟩
abbrev TIn : Nat := 3
/-- A block that is neither the program's nor frozen. -/
def Apt (F : Nat → Prop) (pb : Nat) (v : Value) (b : Nat) : Prop := ¬ F b ∧ b ≠ pb ∧ v.ownBlock ≠ some b
theorem Apt.step {F F2 : Nat → Prop} {w w2 : World} {base pb b : Nat} {v v2 : Value} {c : List Ins} {t d : Nat} (h : Apt F pb v b) (G : GrX F w base pb v F2 v2 c t d w2) (hb : b < w.heap.size) : Apt F2 pb v2 b :=
  ⟨fun hf => (G.new b hf).elim h.1 (fun h2 => by omega), h.2.1, fun e => (G.own b e).elim h.2.2 (fun h2 => by omega)⟩
theorem Apt.keep {F : Nat → Prop} {pb b : Nat} {v : Value} (h : Apt F pb v b) : ¬ (b = pb ∨ v.ownBlock = some b) := fun hm => hm.elim h.2.1 h.2.2
theorem frg_6 {set : List (Int × Int)} {y : Re} {args : List Re} {k1 k2 : Nat} {ng : Bool} (a d t : Nat) : frgOf (.mk 6 set (y :: args) (k1 : Int) ((k1 + k2 : Nat) : Int) ng) a d t = ((seqF (List.replicate k1 (frgOf y)) a d t).1 ++ (itF (a + (seqF (List.replicate k1 (frgOf y)) a d t).1.length + (itF 0 (frgOf y) k2 (a + (seqF (List.replicate k1 (frgOf y)) a d t).1.length) d (seqF (List.replicate k1 (frgOf y)) a d t).2).1.length) (frgOf y) k2 (a + (seqF (List.replicate k1 (frgOf y)) a d t).1.length) d (seqF (List.replicate k1 (frgOf y)) a d t).2).1, (itF (a + (seqF (List.replicate k1 (frgOf y)) a d t).1.length + (itF 0 (frgOf y) k2 (a + (seqF (List.replicate k1 (frgOf y)) a d t).1.length) d (seqF (List.replicate k1 (frgOf y)) a d t).2).1.length) (frgOf y) k2 (a + (seqF (List.replicate k1 (frgOf y)) a d t).1.length) d (seqF (List.replicate k1 (frgOf y)) a d t).2).2) := by
  have e : (((k1 + k2 : Nat) : Int) - (k1 : Int)).toNat = k2 := by omega
  simp only [frgOf, frgK, frgsOf_eq, List.map_cons, List.headD_cons, Int.toNat_natCast, e]
  rfl
theorem itF_le (f : Frg) (hf : FMono f) : ∀ (k j a d t : Nat), j ≤ k → (itF 0 f j a d t).1.length ≤ (itF 0 f k a d t).1.length ∧ (itF 0 f j a d t).2 ≤ (itF 0 f k a d t).2
  | k, 0, a, d, t, _ => ⟨by simp [itF], itF_mono 0 hf k a d t⟩
  | k + 1, j + 1, a, d, t, h => by
    have ih := itF_le f hf k j (a + 2 + (f (a + 2) (d + 1) t).1.length + 1) d (f (a + 2) (d + 1) t).2 (by omega)
    simp only [itF, List.length_cons, List.length_append]
    omega
set_option maxHeartbeats 4000000 in
theorem of_6 (wb : World) (set : List (Int × Int)) (y : Re) (args : List Re) (k1 k2 : Nat) (ng : Bool) (hk8 : k1 + k2 ≤ 100) (hih : 0 < k1 + k2 → OfC wb y) : OfC wb (.mk 6 set (y :: args) (k1 : Int) ((k1 + k2 : Nat) : Int) ng) := by
  intro base pb F w0 v n code t d vs hx hE hF hP hn ht hd
  simp only [ReAt] at hx
  obtain ⟨sa, sc, aa, ac, rfl, hset, hal, hargs⟩ := hx
  rw [frg_6] at hn ht ⊢
  have hlen := hP.len
  simp only [Re.size, Re.sizes] at hd
  have hfm := frgOf_mono y
  obtain ⟨f, hf⟩ : ∃ f, f = frgOf y := ⟨_, rfl⟩
  have hrm : ∀ g ∈ List.replicate k1 f, FMono g := fun g hg => by rw [(List.mem_replicate.1 hg).2, hf]; exact hfm
  rw [← hf] at hfm
  rw [← hf] at hn ht ⊢
  obtain ⟨S, hS⟩ : ∃ S, S = seqF (List.replicate k1 f) n d t := ⟨_, rfl⟩
  rw [← hS] at hn ht ⊢
  obtain ⟨ee, hee⟩ : ∃ e, e = n + S.1.length + (itF 0 f k2 (n + S.1.length) d S.2).1.length := ⟨_, rfl⟩
  rw [← hee] at hn ht ⊢
  have hel := itF_len ee 0 f k2 (n + S.1.length) d S.2
  rw [hel.2] at ht
  simp only [List.length_append, hel.1] at hn
  simp only [List.length_cons] at hal ⊢
  obtain ⟨b, o, rfl, hres⟩ := res_block (i := 0) hargs (by simp)
  obtain ⟨us, hus, hyt⟩ := hres.get (i := 0) (t := y) rfl
  replace hus : CellsAt wb b (o + 0 * 6) us := by simpa using hus
  obtain ⟨m, hm⟩ : ∃ m, m = args.length + 1 := ⟨_, rfl⟩
  have hm1 : 1 ≤ m := by omega
  rw [← hm] at hal ⊢
  have hSm := itF_mono 0 hfm k2 (n + S.1.length) d S.2
  refine Ret_of Try.func41 rfl Try.ntmps41 (Nat.le_of_ble_eq_true rfl) ?_
  have E : Chg (fun _ => True) w0 w0 := Chg.refl _ _
  refine Wp_seq_region ?_
  refine s_box (v := (.agg #[(.int .i64 6), (.slice sa set.length sc), (.slice (some ⟨b, o, none⟩) m ac), (.int .i64 ((k1 : Nat) : Int)), (.int .i64 ((k1 + k2 : Nat) : Int)), (.bool ng)])) (c := #[(.int .i64 6), (.slice sa set.length sc), (.slice (some ⟨b, o, none⟩) m ac), (.int .i64 ((k1 : Nat) : Int)), (.int .i64 ((k1 + k2 : Nat) : Int)), (.bool ng)]) (by decide) rfl rfl ?_
  intro bx wx Nx
  have Fx := Nx.ge E
  replace E := E.ext Nx.ext
  have Bx := Nx.blk
  refine WpL_nil ?_
  refine Wp_seq_region ?_
  refine WpL_val rfl rfl (by decide) (r_fieldAddr (b := bx) (o := 0) (o' := 0) rfl Try.underlying27 rfl siz3 rfl) ?_
  refine WpL_val rfl rfl (by decide) (r_load (v := (.int .i64 6)) rfl flat3 (Bx.cell rfl)) ?_
  refine WpL_nil ?_
  refine Wp_block ?_
  refine Wp_seq_region ?_
  refine WpL_val rfl rfl (by decide) (r_eql (k := .i64) (a := 6) (b := 0) rfl rfl) ?_
  refine WpL_val rfl rfl (by decide) (r_assign (v := (.bool false)) rfl) ?_
  refine WpL_nil ?_
  refine Wp_cond_false rfl ?_
  refine Wp_seq_region ?_
  refine WpL_val rfl rfl (by decide) (r_eql (k := .i64) (a := 6) (b := 2) rfl rfl) ?_
  refine WpL_val rfl rfl (by decide) (r_assign (v := (.bool false)) rfl) ?_
  refine WpL_nil ?_
  refine Wp_cond_false rfl ?_
  refine Wp_seq_region ?_
  refine WpL_val rfl rfl (by decide) (r_eql (k := .i64) (a := 6) (b := 3) rfl rfl) ?_
  refine WpL_val rfl rfl (by decide) (r_assign (v := (.bool false)) rfl) ?_
  refine WpL_nil ?_
  refine Wp_cond_false rfl ?_
  refine Wp_seq_region ?_
  refine WpL_val rfl rfl (by decide) (r_eql (k := .i64) (a := 6) (b := 4) rfl rfl) ?_
  refine WpL_val rfl rfl (by decide) (r_assign (v := (.bool false)) rfl) ?_
  refine WpL_nil ?_
  refine Wp_cond_false rfl ?_
  refine Wp_seq_region ?_
  refine WpL_val rfl rfl (by decide) (r_eql (k := .i64) (a := 6) (b := 5) rfl rfl) ?_
  refine WpL_val rfl rfl (by decide) (r_assign (v := (.bool false)) rfl) ?_
  refine WpL_nil ?_
  refine Wp_cond_false rfl ?_
  refine Wp_seq_region ?_
  refine WpL_val rfl rfl (by decide) (r_eql (k := .i64) (a := 6) (b := 6) rfl rfl) ?_
  refine WpL_val rfl rfl (by decide) (r_assign (v := (.bool true)) rfl) ?_
  refine WpL_nil ?_
  refine Wp_cond_true rfl ?_
  refine Wp_seq ?_
  refine Wp_seq_region ?_
  refine WpL_val rfl rfl (by decide) (r_fieldAddr (b := bx) (o := 0) (o' := 3) rfl Try.underlying27 rfl siz3 rfl) ?_
  refine WpL_val rfl rfl (by decide) (r_load (v := (.int .i64 ((k1 : Nat) : Int))) rfl flat3 (Bx.cell rfl)) ?_
  refine WpL_val rfl rfl (by decide) (r_move (v := (.int .i64 0)) rfl) ?_
  refine WpL_nil ?_
  refine Wp_block ?_
  have G1 := (GrX.start hP).frz Nx.ext (b := bx) (by rw [Nx.eq]; exact Nat.le_refl _) Bx.lt
  refine Wp_loop (fun nn_ σ W1 => ∃ (j : Nat) (F1 : Nat → Prop) (v1 : Value), (∃ jj_, σ = upds jj_ [(0, (.pointer (some ⟨pb, 0, none⟩))), (3, (.pointer (some ⟨bx, 0, none⟩))), (140, (.int .i64 ((k1 : Nat) : Int))), (141, (.int .i64 ((j : Nat) : Int)))]) ∧ Chg (fun _ => True) w0 W1 ∧ Blk W1 bx #[(.int .i64 6), (.slice sa set.length sc), (.slice (some ⟨b, o, none⟩) m ac), (.int .i64 ((k1 : Nat) : Int)), (.int .i64 ((k1 + k2 : Nat) : Int)), (.bool ng)] 27 ∧ (j ≤ k1) ∧ (GrX F w0 base pb v F1 v1 (code ++ (seqF ((List.replicate k1 f).take j) n d t).1) (seqF ((List.replicate k1 f).take j) n d t).2 d W1) ∧ (F1 bx) ∧ nn_ = k1 - j) (n := k1 - 0) ?_ ?_
  · exact ⟨0, (fun y => F y ∨ y = bx), v, Fits.out ⟨rfl, rfl, rfl, rfl, trivial⟩, E, Bx, Nat.zero_le _, (by rw [List.take_zero]; simp only [seqF, List.append_nil]; exact G1), .inr rfl, rfl⟩
  · clear E Bx
    rintro _ _ W1 ⟨j, F1, v1, ⟨j1, rfl⟩, E, Bx, hj, G, hk, rfl⟩
    refine Wp_seq_region ?_
    refine WpL_val rfl rfl (by decide) (r_lss (k := .i64) (a := ((j : Nat) : Int)) (b := ((k1 : Nat) : Int)) rfl rfl) ?_
    refine WpL_nil ?_
    refine Wp_seq ?_
    refine Wp_cond (b := decide ((((j : Nat) : Int) : Int) < ((k1 : Nat) : Int))) rfl (fun hlt => ?_) (fun hlt => ?_)
    · have khlt := hlt
      replace hlt := of_decide_eq_true hlt
      have hfy : (List.replicate k1 f)[j]? = some f := by rw [List.getElem?_replicate, if_pos (by omega)]
      have hst := seqF_step hfy n d t
      have hle := seqF_le hrm (j + 1) n d t
      rw [hst, ← hS] at hle
      dsimp only at hle
      obtain ⟨Q, hQ⟩ : ∃ Q, Q = seqF ((List.replicate k1 f).take j) n d t := ⟨_, rfl⟩
      rw [← hQ] at hst hle G
      have hlj : (code ++ Q.1).length = n + Q.1.length := by rw [List.length_append, hlen]
      rw [List.length_append] at hle
      have hEW := G.wb hP.hp hP.ho hF hE
      refine Wp_skip ?_
      refine thn_normal ?_
      refine Wp_seq ?_
      refine Wp_block ?_
      refine Wp_region ?_
      refine WpL_val rfl rfl (by decide) (r_move (v := (.pointer (some ⟨pb, 0, none⟩))) rfl) ?_
      refine WpL_val rfl rfl (by decide) (r_fieldAddr (b := bx) (o := 0) (o' := 2) rfl Try.underlying27 rfl siz25 rfl) ?_
      refine WpL_val rfl rfl (by decide) (r_load (v := (.slice (some ⟨b, o, none⟩) m ac)) rfl flat25 (Bx.cell rfl)) ?_
      refine WpL_val rfl rfl (by decide) (r_indexSlice (b := b) (o := o) (len := m) (cap := ac) (i := 0) (o' := o + 0 * 6) rfl rfl rfl Try.underlying25 siz27 (by omega) (by omega)) ?_
      refine WpL_val rfl rfl (by decide) (r_loadAgg (vs := us) rfl agg27 siz27 hyt.len (hus.ext hEW)) ?_
      refine WpL_enter rfl rfl (by decide) (r_callF (vs := [(.pointer (some ⟨pb, 0, none⟩)), (.agg us.toArray)]) Try.func41 nm41 bd41 rfl) (hih (by omega) base pb _ _ v1 (n + Q.1.length) (code ++ Q.1) Q.2 d us hyt hEW (fun q hq => (G.sub q (hF q hq))) (hlj ▸ G.st) (by rw [← hf]; omega) (by rw [← hf]; omega) (by omega)) ?_
      rintro _ w19 ⟨F3, v3, G3⟩
      replace Bx := G3.chg.keep (G.st.kept hk) Bx
      replace E := E.step G3.chg (fun _ _ _ => trivial)
      refine WpL_nil ?_
      refine inB_normal ?_
      refine thn_normal ?_
      refine Wp_region ?_
      refine WpL_val rfl rfl (by decide) (r_add (k := .i64) (a := ((j : Nat) : Int)) (b := 1) (c := ((j : Nat) : Int) + 1) rfl rfl (wI64 (by omega))) ?_
      refine WpL_val rfl rfl (by decide) (r_move (v := (.int .i64 (((j : Nat) : Int) + 1))) rfl) ?_
      refine WpL_nil ?_
      refine thn_normal ?_
      exact ⟨k1 - (j + 1), by omega, j + 1, F3, v3, Fits.out ⟨rfl, rfl, rfl, rfl, trivial⟩, E, Bx, (by omega), (by rw [hst]; dsimp only; rw [← List.append_assoc]; rw [← hf] at G3; exact G.comp G3), G3.sub _ hk, rfl⟩
    · have khlt := hlt
      replace hlt := of_decide_eq_false hlt
      have hjl : j = k1 := by omega
      rw [hjl, List.take_of_length_le (by simp), ← hS] at G
      refine Wp_exit ?_
      refine thn_exit ?_
      refine thn_exit ?_
      refine inB_here ?_
      refine thn_normal ?_
      refine Wp_seq_region ?_
      refine WpL_val rfl rfl (by decide) (r_assign (v := (.slice none 0 0)) rfl) ?_
      refine WpL_nil ?_
      refine Wp_seq ?_
      refine Wp_seq_region ?_
      refine WpL_val rfl rfl (by decide) (r_fieldAddr (b := bx) (o := 0) (o' := 4) rfl Try.underlying27 rfl siz3 rfl) ?_
      refine WpL_val rfl rfl (by decide) (r_load (v := (.int .i64 ((k1 + k2 : Nat) : Int))) rfl flat3 (Bx.cell rfl)) ?_
      refine WpL_val rfl rfl (by decide) (r_fieldAddr (b := bx) (o := 0) (o' := 3) rfl Try.underlying27 rfl siz3 rfl) ?_
      refine WpL_val rfl rfl (by decide) (r_load (v := (.int .i64 ((k1 : Nat) : Int))) rfl flat3 (Bx.cell rfl)) ?_
      refine WpL_val rfl rfl (by decide) (r_sub (k := .i64) (a := ((k1 + k2 : Nat) : Int)) (b := ((k1 : Nat) : Int)) (c := ((k2 : Nat) : Int)) rfl rfl ((wI64 (by omega)).trans (by omega))) ?_
      refine WpL_val rfl rfl (by decide) (r_move (v := (.int .i64 0)) rfl) ?_
      refine WpL_nil ?_
      refine Wp_block ?_
      obtain ⟨n2, hn2⟩ : ∃ n2, n2 = (W1).heap.size := ⟨_, rfl⟩
      have hn2b : bx < n2 ∧ w0.heap.size ≤ n2 := ⟨by rw [hn2]; exact Bx.lt, by rw [hn2]; exact G.chg.size⟩
      refine Wp_loop (fun nn_ σ W3 => ∃ (j : Nat) (F1 : Nat → Prop) (v1 : Value) (la : Option Addr) (lc : Nat), (∃ jj_, σ = upds jj_ [(0, (.pointer (some ⟨pb, 0, none⟩))), (3, (.pointer (some ⟨bx, 0, none⟩))), (154, (.int .i64 ((k2 : Nat) : Int))), (155, (.int .i64 ((j : Nat) : Int))), (13, (.slice la j lc))]) ∧ Chg (fun _ => True) w0 W3 ∧ Blk W3 bx #[(.int .i64 6), (.slice sa set.length sc), (.slice (some ⟨b, o, none⟩) m ac), (.int .i64 ((k1 : Nat) : Int)), (.int .i64 ((k1 + k2 : Nat) : Int)), (.bool ng)] 27 ∧ (j ≤ k2) ∧ (GrX F w0 base pb v F1 v1 ((code ++ S.1) ++ (itF 0 f j (n + S.1.length) d S.2).1) (itF 0 f j (n + S.1.length) d S.2).2 d W3) ∧ (F1 bx) ∧ (W3.ownsRow n2 TIn 1 (.slice la j lc) j ((itI f j (n + S.1.length) d S.2).map iV)) ∧ (∀ q, (Value.slice la j lc).ownBlock = some q → Apt F1 pb v1 q) ∧ (n2 ≤ W3.heap.size) ∧ nn_ = k2 - j) (n := k2 - 0) ?_ ?_
      · exact ⟨0, F1, v1, none, 0, Fits.out ⟨rfl, rfl, rfl, rfl, rfl, trivial⟩, E, Bx, Nat.zero_le _, (by simp only [itF, List.append_nil]; exact G), hk, World.ownsRow_nil _ _ _ _, (fun q hq => by cases hq), (by omega), rfl⟩
      · clear E Bx
        rintro _ _ W3 ⟨j, F1, v1, la, lc, ⟨j3, rfl⟩, E, Bx, hj, G, hk, hs, hap, hsz, rfl⟩
        refine Wp_seq_region ?_
        refine WpL_val rfl rfl (by decide) (r_lss (k := .i64) (a := ((j : Nat) : Int)) (b := ((k2 : Nat) : Int)) rfl rfl) ?_
        refine WpL_nil ?_
        refine Wp_seq ?_
        refine Wp_cond (b := decide ((((j : Nat) : Int) : Int) < ((k2 : Nat) : Int))) rfl (fun hlt => ?_) (fun hlt => ?_)
        · have khlt := hlt
          replace hlt := of_decide_eq_true hlt
          have hst := itF_step 0 f j (n + S.1.length) d S.2
          have hle := itF_le f hfm k2 (j + 1) (n + S.1.length) d S.2 (by omega)
          rw [hst] at hle
          have hix := itI_step f j (n + S.1.length) d S.2
          obtain ⟨Q, hQ⟩ : ∃ Q, Q = itF 0 f j (n + S.1.length) d S.2 := ⟨_, rfl⟩
          rw [← hQ] at hst hle G hix
          simp only [List.length_append, List.length_cons, List.length_nil] at hle
          have hlj : ((code ++ S.1) ++ Q.1).length = n + S.1.length + Q.1.length := by simp [hlen]; omega
          have hEW := G.wb hP.hp hP.ho hF hE
          have hslt := hs.lt
          refine Wp_skip ?_
          refine thn_normal ?_
          refine Wp_seq ?_
          refine Wp_block ?_
          refine Wp_region ?_
          refine WpL_val rfl rfl (by decide) (r_move (v := (.slice la j lc)) rfl) ?_
          refine WpL_val rfl rfl (by decide) (r_move (v := (.pointer (some ⟨pb, 0, none⟩))) rfl) ?_
          refine WpL_val rfl rfl (by decide) (r_fieldAddr (b := bx) (o := 0) (o' := 2) rfl Try.underlying27 rfl siz25 rfl) ?_
          refine WpL_val rfl rfl (by decide) (r_load (v := (.slice (some ⟨b, o, none⟩) m ac)) rfl flat25 (Bx.cell rfl)) ?_
          refine WpL_val rfl rfl (by decide) (r_indexSlice (b := b) (o := o) (len := m) (cap := ac) (i := 0) (o' := o + 0 * 6) rfl rfl rfl Try.underlying25 siz27 (by omega) (by omega)) ?_
          refine WpL_val rfl rfl (by decide) (r_loadAgg (vs := us) rfl agg27 siz27 hyt.len (hus.ext hEW)) ?_
          refine WpL_enter rfl rfl (by decide) (r_callF (vs := [(.pointer (some ⟨pb, 0, none⟩)), (.agg us.toArray)]) Try.func61 nm61 bd61 rfl) (iteration_c wb base pb _ _ v1 (n + S.1.length + Q.1.length) ((code ++ S.1) ++ Q.1) Q.2 d us y (hih (by omega)) hyt hEW (fun q hq => G.sub q (hF q hq)) (hlj ▸ G.st) (frgOf_mono y) (by rw [← hf]; omega) (by rw [← hf]; omega) (by omega)) ?_
          rintro _ w29 ⟨rfl, F3, v3, G3⟩
          replace Bx := G3.chg.keep (G.st.kept hk) Bx
          replace E := E.step G3.chg (fun _ _ _ => trivial)
          rw [← hf] at G3
          have hs := own_chg hs G3.chg (fun q hq h => (hap q hq).keep h)
          have hap3 : ∀ q, (Value.slice la j lc).ownBlock = some q → Apt F3 pb v3 q := fun q hq => (hap q hq).step G3 (hslt q hq).2
          have k3 : F3 bx := G3.sub _ hk
          have hz3 := G3.chg.size
          replace G3 := G.comp G3
          refine s_buildSlice (ps := [(0, (.int .i64 ((n + S.1.length + Q.1.length : Nat) : Int)))]) (c := #[(.int .i64 ((n + S.1.length + Q.1.length : Nat) : Int))]) (by decide) rfl Try.underlying22 siz3 zer3 (by decide) (by decide) (by kernel_rfl) ?_
          intro br wr Nr
          have Fr := Nr.ge E
          have Or_bx := Nr.lt Bx
          replace Bx := Nr.keep Bx
          replace E := E.ext Nr.ext
          have Br := Nr.blk
          have hs := own_ext hs Nr.ext
          have G4 := G3.ext Nr.ext
          refine s_append (base := n2) (n := j) (m := 1) (xs := ((itI f j (n + S.1.length) d S.2).map iV)) (news := [(.int .i64 ((n + S.1.length + Q.1.length : Nat) : Int))]) (size := 1) (bytes := 8) (v := (.slice la j lc)) (by decide) Try.underlying22 siz3 byt3 zer3 rfl (by decide) rfl hs rfl (rfl) (Br.cells rfl) (by simp [Value.oneCell']) (by unfold maxLen; omega) (by omega) ((by have := Nr.ext.size; omega)) ?_
          intro v7 w59 Ov7 Cv7 Dv7
          replace Bx := Cv7.keep (fun h => by have := (hs.lt _ h).1; omega) Bx
          replace E := E.step Cv7 (fun _ _ _ => trivial)
          obtain ⟨la2, lc2, rfl⟩ := own_form Ov7
          have G5 := G4.other Cv7 (fun q hq => ⟨by have := (hs.lt q hq).1; omega, hap3 q hq⟩)
          have hap5 : ∀ q, (Value.slice la2 (j + 1) lc2).ownBlock = some q → Apt F3 pb v3 q := fun q hq => by rcases Dv7 q hq with h9 | h9; exact hap3 q h9; exact ⟨fun hf9 => by have := G4.st.fl q hf9; omega, fun e9 => by have := G4.st.blk.lt; omega, fun e9 => by obtain ⟨_, r9, _⟩ := G4.st.rows; have := (r9.lt q e9).2; omega⟩
          refine WpL_val rfl rfl (by decide) (r_assign (v := (.slice la2 (j + 1) lc2)) rfl) ?_
          refine WpL_nil ?_
          refine inB_normal ?_
          refine thn_normal ?_
          refine Wp_region ?_
          refine WpL_val rfl rfl (by decide) (r_add (k := .i64) (a := ((j : Nat) : Int)) (b := 1) (c := ((j : Nat) : Int) + 1) rfl rfl (wI64 (by omega))) ?_
          refine WpL_val rfl rfl (by decide) (r_move (v := (.int .i64 (((j : Nat) : Int) + 1))) rfl) ?_
          refine WpL_nil ?_
          refine thn_normal ?_
          exact ⟨k2 - (j + 1), by omega, j + 1, F3, v3, la2, lc2, Fits.out ⟨rfl, rfl, rfl, rfl, rfl, trivial⟩, E, Bx, (by omega), (by rw [hst]; dsimp only; rw [← List.append_assoc]; exact G5), k3, (by rw [hix, List.map_append]; exact Ov7), hap5, (by have := Cv7.size; have := Nr.ext.size; omega), rfl⟩
        · have khlt := hlt
          replace hlt := of_decide_eq_false hlt
          have hjl : k2 = j := by omega
          subst hjl
          obtain ⟨C, hC⟩ : ∃ C, C = (code ++ S.1) ++ (itF 0 f k2 (n + S.1.length) d S.2).1 := ⟨_, rfl⟩
          obtain ⟨L, hL⟩ : ∃ L, L = itI f k2 (n + S.1.length) d S.2 := ⟨_, rfl⟩
          have hLl : L.length = k2 := by rw [hL]; exact itI_len f k2 _ _ _
          have hpl : (code ++ S.1).length = n + S.1.length := by rw [List.length_append, hlen]
          have hCl : C.length = ee := by rw [hC, List.length_append, hpl, hee]
          have hLr : Rise (n + S.1.length) L := by rw [hL]; exact itI_rise f k2 _ _ _
          have hLg : ∀ k ∈ L, C[k]? = some (.split (k + 1) 0) := by rw [hC, hL]; exact itI_get f k2 _ _ _ _ hpl
          have hLp : patW (fun k => .split (k + 1) ee) C L = (code ++ S.1) ++ (itF ee f k2 (n + S.1.length) d S.2).1 := by rw [hC, hL]; exact itI_pat f ee k2 _ _ _ _ hpl
          rw [← hC] at G
          rw [← hL] at hs
          refine Wp_exit ?_
          refine thn_exit ?_
          refine thn_exit ?_
          refine inB_here ?_
          refine thn_normal ?_
          refine Wp_seq_region ?_
          refine WpL_val rfl rfl (by decide) (r_move (v := (.slice la k2 lc)) rfl) ?_
          refine WpL_val rfl rfl (by decide) (r_lenSlice (ad := la) (n := k2) (cap := lc) Try.underlying22 rfl) ?_
          refine WpL_val rfl rfl (by decide) (r_move (v := (.int .i64 0)) rfl) ?_
          refine WpL_nil ?_
          refine Wp_block ?_
          refine Wp_loop (fun nn_ σ W5 => ∃ (i : Nat), (∃ jj_, σ = upds jj_ [(0, (.pointer (some ⟨pb, 0, none⟩))), (167, (.slice la k2 lc)), (168, (.int .i64 ((k2 : Nat) : Int))), (169, (.int .i64 ((i : Nat) : Int)))]) ∧ Chg (fun _ => True) w0 W5 ∧ Blk W5 bx #[(.int .i64 6), (.slice sa set.length sc), (.slice (some ⟨b, o, none⟩) m ac), (.int .i64 ((k1 : Nat) : Int)), (.int .i64 ((k1 + k2 : Nat) : Int)), (.bool ng)] 27 ∧ (i ≤ k2) ∧ (GrX F w0 base pb v F1 v1 (patW (fun k => .split (k + 1) ee) C (L.take i)) (itF 0 f k2 (n + S.1.length) d S.2).2 d W5) ∧ (W5.ownsRow n2 TIn 1 (.slice la k2 lc) k2 (L.map iV)) ∧ nn_ = k2 - i) (n := k2 - 0) ?_ ?_
          · exact ⟨0, Fits.out ⟨rfl, rfl, rfl, rfl, trivial⟩, E, Bx, Nat.zero_le _, (by rw [List.take_zero]; exact G), hs, rfl⟩
          · clear E Bx
            rintro _ _ W5 ⟨i, ⟨j5, rfl⟩, E, Bx, hi, G, hs, rfl⟩
            refine Wp_seq_region ?_
            refine WpL_val rfl rfl (by decide) (r_lss (k := .i64) (a := ((i : Nat) : Int)) (b := ((k2 : Nat) : Int)) rfl rfl) ?_
            refine WpL_nil ?_
            refine Wp_seq ?_
            refine Wp_cond (b := decide ((((i : Nat) : Int) : Int) < ((k2 : Nat) : Int))) rfl (fun hlt3 => ?_) (fun hlt3 => ?_)
            · have khlt3 := hlt3
              replace hlt3 := of_decide_eq_true hlt3
              obtain ⟨k, hkL⟩ := get_of_lt (l := L) (i := i) (by omega)
              have hkm := List.mem_of_getElem? hkL
              have hck : (patW (fun k => .split (k + 1) ee) C (L.take i))[k]? = some (.split (k + 1) 0) := by rw [patW_get _ _ _ (hLr.fresh hkL)]; exact hLg k hkm
              have hkl := lt_of_get hck
              have hpL := patW_len (fun k => Ins.split (k + 1) ee) (L.take i) C
              rw [hCl] at hpL
              rw [hpL] at hkl
              obtain ⟨sb, rfl, _, hsc⟩ := own_cells hs (by omega)
              obtain ⟨va3, vc3, rfl⟩ := G.st.form' hpL
              obtain ⟨g, cur, rfl, hg, hgs, hgb, hgF⟩ := G.st.block (by omega)
              rw [hpL] at hgs
              have hxg : bx ≠ g := fun e => hgF (e ▸ hk)
              have hblk := G.st.blk
              have hgp := G.st.pb
              refine Wp_skip ?_
              refine thn_normal ?_
              refine Wp_seq ?_
              refine Wp_block ?_
              refine Wp_seq_region ?_
              refine WpL_val rfl rfl (by decide) (r_indexSlice (b := sb) (o := 0) (len := k2) (cap := lc) (i := i) (o' := 0 + i) rfl rfl rfl Try.underlying22 siz3 (by omega) (by omega)) ?_
              refine WpL_val rfl rfl (by decide) (r_load (v := (.int .i64 ((k : Nat) : Int))) rfl flat3 (hsc i (iV k) (by rw [List.getElem?_map, hkL]; rfl))) ?_
              refine WpL_val rfl rfl (by decide) (r_assign (v := (.int .i64 ((k : Nat) : Int))) rfl) ?_
              refine WpL_nil ?_
              refine Wp_draw 12 mixed (by kernel_rfl) ?_
              intro w7 X7 _
              replace Bx := X7.keep Bx
              replace hblk := X7.keep hblk
              replace hg := X7.keep hg
              replace G := G.ext X7
              replace hs := own_ext hs X7
              replace E := E.ext X7
              refine WpT_val rfl rfl (by decide) (r_move (v := (.pointer (some ⟨pb, 0, none⟩))) rfl) ?_
              refine WpT_val rfl rfl (by decide) (r_nilCheck (a := ⟨pb, 0, none⟩) rfl) ?_
              refine WpT_val rfl rfl (by decide) (r_fieldAddr (b := pb) (o := 0) (o' := 0) rfl Try.underlying83 rfl siz81 rfl) ?_
              refine WpT_val rfl rfl (by decide) (r_load (v := (.slice (some ⟨g, 0, none⟩) ee vc3)) rfl flat81 (hblk.cell rfl)) ?_
              refine WpT_val rfl rfl (by decide) (r_move (v := (.int .i64 ((k : Nat) : Int))) rfl) ?_
              refine WpT_val rfl rfl (by decide) (r_move (v := (.pointer (some ⟨pb, 0, none⟩))) rfl) ?_
              refine WpT_val rfl rfl (by decide) (r_nilCheck (a := ⟨pb, 0, none⟩) rfl) ?_
              refine WpT_val rfl rfl (by decide) (r_fieldAddr (b := pb) (o := 0) (o' := 0) rfl Try.underlying83 rfl siz81 rfl) ?_
              refine WpT_val rfl rfl (by decide) (r_load (v := (.slice (some ⟨g, 0, none⟩) ee vc3)) rfl flat81 (hblk.cell rfl)) ?_
              refine WpT_val rfl rfl (by decide) (r_lenSlice (ad := some ⟨g, 0, none⟩) (n := ee) (cap := vc3) Try.underlying81 rfl) ?_
              refine WpT_val rfl rfl (by decide) (r_indexSlice (b := g) (o := 0) (len := ee) (cap := vc3) (i := k) (o' := 0 + k * 8) rfl rfl rfl Try.underlying81 siz87 (by omega) (by omega)) ?_
              refine WpT_val rfl rfl (by decide) (r_fieldAddr (b := g) (o := 0 + k * 8) (o' := 0 + k * 8 + 2) rfl Try.underlying87 rfl siz3 rfl) ?_
              refine WpT_zero ?_
              refine s_store (b := g) (o := 0 + k * 8 + 2) (c' := cur.setIfInBounds (k * 8 + 2) (iV ee)) (v := (.int .i64 ((ee : Nat) : Int))) rfl rfl rfl siz3 hg (by omega) (by rw [Nat.zero_add]) ?_
              intro w8 S8
              replace G := G.patch (i := k) (f := 2) (x := iV ee) (ins := .split (k + 1) ee) hpL.symm hg S8 (by omega) (by omega) (split_row hck) (fun _ _ => rfl) (fun _ _ h => by cases h)
              replace hs := own_chg hs S8.chg (fun q hq e => (hap q hq).2.2 (by have e' : q = g := e; rw [e']; rfl))
              replace Bx := S8.keep (by omega) Bx
              replace hblk := S8.keep (by omega) hblk
              replace E := S8.step E (by first | exact Or.inl (by omega) | exact Or.inr rfl | exact Or.inr (by assumption) | exact Or.inr (by simp) | exact Or.inr (by omega) | exact Or.inr (by dsimp only; omega))
              replace hg := S8.blk
              refine WpL_nil ?_
              refine inB_normal ?_
              refine thn_normal ?_
              refine Wp_region ?_
              refine WpL_val rfl rfl (by decide) (r_add (k := .i64) (a := ((i : Nat) : Int)) (b := 1) (c := ((i : Nat) : Int) + 1) rfl rfl (wI64 (by omega))) ?_
              refine WpL_val rfl rfl (by decide) (r_move (v := (.int .i64 (((i : Nat) : Int) + 1))) rfl) ?_
              refine WpL_nil ?_
              refine thn_normal ?_
              exact ⟨k2 - (i + 1), by omega, i + 1, Fits.out ⟨rfl, rfl, rfl, rfl, trivial⟩, E, Bx, (by omega), (by rw [patW_take hkL]; exact G), hs, rfl⟩
            · have khlt3 := hlt3
              replace hlt3 := of_decide_eq_false hlt3
              have hik : i = k2 := by omega
              refine Wp_exit ?_
              refine thn_exit ?_
              refine thn_exit ?_
              refine inB_here ?_
              refine inB_normal ?_
              refine fin_none Try.results41 ?_
              rw [hik, List.take_of_length_le (by omega), hLp, List.append_assoc] at G
              rw [hel.2]
              exact ⟨F1, v1, G⟩
theorem sizes_ge : ∀ ts : List Re, ts.length ≤ Re.sizes ts
  | [] => Nat.le_refl 0
  | t :: ts => by
    have h1 := Re.size_pos t
    have h2 := sizes_ge ts
    simp only [List.length_cons, Re.sizes]
    omega
theorem altP_mono (e : Nat) : ∀ {L : List Frg}, (∀ f ∈ L, FMono f) → FMono (altP e L)
  | [], _, _, _, t => Nat.le_refl t
  | f :: L, h, a, d, t => by
    have h1 := h f (by simp) (a + 1) d t
    have h2 := altP_mono e (L := L) (fun x hx => h x (by simp [hx])) (a + 1 + (f (a + 1) d t).1.length + 1) d (f (a + 1) d t).2
    simp only [altP]; omega
theorem altP_le : ∀ {L : List Frg}, (∀ f ∈ L, FMono f) → ∀ (j a d t : Nat), (altP 0 (L.take j) a d t).1.length ≤ (altP 0 L a d t).1.length ∧ (altP 0 (L.take j) a d t).2 ≤ (altP 0 L a d t).2
  | [], _, j, _, _, _ => by simp
  | f :: L, h, 0, a, d, t => ⟨by simp [altP], altP_mono 0 h a d t⟩
  | f :: L, h, j + 1, a, d, t => by
    have ih := altP_le (L := L) (fun x hx => h x (by simp [hx])) j (a + 1 + (f (a + 1) d t).1.length + 1) d (f (a + 1) d t).2
    simp only [List.take_succ_cons, altP, List.length_cons, List.length_append]
    omega
theorem frg_4 {set : List (Int × Int)} {args : List Re} {mn mx : Int} {ng : Bool} (a d t : Nat) : frgOf (.mk 4 set args mn mx ng) a d t = altF (a + (altF 0 (args.map frgOf) a d t).1.length) (args.map frgOf) a d t := by simp [frgOf, frgK, frgsOf_eq]
set_option maxHeartbeats 4000000 in
theorem of_4 (wb : World) (set : List (Int × Int)) (init : List Re) (zl : Re) (mn mx : Int) (ng : Bool) (hih : ∀ y ∈ init ++ [zl], OfC wb y) : OfC wb (.mk 4 set (init ++ [zl]) mn mx ng) := by
  intro base pb F w0 v n code t d vs hx hE hF hP hn ht hd
  simp only [ReAt] at hx
  obtain ⟨sa, sc, aa, ac, rfl, hset, hal, hargs⟩ := hx
  rw [frg_4] at hn ht ⊢
  have hlen := hP.len
  simp only [Re.size] at hd
  obtain ⟨L0, hL0⟩ : ∃ L0, L0 = init.map frgOf := ⟨_, rfl⟩
  have hLm : ∀ f ∈ L0, FMono f := by rw [hL0]; exact maps_mono
  have hmap : (init ++ [zl]).map frgOf = L0 ++ [frgOf zl] := by rw [List.map_append, hL0]; rfl
  rw [hmap] at hn ht ⊢
  obtain ⟨P0, hP0⟩ : ∃ P, P = altP 0 L0 n d t := ⟨_, rfl⟩
  obtain ⟨Z, hZ⟩ : ∃ Z, Z = frgOf zl (n + P0.1.length) d P0.2 := ⟨_, rfl⟩
  have hA0 := altF_last 0 (frgOf zl) L0 n d t
  rw [← hP0, ← hZ] at hA0
  obtain ⟨ee, hee⟩ : ∃ e, e = n + (altF 0 (L0 ++ [frgOf zl]) n d t).1.length := ⟨_, rfl⟩
  rw [← hee] at hn ht ⊢
  rw [hA0] at hee
  dsimp only at hee
  rw [List.length_append] at hee
  have hAe := altF_last ee (frgOf zl) L0 n d t
  have hpe := altP_len ee 0 L0 n d t
  rw [hpe.1, hpe.2, ← hP0, ← hZ] at hAe
  rw [hAe] at hn ht ⊢
  dsimp only at hn ht ⊢
  rw [List.length_append, hpe.1, ← hP0] at hn
  have hZm := frgOf_mono zl (n + P0.1.length) d P0.2
  rw [← hZ] at hZm
  obtain ⟨m, hm⟩ : ∃ m, m = (init ++ [zl]).length := ⟨_, rfl⟩
  have hm1 : m = init.length + 1 := by rw [hm]; simp
  have hml : m ≤ 1000 := by have := sizes_ge (init ++ [zl]); omega
  have hL0l : L0.length = init.length := by rw [hL0]; simp
  obtain ⟨b, o, rfl, hres⟩ := res_block (i := 0) hargs (by rw [← hm]; omega)
  rw [← hm] at hal ⊢
  refine Ret_of Try.func41 rfl Try.ntmps41 (Nat.le_of_ble_eq_true rfl) ?_
  have E : Chg (fun _ => True) w0 w0 := Chg.refl _ _
  refine Wp_seq_region ?_
  refine s_box (v := (.agg #[(.int .i64 4), (.slice sa set.length sc), (.slice (some ⟨b, o, none⟩) m ac), (.int .i64 mn), (.int .i64 mx), (.bool ng)])) (c := #[(.int .i64 4), (.slice sa set.length sc), (.slice (some ⟨b, o, none⟩) m ac), (.int .i64 mn), (.int .i64 mx), (.bool ng)]) (by decide) rfl rfl ?_
  intro bx wx Nx
  have Fx := Nx.ge E
  replace E := E.ext Nx.ext
  have Bx := Nx.blk
  refine WpL_nil ?_
  refine Wp_seq_region ?_
  refine WpL_val rfl rfl (by decide) (r_fieldAddr (b := bx) (o := 0) (o' := 0) rfl Try.underlying27 rfl siz3 rfl) ?_
  refine WpL_val rfl rfl (by decide) (r_load (v := (.int .i64 4)) rfl flat3 (Bx.cell rfl)) ?_
  refine WpL_nil ?_
  refine Wp_block ?_
  refine Wp_seq_region ?_
  refine WpL_val rfl rfl (by decide) (r_eql (k := .i64) (a := 4) (b := 0) rfl rfl) ?_
  refine WpL_val rfl rfl (by decide) (r_assign (v := (.bool false)) rfl) ?_
  refine WpL_nil ?_
  refine Wp_cond_false rfl ?_
  refine Wp_seq_region ?_
  refine WpL_val rfl rfl (by decide) (r_eql (k := .i64) (a := 4) (b := 2) rfl rfl) ?_
  refine WpL_val rfl rfl (by decide) (r_assign (v := (.bool false)) rfl) ?_
  refine WpL_nil ?_
  refine Wp_cond_false rfl ?_
  refine Wp_seq_region ?_
  refine WpL_val rfl rfl (by decide) (r_eql (k := .i64) (a := 4) (b := 3) rfl rfl) ?_
  refine WpL_val rfl rfl (by decide) (r_assign (v := (.bool false)) rfl) ?_
  refine WpL_nil ?_
  refine Wp_cond_false rfl ?_
  refine Wp_seq_region ?_
  refine WpL_val rfl rfl (by decide) (r_eql (k := .i64) (a := 4) (b := 4) rfl rfl) ?_
  refine WpL_val rfl rfl (by decide) (r_assign (v := (.bool true)) rfl) ?_
  refine WpL_nil ?_
  refine Wp_cond_true rfl ?_
  refine Wp_seq_region ?_
  refine WpL_val rfl rfl (by decide) (r_assign (v := (.slice none 0 0)) rfl) ?_
  refine WpL_nil ?_
  refine Wp_seq ?_
  refine Wp_seq_region ?_
  refine WpL_val rfl rfl (by decide) (r_fieldAddr (b := bx) (o := 0) (o' := 2) rfl Try.underlying27 rfl siz25 rfl) ?_
  refine WpL_val rfl rfl (by decide) (r_load (v := (.slice (some ⟨b, o, none⟩) m ac)) rfl flat25 (Bx.cell rfl)) ?_
  refine WpL_val rfl rfl (by decide) (r_lenSlice (ad := some ⟨b, o, none⟩) (n := m) (cap := ac) Try.underlying25 rfl) ?_
  refine WpL_val rfl rfl (by decide) (r_move (v := (.int .i64 0)) rfl) ?_
  refine WpL_nil ?_
  refine Wp_block ?_
  have G1 := (GrX.start hP).frz Nx.ext (b := bx) (by rw [Nx.eq]; exact Nat.le_refl _) Bx.lt
  obtain ⟨n2, hn2⟩ : ∃ n2, n2 = (wx).heap.size := ⟨_, rfl⟩
  have hn2b : bx < n2 ∧ w0.heap.size ≤ n2 ∧ pb < n2 := ⟨by rw [hn2]; exact Bx.lt, by rw [hn2]; exact G1.chg.size, by rw [hn2]; exact G1.st.blk.lt⟩
  refine Wp_loop (fun nn_ σ W1 => ∃ (i : Nat) (F1 : Nat → Prop) (v1 : Value) (la : Option Addr) (lc : Nat), (∃ jj_, σ = upds jj_ [(0, (.pointer (some ⟨pb, 0, none⟩))), (3, (.pointer (some ⟨bx, 0, none⟩))), (47, (.slice (some ⟨b, o, none⟩) m ac)), (48, (.int .i64 ((m : Nat) : Int))), (49, (.int .i64 ((i : Nat) : Int))), (6, (.slice la i lc))]) ∧ Chg (fun _ => True) w0 W1 ∧ Blk W1 bx #[(.int .i64 4), (.slice sa set.length sc), (.slice (some ⟨b, o, none⟩) m ac), (.int .i64 mn), (.int .i64 mx), (.bool ng)] 27 ∧ (i < m) ∧ (GrX F w0 base pb v F1 v1 (code ++ (altP 0 (L0.take i) n d t).1) (altP 0 (L0.take i) n d t).2 d W1) ∧ (F1 bx) ∧ (W1.ownsRow n2 TIn 1 (.slice la i lc) i ((altI (L0.take i) n d t).map iV)) ∧ (∀ q, (Value.slice la i lc).ownBlock = some q → Apt F1 pb v1 q) ∧ (n2 ≤ W1.heap.size) ∧ nn_ = m - i) (n := m - 0) ?_ ?_
  · exact ⟨0, (fun y => F y ∨ y = bx), v, none, 0, Fits.out ⟨rfl, rfl, rfl, rfl, rfl, rfl, trivial⟩, E, Bx, (by omega), (by rw [List.take_zero]; simp only [altP, List.append_nil]; exact G1), .inr rfl, World.ownsRow_nil _ _ _ _, (fun q hq => by cases hq), (by omega), rfl⟩
  · clear E Bx
    rintro _ _ W1 ⟨i, F1, v1, la, lc, ⟨j1, rfl⟩, E, Bx, hi, G, hk, hs, hap, hsz, rfl⟩
    refine Wp_seq_region ?_
    refine WpL_val rfl rfl (by decide) (r_lss (k := .i64) (a := ((i : Nat) : Int)) (b := ((m : Nat) : Int)) rfl rfl) ?_
    refine WpL_nil ?_
    refine Wp_seq ?_
    have hc2 : (decide ((((i : Nat) : Int) : Int) < ((m : Nat) : Int))) = true := decide_eq_true (by omega)
    refine Wp_cond_true (congrArg Value.bool hc2) ?_
    refine Wp_skip ?_
    refine thn_normal ?_
    refine Wp_seq ?_
    refine Wp_block ?_
    refine Wp_seq_region ?_
    refine WpL_val rfl rfl (by decide) (r_move (v := (.int .i64 ((i : Nat) : Int))) rfl) ?_
    refine WpL_val rfl rfl (by decide) (r_indexSlice (b := b) (o := o) (len := m) (cap := ac) (i := i) (o' := o + i * 6) rfl rfl rfl Try.underlying25 siz27 (by omega) (by omega)) ?_
    obtain ⟨y, hy⟩ := get_of_lt (l := init ++ [zl]) (i := i) (by omega)
    obtain ⟨us, hus, hyt⟩ := hres.get hy
    have hym := List.mem_of_getElem? hy
    have hsz9 := Re.sizes_get hy
    have hEW := G.wb hP.hp hP.ho hF hE
    obtain ⟨ya, yc, za, zc, rfl, _⟩ := hyt.form
    obtain ⟨z, hz⟩ : ∃ z, z = (W1).heap.size := ⟨_, rfl⟩
    have hnb := G.fresh
    have hslt := hs.lt
    rw [← hz] at hnb hslt
    refine WpL_val rfl rfl (by decide) (r_loadAgg (vs := [(.int .i64 y.kind), (.slice ya y.set.length yc), (.slice za y.args.length zc), (.int .i64 y.mn), (.int .i64 y.mx), (.bool y.neg)]) rfl agg27 siz27 rfl ((hus.ext hEW))) ?_
    refine s_alloc (c := #[(.int .i64 0), (.slice none 0 0), (.slice none 0 0), (.int .i64 0), (.int .i64 0), (.bool false)]) (by decide) zer27 rfl ?_
    intro bu wu Nu
    have Fu := Nu.ge E
    have Ou_bx := Nu.lt Bx
    replace Bx := Nu.keep Bx
    replace G := G.ext Nu.ext
    replace hs := own_ext hs Nu.ext
    replace E := E.ext Nu.ext
    have Bu := Nu.blk
    refine WpL_val rfl rfl (by decide) (r_assign (v := (.int .i64 ((i : Nat) : Int))) rfl) ?_
    refine s_storeAgg (b := bu) (o := 0) (c' := #[(.int .i64 y.kind), (.slice ya y.set.length yc), (.slice za y.args.length zc), (.int .i64 y.mn), (.int .i64 y.mx), (.bool y.neg)]) rfl rfl (by simp [Value.oneCell']) siz27 rfl Bu (by simp) rfl ?_
    intro w3 S3
    replace G := G.other S3.chg (fun q hq => hnb q (by have h' : q = bu := hq; have := Nu.eq; omega))
    replace hs := own_chg hs S3.chg (fun q hq e => by have h' : q = bu := e; have := hslt q hq; have := Nu.eq; omega)
    replace Bx := S3.keep (by omega) Bx
    replace E := S3.step E (by first | exact Or.inl (by omega) | exact Or.inr rfl | exact Or.inr (by assumption) | exact Or.inr (by simp) | exact Or.inr (by omega) | exact Or.inr (by dsimp only; omega))
    replace Bu := S3.blk
    refine WpL_nil ?_
    refine Wp_seq ?_
    refine Wp_seq_region ?_
    refine WpL_val rfl rfl (by decide) (r_move (v := (.int .i64 ((i : Nat) : Int))) rfl) ?_
    refine WpL_val rfl rfl (by decide) (r_add (k := .i64) (a := ((i : Nat) : Int)) (b := 1) (c := ((i : Nat) : Int) + 1) rfl rfl (wI64 (by omega))) ?_
    refine WpL_val rfl rfl (by decide) (r_fieldAddr (b := bx) (o := 0) (o' := 2) rfl Try.underlying27 rfl siz25 rfl) ?_
    refine WpL_val rfl rfl (by decide) (r_load (v := (.slice (some ⟨b, o, none⟩) m ac)) rfl flat25 (Bx.cell rfl)) ?_
    refine WpL_val rfl rfl (by decide) (r_lenSlice (ad := some ⟨b, o, none⟩) (n := m) (cap := ac) Try.underlying25 rfl) ?_
    refine WpL_val rfl rfl (by decide) (r_eql (k := .i64) (a := ((i : Nat) : Int) + 1) (b := ((m : Nat) : Int)) rfl rfl) ?_
    refine WpL_nil ?_
    refine Wp_cond (b := decide ((((i : Nat) : Int) + 1 : Int) = ((m : Nat) : Int))) rfl (fun hlast => ?_) (fun hlast => ?_)
    · have khlast := hlast
      replace hlast := of_decide_eq_true hlast
      have hie : i = init.length := by omega
      have hyz : y = zl := by rw [hie, List.getElem?_append_right (Nat.le_refl _), Nat.sub_self] at hy; simpa using hy.symm
      have htk : L0.take i = L0 := List.take_of_length_le (by omega)
      rw [htk] at G hs
      rw [← hP0] at G
      have hub : z ≤ bu := by have := Nu.eq; omega
      obtain ⟨q1, q2, q3, q4⟩ := hnb bu hub
      have G2 := G.frz2 q1 Bu.lt q3 q4
      have hap2 : ∀ q, (Value.slice la i lc).ownBlock = some q → Apt (fun y => F1 y ∨ y = bu) pb v1 q := fun q hq => ⟨fun hf => hf.elim (hap q hq).1 (fun e => by have := hslt q hq; omega), (hap q hq).2⟩
      have hslt2 := hs.lt
      have hlj : (code ++ P0.1).length = n + P0.1.length := by rw [List.length_append, hlen]
      have hEW2 := G2.wb hP.hp hP.ho hF hE
      refine Wp_seq_region ?_
      refine WpL_val rfl rfl (by decide) (r_move (v := (.pointer (some ⟨pb, 0, none⟩))) rfl) ?_
      refine WpL_val rfl rfl (by decide) (r_loadAgg (vs := [(.int .i64 y.kind), (.slice ya y.set.length yc), (.slice za y.args.length zc), (.int .i64 y.mn), (.int .i64 y.mx), (.bool y.neg)]) rfl agg27 siz27 rfl (Bu.cells rfl)) ?_
      refine WpL_enter rfl rfl (by decide) (r_callF (vs := [(.pointer (some ⟨pb, 0, none⟩)), (.agg #[(.int .i64 y.kind), (.slice ya y.set.length yc), (.slice za y.args.length zc), (.int .i64 y.mn), (.int .i64 y.mx), (.bool y.neg)])]) Try.func41 nm41 bd41 rfl) (hih y hym base pb _ _ v1 (n + P0.1.length) (code ++ P0.1) P0.2 d _ hyt hEW2 (fun q hq => G2.sub q (hF q hq)) (hlj ▸ G2.st) (by rw [hyz, ← hZ]; omega) (by rw [hyz, ← hZ]; exact ht) (by omega)) ?_
      rintro _ w19 ⟨F3, v3, G3⟩
      replace Bx := G3.chg.keep (G2.st.kept (by first | exact .inr rfl | exact .inl hk)) Bx
      replace Bu := G3.chg.keep (G2.st.kept (by first | exact .inr rfl | exact .inl hk)) Bu
      replace E := E.step G3.chg (fun _ _ _ => trivial)
      rw [hyz, ← hZ] at G3
      have hs := own_chg hs G3.chg (fun q hq h => (hap2 q hq).keep h)
      have hap3 : ∀ q, (Value.slice la i lc).ownBlock = some q → Apt F3 pb v3 q := fun q hq => (hap2 q hq).step G3 (hslt2 q hq).2
      have k3 : F3 bx := G3.sub _ (.inl hk)
      replace G3 := G2.comp G3
      rw [List.append_assoc] at G3
      obtain ⟨C, hC⟩ : ∃ C, C = code ++ (P0.1 ++ Z.1) := ⟨_, rfl⟩
      obtain ⟨L, hL⟩ : ∃ L, L = altI L0 n d t := ⟨_, rfl⟩
      have hLl : L.length = i := by rw [hL, altI_len]; omega
      have hCl : C.length = ee := by rw [hC, List.length_append, List.length_append, hlen, hee]
      have hLr : Rise n L := by rw [hL]; exact altI_rise _ _ _ _
      have hLg : ∀ k ∈ L, C[k]? = some (.jump 0) := by rw [hC, hL, hP0]; exact altI_get L0 n d t code Z.1 hlen
      have hLp : patW (fun _ => .jump ee) C L = code ++ ((altP ee L0 n d t).1 ++ Z.1) := by rw [hC, hL, hP0]; exact altI_pat ee L0 n d t code Z.1 hlen
      rw [← hC] at G3
      rw [← hL] at hs
      refine WpL_nil ?_
      refine Wp_exit ?_
      refine thn_exit ?_
      refine inB_there (by decide) ?_
      refine thn_exit ?_
      refine thn_exit ?_
      refine inB_here ?_
      refine thn_normal ?_
      refine Wp_seq_region ?_
      refine WpL_val rfl rfl (by decide) (r_move (v := (.slice la i lc)) rfl) ?_
      refine WpL_val rfl rfl (by decide) (r_lenSlice (ad := la) (n := i) (cap := lc) Try.underlying22 rfl) ?_
      refine WpL_val rfl rfl (by decide) (r_move (v := (.int .i64 0)) rfl) ?_
      refine WpL_nil ?_
      refine Wp_block ?_
      refine Wp_loop (fun nn_ σ W5 => ∃ (i2 : Nat), (∃ jj_, σ = upds jj_ [(0, (.pointer (some ⟨pb, 0, none⟩))), (94, (.slice la i lc)), (95, (.int .i64 ((i : Nat) : Int))), (96, (.int .i64 ((i2 : Nat) : Int)))]) ∧ Chg (fun _ => True) w0 W5 ∧ Blk W5 bx #[(.int .i64 4), (.slice sa set.length sc), (.slice (some ⟨b, o, none⟩) m ac), (.int .i64 mn), (.int .i64 mx), (.bool ng)] 27 ∧ (i2 ≤ i) ∧ (GrX F w0 base pb v F3 v3 (patW (fun _ => .jump ee) C (L.take i2)) Z.2 d W5) ∧ (W5.ownsRow n2 TIn 1 (.slice la i lc) i (L.map iV)) ∧ nn_ = i - i2) (n := i - 0) ?_ ?_
      · exact ⟨0, Fits.out ⟨rfl, rfl, rfl, rfl, trivial⟩, E, Bx, Nat.zero_le _, (by rw [List.take_zero]; exact G3), hs, rfl⟩
      · clear E Bx
        rintro _ _ W5 ⟨i2, ⟨j5, rfl⟩, E, Bx, hi2, G, hs, rfl⟩
        refine Wp_seq_region ?_
        refine WpL_val rfl rfl (by decide) (r_lss (k := .i64) (a := ((i2 : Nat) : Int)) (b := ((i : Nat) : Int)) rfl rfl) ?_
        refine WpL_nil ?_
        refine Wp_seq ?_
        refine Wp_cond (b := decide ((((i2 : Nat) : Int) : Int) < ((i : Nat) : Int))) rfl (fun hlt3 => ?_) (fun hlt3 => ?_)
        · have khlt3 := hlt3
          replace hlt3 := of_decide_eq_true hlt3
          obtain ⟨k, hkL⟩ := get_of_lt (l := L) (i := i2) (by omega)
          have hkm := List.mem_of_getElem? hkL
          have hck : (patW (fun _ => .jump ee) C (L.take i2))[k]? = some (.jump 0) := by rw [patW_get _ _ _ (hLr.fresh hkL)]; exact hLg k hkm
          have hkl := lt_of_get hck
          have hpL := patW_len (fun _ => Ins.jump ee) (L.take i2) C
          rw [hCl] at hpL
          rw [hpL] at hkl
          obtain ⟨sb, rfl, _, hsc⟩ := own_cells hs (by omega)
          obtain ⟨va3, vc3, rfl⟩ := G.st.form' hpL
          obtain ⟨g, cur, rfl, hg, hgs, hgb, hgF⟩ := G.st.block (by omega)
          rw [hpL] at hgs
          have hxg : bx ≠ g := fun e => hgF (e ▸ k3)
          have hblk := G.st.blk
          have hgp := G.st.pb
          refine Wp_skip ?_
          refine thn_normal ?_
          refine Wp_seq ?_
          refine Wp_block ?_
          refine Wp_seq_region ?_
          refine WpL_val rfl rfl (by decide) (r_indexSlice (b := sb) (o := 0) (len := i) (cap := lc) (i := i2) (o' := 0 + i2) rfl rfl rfl Try.underlying22 siz3 (by omega) (by omega)) ?_
          refine WpL_val rfl rfl (by decide) (r_load (v := (.int .i64 ((k : Nat) : Int))) rfl flat3 (hsc i2 (iV k) (by rw [List.getElem?_map, hkL]; rfl))) ?_
          refine WpL_val rfl rfl (by decide) (r_assign (v := (.int .i64 ((k : Nat) : Int))) rfl) ?_
          refine WpL_nil ?_
          refine Wp_draw 12 mixed (by kernel_rfl) ?_
          intro w7 X7 _
          replace Bx := X7.keep Bx
          replace hblk := X7.keep hblk
          replace hg := X7.keep hg
          replace G := G.ext X7
          replace hs := own_ext hs X7
          replace E := E.ext X7
          refine WpT_val rfl rfl (by decide) (r_move (v := (.pointer (some ⟨pb, 0, none⟩))) rfl) ?_
          refine WpT_val rfl rfl (by decide) (r_nilCheck (a := ⟨pb, 0, none⟩) rfl) ?_
          refine WpT_val rfl rfl (by decide) (r_fieldAddr (b := pb) (o := 0) (o' := 0) rfl Try.underlying83 rfl siz81 rfl) ?_
          refine WpT_val rfl rfl (by decide) (r_load (v := (.slice (some ⟨g, 0, none⟩) ee vc3)) rfl flat81 (hblk.cell rfl)) ?_
          refine WpT_val rfl rfl (by decide) (r_move (v := (.int .i64 ((k : Nat) : Int))) rfl) ?_
          refine WpT_val rfl rfl (by decide) (r_move (v := (.pointer (some ⟨pb, 0, none⟩))) rfl) ?_
          refine WpT_val rfl rfl (by decide) (r_nilCheck (a := ⟨pb, 0, none⟩) rfl) ?_
          refine WpT_val rfl rfl (by decide) (r_fieldAddr (b := pb) (o := 0) (o' := 0) rfl Try.underlying83 rfl siz81 rfl) ?_
          refine WpT_val rfl rfl (by decide) (r_load (v := (.slice (some ⟨g, 0, none⟩) ee vc3)) rfl flat81 (hblk.cell rfl)) ?_
          refine WpT_val rfl rfl (by decide) (r_lenSlice (ad := some ⟨g, 0, none⟩) (n := ee) (cap := vc3) Try.underlying81 rfl) ?_
          refine WpT_val rfl rfl (by decide) (r_indexSlice (b := g) (o := 0) (len := ee) (cap := vc3) (i := k) (o' := 0 + k * 8) rfl rfl rfl Try.underlying81 siz87 (by omega) (by omega)) ?_
          refine WpT_val rfl rfl (by decide) (r_fieldAddr (b := g) (o := 0 + k * 8) (o' := 0 + k * 8 + 1) rfl Try.underlying87 rfl siz3 rfl) ?_
          refine WpT_zero ?_
          refine s_store (b := g) (o := 0 + k * 8 + 1) (c' := cur.setIfInBounds (k * 8 + 1) (iV ee)) (v := (.int .i64 ((ee : Nat) : Int))) rfl rfl rfl siz3 hg (by omega) (by rw [Nat.zero_add]) ?_
          intro w8 S8
          replace G := G.patch (i := k) (f := 1) (x := iV ee) (ins := .jump ee) hpL.symm hg S8 (by omega) (by omega) (jump_row hck) (fun _ _ => rfl) (fun _ _ h => by cases h)
          replace hs := own_chg hs S8.chg (fun q hq e => (hap3 q hq).2.2 (by have e' : q = g := e; rw [e']; rfl))
          replace Bx := S8.keep (by omega) Bx
          replace hblk := S8.keep (by omega) hblk
          replace E := S8.step E (by first | exact Or.inl (by omega) | exact Or.inr rfl | exact Or.inr (by assumption) | exact Or.inr (by simp) | exact Or.inr (by omega) | exact Or.inr (by dsimp only; omega))
          replace hg := S8.blk
          refine WpL_nil ?_
          refine inB_normal ?_
          refine thn_normal ?_
          refine Wp_region ?_
          refine WpL_val rfl rfl (by decide) (r_add (k := .i64) (a := ((i2 : Nat) : Int)) (b := 1) (c := ((i2 : Nat) : Int) + 1) rfl rfl (wI64 (by omega))) ?_
          refine WpL_val rfl rfl (by decide) (r_move (v := (.int .i64 (((i2 : Nat) : Int) + 1))) rfl) ?_
          refine WpL_nil ?_
          refine thn_normal ?_
          exact ⟨i - (i2 + 1), by omega, i2 + 1, Fits.out ⟨rfl, rfl, rfl, rfl, trivial⟩, E, Bx, (by omega), (by rw [patW_take hkL]; exact G), hs, rfl⟩
        · have khlt3 := hlt3
          replace hlt3 := of_decide_eq_false hlt3
          have hik : i2 = i := by omega
          refine Wp_exit ?_
          refine thn_exit ?_
          refine thn_exit ?_
          refine inB_here ?_
          refine inB_normal ?_
          refine fin_none Try.results41 ?_
          rw [hik, List.take_of_length_le (by omega), hLp] at G
          exact ⟨F3, v3, G⟩
    · have khlast := hlast
      replace hlast := of_decide_eq_false hlast
      have hiI : i < init.length := by omega
      have hbu3 := Bu.lt
      have hyI : init[i]? = some y := by rw [List.getElem?_append_left hiI] at hy; exact hy
      have hfy : L0[i]? = some (frgOf y) := by rw [hL0, List.getElem?_map, hyI]; rfl
      have htake : L0.take (i + 1) = L0.take i ++ [frgOf y] := by rw [List.take_add_one, hfy]; rfl
      have hst := altP_step 0 (frgOf y) (L0.take i) n d t
      have hix := altI_step (frgOf y) (L0.take i) n d t
      have hle := altP_le hLm (i + 1) n d t
      rw [← htake] at hst hix
      rw [hst, ← hP0] at hle
      obtain ⟨Q, hQ⟩ : ∃ Q, Q = altP 0 (L0.take i) n d t := ⟨_, rfl⟩
      rw [← hQ] at hst hle hix G
      have hRm := frgOf_mono y (n + Q.1.length + 1) d Q.2
      obtain ⟨R, hR⟩ : ∃ R, R = frgOf y (n + Q.1.length + 1) d Q.2 := ⟨_, rfl⟩
      rw [← hR] at hst hle hix hRm
      simp only [List.length_append, List.length_cons, List.length_nil] at hle
      have hub : z ≤ bu := by have := Nu.eq; omega
      obtain ⟨q1, q2, q3, q4⟩ := hnb bu hub
      have G2 := G.frz2 q1 Bu.lt q3 q4
      have hap2 : ∀ q, (Value.slice la i lc).ownBlock = some q → Apt (fun y => F1 y ∨ y = bu) pb v1 q := fun q hq => ⟨fun hf => hf.elim (hap q hq).1 (fun e => by have := hslt q hq; omega), (hap q hq).2⟩
      have hslt2 := hs.lt
      have hlj : (code ++ Q.1).length = n + Q.1.length := by rw [List.length_append, hlen]
      obtain ⟨va2, vc2, rfl⟩ := G2.st.form' hlj
      have hblk := G2.st.blk
      have hgp := G2.st.pb
      refine Wp_skip ?_
      refine thn_normal ?_
      refine Wp_seq_region ?_
      refine WpL_val rfl rfl (by decide) (r_move (v := (.pointer (some ⟨pb, 0, none⟩))) rfl) ?_
      refine WpL_val rfl rfl (by decide) (r_move (v := (.pointer (some ⟨pb, 0, none⟩))) rfl) ?_
      refine WpL_val rfl rfl (by decide) (r_nilCheck (a := ⟨pb, 0, none⟩) rfl) ?_
      refine WpL_val rfl rfl (by decide) (r_fieldAddr (b := pb) (o := 0) (o' := 0) rfl Try.underlying83 rfl siz81 rfl) ?_
      refine WpL_val rfl rfl (by decide) (r_load (v := (.slice va2 (n + Q.1.length) vc2)) rfl flat81 (hblk.cell rfl)) ?_
      refine WpL_val rfl rfl (by decide) (r_lenSlice (ad := va2) (n := (n + Q.1.length)) (cap := vc2) Try.underlying81 rfl) ?_
      refine WpL_val rfl rfl (by decide) (r_add (k := .i64) (a := (((n + Q.1.length) : Nat) : Int)) (b := 1) (c := ((n + Q.1.length + 1 : Nat) : Int)) rfl rfl ((wI64 (by omega)).trans (by omega))) ?_
      refine WpL_val rfl rfl (by decide) (r_build (ps := [(0, (.int .i64 1)), (1, (.int .i64 ((n + Q.1.length + 1 : Nat) : Int)))]) (v := (.agg #[(.int .i64 1), (.int .i64 ((n + Q.1.length + 1 : Nat) : Int)), (.int .i64 0), (.int .i64 0), (.int .i64 0), (.slice none 0 0), (.pointer none), (.bool false)])) rfl (by kernel_rfl)) ?_
      refine WpL_enter rfl rfl (by decide) (r_callF (vs := [(.pointer (some ⟨pb, 0, none⟩)), (.agg #[(.int .i64 1), (.int .i64 ((n + Q.1.length + 1 : Nat) : Int)), (.int .i64 0), (.int .i64 0), (.int .i64 0), (.slice none 0 0), (.pointer none), (.bool false)])]) Try.func42 nm42 bd42 rfl) (add_c _ _ base pb _ (n + Q.1.length) _ Q.2 d (.split (n + Q.1.length + 1) 0) 0 1 (n + Q.1.length + 1) 0 0 0 none 0 0 nilP false (hlj ▸ G2.st) (by omega) rfl rfl (fun _ _ h => by cases h)) ?_
      rintro _ w29 ⟨rfl, F3, v3, G3⟩
      replace Bx := G3.chg.keep (G2.st.kept (by first | exact .inr rfl | exact .inl hk)) Bx
      replace Bu := G3.chg.keep (G2.st.kept (by first | exact .inr rfl | exact .inl hk)) Bu
      replace E := E.step G3.chg (fun _ _ _ => trivial)
      have hs := own_chg hs G3.chg (fun q hq h => (hap2 q hq).keep h)
      have hap3 : ∀ q, (Value.slice la i lc).ownBlock = some q → Apt F3 pb v3 q := fun q hq => (hap2 q hq).step G3 (hslt2 q hq).2
      have k3 : F3 bx := G3.sub _ (.inl hk)
      have k3u : F3 bu := G3.sub _ (.inr rfl)
      have hslt3 := hs.lt
      have hz3 := G3.chg.size
      replace G3 := G2.comp G3
      have hl3 : ((code ++ Q.1) ++ [Ins.split (n + Q.1.length + 1) 0]).length = n + Q.1.length + 1 := by rw [List.length_append, hlj]; rfl
      have hEW3 := G3.wb hP.hp hP.ho hF hE
      refine WpL_val rfl rfl (by decide) (r_assign (v := (.int .i64 ((n + Q.1.length : Nat) : Int))) rfl) ?_
      refine WpL_nil ?_
      refine Wp_seq_region ?_
      refine WpL_val rfl rfl (by decide) (r_move (v := (.pointer (some ⟨pb, 0, none⟩))) rfl) ?_
      refine WpL_val rfl rfl (by decide) (r_loadAgg (vs := [(.int .i64 y.kind), (.slice ya y.set.length yc), (.slice za y.args.length zc), (.int .i64 y.mn), (.int .i64 y.mx), (.bool y.neg)]) rfl agg27 siz27 rfl (Bu.cells rfl)) ?_
      refine WpL_enter rfl rfl (by decide) (r_callF (vs := [(.pointer (some ⟨pb, 0, none⟩)), (.agg #[(.int .i64 y.kind), (.slice ya y.set.length yc), (.slice za y.args.length zc), (.int .i64 y.mn), (.int .i64 y.mx), (.bool y.neg)])]) Try.func41 nm41 bd41 rfl) (hih y hym base pb _ _ v3 (n + Q.1.length + 1) _ Q.2 d _ hyt hEW3 (fun q hq => G3.sub q (hF q hq)) (hl3 ▸ G3.st) (by rw [← hR]; omega) (by rw [← hR]; omega) (by omega)) ?_
      rintro _ w39 ⟨F4, v4, G4⟩
      replace Bx := G4.chg.keep (G3.st.kept (by first | exact k3 | exact k3u)) Bx
      replace Bu := G4.chg.keep (G3.st.kept (by first | exact k3 | exact k3u)) Bu
      replace E := E.step G4.chg (fun _ _ _ => trivial)
      rw [← hR] at G4
      have hs := own_chg hs G4.chg (fun q hq h => (hap3 q hq).keep h)
      have hap4 : ∀ q, (Value.slice la i lc).ownBlock = some q → Apt F4 pb v4 q := fun q hq => (hap3 q hq).step G4 (hslt3 q hq).2
      have k4 : F4 bx := G4.sub _ k3
      have k4u : F4 bu := G4.sub _ k3u
      have hslt4 := hs.lt
      have hz4 := G4.chg.size
      replace G4 := G3.comp G4
      have hl4 : (((code ++ Q.1) ++ [Ins.split (n + Q.1.length + 1) 0]) ++ R.1).length = n + Q.1.length + 1 + R.1.length := by rw [List.length_append, hl3]
      refine WpL_nil ?_
      refine Wp_seq_region ?_
      refine WpL_val rfl rfl (by decide) (r_move (v := (.slice la i lc)) rfl) ?_
      refine WpL_val rfl rfl (by decide) (r_move (v := (.pointer (some ⟨pb, 0, none⟩))) rfl) ?_
      refine WpL_val rfl rfl (by decide) (r_build (ps := [(0, (.int .i64 2))]) (v := (.agg #[(.int .i64 2), (.int .i64 0), (.int .i64 0), (.int .i64 0), (.int .i64 0), (.slice none 0 0), (.pointer none), (.bool false)])) rfl (by kernel_rfl)) ?_
      refine WpL_enter rfl rfl (by decide) (r_callF (vs := [(.pointer (some ⟨pb, 0, none⟩)), (.agg #[(.int .i64 2), (.int .i64 0), (.int .i64 0), (.int .i64 0), (.int .i64 0), (.slice none 0 0), (.pointer none), (.bool false)])]) Try.func42 nm42 bd42 rfl) (add_c _ _ base pb _ (n + Q.1.length + 1 + R.1.length) _ R.2 d (.jump 0) 0 2 0 0 0 0 none 0 0 nilP false (hl4 ▸ G4.st) (by omega) rfl rfl (fun _ _ h => by cases h)) ?_
      rintro _ w49 ⟨rfl, F5, v5, G5⟩
      replace Bx := G5.chg.keep (G4.st.kept (by first | exact k4 | exact k4u)) Bx
      replace Bu := G5.chg.keep (G4.st.kept (by first | exact k4 | exact k4u)) Bu
      replace E := E.step G5.chg (fun _ _ _ => trivial)
      have hs := own_chg hs G5.chg (fun q hq h => (hap4 q hq).keep h)
      have hap5 : ∀ q, (Value.slice la i lc).ownBlock = some q → Apt F5 pb v5 q := fun q hq => (hap4 q hq).step G5 (hslt4 q hq).2
      have k5 : F5 bx := G5.sub _ k4
      have hz5 := G5.chg.size
      replace G5 := G4.comp G5
      have hsz5 : n2 ≤ w49.heap.size := by omega
      refine s_buildSlice (ps := [(0, (.int .i64 ((n + Q.1.length + 1 + R.1.length : Nat) : Int)))]) (c := #[(.int .i64 ((n + Q.1.length + 1 + R.1.length : Nat) : Int))]) (by decide) rfl Try.underlying22 siz3 zer3 (by decide) (by decide) (by kernel_rfl) ?_
      intro br wr Nr
      have Fr := Nr.ge E
      have Or_bx := Nr.lt Bx
      replace Bx := Nr.keep Bx
      replace E := E.ext Nr.ext
      have Br := Nr.blk
      have hs := own_ext hs Nr.ext
      have G6 := G5.ext Nr.ext
      refine s_append (base := n2) (n := i) (m := 1) (xs := ((altI (L0.take i) n d t).map iV)) (news := [(.int .i64 ((n + Q.1.length + 1 + R.1.length : Nat) : Int))]) (size := 1) (bytes := 8) (v := (.slice la i lc)) (by decide) Try.underlying22 siz3 byt3 zer3 rfl (by decide) rfl hs rfl (rfl) (Br.cells rfl) (by simp [Value.oneCell']) (by unfold maxLen; omega) (by omega) ((by have := Nr.ext.size; omega)) ?_
      intro v7 w59 Ov7 Cv7 Dv7
      replace Bx := Cv7.keep (fun h => by have := (hs.lt _ h).1; omega) Bx
      replace E := E.step Cv7 (fun _ _ _ => trivial)
      obtain ⟨la2, lc2, rfl⟩ := own_form Ov7
      have G7 := G6.other Cv7 (fun q hq => ⟨by have := (hs.lt q hq).1; omega, hap5 q hq⟩)
      have hap7 : ∀ q, (Value.slice la2 (i + 1) lc2).ownBlock = some q → Apt F5 pb v5 q := fun q hq => by rcases Dv7 q hq with h9 | h9; exact hap5 q h9; exact (GrX.fresh G6 q h9).2
      have hszw : n2 ≤ w59.heap.size := by have := Cv7.size; have := Nr.ext.size; omega
      have hl7 : ((((code ++ Q.1) ++ [Ins.split (n + Q.1.length + 1) 0]) ++ R.1) ++ [Ins.jump 0]).length = n + Q.1.length + 2 + R.1.length := by rw [List.length_append, hl4, List.length_singleton]; omega
      obtain ⟨va7, vc7, rfl⟩ := G7.st.form' hl7
      obtain ⟨g, cur, rfl, hg, hgs, hgb, hgF⟩ := G7.st.block (by omega)
      rw [hl7] at hgs
      have hxg : bx ≠ g := fun e => hgF (e ▸ k5)
      have hblk := G7.st.blk
      have e7 : (((code ++ Q.1) ++ [Ins.split (n + Q.1.length + 1) 0]) ++ R.1) ++ [Ins.jump 0] = (code ++ Q.1) ++ Ins.split (n + Q.1.length + 1) 0 :: (R.1 ++ [Ins.jump 0]) := by simp
      rw [e7] at G7 hl7
      refine WpL_val rfl rfl (by decide) (r_assign (v := (.slice la2 (i + 1) lc2)) rfl) ?_
      refine WpL_nil ?_
      refine Wp_draw 12 mixed (by kernel_rfl) ?_
      intro w9 X9 _
      replace Bx := X9.keep Bx
      replace hblk := X9.keep hblk
      replace hg := X9.keep hg
      replace hszw := Nat.le_trans hszw X9.size
      replace G7 := G7.ext X9
      replace Ov7 := own_ext Ov7 X9
      replace E := E.ext X9
      refine WpT_val rfl rfl (by decide) (r_move (v := (.pointer (some ⟨pb, 0, none⟩))) rfl) ?_
      refine WpT_val rfl rfl (by decide) (r_nilCheck (a := ⟨pb, 0, none⟩) rfl) ?_
      refine WpT_val rfl rfl (by decide) (r_fieldAddr (b := pb) (o := 0) (o' := 0) rfl Try.underlying83 rfl siz81 rfl) ?_
      refine WpT_val rfl rfl (by decide) (r_load (v := (.slice (some ⟨g, 0, none⟩) (n + Q.1.length + 2 + R.1.length) vc7)) rfl flat81 (hblk.cell rfl)) ?_
      refine WpT_val rfl rfl (by decide) (r_move (v := (.int .i64 ((n + Q.1.length : Nat) : Int))) rfl) ?_
      refine WpT_val rfl rfl (by decide) (r_move (v := (.pointer (some ⟨pb, 0, none⟩))) rfl) ?_
      refine WpT_val rfl rfl (by decide) (r_nilCheck (a := ⟨pb, 0, none⟩) rfl) ?_
      refine WpT_val rfl rfl (by decide) (r_fieldAddr (b := pb) (o := 0) (o' := 0) rfl Try.underlying83 rfl siz81 rfl) ?_
      refine WpT_val rfl rfl (by decide) (r_load (v := (.slice (some ⟨g, 0, none⟩) (n + Q.1.length + 2 + R.1.length) vc7)) rfl flat81 (hblk.cell rfl)) ?_
      refine WpT_val rfl rfl (by decide) (r_lenSlice (ad := some ⟨g, 0, none⟩) (n := (n + Q.1.length + 2 + R.1.length)) (cap := vc7) Try.underlying81 rfl) ?_
      refine WpT_val rfl rfl (by decide) (r_indexSlice (b := g) (o := 0) (len := (n + Q.1.length + 2 + R.1.length)) (cap := vc7) (i := n + Q.1.length) (o' := 0 + (n + Q.1.length) * 8) rfl rfl rfl Try.underlying81 siz87 (by omega) (by omega)) ?_
      refine WpT_val rfl rfl (by decide) (r_fieldAddr (b := g) (o := 0 + (n + Q.1.length) * 8) (o' := 0 + (n + Q.1.length) * 8 + 2) rfl Try.underlying87 rfl siz3 rfl) ?_
      refine WpT_zero ?_
      refine s_store (b := g) (o := 0 + (n + Q.1.length) * 8 + 2) (c' := cur.setIfInBounds ((n + Q.1.length) * 8 + 2) (iV (n + Q.1.length + 2 + R.1.length))) (v := (.int .i64 (((n + Q.1.length + 2 + R.1.length) : Nat) : Int))) rfl rfl rfl siz3 hg (by omega) (by rw [Nat.zero_add]) ?_
      intro w10 S10
      replace hszw := Nat.le_trans hszw S10.chg.size
      replace G7 := G7.patch (i := n + Q.1.length) (f := 2) (x := iV (n + Q.1.length + 2 + R.1.length)) (ins := .split (n + Q.1.length + 1) (n + Q.1.length + 2 + R.1.length)) hl7.symm hg S10 (by omega) (by omega) (split_row (get_mid hlj)) (fun _ _ => rfl) (fun _ _ h => by cases h)
      replace Ov7 := own_chg Ov7 S10.chg (fun q hq e => (hap7 q hq).2.2 (by have e' : q = g := e; rw [e']; rfl))
      replace Bx := S10.keep (by omega) Bx
      replace hblk := S10.keep (by omega) hblk
      replace E := S10.step E (by first | exact Or.inl (by omega) | exact Or.inr rfl | exact Or.inr (by assumption) | exact Or.inr (by simp) | exact Or.inr (by omega) | exact Or.inr (by dsimp only; omega))
      replace hg := S10.blk
      rw [set_mid hlj] at G7
      refine WpL_nil ?_
      refine inB_normal ?_
      refine thn_normal ?_
      refine Wp_region ?_
      refine WpL_val rfl rfl (by decide) (r_add (k := .i64) (a := ((i : Nat) : Int)) (b := 1) (c := ((i : Nat) : Int) + 1) rfl rfl (wI64 (by omega))) ?_
      refine WpL_val rfl rfl (by decide) (r_move (v := (.int .i64 (((i : Nat) : Int) + 1))) rfl) ?_
      refine WpL_nil ?_
      refine thn_normal ?_
      exact ⟨m - (i + 1), by omega, i + 1, F5, Value.slice (some ⟨g, 0, none⟩) (n + Q.1.length + 2 + R.1.length) vc7, la2, lc2, Fits.out ⟨rfl, rfl, rfl, rfl, rfl, rfl, trivial⟩, E, Bx, (by omega), (by rw [hst]; dsimp only; rw [← List.append_assoc, show n + Q.1.length + 1 + R.1.length + 1 = n + Q.1.length + 2 + R.1.length by omega]; exact G7), k5, (by rw [hix, List.map_append]; exact Ov7), hap7, hszw, rfl⟩
end Go.Proofs
namespace Go.Proofs
open Go Go.Eng
set_option maxRecDepth 100000
theorem below_tmod (x n : Int) (hn : 0 < n) : (if x.tmod n < 0 then x.tmod n + n else x.tmod n) = x % n := by
  have h := Int.tmod_eq_emod (a := x) (b := n)
  have h1 := Int.emod_nonneg x (Int.ne_of_gt hn)
  have h2 := Int.emod_lt_of_pos x hn
  have h3 : n.natAbs = n := by omega
  split at h <;> split <;> omega
theorem below_c (x n : Int) (hn : 0 < n) (hm : n ≤ 2000) (w0 : World) :
    Ret Try.prog 19 #[.int .i64 x, .int .i64 n] w0 fun v w => v = .int .i64 (x % n) ∧ w = w0 := by
  have hb := below_tmod x n hn
  have h1 := Int.emod_nonneg x (Int.ne_of_gt hn)
  have h2 := Int.emod_lt_of_pos x hn
  refine Ret_of Try.func19 rfl Try.ntmps19 (Nat.le_of_ble_eq_true rfl) ?_
  have E : Chg none1 w0 w0 := Chg.refl _ _
  refine Wp_seq_region ?_
  refine WpL_val rfl rfl (by decide) (r_assign (v := (.int .i64 0)) rfl) ?_
  refine WpL_nil ?_
  refine Wp_seq_region ?_
  refine WpL_val rfl rfl (by decide) (r_move (v := (.int .i64 x)) rfl) ?_
  refine WpL_val rfl rfl (by decide) (r_move (v := (.int .i64 n)) rfl) ?_
  refine WpL_val rfl rfl (by decide) (r_rem (k := .i64) (a := x) (b := n) (c := x.tmod n) rfl rfl (by omega) rfl) ?_
  refine WpL_val rfl rfl (by decide) (r_assign (v := (.int .i64 (x.tmod n))) rfl) ?_
  refine WpL_nil ?_
  refine Wp_seq ?_
  refine Wp_seq_region ?_
  refine WpL_val rfl rfl (by decide) (r_move (v := (.int .i64 (x.tmod n))) rfl) ?_
  refine WpL_val rfl rfl (by decide) (r_lss (k := .i64) (a := x.tmod n) (b := 0) rfl rfl) ?_
  refine WpL_nil ?_
  refine Wp_cond (b := decide ((x.tmod n : Int) < 0)) rfl (fun h => ?_) (fun h => ?_)
  · have kh := h
    replace h := of_decide_eq_true h
    rw [if_pos h] at hb
    refine Wp_region ?_
    refine WpL_val rfl rfl (by decide) (r_move (v := (.int .i64 (x.tmod n))) rfl) ?_
    refine WpL_val rfl rfl (by decide) (r_move (v := (.int .i64 n)) rfl) ?_
    refine WpL_val rfl rfl (by decide) (r_add (k := .i64) (a := x.tmod n) (b := n) (c := (x.tmod n) + n) rfl rfl (wI64 (by omega))) ?_
    refine WpL_val rfl rfl (by decide) (r_assign (v := (.int .i64 ((x.tmod n) + n))) rfl) ?_
    refine WpL_nil ?_
    refine thn_normal ?_
    refine Wp_seq_region ?_
    refine WpL_val rfl rfl (by decide) (r_move (v := (.int .i64 ((x.tmod n) + n))) rfl) ?_
    refine WpL_val rfl rfl (by decide) (r_assign (v := (.int .i64 ((x.tmod n) + n))) rfl) ?_
    refine WpL_nil ?_
    refine Wp_ret ?_
    refine fin_tmp Try.results19 (v := (.int .i64 ((x.tmod n) + n))) rfl ?_
    exact ⟨by rw [hb], rfl⟩
  · have kh := h
    replace h := of_decide_eq_false h
    rw [if_neg h] at hb
    refine Wp_skip ?_
    refine thn_normal ?_
    refine Wp_seq_region ?_
    refine WpL_val rfl rfl (by decide) (r_move (v := (.int .i64 (x.tmod n))) rfl) ?_
    refine WpL_val rfl rfl (by decide) (r_assign (v := (.int .i64 (x.tmod n))) rfl) ?_
    refine WpL_nil ?_
    refine Wp_ret ?_
    refine fin_tmp Try.results19 (v := (.int .i64 (x.tmod n))) rfl ?_
    exact ⟨by rw [hb], rfl⟩
end Go.Proofs
namespace Go.Proofs
open Go Go.Eng
set_option maxRecDepth 100000
def fitF (most : Int) : Int × Int → Re → Bool × (Int × Int) := fun s t =>
  let n := IntKind.i64.wrap (s.1 + 1)
  let e := if most < n then 2 else nodeE t
  (decide (e = 0), (n, e))
def fitsE (t : Re) (most : Int) : Int := (walkF (fitF most) t (0, 0)).2.2
theorem fits1_c (wb w0 : World) (t : Re) (vs : List Value) (ht : ReAt wb t vs) (hE : Ext wb w0) (b1' b2' b3' : Nat) (s : Int × Int) (most : Int) (h0 : wb.heap.size ≤ b2') (h12 : b2' < b1') (h13 : b1' < b3')
    (hB1 : Blk w0 b1' #[.int .i64 s.1] 3) (hB2 : Blk w0 b2' #[.int .i64 most] 3) (hB3 : Blk w0 b3' #[.int .i64 s.2] 34) :
    Ret Try.prog 64 #[.agg vs.toArray, .pointer (some ⟨b1', 0, none⟩), .pointer (some ⟨b2', 0, none⟩), .pointer (some ⟨b3', 0, none⟩)] w0
      fun v w => v = .bool (fitF most s t).1 ∧ Chg (fun x => x = b1' ∨ x = b3') w0 w ∧ Blk w b1' #[.int .i64 (fitF most s t).2.1] 3 ∧ Blk w b2' #[.int .i64 most] 3 ∧ Blk w b3' #[.int .i64 (fitF most s t).2.2] 34 := by
  have ht0 := ht
  obtain ⟨sa, sc, aa, ac, rfl, hset, hlen, hargs⟩ := ht.form
  refine Ret_of Try.func64 rfl Try.ntmps64 (Nat.le_of_ble_eq_true rfl) ?_
  have E : Chg (fun x => x = b1' ∨ x = b3') w0 w0 := Chg.refl _ _
  refine Wp_seq_region ?_
  refine s_box (v := (.agg #[(.int .i64 t.kind), (.slice sa t.set.length sc), (.slice aa t.args.length ac), (.int .i64 t.mn), (.int .i64 t.mx), (.bool t.neg)])) (c := #[(.int .i64 t.kind), (.slice sa t.set.length sc), (.slice aa t.args.length ac), (.int .i64 t.mn), (.int .i64 t.mx), (.bool t.neg)]) (by decide) rfl rfl ?_
  intro b1 w1 N1
  have F1 := N1.ge E
  have O1_b1' := N1.lt hB1
  have O1_b2' := N1.lt hB2
  have O1_b3' := N1.lt hB3
  replace hB1 := N1.keep hB1
  replace hB2 := N1.keep hB2
  replace hB3 := N1.keep hB3
  replace E := E.ext N1.ext
  have B1 := N1.blk
  refine WpL_val rfl rfl (by decide) (r_assign (v := (.bool false)) rfl) ?_
  refine WpL_nil ?_
  refine Wp_seq ?_
  refine Wp_seq_region ?_
  refine WpL_val rfl rfl (by decide) (r_load (v := (.int .i64 s.1)) rfl flat3 (hB1.cell rfl)) ?_
  refine WpL_val rfl rfl (by decide) (r_add (k := .i64) (a := s.1) (b := 1) (c := IntKind.i64.wrap (s.1 + 1)) rfl rfl (rfl)) ?_
  refine s_store (b := b1') (o := 0) (c' := #[(.int .i64 (IntKind.i64.wrap (s.1 + 1)))]) (v := (.int .i64 (IntKind.i64.wrap (s.1 + 1)))) rfl rfl rfl siz3 hB1 (by simp) rfl ?_
  intro w2 S2
  replace hB2 := S2.keep (by omega) hB2
  replace hB3 := S2.keep (by omega) hB3
  replace B1 := S2.keep (by omega) B1
  replace E := S2.step E (by first | exact Or.inl (by omega) | exact Or.inr rfl | exact Or.inr (by assumption) | exact Or.inr (by simp) | exact Or.inr (by omega) | exact Or.inr (by dsimp only; omega))
  replace hB1 := S2.blk
  refine WpL_nil ?_
  refine Wp_seq_region ?_
  refine WpL_val rfl rfl (by decide) (r_load (v := (.int .i64 (IntKind.i64.wrap (s.1 + 1)))) rfl flat3 (hB1.cell rfl)) ?_
  refine WpL_val rfl rfl (by decide) (r_load (v := (.int .i64 most)) rfl flat3 (hB2.cell rfl)) ?_
  refine WpL_val rfl rfl (by decide) (r_gtr (k := .i64) (a := IntKind.i64.wrap (s.1 + 1)) (b := most) rfl rfl) ?_
  refine WpL_nil ?_
  refine Wp_cond (b := decide ((most : Int) < IntKind.i64.wrap (s.1 + 1))) rfl (fun h => ?_) (fun h => ?_)
  · have kh := h
    replace h := of_decide_eq_true h
    refine Wp_region ?_
    refine s_store (b := b3') (o := 0) (c' := #[(.int .i64 2)]) (v := (.int .i64 2)) rfl rfl rfl siz34 hB3 (by simp) rfl ?_
    intro w4 S4
    replace hB1 := S4.keep (by omega) hB1
    replace hB2 := S4.keep (by omega) hB2
    replace B1 := S4.keep (by omega) B1
    replace E := S4.step E (by first | exact Or.inl (by omega) | exact Or.inr rfl | exact Or.inr (by assumption) | exact Or.inr (by simp) | exact Or.inr (by omega) | exact Or.inr (by dsimp only; omega))
    replace hB3 := S4.blk
    refine WpL_nil ?_
    refine thn_normal ?_
    refine Wp_seq_region ?_
    refine WpL_val rfl rfl (by decide) (r_load (v := (.int .i64 2)) rfl flat34 (hB3.cell rfl)) ?_
    refine WpL_val rfl rfl (by decide) (r_eql (k := .i64) (a := 2) (b := 0) rfl rfl) ?_
    refine WpL_val rfl rfl (by decide) (r_assign (v := (.bool false)) rfl) ?_
    refine WpL_nil ?_
    refine Wp_ret ?_
    refine fin_tmp Try.results64 (v := (.bool false)) rfl ?_
    exact ⟨by simp [fitF, h], E, by simpa [fitF] using hB1, hB2, by simpa [fitF, h] using hB3⟩
  · have kh := h
    replace h := of_decide_eq_false h
    refine Wp_region ?_
    refine WpL_val rfl rfl (by decide) (r_loadAgg (vs := [(.int .i64 t.kind), (.slice sa t.set.length sc), (.slice aa t.args.length ac), (.int .i64 t.mn), (.int .i64 t.mx), (.bool t.neg)]) rfl agg27 siz27 rfl (B1.cells rfl)) ?_
    refine WpL_enter rfl rfl (by decide) (r_callF (vs := [(.agg #[(.int .i64 t.kind), (.slice sa t.set.length sc), (.slice aa t.args.length ac), (.int .i64 t.mn), (.int .i64 t.mx), (.bool t.neg)])]) Try.func65 nm65 bd65 rfl) (node_c wb _ t _ ht0 (Chg.step hE E fun x hx hm => by rcases hm with hm | hm <;> omega)) ?_
    rintro _ w9 ⟨rfl, X9⟩
    replace hB1 := X9.keep hB1
    replace hB2 := X9.keep hB2
    replace hB3 := X9.keep hB3
    replace B1 := X9.keep B1
    replace E := E.ext X9
    refine s_store (b := b3') (o := 0) (c' := #[(.int .i64 (nodeE t))]) (v := (.int .i64 (nodeE t))) rfl rfl rfl siz34 hB3 (by simp) rfl ?_
    intro w5 S5
    replace hB1 := S5.keep (by omega) hB1
    replace hB2 := S5.keep (by omega) hB2
    replace B1 := S5.keep (by omega) B1
    replace E := S5.step E (by first | exact Or.inl (by omega) | exact Or.inr rfl | exact Or.inr (by assumption) | exact Or.inr (by simp) | exact Or.inr (by omega) | exact Or.inr (by dsimp only; omega))
    replace hB3 := S5.blk
    refine WpL_nil ?_
    refine thn_normal ?_
    refine Wp_seq_region ?_
    refine WpL_val rfl rfl (by decide) (r_load (v := (.int .i64 (nodeE t))) rfl flat34 (hB3.cell rfl)) ?_
    refine WpL_val rfl rfl (by decide) (r_eql (k := .i64) (a := nodeE t) (b := 0) rfl rfl) ?_
    refine WpL_val rfl rfl (by decide) (r_assign (v := (.bool (decide ((nodeE t : Int) = 0)))) rfl) ?_
    refine WpL_nil ?_
    refine Wp_ret ?_
    refine fin_tmp Try.results64 (v := (.bool (decide ((nodeE t : Int) = 0)))) rfl ?_
    exact ⟨by simp [fitF, h], E, by simpa [fitF] using hB1, hB2, by simpa [fitF, h] using hB3⟩
theorem fits_c (w0 : World) (t : Re) (vs : List Value) (ht : ReAt w0 t vs) (most : Int) :
    Ret Try.prog 45 #[.agg vs.toArray, .int .i64 most] w0 fun v w => v = .int .i64 (fitsE t most) ∧ Ext w0 w := by
  have ht0 := ht
  obtain ⟨sa, sc, aa, ac, rfl, hset, hlen, hargs⟩ := ht.form
  refine Ret_of Try.func45 rfl Try.ntmps45 (Nat.le_of_ble_eq_true rfl) ?_
  have E : Chg none1 w0 w0 := Chg.refl _ _
  refine Wp_seq_region ?_
  refine s_box (v := (.agg #[(.int .i64 t.kind), (.slice sa t.set.length sc), (.slice aa t.args.length ac), (.int .i64 t.mn), (.int .i64 t.mx), (.bool t.neg)])) (c := #[(.int .i64 t.kind), (.slice sa t.set.length sc), (.slice aa t.args.length ac), (.int .i64 t.mn), (.int .i64 t.mx), (.bool t.neg)]) (by decide) rfl rfl ?_
  intro b1 w1 N1
  have F1 := N1.ge E
  replace E := E.ext N1.ext
  have B1 := N1.blk
  refine s_box (v := (.int .i64 most)) (c := #[(.int .i64 most)]) (by decide) rfl rfl ?_
  intro b2 w2 N2
  have F2 := N2.ge E
  have O2_b1 := N2.lt B1
  replace B1 := N2.keep B1
  replace E := E.ext N2.ext
  have B2 := N2.blk
  refine WpL_val rfl rfl (by decide) (r_assign (v := (.int .i64 0)) rfl) ?_
  refine WpL_nil ?_
  refine Wp_seq_region ?_
  refine s_alloc (c := #[(.int .i64 0)]) (by decide) zer3 rfl ?_
  intro b3 w3 N3
  have F3 := N3.ge E
  have O3_b1 := N3.lt B1
  have O3_b2 := N3.lt B2
  replace B1 := N3.keep B1
  replace B2 := N3.keep B2
  replace E := E.ext N3.ext
  have B3 := N3.blk
  refine s_alloc (c := #[(.int .i64 0)]) (by decide) zer34 rfl ?_
  intro b4 w4 N4
  have F4 := N4.ge E
  have O4_b1 := N4.lt B1
  have O4_b2 := N4.lt B2
  have O4_b3 := N4.lt B3
  replace B1 := N4.keep B1
  replace B2 := N4.keep B2
  replace B3 := N4.keep B3
  replace E := E.ext N4.ext
  have B4 := N4.blk
  refine s_store (b := b3) (o := 0) (c' := #[(.int .i64 0)]) (v := (.int .i64 0)) rfl rfl rfl siz3 B3 (by simp) rfl ?_
  intro w5 S5
  replace B1 := S5.keep (by omega) B1
  replace B2 := S5.keep (by omega) B2
  replace B4 := S5.keep (by omega) B4
  replace E := S5.step E (by first | exact Or.inl (by omega) | exact Or.inr rfl | exact Or.inr (by assumption) | exact Or.inr (by simp) | exact Or.inr (by omega) | exact Or.inr (by dsimp only; omega))
  replace B3 := S5.blk
  refine s_store (b := b4) (o := 0) (c' := #[(.int .i64 0)]) (v := (.int .i64 0)) rfl rfl rfl siz34 B4 (by simp) rfl ?_
  intro w6 S6
  replace B1 := S6.keep (by omega) B1
  replace B2 := S6.keep (by omega) B2
  replace B3 := S6.keep (by omega) B3
  replace E := S6.step E (by first | exact Or.inl (by omega) | exact Or.inr rfl | exact Or.inr (by assumption) | exact Or.inr (by simp) | exact Or.inr (by omega) | exact Or.inr (by dsimp only; omega))
  replace B4 := S6.blk
  refine WpL_nil ?_
  refine Wp_seq_region ?_
  refine WpL_val rfl rfl (by decide) (r_loadAgg (vs := [(.int .i64 t.kind), (.slice sa t.set.length sc), (.slice aa t.args.length ac), (.int .i64 t.mn), (.int .i64 t.mx), (.bool t.neg)]) rfl agg27 siz27 rfl (B1.cells rfl)) ?_
  refine WpL_val rfl rfl (by decide) (r_makeFunc (vs := []) (us := [(.pointer (some ⟨b3, 0, none⟩)), (.pointer (some ⟨b2, 0, none⟩)), (.pointer (some ⟨b4, 0, none⟩))]) rfl rfl) ?_
  have hf : ∀ (s : Int × Int) (w : World) (t : Re) (vs : List Value), b4 + 1 ≤ w.heap.size → Ext w0 w → (Blk w b3 #[.int .i64 s.1] 3 ∧ Blk w b2 #[.int .i64 most] 3 ∧ Blk w b4 #[.int .i64 s.2] 34) → ReAt w0 t vs → CallV Try.prog (.func (.func 64) #[] #[.pointer (some ⟨b3, 0, none⟩), .pointer (some ⟨b2, 0, none⟩), .pointer (some ⟨b4, 0, none⟩)]) #[.agg vs.toArray] w fun v w' => v = .bool (fitF most s t).1 ∧ Chg (fun x => x = b3 ∨ x = b4) w w' ∧ (Blk w' b3 #[.int .i64 (fitF most s t).2.1] 3 ∧ Blk w' b2 #[.int .i64 most] 3 ∧ Blk w' b4 #[.int .i64 (fitF most s t).2.2] 34) := fun s w t vs _ hE hI ht => CallV.mk (first := #[]) (cap := #[.pointer (some ⟨b3, 0, none⟩), .pointer (some ⟨b2, 0, none⟩), .pointer (some ⟨b4, 0, none⟩)]) (args := #[.agg vs.toArray]) Try.func64 nm64 bd64 rfl (fits1_c w0 w t vs ht hE b3 b2 b4 s most (by omega) (by omega) (by omega) hI.1 hI.2.1 hI.2.2)
  refine WpL_enter rfl rfl (by decide) (r_callF (vs := [(.agg #[(.int .i64 t.kind), (.slice sa t.set.length sc), (.slice aa t.args.length ac), (.int .i64 t.mn), (.int .i64 t.mx), (.bool t.neg)]), (.func (.func 64) #[] #[(.pointer (some ⟨b3, 0, none⟩)), (.pointer (some ⟨b2, 0, none⟩)), (.pointer (some ⟨b4, 0, none⟩))])]) Try.func46 nm46 bd46 rfl) (walk_c (fitF most) (fun s w => Blk w b3 #[.int .i64 s.1] 3 ∧ Blk w b2 #[.int .i64 most] 3 ∧ Blk w b4 #[.int .i64 s.2] 34) (fun x => x = b3 ∨ x = b4) (b4 + 1) _ w0 (fun b hb => by omega) (fun s w w' hI e => ⟨e.keep hI.1, e.keep hI.2.1, e.keep hI.2.2⟩) hf t.size t (Nat.le_refl _) (0, 0) _ _ (by have := B4.lt; omega) E ⟨B3, B2, B4⟩ ht0) ?_
  rintro _ w9 ⟨rfl, C9, B3', B2', B4'⟩
  replace B1 := C9.keep (by omega) B1
  replace E := E.step C9 (by intro x hx hm; omega)
  refine WpL_nil ?_
  refine Wp_seq_region ?_
  refine WpL_val rfl rfl (by decide) (r_load (v := (.int .i64 ((walkF (fitF most) t (0, 0)).2.2))) rfl flat34 (B4'.cell rfl)) ?_
  refine WpL_val rfl rfl (by decide) (r_assign (v := (.int .i64 ((walkF (fitF most) t (0, 0)).2.2))) rfl) ?_
  refine WpL_nil ?_
  refine Wp_ret ?_
  refine fin_tmp Try.results45 (v := (.int .i64 ((walkF (fitF most) t (0, 0)).2.2))) rfl ?_
  exact ⟨rfl, E⟩
theorem check_c (w0 : World) (t : Re) (vs : List Value) (ht : ReAt w0 t vs) :
    Ret Try.prog 29 #[.agg vs.toArray] w0 fun v w => v = .int .i64 (fitsE t 40) ∧ Ext w0 w := by
  have ht0 := ht
  obtain ⟨sa, sc, aa, ac, rfl, hset, hlen, hargs⟩ := ht.form
  refine Ret_of Try.func29 rfl Try.ntmps29 (Nat.le_of_ble_eq_true rfl) ?_
  have E : Chg none1 w0 w0 := Chg.refl _ _
  refine Wp_seq_region ?_
  refine s_box (v := (.agg #[(.int .i64 t.kind), (.slice sa t.set.length sc), (.slice aa t.args.length ac), (.int .i64 t.mn), (.int .i64 t.mx), (.bool t.neg)])) (c := #[(.int .i64 t.kind), (.slice sa t.set.length sc), (.slice aa t.args.length ac), (.int .i64 t.mn), (.int .i64 t.mx), (.bool t.neg)]) (by decide) rfl rfl ?_
  intro b1 w1 N1
  have F1 := N1.ge E
  replace E := E.ext N1.ext
  have B1 := N1.blk
  refine WpL_val rfl rfl (by decide) (r_assign (v := (.int .i64 0)) rfl) ?_
  refine WpL_nil ?_
  refine Wp_seq_region ?_
  refine WpL_val rfl rfl (by decide) (r_loadAgg (vs := [(.int .i64 t.kind), (.slice sa t.set.length sc), (.slice aa t.args.length ac), (.int .i64 t.mn), (.int .i64 t.mx), (.bool t.neg)]) rfl agg27 siz27 rfl (B1.cells rfl)) ?_
  refine WpL_enter rfl rfl (by decide) (r_callF (vs := [(.agg #[(.int .i64 t.kind), (.slice sa t.set.length sc), (.slice aa t.args.length ac), (.int .i64 t.mn), (.int .i64 t.mx), (.bool t.neg)]), (.int .i64 40)]) Try.func45 nm45 bd45 rfl) (fits_c _ t _ (ReAt.ext E t ht0) 40) ?_
  rintro _ w9 ⟨rfl, X9⟩
  replace B1 := X9.keep B1
  replace E := E.ext X9
  refine WpL_val rfl rfl (by decide) (r_assign (v := (.int .i64 (fitsE t 40))) rfl) ?_
  refine WpL_nil ?_
  refine Wp_ret ?_
  refine fin_tmp Try.results29 (v := (.int .i64 (fitsE t 40))) rfl ?_
  exact ⟨rfl, E⟩
end Go.Proofs
namespace Go.Proofs
open Go Go.Eng
set_option maxRecDepth 100000
mutual
def okRe : Re → Prop
  | .mk k set args mn mx ng => nodeE (.mk k set args mn mx ng) = 0 ∧ okRes args
def okRes : List Re → Prop
  | [] => True
  | t :: ts => okRe t ∧ okRes ts
end
theorem okRes_get {ts : List Re} (h : okRes ts) {i : Nat} {x : Re} (hx : ts[i]? = some x) : okRe x := by
  induction ts generalizing i with
  | nil => simp at hx
  | cons t ts ih =>
    simp only [okRes] at h
    cases i with
    | zero => simp at hx; subst hx; exact h.1
    | succ i => exact ih h.2 (by simpa using hx)
theorem okRe_node {t : Re} (h : okRe t) : nodeE t = 0 := by cases t; simp only [okRe] at h; exact h.1
theorem okRe_args {t : Re} (h : okRe t) : okRes t.args := by cases t; simp only [okRe] at h; exact h.2
end Go.Proofs
namespace Go.Proofs
open Go Go.Eng
set_option maxRecDepth 100000
theorem fitF_eq {most : Int} {n e : Int} (t : Re) (h0 : 0 ≤ n) (h1 : n ≤ 1000000) : fitF most (n, e) t = (decide ((if most < n + 1 then 2 else nodeE t) = 0), (n + 1, if most < n + 1 then 2 else nodeE t)) := by
  simp only [fitF]; rw [wI64 (by omega)]
mutual
theorem fits_yes {most : Int} (hm : most ≤ 1000000) : ∀ (t : Re) (n e : Int), 0 ≤ n → n + t.size ≤ most → okRe t → walkF (fitF most) t (n, e) = (true, (n + t.size, 0))
  | .mk k set args mn mx ng, n, e, h0, h1, hok => by
    simp only [Re.size] at h1 ⊢
    rw [walkF_eq, fitF_eq _ h0 (by omega)]
    have hn := okRe_node hok
    have hlt : ¬ most < n + 1 := by omega
    simp only [if_neg hlt, hn, decide_true, if_true, Re.args]
    have ha := okRe_args hok
    simp only [Re.args] at ha
    rw [fits_yess hm args (n + 1) 0 (by omega) (by omega) ha rfl]
    simp; omega
theorem fits_yess {most : Int} (hm : most ≤ 1000000) : ∀ (ts : List Re) (n e : Int), 0 ≤ n → n + Re.sizes ts ≤ most → okRes ts → e = 0 → walkFs (fitF most) ts (n, e) = (true, (n + Re.sizes ts, 0))
  | [], n, e, _, _, _, he => by simp [walkFs, Re.sizes, he]
  | t :: ts, n, e, h0, h1, hok, he => by
    simp only [Re.sizes] at h1 ⊢
    simp only [okRes] at hok
    rw [walkFs_cons, fits_yes hm t n e h0 (by omega) hok.1]
    simp only [if_true]
    rw [fits_yess hm ts _ _ (by omega) (by omega) hok.2 rfl]
    simp; omega
end
mutual
theorem fits_no {most : Int} (hm : most ≤ 1000000) : ∀ (t : Re) (n e : Int), 0 ≤ n → n ≤ most → (walkF (fitF most) t (n, e)).1 = true → okRe t ∧ n + t.size ≤ most ∧ (walkF (fitF most) t (n, e)).2 = (n + t.size, 0)
  | .mk k set args mn mx ng, n, e, h0, h1, h => by
    rw [walkF_eq, fitF_eq _ h0 (by omega)] at h ⊢
    by_cases hc : (if most < n + 1 then 2 else nodeE (.mk k set args mn mx ng)) = 0
    · have hlt : ¬ most < n + 1 := by intro h'; rw [if_pos h'] at hc; omega
      rw [if_neg hlt] at hc
      simp only [if_neg hlt, hc, decide_true, if_true, Re.args] at h ⊢
      obtain ⟨a, b, c⟩ := fits_nos hm args (n + 1) 0 (by omega) (by omega) h rfl
      refine ⟨by simp only [okRe]; exact ⟨hc, a⟩, by simp only [Re.size]; omega, by rw [c]; simp only [Re.size]; simp; omega⟩
    · simp [hc] at h
theorem fits_nos {most : Int} (hm : most ≤ 1000000) : ∀ (ts : List Re) (n e : Int), 0 ≤ n → n ≤ most → (walkFs (fitF most) ts (n, e)).1 = true → e = 0 → okRes ts ∧ n + Re.sizes ts ≤ most ∧ (walkFs (fitF most) ts (n, e)).2 = (n + Re.sizes ts, 0)
  | [], n, e, _, h1, _, he => by simp [walkFs, Re.sizes, okRes, he]; omega
  | t :: ts, n, e, h0, h1, h, he => by
    rw [walkFs_cons] at h ⊢
    by_cases hc : (walkF (fitF most) t (n, e)).1 = true
    · rw [if_pos hc] at h ⊢
      obtain ⟨a, b, c⟩ := fits_no hm t n e h0 h1 hc
      rw [c] at h ⊢
      obtain ⟨a', b', c'⟩ := fits_nos hm ts _ _ (by omega) b h rfl
      exact ⟨by simp only [okRes]; exact ⟨a, a'⟩, by simp only [Re.sizes]; omega, by rw [c']; simp only [Re.sizes]; simp; omega⟩
    · rw [if_neg hc] at h; simp at h
end
mutual
theorem fits_last {most : Int} : ∀ (t : Re) (s : Int × Int), (walkF (fitF most) t s).1 = decide ((walkF (fitF most) t s).2.2 = 0)
  | .mk k set args mn mx ng, s => by
    rw [walkF_eq]
    by_cases hc : (fitF most s (.mk k set args mn mx ng)).1 = true
    · rw [if_pos hc]
      exact fits_lasts args _ (by simpa [fitF] using hc)
    · rw [if_neg hc]
      have h2 : (fitF most s (.mk k set args mn mx ng)).1 = false := by simpa using hc
      simp only [fitF] at h2 ⊢
      exact h2.symm
theorem fits_lasts {most : Int} : ∀ (ts : List Re) (s : Int × Int), s.2 = 0 → (walkFs (fitF most) ts s).1 = decide ((walkFs (fitF most) ts s).2.2 = 0)
  | [], s, h => by simp [walkFs, h]
  | t :: ts, s, h => by
    rw [walkFs_cons]
    have := fits_last (most := most) t s
    by_cases hc : (walkF (fitF most) t s).1 = true
    · rw [if_pos hc]
      rw [hc] at this
      exact fits_lasts ts _ (by simpa using this.symm)
    · rw [if_neg hc]
      have h2 : (walkF (fitF most) t s).1 = false := by simpa using hc
      rw [h2] at this
      exact this
end
theorem fitsE_zero {t : Re} {most : Int} (h0 : 0 ≤ most) (hm : most ≤ 1000000) : fitsE t most = 0 ↔ okRe t ∧ (t.size : Int) ≤ most := by
  unfold fitsE
  constructor
  · intro h
    have h1 := fits_last (most := most) t (0, 0)
    rw [h] at h1
    obtain ⟨a, b, _⟩ := fits_no hm t 0 0 (Int.le_refl 0) h0 (by simpa using h1)
    exact ⟨a, by omega⟩
  · rintro ⟨a, b⟩
    rw [fits_yes hm t 0 0 (Int.le_refl 0) (by omega) a]
def pairV (p : Nat × Nat) : List Value := [.int .i64 (p.1 : Int), .int .i64 (p.2 : Int)]
def PairsAt (w : World) (v : Value) (l : List (Nat × Nat)) : Prop := SlAt w 2 v (l.map pairV)
end Go.Proofs
namespace Go.Proofs
open Go Go.Eng
set_option maxRecDepth 100000
theorem equalIn_pair {P : Program} {w : World} {t e : TypeId} (d : Nat) (a b c f : Int) (ht : P.underlying t = some (.array 2 e)) (he : P.underlying e = some (.int .i64)) (hs : Siz P e 1) (hf : flatB P e = true) :
    (Op.equalIn (d + 2) t (.agg #[.int .i64 a, .int .i64 b]) (.agg #[.int .i64 c, .int .i64 f])).run P w = .ok (decide (a = c) && decide (b = f)) w := by
  have h1 : ∀ x y : Int, (Op.equalIn (d + 1) e (.int .i64 x) (.int .i64 y)).run P w = .ok (x == y) w := fun x y => run_equalIn_int w d e .i64 .i64 x y he
  have p0 : ∀ x y : Int, (part e #[.int .i64 x, .int .i64 y] 0).run P w = .ok (.int .i64 x) w := fun x y => part_int hf rfl
  have p1 : ∀ x y : Int, (part e #[.int .i64 x, .int .i64 y] 1).run P w = .ok (.int .i64 y) w := fun x y => part_int hf rfl
  rw [Op.equalIn]
  simp only [Sem.run_bind, run_underlying ht, Result.andThen_ok, hs.run]
  by_cases hac : a = c
  · by_cases hbf : b = f
    · simp [Std.Legacy.Range.forIn_eq_forIn_range', List.range', p0, p1, h1, hac, hbf]
    · simp [Std.Legacy.Range.forIn_eq_forIn_range', List.range', p0, p1, h1, hac, hbf]
  · simp [Std.Legacy.Range.forIn_eq_forIn_range', List.range', p0, h1, hac]
theorem r_eqlPair {P : Program} {σ : Env} {w : World} {dst : Option Tmp} {ty : TypeId} {pos : String} {af : Array Edge} {g : Option (Nat × Bool)} {t t' e : TypeId} {x y : Operand} {a b c f : Int}
    (ht : P.underlying t = some (.array 2 e)) (he : P.underlying e = some (.int .i64)) (hs : Siz P e 1) (hf : flatB P e = true) (hm : P.eqGuardType P.depth t = false)
    (hx : ev σ x = .agg #[.int .i64 a, .int .i64 b]) (hy : ev σ y = .agg #[.int .i64 c, .int .i64 f]) :
    (execOp (ev σ) ⟨dst, .binOp .eql t x y t', ty, pos, af, g⟩).run P w = .ok (.value (.bool (decide (a = c) && decide (b = f)))) w := by
  have h := equalIn_pair (P := P) (w := w) 9998 a b c f ht he hs hf
  simp only [execOp, hx, hy, Sem.run_bind, run_eqGuard_agg w .eql t x y _ _ hm, Result.andThen_ok, run_eql_struct, h]
  rfl
theorem PairsAt.ext {w w' : World} {v : Value} {l : List (Nat × Nat)} (h : PairsAt w v l) (e : Ext w w') : PairsAt w' v l := SlAt.ext h e
theorem eqgPair : Try.prog.eqGuardType Try.prog.depth 30 = false := by kernel_rfl
end Go.Proofs
namespace Go.Eng
open Go
def SlIn (S : Nat → Prop) (w : World) (k : Nat) (v : Value) (rows : List (List Value)) : Prop :=
  ∃ a cap, v = .slice a rows.length cap ∧ rows.length ≤ 9223372036854775807 ∧ rows.length ≤ cap ∧ (rows = [] ∨ ∃ b o, S b ∧ a = some ⟨b, o, none⟩ ∧ ∀ i r, rows[i]? = some r → CellsAt w b (o + i * k) r)
theorem SlIn.at {S : Nat → Prop} {w : World} {k : Nat} {v : Value} {rows : List (List Value)} (h : SlIn S w k v rows) : SlAt w k v rows := by
  obtain ⟨a, cap, h1, h2, h3, h4⟩ := h
  refine ⟨a, cap, h1, h2, h3, ?_⟩
  rcases h4 with h | ⟨b, o, _, h5, h6⟩
  · exact .inl h
  · exact .inr ⟨b, o, h5, h6⟩
theorem SlIn.of {w : World} {k : Nat} {v : Value} {rows : List (List Value)} (h : SlAt w k v rows) : SlIn (fun _ => True) w k v rows := by
  obtain ⟨a, cap, h1, h2, h3, h4⟩ := h
  refine ⟨a, cap, h1, h2, h3, ?_⟩
  rcases h4 with h | ⟨b, o, h5, h6⟩
  · exact .inl h
  · exact .inr ⟨b, o, trivial, h5, h6⟩
theorem SlIn.chg {S M : Nat → Prop} {w w' : World} {k : Nat} {v : Value} {rows : List (List Value)} (h : SlIn S w k v rows) (c : Chg M w w') (hm : ∀ b, S b → ¬ M b) : SlIn S w' k v rows := by
  obtain ⟨a, cap, h1, h2, h3, h4⟩ := h
  refine ⟨a, cap, h1, h2, h3, ?_⟩
  rcases h4 with h | ⟨b, o, hb, h5, h6⟩
  · exact .inl h
  · exact .inr ⟨b, o, hb, h5, fun i r hr => (h6 i r hr).chg c (hm b hb)⟩
theorem SlIn.mono {S S' : Nat → Prop} {w : World} {k : Nat} {v : Value} {rows : List (List Value)} (h : SlIn S w k v rows) (hs : ∀ b, S b → S' b) : SlIn S' w k v rows := by
  obtain ⟨a, cap, h1, h2, h3, h4⟩ := h
  refine ⟨a, cap, h1, h2, h3, ?_⟩
  rcases h4 with h | ⟨b, o, hb, h5⟩
  · exact .inl h
  · exact .inr ⟨b, o, hs b hb, h5⟩
theorem SlIn.nil (S : Nat → Prop) (w : World) (k : Nat) (a : Option Addr) (cap : Nat) : SlIn S w k (.slice a 0 cap) [] := ⟨a, cap, rfl, by simp, by simp, .inl rfl⟩
theorem SlIn.mk {S : Nat → Prop} {w : World} {k : Nat} {b o n c : Nat} {rows : List (List Value)} (h : SlAt w k (.slice (some ⟨b, o, none⟩) n c) rows) (hs : S b) : SlIn S w k (.slice (some ⟨b, o, none⟩) n c) rows := by
  obtain ⟨a, cap, h1, h2, h3, h4⟩ := h
  refine ⟨a, cap, h1, h2, h3, ?_⟩
  rcases h4 with h | ⟨b', o', h5, h6⟩
  · exact .inl h
  · simp only [Value.slice.injEq] at h1
    have : b' = b := by rw [← h1.1] at h5; simp at h5; exact h5.1.symm
    exact .inr ⟨b', o', this ▸ hs, h5, h6⟩
mutual
def ReIn (S : Nat → Prop) (w : World) : Re → List Value → Prop
  | .mk k set args mn mx ng, vs => ∃ sa sc aa ac, vs = [.int .i64 k, .slice sa set.length sc, .slice aa args.length ac, .int .i64 mn, .int .i64 mx, .bool ng] ∧ SlIn S w 2 (.slice sa set.length sc) (set.map spanV) ∧ (args.length ≤ ac ∧ ac ≤ 9223372036854775807) ∧
      (args = [] ∨ ∃ b o, S b ∧ aa = some ⟨b, o, none⟩ ∧ ResIn S w b o args)
def ResIn (S : Nat → Prop) (w : World) (b : Nat) : Nat → List Re → Prop
  | _, [] => True
  | o, t :: ts => (∃ vs, CellsAt w b o vs ∧ ReIn S w t vs) ∧ ResIn S w b (o + 6) ts
end
mutual
theorem ReIn.at {S : Nat → Prop} {w : World} : ∀ (t : Re) {vs : List Value}, ReIn S w t vs → ReAt w t vs
  | .mk k set args mn mx ng, vs, h => by
    simp only [ReIn] at h
    simp only [ReAt]
    obtain ⟨sa, sc, aa, ac, hv, hs, hl, ha⟩ := h
    refine ⟨sa, sc, aa, ac, hv, hs.at, hl, ?_⟩
    rcases ha with h | ⟨b, o, _, h1, h2⟩
    · exact .inl h
    · exact .inr ⟨b, o, h1, ResIn.at args h2⟩
theorem ResIn.at {S : Nat → Prop} {w : World} {b : Nat} : ∀ (ts : List Re) {o : Nat}, ResIn S w b o ts → ResAt w b o ts
  | [], _, _ => by simp only [ResAt]
  | t :: ts, o, h => by
    simp only [ResIn] at h
    simp only [ResAt]
    obtain ⟨⟨vs, h1, h2⟩, h3⟩ := h
    exact ⟨⟨vs, h1, ReIn.at t h2⟩, ResIn.at ts h3⟩
end
mutual
theorem ReIn.chg {S M : Nat → Prop} {w w' : World} (c : Chg M w w') (hm : ∀ b, S b → ¬ M b) : ∀ (t : Re) {vs : List Value}, ReIn S w t vs → ReIn S w' t vs
  | .mk k set args mn mx ng, vs, h => by
    simp only [ReIn] at h ⊢
    obtain ⟨sa, sc, aa, ac, hv, hs, hl, ha⟩ := h
    refine ⟨sa, sc, aa, ac, hv, hs.chg c hm, hl, ?_⟩
    rcases ha with h | ⟨b, o, hb, h1, h2⟩
    · exact .inl h
    · exact .inr ⟨b, o, hb, h1, ResIn.chg c hm args hb h2⟩
theorem ResIn.chg {S M : Nat → Prop} {w w' : World} (c : Chg M w w') (hm : ∀ b, S b → ¬ M b) {b : Nat} : ∀ (ts : List Re) {o : Nat}, S b → ResIn S w b o ts → ResIn S w' b o ts
  | [], _, _, _ => by simp only [ResIn]
  | t :: ts, o, hb, h => by
    simp only [ResIn] at h ⊢
    obtain ⟨⟨vs, h1, h2⟩, h3⟩ := h
    exact ⟨⟨vs, h1.chg c (hm b hb), ReIn.chg c hm t h2⟩, ResIn.chg c hm ts hb h3⟩
end
mutual
theorem ReIn.mono {S S' : Nat → Prop} {w : World} (hs : ∀ b, S b → S' b) : ∀ (t : Re) {vs : List Value}, ReIn S w t vs → ReIn S' w t vs
  | .mk k set args mn mx ng, vs, h => by
    simp only [ReIn] at h ⊢
    obtain ⟨sa, sc, aa, ac, hv, h0, hl, ha⟩ := h
    refine ⟨sa, sc, aa, ac, hv, h0.mono hs, hl, ?_⟩
    rcases ha with h | ⟨b, o, hb, h1, h2⟩
    · exact .inl h
    · exact .inr ⟨b, o, hs b hb, h1, ResIn.mono hs args h2⟩
theorem ResIn.mono {S S' : Nat → Prop} {w : World} (hs : ∀ b, S b → S' b) {b : Nat} : ∀ (ts : List Re) {o : Nat}, ResIn S w b o ts → ResIn S' w b o ts
  | [], _, _ => by simp only [ResIn]
  | t :: ts, o, h => by
    simp only [ResIn] at h ⊢
    obtain ⟨⟨vs, h1, h2⟩, h3⟩ := h
    exact ⟨⟨vs, h1, ReIn.mono hs t h2⟩, ResIn.mono hs ts h3⟩
end
theorem ReIn.ext {S : Nat → Prop} {w w' : World} (e : Ext w w') (t : Re) {vs : List Value} (h : ReIn S w t vs) : ReIn S w' t vs := ReIn.chg e (fun _ _ f => f) t h
theorem ReIn.form {S : Nat → Prop} {w : World} {t : Re} {vs : List Value} (h : ReIn S w t vs) : ∃ sa sc aa ac, vs = [.int .i64 t.kind, .slice sa t.set.length sc, .slice aa t.args.length ac, .int .i64 t.mn, .int .i64 t.mx, .bool t.neg] ∧ SlIn S w 2 (.slice sa t.set.length sc) (t.set.map spanV) ∧ (t.args.length ≤ ac ∧ ac ≤ 9223372036854775807) ∧
    (t.args = [] ∨ ∃ b o, S b ∧ aa = some ⟨b, o, none⟩ ∧ ResIn S w b o t.args) := by
  cases t; simp only [ReIn] at h; exact h
theorem ReIn.of {S : Nat → Prop} {w : World} {k : Int} {set : List (Int × Int)} {args : List Re} {mn mx : Int} {ng : Bool} {sa aa : Option Addr} {sc ac : Nat} (hs : SlIn S w 2 (.slice sa set.length sc) (set.map spanV)) (hl : (args.length ≤ ac ∧ ac ≤ 9223372036854775807)) (ha : args = [] ∨ ∃ b o, S b ∧ aa = some ⟨b, o, none⟩ ∧ ResIn S w b o args) :
    ReIn S w (.mk k set args mn mx ng) [.int .i64 k, .slice sa set.length sc, .slice aa args.length ac, .int .i64 mn, .int .i64 mx, .bool ng] := by
  simp only [ReIn]; exact ⟨sa, sc, aa, ac, rfl, hs, hl, ha⟩
theorem ResIn.one {S : Nat → Prop} {w : World} {b o : Nat} {t : Re} {vs : List Value} (hc : CellsAt w b o vs) (h : ReIn S w t vs) : ResIn S w b o [t] := by
  simp only [ResIn]; exact ⟨⟨vs, hc, h⟩, trivial⟩
theorem ResIn.two {S : Nat → Prop} {w : World} {b o : Nat} {t u : Re} {vs us : List Value} (hc : CellsAt w b o vs) (h : ReIn S w t vs) (hc' : CellsAt w b (o + 6) us) (h' : ReIn S w u us) : ResIn S w b o [t, u] := by
  simp only [ResIn]; exact ⟨⟨vs, hc, h⟩, ⟨us, hc', h'⟩, trivial⟩
theorem ResIn.get {S : Nat → Prop} {w : World} {b : Nat} : ∀ {ts : List Re} {o i : Nat} {t : Re}, ResIn S w b o ts → ts[i]? = some t → ∃ vs, CellsAt w b (o + i * 6) vs ∧ ReIn S w t vs
  | [], _, _, _, _, h => by simp at h
  | x :: ts, o, 0, t, h, hi => by
    simp only [ResIn] at h
    simp at hi
    subst hi
    simpa using h.1
  | x :: ts, o, i + 1, t, h, hi => by
    simp only [ResIn] at h
    have := ResIn.get h.2 (i := i) (by simpa using hi)
    rwa [show o + (i + 1) * 6 = o + 6 + i * 6 from by omega]
theorem ReIn.len {S : Nat → Prop} {w : World} {t : Re} {vs : List Value} (h : ReIn S w t vs) : vs.length = 6 := (ReIn.at t h).len
end Go.Eng
namespace Go.Proofs
open Go Go.Eng
set_option maxRecDepth 100000
abbrev TS : Nat := 51
def StrAt (wb w : World) (bs : Nat) (l : List Int) : Prop := ∃ a c, Blk w bs #[.slice a l.length c] TS ∧ IntsAt wb (.slice a l.length c) l
theorem StrAt.ext {wb w w' : World} {bs : Nat} {l : List Int} (h : StrAt wb w bs l) (e : Ext w w') : StrAt wb w' bs l := let ⟨a, c, h1, h2⟩ := h; ⟨a, c, e.keep h1, h2⟩
theorem StrAt.lt {wb w : World} {bs : Nat} {l : List Int} (h : StrAt wb w bs l) : bs < w.heap.size := let ⟨_, _, h1, _⟩ := h; h1.lt
theorem next_c (wb w0 : World) (bs : Nat) (l : List Int) (n : Int) (hn : 0 < n) (hm : n ≤ 2000) (hE : Ext wb w0) (hb : wb.heap.size ≤ bs) (hS : StrAt wb w0 bs l) :
    Ret Try.prog 37 #[.pointer (some ⟨bs, 0, none⟩), .int .i64 n] w0 fun v w => ∃ x l', v = .int .i64 x ∧ 0 ≤ x ∧ x < n ∧ StrAt wb w bs l' ∧ Chg (fun x => x = bs) w0 w := by
  obtain ⟨a, c, hB, hl⟩ := hS
  have hcap := SlAt.cap hl
  have hlen : l.length ≤ 9223372036854775807 := by simpa using SlAt.le hl
  refine Ret_of Try.func37 rfl Try.ntmps37 (Nat.le_of_ble_eq_true rfl) ?_
  have E : Chg (fun x => x = bs) w0 w0 := Chg.refl _ _
  refine Wp_seq_region ?_
  refine WpL_val rfl rfl (by decide) (r_assign (v := (.int .i64 0)) rfl) ?_
  refine WpL_nil ?_
  refine Wp_seq ?_
  refine Wp_seq_region ?_
  refine WpL_val rfl rfl (by decide) (r_move (v := (.pointer (some ⟨bs, 0, none⟩))) rfl) ?_
  refine WpL_val rfl rfl (by decide) (r_nilCheck (a := ⟨bs, 0, none⟩) rfl) ?_
  refine WpL_val rfl rfl (by decide) (r_fieldAddr (b := bs) (o := 0) (o' := 0) rfl Try.underlying51 rfl siz22 rfl) ?_
  refine WpL_val rfl rfl (by decide) (r_load (v := (.slice a l.length c)) rfl flat22 (hB.cell rfl)) ?_
  refine WpL_val rfl rfl (by decide) (r_lenSlice (ad := a) (n := l.length) (cap := c) Try.underlying22 rfl) ?_
  refine WpL_val rfl rfl (by decide) (r_eql (k := .i64) (a := ((l.length : Nat) : Int)) (b := 0) rfl rfl) ?_
  refine WpL_nil ?_
  refine Wp_cond (b := decide ((((l.length : Nat) : Int) : Int) = 0)) rfl (fun h0 => ?_) (fun h0 => ?_)
  · have kh0 := h0
    replace h0 := of_decide_eq_true h0
    refine Wp_seq_region ?_
    refine WpL_val rfl rfl (by decide) (r_assign (v := (.int .i64 0)) rfl) ?_
    refine WpL_nil ?_
    refine Wp_ret ?_
    refine thn_ret ?_
    refine fin_tmp Try.results37 (v := (.int .i64 0)) rfl ?_
    exact ⟨0, l, rfl, Int.le_refl _, hn, ⟨a, c, hB, hl⟩, E⟩
  · have kh0 := h0
    replace h0 := of_decide_eq_false h0
    obtain ⟨x, hx⟩ := get_of_lt (l := l) (i := 0) (by omega)
    obtain ⟨b, o, rfl, hcl⟩ := ints_cells hl (by omega)
    refine Wp_skip ?_
    refine thn_normal ?_
    refine Wp_seq_region ?_
    refine WpL_val rfl rfl (by decide) (r_move (v := (.pointer (some ⟨bs, 0, none⟩))) rfl) ?_
    refine WpL_val rfl rfl (by decide) (r_nilCheck (a := ⟨bs, 0, none⟩) rfl) ?_
    refine WpL_val rfl rfl (by decide) (r_fieldAddr (b := bs) (o := 0) (o' := 0) rfl Try.underlying51 rfl siz22 rfl) ?_
    refine WpL_val rfl rfl (by decide) (r_load (v := (.slice (some ⟨b, o, none⟩) l.length c)) rfl flat22 (hB.cell rfl)) ?_
    refine WpL_val rfl rfl (by decide) (r_indexSlice (b := b) (o := o) (len := l.length) (cap := c) (i := 0) (o' := o + 0) rfl rfl rfl Try.underlying22 siz3 (by omega) (by omega)) ?_
    refine WpL_val rfl rfl (by decide) (r_load (v := (.int .i64 x)) rfl flat3 ((hE.cell (hcl 0 x hx)))) ?_
    refine WpL_val rfl rfl (by decide) (r_assign (v := (.int .i64 x)) rfl) ?_
    refine WpL_nil ?_
    refine Wp_seq_region ?_
    refine WpL_val rfl rfl (by decide) (r_move (v := (.pointer (some ⟨bs, 0, none⟩))) rfl) ?_
    refine WpL_val rfl rfl (by decide) (r_move (v := (.pointer (some ⟨bs, 0, none⟩))) rfl) ?_
    refine WpL_val rfl rfl (by decide) (r_nilCheck (a := ⟨bs, 0, none⟩) rfl) ?_
    refine WpL_val rfl rfl (by decide) (r_fieldAddr (b := bs) (o := 0) (o' := 0) rfl Try.underlying51 rfl siz22 rfl) ?_
    refine WpL_val rfl rfl (by decide) (r_load (v := (.slice (some ⟨b, o, none⟩) l.length c)) rfl flat22 (hB.cell rfl)) ?_
    obtain ⟨sl, hsl⟩ : ∃ a' : Option Addr, (if c = 1 then (some ⟨b, o, none⟩) else Option.map (fun q : Addr => q.add (1 * 1)) (some ⟨b, o, none⟩)) = a' := ⟨_, rfl⟩
    refine WpL_val rfl rfl (by decide) (r_sliceLo (a := (some ⟨b, o, none⟩)) (len := l.length) (cap := c) (lo := 1) (l := 1) (n' := (l.length - 1)) (c' := (c - 1)) Try.underlying22 siz3 rfl rfl (by omega) (by omega) hsl (by omega) (by omega)) ?_
    refine WpL_val rfl rfl (by decide) (r_nilCheck (a := ⟨bs, 0, none⟩) rfl) ?_
    refine WpL_val rfl rfl (by decide) (r_fieldAddr (b := bs) (o := 0) (o' := 0) rfl Try.underlying51 rfl siz22 rfl) ?_
    refine s_store (b := bs) (o := 0) (c' := #[(.slice sl (l.length - 1) (c - 1))]) (v := (.slice sl (l.length - 1) (c - 1))) rfl rfl rfl siz22 hB (by simp) rfl ?_
    intro w2 S2
    replace E := S2.step E (by first | exact Or.inl (by omega) | exact Or.inr rfl | exact Or.inr (by assumption) | exact Or.inr (by simp) | exact Or.inr (by omega) | exact Or.inr (by dsimp only; omega))
    replace hB := S2.blk
    refine WpL_nil ?_
    refine Wp_seq_region ?_
    refine WpL_val rfl rfl (by decide) (r_move (v := (.int .i64 x)) rfl) ?_
    refine WpL_val rfl rfl (by decide) (r_move (v := (.int .i64 n)) rfl) ?_
    refine WpL_enter rfl rfl (by decide) (r_callF (vs := [(.int .i64 x), (.int .i64 n)]) Try.func19 nm19 bd19 rfl) (below_c x n hn hm _) ?_
    rintro _ _ ⟨rfl, rfl⟩
    have hcut := SlAt.cut (lo := 1) (hi := l.length) hl (by omega) (Nat.le_refl _) hsl rfl rfl
    have hdl : ((l.map intV).drop 1).take (l.length - 1) = (l.drop 1).map intV := by rw [List.take_of_length_le (by simp), List.map_drop]
    rw [hdl] at hcut
    have hll : (l.drop 1).length = l.length - 1 := by simp
    refine WpL_val rfl rfl (by decide) (r_assign (v := (.int .i64 (x % n))) rfl) ?_
    refine WpL_nil ?_
    refine Wp_ret ?_
    refine fin_tmp Try.results37 (v := (.int .i64 (x % n))) rfl ?_
    exact ⟨x % n, l.drop 1, rfl, Int.emod_nonneg x (by omega), Int.emod_lt_of_pos x hn, ⟨sl, c - 1, by rw [hll]; exact hB, by rw [hll]; exact hcut⟩, E⟩
end Go.Proofs
namespace Go.Proofs
open Go Go.Eng
set_option maxRecDepth 100000
theorem span_c (w0 : World) (lo hi : Int) : Ret Try.prog 36 #[.int .i64 lo, .int .i64 hi] w0 fun v w => ∃ b, v = .slice (some ⟨b, 0, none⟩) 1 1 ∧ SpansAt w v [(lo, hi)] ∧ w0.heap.size ≤ b ∧ Ext w0 w := by
  refine Ret_of Try.func36 rfl Try.ntmps36 (Nat.le_of_ble_eq_true rfl) ?_
  have E : Chg none1 w0 w0 := Chg.refl _ _
  refine Wp_seq_region ?_
  refine WpL_val rfl rfl (by decide) (r_assign (v := (.slice none 0 0)) rfl) ?_
  refine WpL_nil ?_
  refine Wp_seq_region ?_
  refine WpL_val rfl rfl (by decide) (r_move (v := (.int .i64 lo)) rfl) ?_
  refine WpL_val rfl rfl (by decide) (r_move (v := (.int .i64 hi)) rfl) ?_
  refine WpL_val rfl rfl (by decide) (r_build (ps := [(0, (.int .i64 lo)), (1, (.int .i64 hi))]) (v := (.agg #[(.int .i64 lo), (.int .i64 hi)])) rfl (by kernel_rfl)) ?_
  refine s_buildSlice (ps := [(0, (.agg #[(.int .i64 lo), (.int .i64 hi)]))]) (c := #[(.int .i64 lo), (.int .i64 hi)]) (by decide) rfl Try.underlying24 siz71 zer71 (by decide) (by decide) (by kernel_rfl) ?_
  intro b1 w1 N1
  have F1 := N1.ge E
  replace E := E.ext N1.ext
  have B1 := N1.blk
  refine WpL_val rfl rfl (by decide) (r_assign (v := (.slice (some ⟨b1, 0, none⟩) 1 1)) rfl) ?_
  refine WpL_nil ?_
  refine Wp_ret ?_
  refine fin_tmp Try.results36 (v := (.slice (some ⟨b1, 0, none⟩) 1 1)) rfl ?_
  exact ⟨b1, rfl, spans_of_blk [(lo, hi)] B1 (by simp) (by simp), by omega, E⟩
def oneT (r : Int) : Re := .mk 2 [(r, r)] [] 0 0 false
theorem one_c (w0 : World) (r : Int) : Ret Try.prog 17 #[.int .i64 r] w0 fun v w => ∃ b, v = .agg #[.int .i64 2, .slice (some ⟨b, 0, none⟩) 1 1, .slice none 0 0, .int .i64 0, .int .i64 0, .bool false] ∧ SpansAt w (.slice (some ⟨b, 0, none⟩) 1 1) [(r, r)] ∧ Ext w0 w := by
  refine Ret_of Try.func17 rfl Try.ntmps17 (Nat.le_of_ble_eq_true rfl) ?_
  have E : Chg none1 w0 w0 := Chg.refl _ _
  refine Wp_seq_region ?_
  refine s_alloc (c := #[(.int .i64 0), (.slice none 0 0), (.slice none 0 0), (.int .i64 0), (.int .i64 0), (.bool false)]) (by decide) zer27 rfl ?_
  intro b1 w1 N1
  have F1 := N1.ge E
  replace E := E.ext N1.ext
  have B1 := N1.blk
  refine WpL_nil ?_
  refine Wp_seq_region ?_
  refine WpL_val rfl rfl (by decide) (r_move (v := (.int .i64 r)) rfl) ?_
  refine WpL_val rfl rfl (by decide) (r_move (v := (.int .i64 r)) rfl) ?_
  refine WpL_enter rfl rfl (by decide) (r_callF (vs := [(.int .i64 r), (.int .i64 r)]) Try.func36 nm36 bd36 rfl) (span_c _ r r) ?_
  rintro _ w9 ⟨b, rfl, hsp, hb, X9⟩
  replace B1 := X9.keep B1
  replace E := E.ext X9
  have hbne : b ≠ b1 := by have := N1.size; have := N1.eq; omega
  refine WpL_val rfl rfl (by decide) (r_build (ps := [(0, (.int .i64 2)), (1, (.slice (some ⟨b, 0, none⟩) 1 1))]) (v := (.agg #[(.int .i64 2), (.slice (some ⟨b, 0, none⟩) 1 1), (.slice none 0 0), (.int .i64 0), (.int .i64 0), (.bool false)])) rfl (by kernel_rfl)) ?_
  refine s_storeAgg (b := b1) (o := 0) (c' := #[(.int .i64 2), (.slice (some ⟨b, 0, none⟩) 1 1), (.slice none 0 0), (.int .i64 0), (.int .i64 0), (.bool false)]) rfl rfl (by simp [Value.oneCell']) siz27 rfl B1 (by simp) rfl ?_
  intro w2 S2
  replace E := S2.step E (by first | exact Or.inl (by omega) | exact Or.inr rfl | exact Or.inr (by assumption) | exact Or.inr (by simp) | exact Or.inr (by omega) | exact Or.inr (by dsimp only; omega))
  replace B1 := S2.blk
  refine WpL_nil ?_
  refine Wp_ret ?_
  refine fin_agg Try.results17 (vs := [(.int .i64 2), (.slice (some ⟨b, 0, none⟩) 1 1), (.slice none 0 0), (.int .i64 0), (.int .i64 0), (.bool false)]) (b := b1) rfl agg27 siz27 rfl (B1.cells rfl) ?_
  exact ⟨b, rfl, (SlIn.mk hsp (S := fun x => x = b) rfl).chg S2.chg (fun x h => by omega) |>.at, E⟩
theorem one_at {w : World} {b : Nat} {r : Int} (h : SpansAt w (.slice (some ⟨b, 0, none⟩) 1 1) [(r, r)]) : ReAt w (oneT r) [.int .i64 2, .slice (some ⟨b, 0, none⟩) 1 1, .slice none 0 0, .int .i64 0, .int .i64 0, .bool false] :=
  ReAt.of (set := [(r, r)]) (args := []) h (by simp) (.inl rfl)
end Go.Proofs
namespace Go.Proofs
open Go Go.Eng
set_option maxRecDepth 100000
mutual
def allRe (p : Re → Prop) : Re → Prop
  | .mk k set args mn mx ng => p (.mk k set args mn mx ng) ∧ allRes p args
def allRes (p : Re → Prop) : List Re → Prop
  | [] => True
  | t :: ts => allRe p t ∧ allRes p ts
end
def genP (kinds : Int) (t : Re) : Prop := nodeE t = 0 ∧ t.kind ≤ kinds ∧ (t.kind = 2 → ∃ lo hi, t.set = [(lo, hi)] ∧ 97 ≤ lo ∧ lo ≤ hi ∧ hi ≤ 100)
theorem StrAt.put {wb w w' : World} {bs b : Nat} {l : List Int} {c : Array Value} {t : TypeId} (h : StrAt wb w bs l) (s : Put w w' b c t) (hne : bs ≠ b) : StrAt wb w' bs l :=
  let ⟨a, c, h1, h2⟩ := h; ⟨a, c, s.keep hne h1, h2⟩
theorem node_leaf {k : Int} (h : k = 0 ∨ k = 1) : nodeE (.mk k [] [] 0 0 false) = 0 := by
  rcases h with rfl | rfl <;> decide
theorem node_set {lo hi : Int} (h1 : 0 ≤ lo) (h2 : lo ≤ hi) (h3 : hi ≤ 1114111) : nodeE (.mk 2 [(lo, hi)] [] 0 0 false) = 0 := by
  simp [nodeE, formB, okB, checkE, checkL, validB, Re.kind, Re.set, Re.args, Re.mn, Re.mx, Re.neg, h1, h2, h3]
theorem node_two {k : Int} (h : k = 3 ∨ k = 4 ∨ k = 7) (t u : Re) : nodeE (.mk k [] [t, u] 0 0 false) = 0 := by
  rcases h with rfl | rfl | rfl <;> simp [nodeE, formB, okB, Re.kind, Re.set, Re.args, Re.mn, Re.mx, Re.neg]
theorem node_rep {mn mx : Int} (h0 : 0 ≤ mn) (h1 : mn ≤ mx) (h2 : mx ≤ 8) (t : Re) : nodeE (.mk 6 [] [t] mn mx false) = 0 := by
  simp [nodeE, formB, okB, Re.kind, Re.set, Re.args, Re.mn, Re.mx, Re.neg]; omega
theorem node_group {mn : Int} (h0 : 0 ≤ mn) (h1 : mn ≤ 9) (t : Re) : nodeE (.mk 9 [] [t] mn 0 false) = 0 := by
  simp [nodeE, formB, okB, Re.kind, Re.set, Re.args, Re.mn, Re.mx, Re.neg]; omega
theorem node_look (ng : Bool) (t : Re) : nodeE (.mk 10 [] [t] 0 0 ng) = 0 := by
  simp [nodeE, formB, okB, Re.kind, Re.set, Re.args, Re.mn, Re.mx, Re.neg]
theorem node_one {k : Int} (h : k = 5 ∨ k = 8) (t : Re) : nodeE (.mk k [] [t] 0 0 false) = 0 := by
  rcases h with rfl | rfl <;> simp [nodeE, formB, okB, Re.kind, Re.set, Re.args, Re.mn, Re.mx, Re.neg]
theorem gen_mk {kinds k mn mx : Int} {ng : Bool} {ts : List Re} (hk : k ≤ kinds) (h2 : k ≠ 2) (hn : nodeE (.mk k [] ts mn mx ng) = 0) (ht : allRes (genP kinds) ts) : allRe (genP kinds) (.mk k [] ts mn mx ng) := by
  simp only [allRe]; exact ⟨⟨hn, hk, fun h => absurd h h2⟩, ht⟩
theorem gen_pow {d : Nat} (h : 1 ≤ d) : 2 ^ (d - 1 + 1) = 2 ^ d := by rw [Nat.sub_add_cancel h]
theorem gen_size1 {d : Nat} (h : 1 ≤ d) {t : Re} (hs : t.size + 1 ≤ 2 ^ (d - 1 + 1)) {k mn mx : Int} {set : List (Int × Int)} {ng : Bool} : (Re.mk k set [t] mn mx ng).size + 1 ≤ 2 ^ (d + 1) := by
  rw [gen_pow h] at hs
  simp only [Re.size, Re.sizes, Nat.pow_succ]; have := t.size_pos; omega
theorem gen_size2 {d : Nat} (h : 1 ≤ d) {t u : Re} (hs : t.size + 1 ≤ 2 ^ (d - 1 + 1)) (hu : u.size + 1 ≤ 2 ^ (d - 1 + 1)) {k mn mx : Int} {set : List (Int × Int)} {ng : Bool} : (Re.mk k set [t, u] mn mx ng).size + 1 ≤ 2 ^ (d + 1) := by
  rw [gen_pow h] at hs hu
  simp only [Re.size, Re.sizes, Nat.pow_succ]; omega
set_option maxHeartbeats 4000000 in
theorem gen_c (wb : World) (bs : Nat) (kinds : Int) (hk : kinds = 8 ∨ kinds = 10) (hb : wb.heap.size ≤ bs) : ∀ (d : Nat), d ≤ 4 → ∀ (w0 : World) (l : List Int), Ext wb w0 → StrAt wb w0 bs l →
    Ret Try.prog 18 #[.pointer (some ⟨bs, 0, none⟩), .int .i64 ((d : Nat) : Int), .int .i64 kinds] w0 fun v w => ∃ t vs l', v = .agg vs.toArray ∧ allRe (genP kinds) t ∧ t.size + 1 ≤ 2 ^ (d + 1) ∧ ReIn (fun b => w0.heap.size ≤ b) w t vs ∧ StrAt wb w bs l' ∧ Chg (fun x => x = bs) w0 w := by
  intro d
  induction d using Nat.strongRecOn with
  | _ d ih =>
  intro hd4 w0 l hE hS
  have hbs0 := hS.lt
  have toE : ∀ {w : World}, Chg (fun x => x = bs) w0 w → Ext wb w := fun c => Chg.step hE c fun x hx hm => by have hm' : x = bs := hm; omega
  refine Ret_of Try.func18 rfl Try.ntmps18 (Nat.le_of_ble_eq_true rfl) ?_
  have E : Chg (fun x => x = bs) w0 w0 := Chg.refl _ _
  refine Wp_seq_region ?_
  refine s_alloc (c := #[(.int .i64 0), (.slice none 0 0), (.slice none 0 0), (.int .i64 0), (.int .i64 0), (.bool false)]) (by decide) zer27 rfl ?_
  intro b1 w1 N1
  have F1 := N1.ge E
  replace hS := hS.ext N1.ext
  replace E := E.ext N1.ext
  have B1 := N1.blk
  refine WpL_nil ?_
  refine Wp_seq_region ?_
  refine WpL_val rfl rfl (by decide) (r_move (v := (.pointer (some ⟨bs, 0, none⟩))) rfl) ?_
  refine WpL_val rfl rfl (by decide) (r_move (v := (.int .i64 kinds)) rfl) ?_
  refine WpL_val rfl rfl (by decide) (r_add (k := .i64) (a := kinds) (b := 1) (c := kinds + 1) rfl rfl (wI64 (by omega))) ?_
  have hne1 : b1 ≠ bs := by omega
  refine WpL_enter rfl rfl (by decide) (r_callF (vs := [(.pointer (some ⟨bs, 0, none⟩)), (.int .i64 (kinds + 1))]) Try.func37 nm37 bd37 rfl) (next_c wb _ bs _ _ (by omega) (by omega) (toE E) hb hS) ?_
  rintro _ w2 ⟨k0, l1, rfl, hk0, hk1, hS, C2⟩
  replace B1 := C2.keep (hne1) B1
  replace E := E.trans C2
  refine WpL_val rfl rfl (by decide) (r_assign (v := (.int .i64 k0)) rfl) ?_
  refine WpL_nil ?_
  refine Wp_cut (fun σ W2 => ∃ (k : Int) (l1 : List Int), (∃ jj_, σ = upds jj_ [(0, (.pointer (some ⟨bs, 0, none⟩))), (1, (.int .i64 ((d : Nat) : Int))), (2, (.int .i64 kinds)), (6, (.pointer (some ⟨b1, 0, none⟩))), (7, (.int .i64 k))]) ∧ Chg (fun x => x = bs) w0 W2 ∧ Blk W2 b1 #[(.int .i64 0), (.slice none 0 0), (.slice none 0 0), (.int .i64 0), (.int .i64 0), (.bool false)] 27 ∧ (StrAt wb W2 bs l1) ∧ (0 ≤ k ∧ k ≤ kinds ∧ (d = 0 → k < 3))) ?_ ?_
  · skip
    refine Wp_seq_region ?_
    refine WpL_val rfl rfl (by decide) (r_move (v := (.int .i64 ((d : Nat) : Int))) rfl) ?_
    refine WpL_val rfl rfl (by decide) (r_eql (k := .i64) (a := ((d : Nat) : Int)) (b := 0) rfl rfl) ?_
    refine WpL_nil ?_
    refine Wp_cond (b := decide ((((d : Nat) : Int) : Int) = 0)) rfl (fun hd => ?_) (fun hd => ?_)
    · have khd := hd
      replace hd := of_decide_eq_true hd
      refine Wp_region ?_
      refine WpL_val rfl rfl (by decide) (r_move (v := (.pointer (some ⟨bs, 0, none⟩))) rfl) ?_
      refine WpL_enter rfl rfl (by decide) (r_callF (vs := [(.pointer (some ⟨bs, 0, none⟩)), (.int .i64 3)]) Try.func37 nm37 bd37 rfl) (next_c wb _ bs _ _ (by omega) (by omega) (toE E) hb hS) ?_
      rintro _ w3 ⟨k2, l2, rfl, hk2, hk3, hS, C3⟩
      replace B1 := C3.keep (hne1) B1
      replace E := E.trans C3
      refine WpL_val rfl rfl (by decide) (r_assign (v := (.int .i64 k2)) rfl) ?_
      refine WpL_nil ?_
      refine thn_normal ?_
      exact ⟨k2, l2, Fits.out ⟨rfl, rfl, rfl, rfl, rfl, trivial⟩, E, B1, hS, (by omega)⟩
    · have khd := hd
      replace hd := of_decide_eq_false hd
      refine Wp_skip ?_
      refine thn_normal ?_
      exact ⟨k0, l1, Fits.out ⟨rfl, rfl, rfl, rfl, rfl, trivial⟩, E, B1, hS, (by omega)⟩
  · clear E B1
    rintro _ W2 ⟨k, l1, ⟨j2, rfl⟩, E, B1, hS, hkk⟩
    refine Wp_seq ?_
    refine Wp_seq_region ?_
    refine WpL_val rfl rfl (by decide) (r_move (v := (.int .i64 k)) rfl) ?_
    refine WpL_nil ?_
    refine Wp_block ?_
    refine Wp_seq ?_
    refine Wp_seq_region ?_
    refine WpL_val rfl rfl (by decide) (r_eql (k := .i64) (a := k) (b := 0) rfl rfl) ?_
    refine WpL_val rfl rfl (by decide) (r_assign (v := (.bool (decide ((k : Int) = 0)))) rfl) ?_
    refine WpL_nil ?_
    refine Wp_cond (b := decide ((k : Int) = 0)) rfl (fun h0 => ?_) (fun h0 => ?_)
    · have kh0 := h0
      replace h0 := of_decide_eq_true h0
      refine Wp_skip ?_
      refine thn_normal ?_
      refine Wp_cond_true (congrArg Value.bool kh0) ?_
      refine Wp_seq_region ?_
      refine WpL_val rfl rfl (by decide) (r_move (v := (.int .i64 k)) rfl) ?_
      refine WpL_val rfl rfl (by decide) (r_build (ps := [(0, (.int .i64 k))]) (v := (.agg #[(.int .i64 k), (.slice none 0 0), (.slice none 0 0), (.int .i64 0), (.int .i64 0), (.bool false)])) rfl (by kernel_rfl)) ?_
      refine s_storeAgg (b := b1) (o := 0) (c' := #[(.int .i64 k), (.slice none 0 0), (.slice none 0 0), (.int .i64 0), (.int .i64 0), (.bool false)]) rfl rfl (by simp [Value.oneCell']) siz27 rfl B1 (by simp) rfl ?_
      intro w5 S5
      replace hS := hS.put S5 (Ne.symm hne1)
      replace E := S5.step E (by first | exact Or.inl (by omega) | exact Or.inr rfl | exact Or.inr (by assumption) | exact Or.inr (by simp) | exact Or.inr (by omega) | exact Or.inr (by dsimp only; omega))
      replace B1 := S5.blk
      refine WpL_nil ?_
      refine Wp_ret ?_
      refine inB_ret ?_
      refine thn_ret ?_
      refine fin_agg Try.results18 (vs := [(.int .i64 k), (.slice none 0 0), (.slice none 0 0), (.int .i64 0), (.int .i64 0), (.bool false)]) (b := b1) rfl agg27 siz27 rfl (B1.cells rfl) ?_
      exact ⟨.mk k [] [] 0 0 false, _, l1, rfl, gen_mk hkk.2.1 (by omega) (node_leaf (by omega)) (by simp only [allRes]), by simp only [Re.size, Re.sizes]; have := Nat.two_pow_pos d; rw [Nat.pow_succ]; omega, ReIn.of (set := []) (SlIn.nil _ _ _ _ _) (by simp) (.inl rfl), hS, E⟩
    · have kh0 := h0
      replace h0 := of_decide_eq_false h0
      refine Wp_region ?_
      refine WpL_val rfl rfl (by decide) (r_eql (k := .i64) (a := k) (b := 1) rfl rfl) ?_
      refine WpL_val rfl rfl (by decide) (r_assign (v := (.bool (decide ((k : Int) = 1)))) rfl) ?_
      refine WpL_nil ?_
      refine thn_normal ?_
      refine Wp_cond (b := decide ((k : Int) = 1)) rfl (fun h1 => ?_) (fun h1 => ?_)
      · have kh1 := h1
        replace h1 := of_decide_eq_true h1
        refine Wp_seq_region ?_
        refine WpL_val rfl rfl (by decide) (r_move (v := (.int .i64 k)) rfl) ?_
        refine WpL_val rfl rfl (by decide) (r_build (ps := [(0, (.int .i64 k))]) (v := (.agg #[(.int .i64 k), (.slice none 0 0), (.slice none 0 0), (.int .i64 0), (.int .i64 0), (.bool false)])) rfl (by kernel_rfl)) ?_
        refine s_storeAgg (b := b1) (o := 0) (c' := #[(.int .i64 k), (.slice none 0 0), (.slice none 0 0), (.int .i64 0), (.int .i64 0), (.bool false)]) rfl rfl (by simp [Value.oneCell']) siz27 rfl B1 (by simp) rfl ?_
        intro w7 S7
        replace hS := hS.put S7 (Ne.symm hne1)
        replace E := S7.step E (by first | exact Or.inl (by omega) | exact Or.inr rfl | exact Or.inr (by assumption) | exact Or.inr (by simp) | exact Or.inr (by omega) | exact Or.inr (by dsimp only; omega))
        replace B1 := S7.blk
        refine WpL_nil ?_
        refine Wp_ret ?_
        refine inB_ret ?_
        refine thn_ret ?_
        refine fin_agg Try.results18 (vs := [(.int .i64 k), (.slice none 0 0), (.slice none 0 0), (.int .i64 0), (.int .i64 0), (.bool false)]) (b := b1) rfl agg27 siz27 rfl (B1.cells rfl) ?_
        exact ⟨.mk k [] [] 0 0 false, _, l1, rfl, gen_mk hkk.2.1 (by omega) (node_leaf (by omega)) (by simp only [allRes]), by simp only [Re.size, Re.sizes]; have := Nat.two_pow_pos d; rw [Nat.pow_succ]; omega, ReIn.of (set := []) (SlIn.nil _ _ _ _ _) (by simp) (.inl rfl), hS, E⟩
      · have kh1 := h1
        replace h1 := of_decide_eq_false h1
        refine Wp_seq_region ?_
        refine WpL_val rfl rfl (by decide) (r_eql (k := .i64) (a := k) (b := 2) rfl rfl) ?_
        refine WpL_val rfl rfl (by decide) (r_assign (v := (.bool (decide ((k : Int) = 2)))) rfl) ?_
        refine WpL_nil ?_
        refine Wp_cond (b := decide ((k : Int) = 2)) rfl (fun h2 => ?_) (fun h2 => ?_)
        · have kh2 := h2
          replace h2 := of_decide_eq_true h2
          refine Wp_seq_region ?_
          refine WpL_val rfl rfl (by decide) (r_move (v := (.pointer (some ⟨bs, 0, none⟩))) rfl) ?_
          refine WpL_enter rfl rfl (by decide) (r_callF (vs := [(.pointer (some ⟨bs, 0, none⟩)), (.int .i64 3)]) Try.func37 nm37 bd37 rfl) (next_c wb _ bs _ _ (by omega) (by omega) (toE E) hb hS) ?_
          rintro _ w5 ⟨x, l2, rfl, hx0, hx1, hS, C5⟩
          replace B1 := C5.keep (hne1) B1
          replace E := E.trans C5
          refine WpL_val rfl rfl (by decide) (r_add (k := .i64) (a := 97) (b := x) (c := 97 + x) rfl rfl (wI64 (by omega))) ?_
          refine WpL_val rfl rfl (by decide) (r_assign (v := (.int .i64 (97 + x))) rfl) ?_
          refine WpL_nil ?_
          refine Wp_seq_region ?_
          refine WpL_val rfl rfl (by decide) (r_move (v := (.int .i64 k)) rfl) ?_
          refine WpL_val rfl rfl (by decide) (r_move (v := (.int .i64 (97 + x))) rfl) ?_
          refine WpL_val rfl rfl (by decide) (r_move (v := (.int .i64 (97 + x))) rfl) ?_
          refine WpL_val rfl rfl (by decide) (r_move (v := (.pointer (some ⟨bs, 0, none⟩))) rfl) ?_
          refine WpL_enter rfl rfl (by decide) (r_callF (vs := [(.pointer (some ⟨bs, 0, none⟩)), (.int .i64 2)]) Try.func37 nm37 bd37 rfl) (next_c wb _ bs _ _ (by omega) (by omega) (toE E) hb hS) ?_
          rintro _ w6 ⟨y, l3, rfl, hy0, hy1, hS, C6⟩
          replace B1 := C6.keep (hne1) B1
          replace E := E.trans C6
          refine WpL_val rfl rfl (by decide) (r_add (k := .i64) (a := 97 + x) (b := y) (c := (97 + x) + y) rfl rfl (wI64 (by omega))) ?_
          refine WpL_val rfl rfl (by decide) (r_build (ps := [(0, (.int .i64 (97 + x))), (1, (.int .i64 ((97 + x) + y)))]) (v := (.agg #[(.int .i64 (97 + x)), (.int .i64 ((97 + x) + y))])) rfl (by kernel_rfl)) ?_
          refine s_buildSlice (ps := [(0, (.agg #[(.int .i64 (97 + x)), (.int .i64 ((97 + x) + y))]))]) (c := #[(.int .i64 (97 + x)), (.int .i64 ((97 + x) + y))]) (by decide) rfl Try.underlying24 siz71 zer71 (by decide) (by decide) (by kernel_rfl) ?_
          intro bq wq Nq
          have Fq := Nq.ge E
          have Oq_b1 := Nq.lt B1
          replace B1 := Nq.keep B1
          replace hS := hS.ext Nq.ext
          replace E := E.ext Nq.ext
          have Bq := Nq.blk
          refine WpL_val rfl rfl (by decide) (r_build (ps := [(0, (.int .i64 k)), (1, (.slice (some ⟨bq, 0, none⟩) 1 1))]) (v := (.agg #[(.int .i64 k), (.slice (some ⟨bq, 0, none⟩) 1 1), (.slice none 0 0), (.int .i64 0), (.int .i64 0), (.bool false)])) rfl (by kernel_rfl)) ?_
          refine s_storeAgg (b := b1) (o := 0) (c' := #[(.int .i64 k), (.slice (some ⟨bq, 0, none⟩) 1 1), (.slice none 0 0), (.int .i64 0), (.int .i64 0), (.bool false)]) rfl rfl (by simp [Value.oneCell']) siz27 rfl B1 (by simp) rfl ?_
          intro w9 S9
          replace hS := hS.put S9 (Ne.symm hne1)
          replace Bq := S9.keep (by omega) Bq
          replace E := S9.step E (by first | exact Or.inl (by omega) | exact Or.inr rfl | exact Or.inr (by assumption) | exact Or.inr (by simp) | exact Or.inr (by omega) | exact Or.inr (by dsimp only; omega))
          replace B1 := S9.blk
          refine WpL_nil ?_
          refine Wp_ret ?_
          refine inB_ret ?_
          refine thn_ret ?_
          refine fin_agg Try.results18 (vs := [(.int .i64 k), (.slice (some ⟨bq, 0, none⟩) 1 1), (.slice none 0 0), (.int .i64 0), (.int .i64 0), (.bool false)]) (b := b1) rfl agg27 siz27 rfl (B1.cells rfl) ?_
          exact ⟨.mk k [(97 + x, 97 + x + y)] [] 0 0 false, _, l3, rfl, by subst h2; simp only [allRe, allRes]; exact ⟨⟨node_set (by omega) (by omega) (by omega), hkk.2.1, fun _ => ⟨_, _, rfl, by omega, by omega, by omega⟩⟩, trivial⟩, by simp only [Re.size, Re.sizes]; have := Nat.two_pow_pos d; rw [Nat.pow_succ]; omega, ReIn.of (set := [(97 + x, 97 + x + y)]) (SlIn.mk (spans_of_blk [(97 + x, 97 + x + y)] Bq (by simp) (by simp)) (by omega)) (by simp) (.inl rfl), hS, E⟩
        · have kh2 := h2
          replace h2 := of_decide_eq_false h2
          refine Wp_seq ?_
          refine Wp_seq_region ?_
          refine WpL_val rfl rfl (by decide) (r_eql (k := .i64) (a := k) (b := 3) rfl rfl) ?_
          refine WpL_val rfl rfl (by decide) (r_assign (v := (.bool (decide ((k : Int) = 3)))) rfl) ?_
          refine WpL_nil ?_
          refine Wp_cond (b := decide ((k : Int) = 3)) rfl (fun h3 => ?_) (fun h3 => ?_)
          · have kh3 := h3
            replace h3 := of_decide_eq_true h3
            have hd1 : 1 ≤ d := by omega
            have hlt1 := B1.lt
            have hz1 := E.size
            refine Wp_skip ?_
            refine thn_normal ?_
            refine Wp_cond_true (congrArg Value.bool kh3) ?_
            refine Wp_seq_region ?_
            refine WpL_val rfl rfl (by decide) (r_move (v := (.int .i64 k)) rfl) ?_
            refine WpL_val rfl rfl (by decide) (r_move (v := (.pointer (some ⟨bs, 0, none⟩))) rfl) ?_
            refine WpL_val rfl rfl (by decide) (r_move (v := (.int .i64 ((d : Nat) : Int))) rfl) ?_
            refine WpL_val rfl rfl (by decide) (r_sub (k := .i64) (a := ((d : Nat) : Int)) (b := 1) (c := ((d - 1 : Nat) : Int)) rfl rfl (by rw [wI64 (by omega)]; omega)) ?_
            refine WpL_val rfl rfl (by decide) (r_move (v := (.int .i64 kinds)) rfl) ?_
            refine WpL_enter rfl rfl (by decide) (r_callF (vs := [(.pointer (some ⟨bs, 0, none⟩)), (.int .i64 ((d - 1 : Nat) : Int)), (.int .i64 kinds)]) Try.func18 nm18 bd18 rfl) (ih (d - 1) (by omega) (by omega) _ _ (toE E) hS) ?_
            rintro _ w5 ⟨t1, us1, l5, rfl, hg1, hs1, ht1, hS, C5⟩
            replace B1 := C5.keep (hne1) B1
            replace E := E.trans C5
            obtain ⟨sa1, sc1, aa1, ac1, rfl, _, _, _⟩ := ht1.form
            have hlt2 := B1.lt
            have hz2 := E.size
            refine WpL_val rfl rfl (by decide) (r_move (v := (.pointer (some ⟨bs, 0, none⟩))) rfl) ?_
            refine WpL_val rfl rfl (by decide) (r_move (v := (.int .i64 ((d : Nat) : Int))) rfl) ?_
            refine WpL_val rfl rfl (by decide) (r_sub (k := .i64) (a := ((d : Nat) : Int)) (b := 1) (c := ((d - 1 : Nat) : Int)) rfl rfl (by rw [wI64 (by omega)]; omega)) ?_
            refine WpL_val rfl rfl (by decide) (r_move (v := (.int .i64 kinds)) rfl) ?_
            refine WpL_enter rfl rfl (by decide) (r_callF (vs := [(.pointer (some ⟨bs, 0, none⟩)), (.int .i64 ((d - 1 : Nat) : Int)), (.int .i64 kinds)]) Try.func18 nm18 bd18 rfl) (ih (d - 1) (by omega) (by omega) _ _ (toE E) hS) ?_
            rintro _ w6 ⟨t2, us2, l6, rfl, hg2, hs2, ht2, hS, C6⟩
            replace B1 := C6.keep (hne1) B1
            replace E := E.trans C6
            obtain ⟨sa2, sc2, aa2, ac2, rfl, _, _, _⟩ := ht2.form
            replace ht1 := ReIn.chg C6 (fun x hx hm => by have hx' := hx; have hm' : x = bs := hm; have := E.size; omega) t1 ht1
            refine s_buildSlice (ps := [(0, (.agg #[(.int .i64 t1.kind), (.slice sa1 t1.set.length sc1), (.slice aa1 t1.args.length ac1), (.int .i64 t1.mn), (.int .i64 t1.mx), (.bool t1.neg)])), (1, (.agg #[(.int .i64 t2.kind), (.slice sa2 t2.set.length sc2), (.slice aa2 t2.args.length ac2), (.int .i64 t2.mn), (.int .i64 t2.mx), (.bool t2.neg)]))]) (c := #[(.int .i64 t1.kind), (.slice sa1 t1.set.length sc1), (.slice aa1 t1.args.length ac1), (.int .i64 t1.mn), (.int .i64 t1.mx), (.bool t1.neg), (.int .i64 t2.kind), (.slice sa2 t2.set.length sc2), (.slice aa2 t2.args.length ac2), (.int .i64 t2.mn), (.int .i64 t2.mx), (.bool t2.neg)]) (by decide) rfl Try.underlying25 siz27 zer27 (by decide) (by decide) (by kernel_rfl) ?_
            intro bq wq Nq
            have Fq := Nq.ge E
            have Oq_b1 := Nq.lt B1
            replace B1 := Nq.keep B1
            replace hS := hS.ext Nq.ext
            replace ht1 := ReIn.ext Nq.ext t1 ht1
            replace ht2 := ReIn.ext Nq.ext t2 ht2
            replace E := E.ext Nq.ext
            have Bq := Nq.blk
            refine WpL_val rfl rfl (by decide) (r_build (ps := [(0, (.int .i64 k)), (2, (.slice (some ⟨bq, 0, none⟩) 2 2))]) (v := (.agg #[(.int .i64 k), (.slice none 0 0), (.slice (some ⟨bq, 0, none⟩) 2 2), (.int .i64 0), (.int .i64 0), (.bool false)])) rfl (by kernel_rfl)) ?_
            refine s_storeAgg (b := b1) (o := 0) (c' := #[(.int .i64 k), (.slice none 0 0), (.slice (some ⟨bq, 0, none⟩) 2 2), (.int .i64 0), (.int .i64 0), (.bool false)]) rfl rfl (by simp [Value.oneCell']) siz27 rfl B1 (by simp) rfl ?_
            intro w11 S11
            replace hS := hS.put S11 (Ne.symm hne1)
            replace ht1 := ReIn.chg S11.chg (fun x hx hm => by have hx' := hx; have hm' : x = b1 := hm; omega) t1 ht1
            replace ht2 := ReIn.chg S11.chg (fun x hx hm => by have hx' := hx; have hm' : x = b1 := hm; omega) t2 ht2
            replace Bq := S11.keep (by omega) Bq
            replace E := S11.step E (by first | exact Or.inl (by omega) | exact Or.inr rfl | exact Or.inr (by assumption) | exact Or.inr (by simp) | exact Or.inr (by omega) | exact Or.inr (by dsimp only; omega))
            replace B1 := S11.blk
            refine WpL_nil ?_
            refine Wp_ret ?_
            refine inB_ret ?_
            refine thn_ret ?_
            refine fin_agg Try.results18 (vs := [(.int .i64 k), (.slice none 0 0), (.slice (some ⟨bq, 0, none⟩) 2 2), (.int .i64 0), (.int .i64 0), (.bool false)]) (b := b1) rfl agg27 siz27 rfl (B1.cells rfl) ?_
            exact ⟨.mk k [] [t1, t2] 0 0 false, _, l6, rfl, gen_mk hkk.2.1 (by omega) (node_two (by omega) t1 t2) (by simp only [allRes]; exact ⟨hg1, hg2, trivial⟩), gen_size2 hd1 hs1 hs2, ReIn.of (set := []) (SlIn.nil _ _ _ _ _) (by simp) (.inr ⟨bq, 0, by omega, rfl, ResIn.two (Bq.cells rfl) (ReIn.mono (fun b (h : _ ≤ b) => by omega) t1 ht1) (Bq.cells rfl) (ReIn.mono (fun b (h : _ ≤ b) => by omega) t2 ht2)⟩), hS, E⟩
          · have kh3 := h3
            replace h3 := of_decide_eq_false h3
            refine Wp_seq_region ?_
            refine WpL_val rfl rfl (by decide) (r_eql (k := .i64) (a := k) (b := 4) rfl rfl) ?_
            refine WpL_val rfl rfl (by decide) (r_assign (v := (.bool (decide ((k : Int) = 4)))) rfl) ?_
            refine WpL_nil ?_
            refine Wp_cond (b := decide ((k : Int) = 4)) rfl (fun h4 => ?_) (fun h4 => ?_)
            · have kh4 := h4
              replace h4 := of_decide_eq_true h4
              have hd1 : 1 ≤ d := by omega
              have hlt1 := B1.lt
              have hz1 := E.size
              refine Wp_skip ?_
              refine thn_normal ?_
              refine Wp_cond_true (congrArg Value.bool kh4) ?_
              refine Wp_seq_region ?_
              refine WpL_val rfl rfl (by decide) (r_move (v := (.int .i64 k)) rfl) ?_
              refine WpL_val rfl rfl (by decide) (r_move (v := (.pointer (some ⟨bs, 0, none⟩))) rfl) ?_
              refine WpL_val rfl rfl (by decide) (r_move (v := (.int .i64 ((d : Nat) : Int))) rfl) ?_
              refine WpL_val rfl rfl (by decide) (r_sub (k := .i64) (a := ((d : Nat) : Int)) (b := 1) (c := ((d - 1 : Nat) : Int)) rfl rfl (by rw [wI64 (by omega)]; omega)) ?_
              refine WpL_val rfl rfl (by decide) (r_move (v := (.int .i64 kinds)) rfl) ?_
              refine WpL_enter rfl rfl (by decide) (r_callF (vs := [(.pointer (some ⟨bs, 0, none⟩)), (.int .i64 ((d - 1 : Nat) : Int)), (.int .i64 kinds)]) Try.func18 nm18 bd18 rfl) (ih (d - 1) (by omega) (by omega) _ _ (toE E) hS) ?_
              rintro _ w5 ⟨t1, us1, l5, rfl, hg1, hs1, ht1, hS, C5⟩
              replace B1 := C5.keep (hne1) B1
              replace E := E.trans C5
              obtain ⟨sa1, sc1, aa1, ac1, rfl, _, _, _⟩ := ht1.form
              have hlt2 := B1.lt
              have hz2 := E.size
              refine WpL_val rfl rfl (by decide) (r_move (v := (.pointer (some ⟨bs, 0, none⟩))) rfl) ?_
              refine WpL_val rfl rfl (by decide) (r_move (v := (.int .i64 ((d : Nat) : Int))) rfl) ?_
              refine WpL_val rfl rfl (by decide) (r_sub (k := .i64) (a := ((d : Nat) : Int)) (b := 1) (c := ((d - 1 : Nat) : Int)) rfl rfl (by rw [wI64 (by omega)]; omega)) ?_
              refine WpL_val rfl rfl (by decide) (r_move (v := (.int .i64 kinds)) rfl) ?_
              refine WpL_enter rfl rfl (by decide) (r_callF (vs := [(.pointer (some ⟨bs, 0, none⟩)), (.int .i64 ((d - 1 : Nat) : Int)), (.int .i64 kinds)]) Try.func18 nm18 bd18 rfl) (ih (d - 1) (by omega) (by omega) _ _ (toE E) hS) ?_
              rintro _ w6 ⟨t2, us2, l6, rfl, hg2, hs2, ht2, hS, C6⟩
              replace B1 := C6.keep (hne1) B1
              replace E := E.trans C6
              obtain ⟨sa2, sc2, aa2, ac2, rfl, _, _, _⟩ := ht2.form
              replace ht1 := ReIn.chg C6 (fun x hx hm => by have hx' := hx; have hm' : x = bs := hm; have := E.size; omega) t1 ht1
              refine s_buildSlice (ps := [(0, (.agg #[(.int .i64 t1.kind), (.slice sa1 t1.set.length sc1), (.slice aa1 t1.args.length ac1), (.int .i64 t1.mn), (.int .i64 t1.mx), (.bool t1.neg)])), (1, (.agg #[(.int .i64 t2.kind), (.slice sa2 t2.set.length sc2), (.slice aa2 t2.args.length ac2), (.int .i64 t2.mn), (.int .i64 t2.mx), (.bool t2.neg)]))]) (c := #[(.int .i64 t1.kind), (.slice sa1 t1.set.length sc1), (.slice aa1 t1.args.length ac1), (.int .i64 t1.mn), (.int .i64 t1.mx), (.bool t1.neg), (.int .i64 t2.kind), (.slice sa2 t2.set.length sc2), (.slice aa2 t2.args.length ac2), (.int .i64 t2.mn), (.int .i64 t2.mx), (.bool t2.neg)]) (by decide) rfl Try.underlying25 siz27 zer27 (by decide) (by decide) (by kernel_rfl) ?_
              intro bq wq Nq
              have Fq := Nq.ge E
              have Oq_b1 := Nq.lt B1
              replace B1 := Nq.keep B1
              replace hS := hS.ext Nq.ext
              replace ht1 := ReIn.ext Nq.ext t1 ht1
              replace ht2 := ReIn.ext Nq.ext t2 ht2
              replace E := E.ext Nq.ext
              have Bq := Nq.blk
              refine WpL_val rfl rfl (by decide) (r_build (ps := [(0, (.int .i64 k)), (2, (.slice (some ⟨bq, 0, none⟩) 2 2))]) (v := (.agg #[(.int .i64 k), (.slice none 0 0), (.slice (some ⟨bq, 0, none⟩) 2 2), (.int .i64 0), (.int .i64 0), (.bool false)])) rfl (by kernel_rfl)) ?_
              refine s_storeAgg (b := b1) (o := 0) (c' := #[(.int .i64 k), (.slice none 0 0), (.slice (some ⟨bq, 0, none⟩) 2 2), (.int .i64 0), (.int .i64 0), (.bool false)]) rfl rfl (by simp [Value.oneCell']) siz27 rfl B1 (by simp) rfl ?_
              intro w13 S13
              replace hS := hS.put S13 (Ne.symm hne1)
              replace ht1 := ReIn.chg S13.chg (fun x hx hm => by have hx' := hx; have hm' : x = b1 := hm; omega) t1 ht1
              replace ht2 := ReIn.chg S13.chg (fun x hx hm => by have hx' := hx; have hm' : x = b1 := hm; omega) t2 ht2
              replace Bq := S13.keep (by omega) Bq
              replace E := S13.step E (by first | exact Or.inl (by omega) | exact Or.inr rfl | exact Or.inr (by assumption) | exact Or.inr (by simp) | exact Or.inr (by omega) | exact Or.inr (by dsimp only; omega))
              replace B1 := S13.blk
              refine WpL_nil ?_
              refine Wp_ret ?_
              refine inB_ret ?_
              refine thn_ret ?_
              refine fin_agg Try.results18 (vs := [(.int .i64 k), (.slice none 0 0), (.slice (some ⟨bq, 0, none⟩) 2 2), (.int .i64 0), (.int .i64 0), (.bool false)]) (b := b1) rfl agg27 siz27 rfl (B1.cells rfl) ?_
              exact ⟨.mk k [] [t1, t2] 0 0 false, _, l6, rfl, gen_mk hkk.2.1 (by omega) (node_two (by omega) t1 t2) (by simp only [allRes]; exact ⟨hg1, hg2, trivial⟩), gen_size2 hd1 hs1 hs2, ReIn.of (set := []) (SlIn.nil _ _ _ _ _) (by simp) (.inr ⟨bq, 0, by omega, rfl, ResIn.two (Bq.cells rfl) (ReIn.mono (fun b (h : _ ≤ b) => by omega) t1 ht1) (Bq.cells rfl) (ReIn.mono (fun b (h : _ ≤ b) => by omega) t2 ht2)⟩), hS, E⟩
            · have kh4 := h4
              replace h4 := of_decide_eq_false h4
              refine Wp_region ?_
              refine WpL_val rfl rfl (by decide) (r_eql (k := .i64) (a := k) (b := 7) rfl rfl) ?_
              refine WpL_val rfl rfl (by decide) (r_assign (v := (.bool (decide ((k : Int) = 7)))) rfl) ?_
              refine WpL_nil ?_
              refine thn_normal ?_
              refine Wp_cond (b := decide ((k : Int) = 7)) rfl (fun h7 => ?_) (fun h7 => ?_)
              · have kh7 := h7
                replace h7 := of_decide_eq_true h7
                have hd1 : 1 ≤ d := by omega
                have hlt1 := B1.lt
                have hz1 := E.size
                refine Wp_seq_region ?_
                refine WpL_val rfl rfl (by decide) (r_move (v := (.int .i64 k)) rfl) ?_
                refine WpL_val rfl rfl (by decide) (r_move (v := (.pointer (some ⟨bs, 0, none⟩))) rfl) ?_
                refine WpL_val rfl rfl (by decide) (r_move (v := (.int .i64 ((d : Nat) : Int))) rfl) ?_
                refine WpL_val rfl rfl (by decide) (r_sub (k := .i64) (a := ((d : Nat) : Int)) (b := 1) (c := ((d - 1 : Nat) : Int)) rfl rfl (by rw [wI64 (by omega)]; omega)) ?_
                refine WpL_val rfl rfl (by decide) (r_move (v := (.int .i64 kinds)) rfl) ?_
                refine WpL_enter rfl rfl (by decide) (r_callF (vs := [(.pointer (some ⟨bs, 0, none⟩)), (.int .i64 ((d - 1 : Nat) : Int)), (.int .i64 kinds)]) Try.func18 nm18 bd18 rfl) (ih (d - 1) (by omega) (by omega) _ _ (toE E) hS) ?_
                rintro _ w5 ⟨t1, us1, l5, rfl, hg1, hs1, ht1, hS, C5⟩
                replace B1 := C5.keep (hne1) B1
                replace E := E.trans C5
                obtain ⟨sa1, sc1, aa1, ac1, rfl, _, _, _⟩ := ht1.form
                have hlt2 := B1.lt
                have hz2 := E.size
                refine WpL_val rfl rfl (by decide) (r_move (v := (.pointer (some ⟨bs, 0, none⟩))) rfl) ?_
                refine WpL_val rfl rfl (by decide) (r_move (v := (.int .i64 ((d : Nat) : Int))) rfl) ?_
                refine WpL_val rfl rfl (by decide) (r_sub (k := .i64) (a := ((d : Nat) : Int)) (b := 1) (c := ((d - 1 : Nat) : Int)) rfl rfl (by rw [wI64 (by omega)]; omega)) ?_
                refine WpL_val rfl rfl (by decide) (r_move (v := (.int .i64 kinds)) rfl) ?_
                refine WpL_enter rfl rfl (by decide) (r_callF (vs := [(.pointer (some ⟨bs, 0, none⟩)), (.int .i64 ((d - 1 : Nat) : Int)), (.int .i64 kinds)]) Try.func18 nm18 bd18 rfl) (ih (d - 1) (by omega) (by omega) _ _ (toE E) hS) ?_
                rintro _ w6 ⟨t2, us2, l6, rfl, hg2, hs2, ht2, hS, C6⟩
                replace B1 := C6.keep (hne1) B1
                replace E := E.trans C6
                obtain ⟨sa2, sc2, aa2, ac2, rfl, _, _, _⟩ := ht2.form
                replace ht1 := ReIn.chg C6 (fun x hx hm => by have hx' := hx; have hm' : x = bs := hm; have := E.size; omega) t1 ht1
                refine s_buildSlice (ps := [(0, (.agg #[(.int .i64 t1.kind), (.slice sa1 t1.set.length sc1), (.slice aa1 t1.args.length ac1), (.int .i64 t1.mn), (.int .i64 t1.mx), (.bool t1.neg)])), (1, (.agg #[(.int .i64 t2.kind), (.slice sa2 t2.set.length sc2), (.slice aa2 t2.args.length ac2), (.int .i64 t2.mn), (.int .i64 t2.mx), (.bool t2.neg)]))]) (c := #[(.int .i64 t1.kind), (.slice sa1 t1.set.length sc1), (.slice aa1 t1.args.length ac1), (.int .i64 t1.mn), (.int .i64 t1.mx), (.bool t1.neg), (.int .i64 t2.kind), (.slice sa2 t2.set.length sc2), (.slice aa2 t2.args.length ac2), (.int .i64 t2.mn), (.int .i64 t2.mx), (.bool t2.neg)]) (by decide) rfl Try.underlying25 siz27 zer27 (by decide) (by decide) (by kernel_rfl) ?_
                intro bq wq Nq
                have Fq := Nq.ge E
                have Oq_b1 := Nq.lt B1
                replace B1 := Nq.keep B1
                replace hS := hS.ext Nq.ext
                replace ht1 := ReIn.ext Nq.ext t1 ht1
                replace ht2 := ReIn.ext Nq.ext t2 ht2
                replace E := E.ext Nq.ext
                have Bq := Nq.blk
                refine WpL_val rfl rfl (by decide) (r_build (ps := [(0, (.int .i64 k)), (2, (.slice (some ⟨bq, 0, none⟩) 2 2))]) (v := (.agg #[(.int .i64 k), (.slice none 0 0), (.slice (some ⟨bq, 0, none⟩) 2 2), (.int .i64 0), (.int .i64 0), (.bool false)])) rfl (by kernel_rfl)) ?_
                refine s_storeAgg (b := b1) (o := 0) (c' := #[(.int .i64 k), (.slice none 0 0), (.slice (some ⟨bq, 0, none⟩) 2 2), (.int .i64 0), (.int .i64 0), (.bool false)]) rfl rfl (by simp [Value.oneCell']) siz27 rfl B1 (by simp) rfl ?_
                intro w15 S15
                replace hS := hS.put S15 (Ne.symm hne1)
                replace ht1 := ReIn.chg S15.chg (fun x hx hm => by have hx' := hx; have hm' : x = b1 := hm; omega) t1 ht1
                replace ht2 := ReIn.chg S15.chg (fun x hx hm => by have hx' := hx; have hm' : x = b1 := hm; omega) t2 ht2
                replace Bq := S15.keep (by omega) Bq
                replace E := S15.step E (by first | exact Or.inl (by omega) | exact Or.inr rfl | exact Or.inr (by assumption) | exact Or.inr (by simp) | exact Or.inr (by omega) | exact Or.inr (by dsimp only; omega))
                replace B1 := S15.blk
                refine WpL_nil ?_
                refine Wp_ret ?_
                refine inB_ret ?_
                refine thn_ret ?_
                refine fin_agg Try.results18 (vs := [(.int .i64 k), (.slice none 0 0), (.slice (some ⟨bq, 0, none⟩) 2 2), (.int .i64 0), (.int .i64 0), (.bool false)]) (b := b1) rfl agg27 siz27 rfl (B1.cells rfl) ?_
                exact ⟨.mk k [] [t1, t2] 0 0 false, _, l6, rfl, gen_mk hkk.2.1 (by omega) (node_two (by omega) t1 t2) (by simp only [allRes]; exact ⟨hg1, hg2, trivial⟩), gen_size2 hd1 hs1 hs2, ReIn.of (set := []) (SlIn.nil _ _ _ _ _) (by simp) (.inr ⟨bq, 0, by omega, rfl, ResIn.two (Bq.cells rfl) (ReIn.mono (fun b (h : _ ≤ b) => by omega) t1 ht1) (Bq.cells rfl) (ReIn.mono (fun b (h : _ ≤ b) => by omega) t2 ht2)⟩), hS, E⟩
              · have kh7 := h7
                replace h7 := of_decide_eq_false h7
                refine Wp_seq_region ?_
                refine WpL_val rfl rfl (by decide) (r_eql (k := .i64) (a := k) (b := 6) rfl rfl) ?_
                refine WpL_val rfl rfl (by decide) (r_assign (v := (.bool (decide ((k : Int) = 6)))) rfl) ?_
                refine WpL_nil ?_
                refine Wp_cond (b := decide ((k : Int) = 6)) rfl (fun h6 => ?_) (fun h6 => ?_)
                · have kh6 := h6
                  replace h6 := of_decide_eq_true h6
                  refine Wp_seq_region ?_
                  refine WpL_val rfl rfl (by decide) (r_move (v := (.pointer (some ⟨bs, 0, none⟩))) rfl) ?_
                  refine WpL_enter rfl rfl (by decide) (r_callF (vs := [(.pointer (some ⟨bs, 0, none⟩)), (.int .i64 3)]) Try.func37 nm37 bd37 rfl) (next_c wb _ bs _ _ (by omega) (by omega) (toE E) hb hS) ?_
                  rintro _ w3 ⟨x, l2, rfl, hx0, hx1, hS, C3⟩
                  replace B1 := C3.keep (hne1) B1
                  replace E := E.trans C3
                  refine WpL_val rfl rfl (by decide) (r_assign (v := (.int .i64 x)) rfl) ?_
                  refine WpL_nil ?_
                  refine Wp_seq_region ?_
                  refine WpL_val rfl rfl (by decide) (r_move (v := (.int .i64 k)) rfl) ?_
                  refine WpL_val rfl rfl (by decide) (r_move (v := (.int .i64 x)) rfl) ?_
                  refine WpL_val rfl rfl (by decide) (r_move (v := (.int .i64 x)) rfl) ?_
                  refine WpL_val rfl rfl (by decide) (r_move (v := (.pointer (some ⟨bs, 0, none⟩))) rfl) ?_
                  refine WpL_enter rfl rfl (by decide) (r_callF (vs := [(.pointer (some ⟨bs, 0, none⟩)), (.int .i64 3)]) Try.func37 nm37 bd37 rfl) (next_c wb _ bs _ _ (by omega) (by omega) (toE E) hb hS) ?_
                  rintro _ w4 ⟨y, l3, rfl, hy0, hy1, hS, C4⟩
                  replace B1 := C4.keep (hne1) B1
                  replace E := E.trans C4
                  refine WpL_val rfl rfl (by decide) (r_add (k := .i64) (a := x) (b := y) (c := x + y) rfl rfl (wI64 (by omega))) ?_
                  refine WpL_val rfl rfl (by decide) (r_move (v := (.pointer (some ⟨bs, 0, none⟩))) rfl) ?_
                  refine WpL_val rfl rfl (by decide) (r_move (v := (.int .i64 ((d : Nat) : Int))) rfl) ?_
                  have hd1 : 1 ≤ d := by omega
                  have hlt1 := B1.lt
                  have hz1 := E.size
                  refine WpL_val rfl rfl (by decide) (r_sub (k := .i64) (a := ((d : Nat) : Int)) (b := 1) (c := ((d - 1 : Nat) : Int)) rfl rfl (by rw [wI64 (by omega)]; omega)) ?_
                  refine WpL_val rfl rfl (by decide) (r_move (v := (.int .i64 kinds)) rfl) ?_
                  refine WpL_enter rfl rfl (by decide) (r_callF (vs := [(.pointer (some ⟨bs, 0, none⟩)), (.int .i64 ((d - 1 : Nat) : Int)), (.int .i64 kinds)]) Try.func18 nm18 bd18 rfl) (ih (d - 1) (by omega) (by omega) _ _ (toE E) hS) ?_
                  rintro _ w5 ⟨t1, us1, l5, rfl, hg1, hs1, ht1, hS, C5⟩
                  replace B1 := C5.keep (hne1) B1
                  replace E := E.trans C5
                  obtain ⟨sa1, sc1, aa1, ac1, rfl, _, _, _⟩ := ht1.form
                  refine s_buildSlice (ps := [(0, (.agg #[(.int .i64 t1.kind), (.slice sa1 t1.set.length sc1), (.slice aa1 t1.args.length ac1), (.int .i64 t1.mn), (.int .i64 t1.mx), (.bool t1.neg)]))]) (c := #[(.int .i64 t1.kind), (.slice sa1 t1.set.length sc1), (.slice aa1 t1.args.length ac1), (.int .i64 t1.mn), (.int .i64 t1.mx), (.bool t1.neg)]) (by decide) rfl Try.underlying25 siz27 zer27 (by decide) (by decide) (by kernel_rfl) ?_
                  intro bq wq Nq
                  have Fq := Nq.ge E
                  have Oq_b1 := Nq.lt B1
                  replace B1 := Nq.keep B1
                  replace hS := hS.ext Nq.ext
                  replace ht1 := ReIn.ext Nq.ext t1 ht1
                  replace E := E.ext Nq.ext
                  have Bq := Nq.blk
                  refine WpL_val rfl rfl (by decide) (r_build (ps := [(0, (.int .i64 k)), (3, (.int .i64 x)), (4, (.int .i64 (x + y))), (2, (.slice (some ⟨bq, 0, none⟩) 1 1))]) (v := (.agg #[(.int .i64 k), (.slice none 0 0), (.slice (some ⟨bq, 0, none⟩) 1 1), (.int .i64 x), (.int .i64 (x + y)), (.bool false)])) rfl (by kernel_rfl)) ?_
                  refine s_storeAgg (b := b1) (o := 0) (c' := #[(.int .i64 k), (.slice none 0 0), (.slice (some ⟨bq, 0, none⟩) 1 1), (.int .i64 x), (.int .i64 (x + y)), (.bool false)]) rfl rfl (by simp [Value.oneCell']) siz27 rfl B1 (by simp) rfl ?_
                  intro w17 S17
                  replace hS := hS.put S17 (Ne.symm hne1)
                  replace ht1 := ReIn.chg S17.chg (fun x hx hm => by have hx' := hx; have hm' : x = b1 := hm; omega) t1 ht1
                  replace Bq := S17.keep (by omega) Bq
                  replace E := S17.step E (by first | exact Or.inl (by omega) | exact Or.inr rfl | exact Or.inr (by assumption) | exact Or.inr (by simp) | exact Or.inr (by omega) | exact Or.inr (by dsimp only; omega))
                  replace B1 := S17.blk
                  refine WpL_nil ?_
                  refine Wp_ret ?_
                  refine inB_ret ?_
                  refine thn_ret ?_
                  refine fin_agg Try.results18 (vs := [(.int .i64 k), (.slice none 0 0), (.slice (some ⟨bq, 0, none⟩) 1 1), (.int .i64 x), (.int .i64 (x + y)), (.bool false)]) (b := b1) rfl agg27 siz27 rfl (B1.cells rfl) ?_
                  exact ⟨.mk k [] [t1] x (x + y) false, _, l5, rfl, gen_mk (by omega) (by omega) (by subst h6; exact node_rep (by omega) (by omega) (by omega) t1) (by simp only [allRes]; exact ⟨hg1, trivial⟩), gen_size1 hd1 hs1, ReIn.of (set := []) (SlIn.nil _ _ _ _ _) (by simp) (.inr ⟨bq, 0, by omega, rfl, ResIn.one (Bq.cells rfl) (ReIn.mono (fun b (h : _ ≤ b) => by omega) t1 ht1)⟩), hS, E⟩
                · have kh6 := h6
                  replace h6 := of_decide_eq_false h6
                  refine Wp_seq_region ?_
                  refine WpL_val rfl rfl (by decide) (r_eql (k := .i64) (a := k) (b := 9) rfl rfl) ?_
                  refine WpL_val rfl rfl (by decide) (r_assign (v := (.bool (decide ((k : Int) = 9)))) rfl) ?_
                  refine WpL_nil ?_
                  refine Wp_cond (b := decide ((k : Int) = 9)) rfl (fun h9 => ?_) (fun h9 => ?_)
                  · have kh9 := h9
                    replace h9 := of_decide_eq_true h9
                    refine Wp_seq_region ?_
                    refine WpL_val rfl rfl (by decide) (r_move (v := (.int .i64 k)) rfl) ?_
                    refine WpL_val rfl rfl (by decide) (r_move (v := (.pointer (some ⟨bs, 0, none⟩))) rfl) ?_
                    refine WpL_enter rfl rfl (by decide) (r_callF (vs := [(.pointer (some ⟨bs, 0, none⟩)), (.int .i64 4)]) Try.func37 nm37 bd37 rfl) (next_c wb _ bs _ _ (by omega) (by omega) (toE E) hb hS) ?_
                    rintro _ w3 ⟨x, l2, rfl, hx0, hx1, hS, C3⟩
                    replace B1 := C3.keep (hne1) B1
                    replace E := E.trans C3
                    have hd1 : 1 ≤ d := by omega
                    have hlt1 := B1.lt
                    have hz1 := E.size
                    refine WpL_val rfl rfl (by decide) (r_move (v := (.pointer (some ⟨bs, 0, none⟩))) rfl) ?_
                    refine WpL_val rfl rfl (by decide) (r_move (v := (.int .i64 ((d : Nat) : Int))) rfl) ?_
                    refine WpL_val rfl rfl (by decide) (r_sub (k := .i64) (a := ((d : Nat) : Int)) (b := 1) (c := ((d - 1 : Nat) : Int)) rfl rfl (by rw [wI64 (by omega)]; omega)) ?_
                    refine WpL_val rfl rfl (by decide) (r_move (v := (.int .i64 kinds)) rfl) ?_
                    refine WpL_enter rfl rfl (by decide) (r_callF (vs := [(.pointer (some ⟨bs, 0, none⟩)), (.int .i64 ((d - 1 : Nat) : Int)), (.int .i64 kinds)]) Try.func18 nm18 bd18 rfl) (ih (d - 1) (by omega) (by omega) _ _ (toE E) hS) ?_
                    rintro _ w5 ⟨t1, us1, l5, rfl, hg1, hs1, ht1, hS, C5⟩
                    replace B1 := C5.keep (hne1) B1
                    replace E := E.trans C5
                    obtain ⟨sa1, sc1, aa1, ac1, rfl, _, _, _⟩ := ht1.form
                    refine s_buildSlice (ps := [(0, (.agg #[(.int .i64 t1.kind), (.slice sa1 t1.set.length sc1), (.slice aa1 t1.args.length ac1), (.int .i64 t1.mn), (.int .i64 t1.mx), (.bool t1.neg)]))]) (c := #[(.int .i64 t1.kind), (.slice sa1 t1.set.length sc1), (.slice aa1 t1.args.length ac1), (.int .i64 t1.mn), (.int .i64 t1.mx), (.bool t1.neg)]) (by decide) rfl Try.underlying25 siz27 zer27 (by decide) (by decide) (by kernel_rfl) ?_
                    intro bq wq Nq
                    have Fq := Nq.ge E
                    have Oq_b1 := Nq.lt B1
                    replace B1 := Nq.keep B1
                    replace hS := hS.ext Nq.ext
                    replace ht1 := ReIn.ext Nq.ext t1 ht1
                    replace E := E.ext Nq.ext
                    have Bq := Nq.blk
                    refine WpL_val rfl rfl (by decide) (r_build (ps := [(0, (.int .i64 k)), (3, (.int .i64 x)), (2, (.slice (some ⟨bq, 0, none⟩) 1 1))]) (v := (.agg #[(.int .i64 k), (.slice none 0 0), (.slice (some ⟨bq, 0, none⟩) 1 1), (.int .i64 x), (.int .i64 0), (.bool false)])) rfl (by kernel_rfl)) ?_
                    refine s_storeAgg (b := b1) (o := 0) (c' := #[(.int .i64 k), (.slice none 0 0), (.slice (some ⟨bq, 0, none⟩) 1 1), (.int .i64 x), (.int .i64 0), (.bool false)]) rfl rfl (by simp [Value.oneCell']) siz27 rfl B1 (by simp) rfl ?_
                    intro w19 S19
                    replace hS := hS.put S19 (Ne.symm hne1)
                    replace ht1 := ReIn.chg S19.chg (fun x hx hm => by have hx' := hx; have hm' : x = b1 := hm; omega) t1 ht1
                    replace Bq := S19.keep (by omega) Bq
                    replace E := S19.step E (by first | exact Or.inl (by omega) | exact Or.inr rfl | exact Or.inr (by assumption) | exact Or.inr (by simp) | exact Or.inr (by omega) | exact Or.inr (by dsimp only; omega))
                    replace B1 := S19.blk
                    refine WpL_nil ?_
                    refine Wp_ret ?_
                    refine inB_ret ?_
                    refine thn_ret ?_
                    refine fin_agg Try.results18 (vs := [(.int .i64 k), (.slice none 0 0), (.slice (some ⟨bq, 0, none⟩) 1 1), (.int .i64 x), (.int .i64 0), (.bool false)]) (b := b1) rfl agg27 siz27 rfl (B1.cells rfl) ?_
                    exact ⟨.mk k [] [t1] x 0 false, _, l5, rfl, gen_mk (by omega) (by omega) (by subst h9; exact node_group (by omega) (by omega) t1) (by simp only [allRes]; exact ⟨hg1, trivial⟩), gen_size1 hd1 hs1, ReIn.of (set := []) (SlIn.nil _ _ _ _ _) (by simp) (.inr ⟨bq, 0, by omega, rfl, ResIn.one (Bq.cells rfl) (ReIn.mono (fun b (h : _ ≤ b) => by omega) t1 ht1)⟩), hS, E⟩
                  · have kh9 := h9
                    replace h9 := of_decide_eq_false h9
                    refine Wp_seq_region ?_
                    refine WpL_val rfl rfl (by decide) (r_eql (k := .i64) (a := k) (b := 10) rfl rfl) ?_
                    refine WpL_val rfl rfl (by decide) (r_assign (v := (.bool (decide ((k : Int) = 10)))) rfl) ?_
                    refine WpL_nil ?_
                    refine Wp_cond (b := decide ((k : Int) = 10)) rfl (fun h10 => ?_) (fun h10 => ?_)
                    · have kh10 := h10
                      replace h10 := of_decide_eq_true h10
                      refine Wp_seq_region ?_
                      refine WpL_val rfl rfl (by decide) (r_move (v := (.int .i64 k)) rfl) ?_
                      refine WpL_val rfl rfl (by decide) (r_move (v := (.pointer (some ⟨bs, 0, none⟩))) rfl) ?_
                      refine WpL_enter rfl rfl (by decide) (r_callF (vs := [(.pointer (some ⟨bs, 0, none⟩)), (.int .i64 2)]) Try.func37 nm37 bd37 rfl) (next_c wb _ bs _ _ (by omega) (by omega) (toE E) hb hS) ?_
                      rintro _ w3 ⟨x, l2, rfl, hx0, hx1, hS, C3⟩
                      replace B1 := C3.keep (hne1) B1
                      replace E := E.trans C3
                      have hd1 : 1 ≤ d := by omega
                      have hlt1 := B1.lt
                      have hz1 := E.size
                      refine WpL_val rfl rfl (by decide) (r_eql (k := .i64) (a := x) (b := 1) rfl rfl) ?_
                      refine WpL_val rfl rfl (by decide) (r_move (v := (.pointer (some ⟨bs, 0, none⟩))) rfl) ?_
                      refine WpL_val rfl rfl (by decide) (r_move (v := (.int .i64 ((d : Nat) : Int))) rfl) ?_
                      refine WpL_val rfl rfl (by decide) (r_sub (k := .i64) (a := ((d : Nat) : Int)) (b := 1) (c := ((d - 1 : Nat) : Int)) rfl rfl (by rw [wI64 (by omega)]; omega)) ?_
                      refine WpL_val rfl rfl (by decide) (r_move (v := (.int .i64 kinds)) rfl) ?_
                      refine WpL_enter rfl rfl (by decide) (r_callF (vs := [(.pointer (some ⟨bs, 0, none⟩)), (.int .i64 ((d - 1 : Nat) : Int)), (.int .i64 kinds)]) Try.func18 nm18 bd18 rfl) (ih (d - 1) (by omega) (by omega) _ _ (toE E) hS) ?_
                      rintro _ w5 ⟨t1, us1, l5, rfl, hg1, hs1, ht1, hS, C5⟩
                      replace B1 := C5.keep (hne1) B1
                      replace E := E.trans C5
                      obtain ⟨sa1, sc1, aa1, ac1, rfl, _, _, _⟩ := ht1.form
                      refine s_buildSlice (ps := [(0, (.agg #[(.int .i64 t1.kind), (.slice sa1 t1.set.length sc1), (.slice aa1 t1.args.length ac1), (.int .i64 t1.mn), (.int .i64 t1.mx), (.bool t1.neg)]))]) (c := #[(.int .i64 t1.kind), (.slice sa1 t1.set.length sc1), (.slice aa1 t1.args.length ac1), (.int .i64 t1.mn), (.int .i64 t1.mx), (.bool t1.neg)]) (by decide) rfl Try.underlying25 siz27 zer27 (by decide) (by decide) (by kernel_rfl) ?_
                      intro bq wq Nq
                      have Fq := Nq.ge E
                      have Oq_b1 := Nq.lt B1
                      replace B1 := Nq.keep B1
                      replace hS := hS.ext Nq.ext
                      replace ht1 := ReIn.ext Nq.ext t1 ht1
                      replace E := E.ext Nq.ext
                      have Bq := Nq.blk
                      refine WpL_val rfl rfl (by decide) (r_build (ps := [(0, (.int .i64 k)), (5, (.bool (decide ((x : Int) = 1)))), (2, (.slice (some ⟨bq, 0, none⟩) 1 1))]) (v := (.agg #[(.int .i64 k), (.slice none 0 0), (.slice (some ⟨bq, 0, none⟩) 1 1), (.int .i64 0), (.int .i64 0), (.bool (decide ((x : Int) = 1)))])) rfl (by kernel_rfl)) ?_
                      refine s_storeAgg (b := b1) (o := 0) (c' := #[(.int .i64 k), (.slice none 0 0), (.slice (some ⟨bq, 0, none⟩) 1 1), (.int .i64 0), (.int .i64 0), (.bool (decide ((x : Int) = 1)))]) rfl rfl (by simp [Value.oneCell']) siz27 rfl B1 (by simp) rfl ?_
                      intro w21 S21
                      replace hS := hS.put S21 (Ne.symm hne1)
                      replace ht1 := ReIn.chg S21.chg (fun x hx hm => by have hx' := hx; have hm' : x = b1 := hm; omega) t1 ht1
                      replace Bq := S21.keep (by omega) Bq
                      replace E := S21.step E (by first | exact Or.inl (by omega) | exact Or.inr rfl | exact Or.inr (by assumption) | exact Or.inr (by simp) | exact Or.inr (by omega) | exact Or.inr (by dsimp only; omega))
                      replace B1 := S21.blk
                      refine WpL_nil ?_
                      refine Wp_ret ?_
                      refine inB_ret ?_
                      refine thn_ret ?_
                      refine fin_agg Try.results18 (vs := [(.int .i64 k), (.slice none 0 0), (.slice (some ⟨bq, 0, none⟩) 1 1), (.int .i64 0), (.int .i64 0), (.bool (decide ((x : Int) = 1)))]) (b := b1) rfl agg27 siz27 rfl (B1.cells rfl) ?_
                      exact ⟨.mk k [] [t1] 0 0 (decide (x = 1)), _, l5, rfl, gen_mk (by omega) (by omega) (by subst h10; exact node_look _ t1) (by simp only [allRes]; exact ⟨hg1, trivial⟩), gen_size1 hd1 hs1, ReIn.of (set := []) (SlIn.nil _ _ _ _ _) (by simp) (.inr ⟨bq, 0, by omega, rfl, ResIn.one (Bq.cells rfl) (ReIn.mono (fun b (h : _ ≤ b) => by omega) t1 ht1)⟩), hS, E⟩
                    · have kh10 := h10
                      replace h10 := of_decide_eq_false h10
                      have hd1 : 1 ≤ d := by omega
                      have hlt1 := B1.lt
                      have hz1 := E.size
                      refine Wp_skip ?_
                      refine inB_normal ?_
                      refine thn_normal ?_
                      refine Wp_seq_region ?_
                      refine WpL_val rfl rfl (by decide) (r_move (v := (.int .i64 k)) rfl) ?_
                      refine WpL_val rfl rfl (by decide) (r_move (v := (.pointer (some ⟨bs, 0, none⟩))) rfl) ?_
                      refine WpL_val rfl rfl (by decide) (r_move (v := (.int .i64 ((d : Nat) : Int))) rfl) ?_
                      refine WpL_val rfl rfl (by decide) (r_sub (k := .i64) (a := ((d : Nat) : Int)) (b := 1) (c := ((d - 1 : Nat) : Int)) rfl rfl (by rw [wI64 (by omega)]; omega)) ?_
                      refine WpL_val rfl rfl (by decide) (r_move (v := (.int .i64 kinds)) rfl) ?_
                      refine WpL_enter rfl rfl (by decide) (r_callF (vs := [(.pointer (some ⟨bs, 0, none⟩)), (.int .i64 ((d - 1 : Nat) : Int)), (.int .i64 kinds)]) Try.func18 nm18 bd18 rfl) (ih (d - 1) (by omega) (by omega) _ _ (toE E) hS) ?_
                      rintro _ w5 ⟨t1, us1, l5, rfl, hg1, hs1, ht1, hS, C5⟩
                      replace B1 := C5.keep (hne1) B1
                      replace E := E.trans C5
                      obtain ⟨sa1, sc1, aa1, ac1, rfl, _, _, _⟩ := ht1.form
                      refine s_buildSlice (ps := [(0, (.agg #[(.int .i64 t1.kind), (.slice sa1 t1.set.length sc1), (.slice aa1 t1.args.length ac1), (.int .i64 t1.mn), (.int .i64 t1.mx), (.bool t1.neg)]))]) (c := #[(.int .i64 t1.kind), (.slice sa1 t1.set.length sc1), (.slice aa1 t1.args.length ac1), (.int .i64 t1.mn), (.int .i64 t1.mx), (.bool t1.neg)]) (by decide) rfl Try.underlying25 siz27 zer27 (by decide) (by decide) (by kernel_rfl) ?_
                      intro bq wq Nq
                      have Fq := Nq.ge E
                      have Oq_b1 := Nq.lt B1
                      replace B1 := Nq.keep B1
                      replace hS := hS.ext Nq.ext
                      replace ht1 := ReIn.ext Nq.ext t1 ht1
                      replace E := E.ext Nq.ext
                      have Bq := Nq.blk
                      refine WpL_val rfl rfl (by decide) (r_build (ps := [(0, (.int .i64 k)), (2, (.slice (some ⟨bq, 0, none⟩) 1 1))]) (v := (.agg #[(.int .i64 k), (.slice none 0 0), (.slice (some ⟨bq, 0, none⟩) 1 1), (.int .i64 0), (.int .i64 0), (.bool false)])) rfl (by kernel_rfl)) ?_
                      refine s_storeAgg (b := b1) (o := 0) (c' := #[(.int .i64 k), (.slice none 0 0), (.slice (some ⟨bq, 0, none⟩) 1 1), (.int .i64 0), (.int .i64 0), (.bool false)]) rfl rfl (by simp [Value.oneCell']) siz27 rfl B1 (by simp) rfl ?_
                      intro w22 S22
                      replace hS := hS.put S22 (Ne.symm hne1)
                      replace ht1 := ReIn.chg S22.chg (fun x hx hm => by have hx' := hx; have hm' : x = b1 := hm; omega) t1 ht1
                      replace Bq := S22.keep (by omega) Bq
                      replace E := S22.step E (by first | exact Or.inl (by omega) | exact Or.inr rfl | exact Or.inr (by assumption) | exact Or.inr (by simp) | exact Or.inr (by omega) | exact Or.inr (by dsimp only; omega))
                      replace B1 := S22.blk
                      refine WpL_nil ?_
                      refine Wp_ret ?_
                      refine fin_agg Try.results18 (vs := [(.int .i64 k), (.slice none 0 0), (.slice (some ⟨bq, 0, none⟩) 1 1), (.int .i64 0), (.int .i64 0), (.bool false)]) (b := b1) rfl agg27 siz27 rfl (B1.cells rfl) ?_
                      exact ⟨.mk k [] [t1] 0 0 false, _, l5, rfl, gen_mk (by omega) (by omega) (node_one (by omega) t1) (by simp only [allRes]; exact ⟨hg1, trivial⟩), gen_size1 hd1 hs1, ReIn.of (set := []) (SlIn.nil _ _ _ _ _) (by simp) (.inr ⟨bq, 0, by omega, rfl, ResIn.one (Bq.cells rfl) (ReIn.mono (fun b (h : _ ≤ b) => by omega) t1 ht1)⟩), hS, E⟩
end Go.Proofs
namespace Go.Proofs
open Go Go.Eng
set_option maxRecDepth 100000
theorem mkReAll_c (w0 : World) (v : Value) (l : List Int) (hl : IntsAt w0 v l) : Ret Try.prog 7 #[v] w0 fun r w => ∃ t vs, r = .agg vs.toArray ∧ allRe (genP 10) t ∧ t.size ≤ 31 ∧ ReIn (fun b => w0.heap.size ≤ b) w t vs ∧ Ext w0 w := by
  obtain ⟨a, c, rfl⟩ := SlAt.form hl
  simp only [List.length_map] at hl ⊢
  refine Ret_of Try.func7 rfl Try.ntmps7 (Nat.le_of_ble_eq_true rfl) ?_
  have E : Chg none1 w0 w0 := Chg.refl _ _
  refine Wp_seq_region ?_
  refine s_alloc (c := #[(.int .i64 0), (.slice none 0 0), (.slice none 0 0), (.int .i64 0), (.int .i64 0), (.bool false)]) (by decide) zer27 rfl ?_
  intro br wr Nr
  have Fr := Nr.ge E
  replace E := E.ext Nr.ext
  have Br := Nr.blk
  refine WpL_nil ?_
  refine Wp_seq_region ?_
  refine WpL_val rfl rfl (by decide) (r_move (v := (.slice a l.length c)) rfl) ?_
  refine WpL_val rfl rfl (by decide) (r_build (ps := [(0, (.slice a l.length c))]) (v := (.agg #[(.slice a l.length c)])) rfl (by kernel_rfl)) ?_
  refine s_box (v := (.agg #[(.slice a l.length c)])) (c := #[(.slice a l.length c)]) (by decide) rfl rfl ?_
  intro bs ws Ns
  have Fs := Ns.ge E
  have Os_br := Ns.lt Br
  replace Br := Ns.keep Br
  replace E := E.ext Ns.ext
  have Bs := Ns.blk
  have hne : br < bs := by omega
  have hz1 := Br.lt
  have hz2 := E.size
  refine WpL_enter rfl rfl (by decide) (r_callF (vs := [(.pointer (some ⟨bs, 0, none⟩)), (.int .i64 4), (.int .i64 10)]) Try.func18 nm18 bd18 rfl) (gen_c wr bs 10 (by omega) (by have := Ns.eq; omega) 4 (by decide) ws l Ns.ext ⟨a, c, Bs, hl.ext Nr.ext⟩) ?_
  rintro _ w9 ⟨t, us, l', rfl, hg, hs, ht, hS, C9⟩
  replace Br := C9.keep (by omega) Br
  replace E := E.step C9 (by intro x hx hm; omega)
  obtain ⟨sa, sc, aa, ac, rfl, _, _, _⟩ := ht.form
  refine s_storeAgg (b := br) (o := 0) (c' := #[(.int .i64 t.kind), (.slice sa t.set.length sc), (.slice aa t.args.length ac), (.int .i64 t.mn), (.int .i64 t.mx), (.bool t.neg)]) rfl rfl (by simp [Value.oneCell']) siz27 rfl Br (by simp) rfl ?_
  intro w1 S1
  replace ht := ReIn.chg S1.chg (fun x hx hm => by have hx' := hx; have hm' : x = br := hm; omega) t ht
  replace E := S1.step E (by first | exact Or.inl (by omega) | exact Or.inr rfl | exact Or.inr (by assumption) | exact Or.inr (by simp) | exact Or.inr (by omega) | exact Or.inr (by dsimp only; omega))
  replace Br := S1.blk
  refine WpL_nil ?_
  refine Wp_ret ?_
  refine fin_agg Try.results7 (vs := [(.int .i64 t.kind), (.slice sa t.set.length sc), (.slice aa t.args.length ac), (.int .i64 t.mn), (.int .i64 t.mx), (.bool t.neg)]) (b := br) rfl agg27 siz27 rfl (Br.cells rfl) ?_
  exact ⟨t, _, rfl, hg, by omega, ReIn.mono (fun b (h : _ ≤ b) => by omega) t ht, E⟩
def textArr : Array Value := #[.int .i64 97, .int .i64 98, .int .i64 99, .int .i64 97, .int .i64 98, .int .i64 122, .int .i64 0, .int .i64 233, .int .i64 8364, .int .i64 1114111]
theorem text_tab : ∀ i, i < 10 → ∃ r, textArr[i]? = some (.int .i64 r) ∧ runeB r = true := by
  intro i h
  match i, h with
  | 0, _ => exact ⟨97, rfl, by decide⟩
  | 1, _ => exact ⟨98, rfl, by decide⟩
  | 2, _ => exact ⟨99, rfl, by decide⟩
  | 3, _ => exact ⟨97, rfl, by decide⟩
  | 4, _ => exact ⟨98, rfl, by decide⟩
  | 5, _ => exact ⟨122, rfl, by decide⟩
  | 6, _ => exact ⟨0, rfl, by decide⟩
  | 7, _ => exact ⟨233, rfl, by decide⟩
  | 8, _ => exact ⟨8364, rfl, by decide⟩
  | 9, _ => exact ⟨1114111, rfl, by decide⟩
theorem r_min2 {P : Program} {σ : Env} {w : World} {dst : Option Tmp} {ty : TypeId} {pos : String} {af : Array Edge} {g : Option (Nat × Bool)} {tys : Array TypeId} {x y : Operand} {k : IntKind} {a b c : Int} (hx : ev σ x = .int k a) (hy : ev σ y = .int k b) (hc : min a b = c) :
    (execOp (ev σ) ⟨dst, .call ⟨.builtin .min, #[x, y], tys⟩, ty, pos, af, g⟩).run P w = .ok (.value (.int k c)) w := by
  subst hc
  have : (if b < a then b else a) = min a b := by split <;> omega
  simp [execOp, resolve, invoke, builtin, Builtin.min_, Builtin.min2, hx, hy, this]
set_option maxHeartbeats 1000000 in
theorem text_c (w0 : World) (v : Value) (l : List Int) (hl : IntsAt w0 v l) : Ret Try.prog 8 #[v] w0 fun r w => ∃ a c text, r = .slice a text.length c ∧ IntsAt w (.slice a text.length c) text ∧ text.length ≤ 10 ∧ (∀ x ∈ text, runeB x = true) ∧ Ext w0 w := by
  obtain ⟨a, c, rfl⟩ := SlAt.form hl
  have hlen : l.length ≤ 9223372036854775807 := by simpa using SlAt.le hl
  have hcap := SlAt.cap hl
  simp only [List.length_map] at hl hcap ⊢
  obtain ⟨m, hm⟩ : ∃ m, m = min l.length 10 := ⟨_, rfl⟩
  obtain ⟨base, hbase⟩ : ∃ base, base = w0.heap.size := ⟨_, rfl⟩
  refine Ret_of Try.func8 rfl Try.ntmps8 (Nat.le_of_ble_eq_true rfl) ?_
  have E : Chg none1 w0 w0 := Chg.refl _ _
  refine Wp_seq_region ?_
  refine WpL_val rfl rfl (by decide) (r_assign (v := (.slice none 0 0)) rfl) ?_
  refine WpL_nil ?_
  refine Wp_seq_region ?_
  refine WpL_val rfl rfl (by decide) (r_assign (v := (.slice none 0 0)) rfl) ?_
  refine WpL_nil ?_
  refine Wp_seq ?_
  refine Wp_seq_region ?_
  refine WpL_val rfl rfl (by decide) (r_move (v := (.slice a l.length c)) rfl) ?_
  refine WpL_val rfl rfl (by decide) (r_move (v := (.slice a l.length c)) rfl) ?_
  refine WpL_val rfl rfl (by decide) (r_lenSlice (ad := a) (n := l.length) (cap := c) Try.underlying22 rfl) ?_
  refine WpL_val rfl rfl (by decide) (r_min2 (a := ((l.length : Nat) : Int)) (b := 10) (c := ((m : Nat) : Int)) rfl rfl (by omega)) ?_
  obtain ⟨sl, hsl⟩ : ∃ a' : Option Addr, (if c = 0 then a else Option.map (fun q : Addr => q.add (0 * 1)) a) = a' := ⟨_, rfl⟩
  refine WpL_val rfl rfl (by decide) (r_sliceHi (a := a) (len := l.length) (cap := c) (hi := m) (l := ((m : Nat) : Int)) Try.underlying22 siz3 rfl rfl (by omega) (by omega) hsl) ?_
  refine WpL_val rfl rfl (by decide) (r_lenSlice (ad := sl) (n := m) (cap := c) Try.underlying22 rfl) ?_
  refine WpL_val rfl rfl (by decide) (r_move (v := (.int .i64 0)) rfl) ?_
  refine WpL_nil ?_
  refine Wp_block ?_
  have hcut := SlAt.cut (lo := 0) (hi := m) hl (by omega) (by omega) hsl rfl rfl
  simp only [Nat.sub_zero, List.drop_zero] at hcut
  have hcut2 : IntsAt w0 (.slice sl m c) (l.take m) := by unfold IntsAt; rw [List.map_take]; exact hcut
  refine Wp_loop (fun nn_ σ W1 => ∃ (k : Nat) (la : Option Addr) (lc : Nat) (ts : List Int), (∃ jj_, σ = upds jj_ [(10, (.slice sl m c)), (11, (.int .i64 ((m : Nat) : Int))), (12, (.int .i64 ((k : Nat) : Int))), (3, (.slice la k lc))]) ∧ Chg none1 w0 W1 ∧ (k ≤ m) ∧ (W1.ownsRow base 3 1 (.slice la k lc) k (ts.map intV).flatten) ∧ (ts.length = k ∧ ∀ x ∈ ts, runeB x = true) ∧ (base ≤ W1.heap.size) ∧ nn_ = m - k) (n := m - 0) ?_ ?_
  · exact ⟨0, none, 0, [], Fits.out ⟨rfl, rfl, rfl, rfl, trivial⟩, E, Nat.zero_le _, World.ownsRow_nil _ _ _ _, ⟨rfl, by simp⟩, (by omega), rfl⟩
  · clear E
    rintro _ _ W1 ⟨k, la, lc, ts, ⟨j1, rfl⟩, E, hk, hown, hts, hbs, rfl⟩
    refine Wp_seq_region ?_
    refine WpL_val rfl rfl (by decide) (r_lss (k := .i64) (a := ((k : Nat) : Int)) (b := ((m : Nat) : Int)) rfl rfl) ?_
    refine WpL_nil ?_
    refine Wp_seq ?_
    refine Wp_cond (b := decide ((((k : Nat) : Int) : Int) < ((m : Nat) : Int))) rfl (fun hlt => ?_) (fun hlt => ?_)
    · have khlt := hlt
      replace hlt := of_decide_eq_true hlt
      obtain ⟨x, hx⟩ := get_of_lt (l := l.take m) (i := k) (by simp; omega)
      obtain ⟨b, o, rfl, hcl⟩ := ints_cells hcut2 (by omega)
      refine Wp_skip ?_
      refine thn_normal ?_
      refine Wp_seq ?_
      refine Wp_block ?_
      refine Wp_seq_region ?_
      refine WpL_val rfl rfl (by decide) (r_indexSlice (b := b) (o := o) (len := m) (cap := c) (i := k) (o' := o + k) rfl rfl rfl Try.underlying22 siz3 (by omega) (by omega)) ?_
      refine WpL_val rfl rfl (by decide) (r_load (v := (.int .i64 x)) rfl flat3 (E.cell (fun f => f) (hcl k x hx))) ?_
      have hx10 : 0 ≤ x % 10 ∧ x % 10 < 10 := by omega
      refine WpL_val rfl rfl (by decide) (r_assign (v := (.int .i64 x)) rfl) ?_
      refine WpL_nil ?_
      refine Wp_region ?_
      refine WpL_val rfl rfl (by decide) (r_move (v := (.slice la k lc)) rfl) ?_
      refine s_buildSlice (ps := [(0, (.int .i64 97)), (1, (.int .i64 98)), (2, (.int .i64 99)), (3, (.int .i64 97)), (4, (.int .i64 98)), (5, (.int .i64 122)), (6, (.int .i64 0)), (7, (.int .i64 233)), (8, (.int .i64 8364)), (9, (.int .i64 1114111))]) (c := #[(.int .i64 97), (.int .i64 98), (.int .i64 99), (.int .i64 97), (.int .i64 98), (.int .i64 122), (.int .i64 0), (.int .i64 233), (.int .i64 8364), (.int .i64 1114111)]) (by decide) rfl Try.underlying22 siz3 zer3 (by decide) (by decide) (by kernel_rfl) ?_
      intro bq wq Nq
      have Fq := Nq.ge E
      replace hown := own_ext hown Nq.ext
      replace hbs := Nat.le_trans hbs Nq.ext.size
      replace E := E.ext Nq.ext
      have Bq := Nq.blk
      refine WpL_val rfl rfl (by decide) (r_move (v := (.int .i64 x)) rfl) ?_
      refine WpL_enter rfl rfl (by decide) (r_callF (vs := [(.int .i64 x), (.int .i64 10)]) Try.func19 nm19 bd19 rfl) (below_c x 10 (by decide) (by decide) _) ?_
      rintro _ _ ⟨rfl, rfl⟩
      obtain ⟨r, hr, hrb⟩ := text_tab (x % 10).toNat (by omega)
      refine WpL_val rfl rfl (by decide) (r_indexSlice (b := bq) (o := 0) (len := 10) (cap := 10) (i := (x % 10).toNat) (o' := 0 + ((x % 10).toNat)) rfl rfl (by omega) Try.underlying22 siz3 (by omega) (by omega)) ?_
      refine WpL_val rfl rfl (by decide) (r_load (v := (.int .i64 r)) rfl flat3 (Bq.cell (by rw [Nat.zero_add]; exact hr))) ?_
      refine s_buildSlice (ps := [(0, (.int .i64 r))]) (c := #[(.int .i64 r)]) (by decide) rfl Try.underlying22 siz3 zer3 (by decide) (by decide) (by kernel_rfl) ?_
      intro b3 w3 N3
      have F3 := N3.ge E
      have O3_bq := N3.lt Bq
      replace Bq := N3.keep Bq
      replace hown := own_ext hown N3.ext
      replace hbs := Nat.le_trans hbs N3.ext.size
      replace E := E.ext N3.ext
      have B3 := N3.blk
      refine s_append (base := base) (n := k) (m := 1) (xs := (ts.map intV).flatten) (news := [(.int .i64 r)]) (size := 1) (bytes := 8) (v := (.slice la k lc)) (by decide) Try.underlying22 siz3 byt3 zer3 rfl (by decide) rfl hown rfl (rfl) (B3.cells rfl) (by simp [Value.oneCell']) (by unfold maxLen; omega) (by omega) (hbs) ?_
      intro v9 w29 Ov9 Cv9 Dv9
      replace E := E.step Cv9 (fun x hx h => absurd (hown.lt x h).1 (by omega))
      obtain ⟨la2, lc2, rfl⟩ := own_form Ov9
      refine WpL_val rfl rfl (by decide) (r_assign (v := (.slice la2 (k + 1) lc2)) rfl) ?_
      refine WpL_nil ?_
      refine inB_normal ?_
      refine thn_normal ?_
      refine Wp_region ?_
      refine WpL_val rfl rfl (by decide) (r_add (k := .i64) (a := ((k : Nat) : Int)) (b := 1) (c := ((k : Nat) : Int) + 1) rfl rfl (wI64 (by omega))) ?_
      refine WpL_val rfl rfl (by decide) (r_move (v := (.int .i64 (((k : Nat) : Int) + 1))) rfl) ?_
      refine WpL_nil ?_
      refine thn_normal ?_
      exact ⟨m - (k + 1), by omega, k + 1, la2, lc2, ts ++ [r], Fits.out ⟨rfl, rfl, rfl, rfl, trivial⟩, E, (by omega), (by simpa [intV] using Ov9), ⟨by simp [hts.1], by intro y hy; simp at hy; rcases hy with h | h; exact hts.2 y h; subst h; exact hrb⟩, Nat.le_trans hbs Cv9.size, rfl⟩
    · have khlt := hlt
      replace hlt := of_decide_eq_false hlt
      obtain ⟨rfl, htr⟩ := hts
      refine Wp_exit ?_
      refine thn_exit ?_
      refine thn_exit ?_
      refine inB_here ?_
      refine thn_normal ?_
      refine Wp_seq_region ?_
      refine WpL_val rfl rfl (by decide) (r_move (v := (.slice la ts.length lc)) rfl) ?_
      refine WpL_val rfl rfl (by decide) (r_assign (v := (.slice la ts.length lc)) rfl) ?_
      refine WpL_nil ?_
      refine Wp_ret ?_
      refine fin_tmp Try.results8 (v := (.slice la ts.length lc)) rfl ?_
      exact ⟨la, lc, ts, rfl, own_slat hown (by intro r hr; simp only [List.mem_map] at hr; obtain ⟨p, _, rfl⟩ := hr; rfl) (by simp) (by decide), by omega, htr, E⟩
end Go.Proofs
namespace Go.Proofs
open Go Go.Eng
set_option maxRecDepth 100000
mutual
def usesB (ks : List Int) : Re → Bool
  | .mk k _ args _ _ _ => ks.contains k || usesBs ks args
def usesBs (ks : List Int) : List Re → Bool
  | [] => false
  | t :: ts => usesB ks t || usesBs ks ts
end
def useF (ks : List Int) : Unit → Re → Bool × Unit := fun _ t => (!ks.contains t.kind, ())
mutual
theorem walk_use (ks : List Int) : ∀ (t : Re), (walkF (useF ks) t ()).1 = !usesB ks t
  | .mk k set args mn mx ng => by
    have h := walks_use ks args
    rw [walkF_eq]
    split
    · rename_i hk
      have hk : ks.contains k = false := by simpa only [useF, Re.kind, Bool.not_eq_true'] using hk
      show (walkFs (useF ks) args ()).1 = _
      rw [h]
      simp only [usesB, hk, Bool.false_or]
    · rename_i hk
      have hk : ks.contains k = true := by
        cases hc : ks.contains k with
        | true => rfl
        | false => exact absurd (show (useF ks () (.mk k set args mn mx ng)).1 = true by simp only [useF, Re.kind, hc, Bool.not_false]) hk
      simp only [usesB, hk, Bool.true_or, Bool.not_true]
theorem walks_use (ks : List Int) : ∀ (ts : List Re), (walkFs (useF ks) ts ()).1 = !usesBs ks ts
  | [] => rfl
  | t :: ts => by
    have h1 := walk_use ks t
    have h := walks_use ks ts
    rw [walkFs_cons]
    split
    · rename_i hk
      rw [hk] at h1
      have hu : usesB ks t = false := by simpa using h1.symm
      show (walkFs (useF ks) ts ()).1 = _
      rw [h]
      simp only [usesBs, hu, Bool.false_or]
    · rename_i hk
      have hu : usesB ks t = true := by
        cases hc : usesB ks t with
        | true => rfl
        | false => rw [hc] at h1; exact absurd h1 hk
      simp only [usesBs, hu, Bool.true_or, Bool.not_true]
end
theorem uses1_c (w0 : World) (t : Re) (vs : List Value) (ks : List Int) (v : Value) (b : Nat) (ht : ReAt w0 t vs) (hB : Blk w0 b #[v] 22) (hks : IntsAt w0 v ks) :
    Ret Try.prog 47 #[.agg vs.toArray, .pointer (some ⟨b, 0, none⟩)] w0 fun r w => r = .bool (!ks.contains t.kind) ∧ Ext w0 w := by
  obtain ⟨sa, sc, aa, ac, rfl, _, _, _⟩ := ht.form
  refine Ret_of Try.func47 rfl Try.ntmps47 (Nat.le_of_ble_eq_true rfl) ?_
  have E : Chg none1 w0 w0 := Chg.refl _ _
  refine Wp_seq_region ?_
  refine s_box (v := (.agg #[(.int .i64 t.kind), (.slice sa t.set.length sc), (.slice aa t.args.length ac), (.int .i64 t.mn), (.int .i64 t.mx), (.bool t.neg)])) (c := #[(.int .i64 t.kind), (.slice sa t.set.length sc), (.slice aa t.args.length ac), (.int .i64 t.mn), (.int .i64 t.mx), (.bool t.neg)]) (by decide) rfl rfl ?_
  intro b1 w1 N1
  have F1 := N1.ge E
  have O1_b := N1.lt hB
  replace hB := N1.keep hB
  replace E := E.ext N1.ext
  have B1 := N1.blk
  refine WpL_val rfl rfl (by decide) (r_assign (v := (.bool false)) rfl) ?_
  refine WpL_nil ?_
  refine Wp_seq_region ?_
  refine WpL_val rfl rfl (by decide) (r_load (v := v) rfl flat22 (hB.cell rfl)) ?_
  refine WpL_val rfl rfl (by decide) (r_fieldAddr (b := b1) (o := 0) (o' := 0) rfl Try.underlying27 rfl siz3 rfl) ?_
  refine WpL_val rfl rfl (by decide) (r_load (v := (.int .i64 t.kind)) rfl flat3 (B1.cell rfl)) ?_
  refine WpL_enter rfl rfl (by decide) (r_callF (vs := [v, (.int .i64 t.kind)]) Try.func48 nm48 bd48 rfl) (hasi_c _ v t.kind ks (hks.ext E)) ?_
  rintro _ w9 ⟨rfl, X9⟩
  replace hB := X9.keep hB
  replace B1 := X9.keep B1
  replace E := E.ext X9
  refine WpL_val rfl rfl (by decide) (r_not (b := ks.contains t.kind) rfl) ?_
  refine WpL_val rfl rfl (by decide) (r_assign (v := (.bool (!(ks.contains t.kind)))) rfl) ?_
  refine WpL_nil ?_
  refine Wp_ret ?_
  refine fin_tmp Try.results47 (v := (.bool (!(ks.contains t.kind)))) rfl ?_
  exact ⟨rfl, E⟩
set_option maxHeartbeats 1000000 in
theorem uses_c (w0 : World) (t : Re) (vs : List Value) (ks : List Int) (v : Value) (ht : ReAt w0 t vs) (hks : IntsAt w0 v ks) :
    Ret Try.prog 30 #[.agg vs.toArray, v] w0 fun r w => r = .bool (usesB ks t) ∧ Ext w0 w := by
  have ht0 := ht
  obtain ⟨sa, sc, aa, ac, rfl, _, _, _⟩ := ht.form
  obtain ⟨ka, kc, rfl⟩ := SlAt.form hks
  simp only [List.length_map] at hks ⊢
  refine Ret_of Try.func30 rfl Try.ntmps30 (Nat.le_of_ble_eq_true rfl) ?_
  have E : Chg none1 w0 w0 := Chg.refl _ _
  refine Wp_seq_region ?_
  refine s_box (v := (.agg #[(.int .i64 t.kind), (.slice sa t.set.length sc), (.slice aa t.args.length ac), (.int .i64 t.mn), (.int .i64 t.mx), (.bool t.neg)])) (c := #[(.int .i64 t.kind), (.slice sa t.set.length sc), (.slice aa t.args.length ac), (.int .i64 t.mn), (.int .i64 t.mx), (.bool t.neg)]) (by decide) rfl rfl ?_
  intro br wr Nr
  have Fr := Nr.ge E
  replace E := E.ext Nr.ext
  have Br := Nr.blk
  refine s_box (v := (.slice ka ks.length kc)) (c := #[(.slice ka ks.length kc)]) (by decide) rfl rfl ?_
  intro bp wp Np
  have Fp := Np.ge E
  have Op_br := Np.lt Br
  replace Br := Np.keep Br
  replace E := E.ext Np.ext
  have Bp := Np.blk
  refine WpL_val rfl rfl (by decide) (r_assign (v := (.bool false)) rfl) ?_
  refine WpL_nil ?_
  refine Wp_seq_region ?_
  refine WpL_val rfl rfl (by decide) (r_loadAgg (vs := [(.int .i64 t.kind), (.slice sa t.set.length sc), (.slice aa t.args.length ac), (.int .i64 t.mn), (.int .i64 t.mx), (.bool t.neg)]) rfl agg27 siz27 rfl (Br.cells rfl)) ?_
  refine WpL_val rfl rfl (by decide) (r_makeFunc (vs := []) (us := [(.pointer (some ⟨bp, 0, none⟩))]) rfl rfl) ?_
  have hf : ∀ (s : Unit) (w : World) (t : Re) (vs : List Value), bp + 1 ≤ w.heap.size → Ext wp w → Blk w bp #[.slice ka ks.length kc] 22 → ReAt wp t vs → CallV Try.prog (.func (.func 47) #[] #[.pointer (some ⟨bp, 0, none⟩)]) #[.agg vs.toArray] w fun r w' => r = .bool (useF ks s t).1 ∧ Chg none1 w w' ∧ Blk w' bp #[.slice ka ks.length kc] 22 := fun s w t vs _ hE hI ht => CallV.mk (first := #[]) (cap := #[.pointer (some ⟨bp, 0, none⟩)]) Try.func47 nm47 bd47 rfl ((uses1_c w t vs ks (.slice ka ks.length kc) bp (ReAt.ext hE t ht) hI ((hks.ext E).ext hE)).mono fun r w' h => ⟨h.1, h.2, Ext.keep h.2 hI⟩)
  refine WpL_enter rfl rfl (by decide) (r_callF (vs := [(.agg #[(.int .i64 t.kind), (.slice sa t.set.length sc), (.slice aa t.args.length ac), (.int .i64 t.mn), (.int .i64 t.mx), (.bool t.neg)]), (.func (.func 47) #[] #[(.pointer (some ⟨bp, 0, none⟩))])]) Try.func46 nm46 bd46 rfl) ((walk_c (useF ks) (fun _ w => Blk w bp #[.slice ka ks.length kc] 22) none1 (bp + 1) _ wp (fun b hb => hb.elim) (fun s w w' hI e => e.keep hI) hf t.size t (Nat.le_refl _) () _ _ (by have := Bp.lt; omega) (Ext.refl _) Bp (ReAt.ext E t ht0)).mono (R' := fun r w => r = .bool (walkF (useF ks) t ()).1 ∧ Ext wp w) (fun r w h => ⟨h.1, h.2.1⟩)) ?_
  rintro _ w9 ⟨rfl, X9⟩
  replace Br := X9.keep Br
  replace Bp := X9.keep Bp
  replace E := E.ext X9
  refine WpL_val rfl rfl (by decide) (r_not (b := (walkF (useF ks) t ()).1) rfl) ?_
  refine WpL_val rfl rfl (by decide) (r_assign (v := (.bool (!((walkF (useF ks) t ()).1)))) rfl) ?_
  refine WpL_nil ?_
  refine Wp_ret ?_
  refine fin_tmp Try.results30 (v := (.bool (!((walkF (useF ks) t ()).1)))) rfl ?_
  exact ⟨bool_eq (by rw [walk_use]; simp), E⟩
end Go.Proofs
namespace Go.Proofs
open Go Go.Eng Go.Sort
set_option maxRecDepth 100000
structure NodeI (t : Re) : Prop where
  k : 0 ≤ t.kind ∧ t.kind ≤ 10
  two : t.kind = 3 ∨ t.kind = 4 ∨ t.kind = 7 → 2 ≤ t.args.length
  one : t.kind = 5 ∨ t.kind = 6 ∨ t.kind = 8 ∨ t.kind = 9 ∨ t.kind = 10 → t.args.length = 1
  rep : t.kind = 6 → 0 ≤ t.mn ∧ t.mn ≤ t.mx ∧ t.mx ≤ 8
  grp : t.kind = 9 → 0 ≤ t.mn ∧ t.mn ≤ 9
  sett : t.kind = 2 → t.set ≠ []
theorem node_inv {t : Re} (h : nodeE t = 0) : NodeI t := by
  unfold nodeE at h
  split at h
  · cases h
  rename_i h1
  split at h
  · cases h
  rename_i h2
  have h3 : formB t = true := by simpa using h2
  unfold formB at h3
  simp only [Bool.and_eq_true] at h3
  have h4 := h3.1.1.1.1
  unfold okB at h4
  refine ⟨by omega, fun hk => ?_, fun hk => ?_, fun hk => ?_, fun hk => ?_, fun hk => ?_⟩
  · rw [if_pos hk] at h4
    have := of_decide_eq_true h4; omega
  · rw [if_neg (by omega), if_pos hk] at h4
    have := of_decide_eq_true h4; omega
  · rw [if_neg (by omega), if_pos hk] at h
    split at h
    · cases h
    · omega
  · rw [if_neg (by omega), if_neg (by omega), if_pos hk] at h
    split at h
    · cases h
    · omega
  · rw [if_pos hk] at h
    intro e
    rw [e] at h
    simp [checkE, checkL] at h
def lenK (k : Int) (n sum : Nat) (mn mx : Int) : Nat := if k = 1 then 0 else if k = 3 then sum else if k = 4 then sum + 2 * (n - 1) else if k = 5 then sum + 4 else if k = 6 then mn.toNat * sum + (mx - mn).toNat * (sum + 3) else if k = 9 then sum + 2 else if k = 10 then sum + 2 else 1
mutual
def lenQ : Re → Nat
  | .mk k _ args mn mx _ => min (lenK k args.length (lenQs args) mn mx) 1048576
def lenQs : List Re → Nat
  | [] => 0
  | t :: ts => lenQ t + lenQs ts
end
theorem lenQ_eq (t : Re) : lenQ t = min (lenK t.kind t.args.length (lenQs t.args) t.mn t.mx) 1048576 := by cases t; rfl
theorem lenQ_le (t : Re) : lenQ t ≤ 1048576 := by rw [lenQ_eq]; exact Nat.min_le_right _ _
theorem lenQs_le : ∀ ts : List Re, lenQs ts ≤ ts.length * 1048576
  | [] => Nat.zero_le _
  | t :: ts => by
    rw [List.length_cons, Nat.succ_mul, Nat.add_comm]
    exact Nat.add_le_add (lenQ_le t) (lenQs_le ts)
theorem lenQs_take {ts : List Re} {j : Nat} {y : Re} (h : ts[j]? = some y) : lenQs (ts.take (j + 1)) = lenQs (ts.take j) + lenQ y := by
  have app : ∀ a b : List Re, lenQs (a ++ b) = lenQs a + lenQs b := fun a b => by
    induction a with
    | nil => simp [lenQs]
    | cons x a ih => simp only [List.cons_append, lenQs, ih]; omega
  rw [List.take_add_one, h, Option.toList_some, app]
  simp [lenQs]
theorem lenQs_takele (ts : List Re) (j : Nat) : lenQs (ts.take j) ≤ ts.length * 1048576 := by
  have h1 := lenQs_le (ts.take j)
  have h2 : (ts.take j).length ≤ ts.length := by simp; omega
  exact Nat.le_trans h1 (Nat.mul_le_mul_right 1048576 h2)
set_option maxHeartbeats 1000000 in
theorem length_c (wb : World) : ∀ (m : Nat) (t : Re), t.size ≤ m → okRe t → t.size ≤ 40 → ∀ (w0 : World) (vs : List Value), ReAt wb t vs → Ext wb w0 →
    Ret Try.prog 32 #[.agg vs.toArray] w0 fun r w => r = iV (lenQ t) ∧ Ext w0 w
  | 0, t, hs, _, _ => by have := t.size_pos; omega
  | m + 1, t, hs, hok, h40 => by
    intro w0 vs hx hE
    obtain ⟨sa, sc, aa, ac, rfl, hset, hal, hargs⟩ := hx.form
    have hN := node_inv (okRe_node hok)
    have hml : t.args.length ≤ 40 := by have := sizes_ge t.args; have := t.size_eq; omega
    obtain ⟨n, hn⟩ : ∃ n, n = t.args.length := ⟨_, rfl⟩
    rw [← hn] at hal ⊢
    refine Ret_of Try.func32 rfl Try.ntmps32 (Nat.le_of_ble_eq_true rfl) ?_
    have E : Chg none1 w0 w0 := Chg.refl _ _
    refine Wp_seq_region ?_
    refine s_box (v := (.agg #[(.int .i64 t.kind), (.slice sa t.set.length sc), (.slice aa n ac), (.int .i64 t.mn), (.int .i64 t.mx), (.bool t.neg)])) (c := #[(.int .i64 t.kind), (.slice sa t.set.length sc), (.slice aa n ac), (.int .i64 t.mn), (.int .i64 t.mx), (.bool t.neg)]) (by decide) rfl rfl ?_
    intro bx wx Nx
    have Fx := Nx.ge E
    replace E := E.ext Nx.ext
    have Bx := Nx.blk
    refine WpL_val rfl rfl (by decide) (r_assign (v := (.int .i64 0)) rfl) ?_
    refine WpL_nil ?_
    refine Wp_seq_region ?_
    refine WpL_val rfl rfl (by decide) (r_assign (v := (.int .i64 0)) rfl) ?_
    refine WpL_nil ?_
    refine Wp_seq ?_
    refine Wp_seq_region ?_
    refine WpL_val rfl rfl (by decide) (r_fieldAddr (b := bx) (o := 0) (o' := 2) rfl Try.underlying27 rfl siz25 rfl) ?_
    refine WpL_val rfl rfl (by decide) (r_load (v := (.slice aa n ac)) rfl flat25 (Bx.cell rfl)) ?_
    refine WpL_val rfl rfl (by decide) (r_lenSlice (ad := aa) (n := n) (cap := ac) Try.underlying25 rfl) ?_
    refine WpL_val rfl rfl (by decide) (r_move (v := (.int .i64 0)) rfl) ?_
    refine WpL_nil ?_
    refine Wp_block ?_
    refine Wp_loop (fun nn_ σ W1 => ∃ (j : Nat), (∃ jj_, σ = upds jj_ [(1, (.pointer (some ⟨bx, 0, none⟩))), (8, (.slice aa n ac)), (9, (.int .i64 ((n : Nat) : Int))), (10, (.int .i64 ((j : Nat) : Int))), (3, (.int .i64 ((lenQs (t.args.take j) : Nat) : Int)))]) ∧ Chg none1 w0 W1 ∧ Blk W1 bx #[(.int .i64 t.kind), (.slice sa t.set.length sc), (.slice aa n ac), (.int .i64 t.mn), (.int .i64 t.mx), (.bool t.neg)] 27 ∧ (j ≤ n) ∧ nn_ = n - j) (n := n - 0) ?_ ?_
    · exact ⟨0, Fits.out ⟨rfl, rfl, rfl, rfl, rfl, trivial⟩, E, Bx, Nat.zero_le _, rfl⟩
    · clear E Bx
      rintro _ _ W1 ⟨j, ⟨j1, rfl⟩, E, Bx, hj, rfl⟩
      refine Wp_seq_region ?_
      refine WpL_val rfl rfl (by decide) (r_lss (k := .i64) (a := ((j : Nat) : Int)) (b := ((n : Nat) : Int)) rfl rfl) ?_
      refine WpL_nil ?_
      refine Wp_seq ?_
      refine Wp_cond (b := decide ((((j : Nat) : Int) : Int) < ((n : Nat) : Int))) rfl (fun hlt => ?_) (fun hlt => ?_)
      · have khlt := hlt
        replace hlt := of_decide_eq_true hlt
        obtain ⟨y, hy⟩ := get_of_lt (l := t.args) (i := j) (by omega)
        obtain ⟨b, o, rfl, hres⟩ := res_block hargs (lt_of_get hy)
        obtain ⟨us, hus, hyt⟩ := hres.get hy
        have hsz := Re.size_arg hy
        have h1 := Nat.le_trans (lenQs_takele t.args j) (Nat.mul_le_mul_right 1048576 hml)
        have h2 := lenQ_le y
        have hst := lenQs_take hy
        refine Wp_skip ?_
        refine thn_normal ?_
        refine Wp_seq ?_
        refine Wp_block ?_
        refine Wp_seq_region ?_
        refine WpL_val rfl rfl (by decide) (r_indexSlice (b := b) (o := o) (len := n) (cap := ac) (i := j) (o' := o + j * 6) rfl rfl rfl Try.underlying25 siz27 (by omega) (by omega)) ?_
        refine WpL_val rfl rfl (by decide) (r_loadAgg (vs := us) rfl agg27 siz27 hyt.len (hus.ext (hE.trans E))) ?_
        refine s_allocStore (v := (.agg us.toArray)) (c := us.toArray) (n := 6) (by decide) zer27 rfl siz27 rfl rfl (by simpa using hyt.len) (by simpa using ReAt.one hyt) ?_
        intro bu wu Nu
        have Fu := Nu.ge E
        have Ou_bx := Nu.lt Bx
        replace Bx := Nu.keep Bx
        replace E := E.ext Nu.ext
        have Bu := Nu.blk
        refine WpL_nil ?_
        refine Wp_region ?_
        refine WpL_val rfl rfl (by decide) (r_move (v := (.int .i64 ((lenQs (t.args.take j) : Nat) : Int))) rfl) ?_
        refine WpL_val rfl rfl (by decide) (r_loadAgg (vs := us) rfl agg27 siz27 hyt.len (Bu.cells (by simp))) ?_
        refine WpL_enter rfl rfl (by decide) (r_callF (vs := [(.agg us.toArray)]) Try.func32 nm32 bd32 rfl) (length_c wb m y (by omega) (okRes_get (okRe_args hok) hy) (by omega) _ us hyt (hE.trans E)) ?_
        rintro _ w19 ⟨rfl, X19⟩
        replace Bx := X19.keep Bx
        replace Bu := X19.keep Bu
        replace E := E.ext X19
        refine WpL_val rfl rfl (by decide) (r_add (k := .i64) (a := ((lenQs (t.args.take j) : Nat) : Int)) (b := ((lenQ y : Nat) : Int)) (c := ((lenQs (t.args.take (j + 1)) : Nat) : Int)) rfl rfl ((wI64 (by omega)).trans (by omega))) ?_
        refine WpL_val rfl rfl (by decide) (r_assign (v := (.int .i64 ((lenQs (t.args.take (j + 1)) : Nat) : Int))) rfl) ?_
        refine WpL_nil ?_
        refine inB_normal ?_
        refine thn_normal ?_
        refine Wp_region ?_
        refine WpL_val rfl rfl (by decide) (r_add (k := .i64) (a := ((j : Nat) : Int)) (b := 1) (c := ((j : Nat) : Int) + 1) rfl rfl (wI64 (by omega))) ?_
        refine WpL_val rfl rfl (by decide) (r_move (v := (.int .i64 (((j : Nat) : Int) + 1))) rfl) ?_
        refine WpL_nil ?_
        refine thn_normal ?_
        exact ⟨n - (j + 1), by omega, j + 1, Fits.out ⟨rfl, rfl, rfl, rfl, rfl, trivial⟩, E, Bx, (by omega), rfl⟩
      · have khlt := hlt
        replace hlt := of_decide_eq_false hlt
        have hjl : j = n := by omega
        rw [hjl, hn, List.take_length]
        have h1 := Nat.le_trans (lenQs_le t.args) (Nat.mul_le_mul_right 1048576 hml)
        obtain ⟨sm, hsm⟩ : ∃ s, s = lenQs t.args := ⟨_, rfl⟩
        rw [← hsm] at h1 ⊢
        refine Wp_exit ?_
        refine thn_exit ?_
        refine thn_exit ?_
        refine inB_here ?_
        refine thn_normal ?_
        refine Wp_seq_region ?_
        refine WpL_val rfl rfl (by decide) (r_assign (v := (.int .i64 1)) rfl) ?_
        refine WpL_nil ?_
        refine Wp_cut (fun σ W3 => ∃ (u : Nat), (∃ jj_, σ = upds jj_ [(6, (.int .i64 ((u : Nat) : Int)))]) ∧ Chg none1 w0 W3 ∧ Blk W3 bx #[(.int .i64 t.kind), (.slice sa t.set.length sc), (.slice aa n ac), (.int .i64 t.mn), (.int .i64 t.mx), (.bool t.neg)] 27 ∧ (u = lenK t.kind n sm t.mn t.mx) ∧ (u ≤ 1000000000)) ?_ ?_
        · skip
          refine Wp_seq_region ?_
          refine WpL_val rfl rfl (by decide) (r_fieldAddr (b := bx) (o := 0) (o' := 0) rfl Try.underlying27 rfl siz3 rfl) ?_
          refine WpL_val rfl rfl (by decide) (r_load (v := (.int .i64 t.kind)) rfl flat3 (Bx.cell rfl)) ?_
          refine WpL_nil ?_
          refine Wp_block ?_
          refine Wp_seq_region ?_
          refine WpL_val rfl rfl (by decide) (r_eql (k := .i64) (a := t.kind) (b := 1) rfl rfl) ?_
          refine WpL_val rfl rfl (by decide) (r_assign (v := (.bool (decide ((t.kind : Int) = 1)))) rfl) ?_
          refine WpL_nil ?_
          refine Wp_cond (b := decide ((t.kind : Int) = 1)) rfl (fun k1 => ?_) (fun k1 => ?_)
          · have kk1 := k1
            replace k1 := of_decide_eq_true k1
            refine Wp_region ?_
            refine WpL_val rfl rfl (by decide) (r_assign (v := (.int .i64 0)) rfl) ?_
            refine WpL_nil ?_
            refine inB_normal ?_
            refine thn_normal ?_
            exact ⟨0, Fits.out ⟨rfl, trivial⟩, E, Bx, (by unfold lenK; rw [if_pos k1]), (by omega)⟩
          · have kk1 := k1
            replace k1 := of_decide_eq_false k1
            refine Wp_seq_region ?_
            refine WpL_val rfl rfl (by decide) (r_eql (k := .i64) (a := t.kind) (b := 3) rfl rfl) ?_
            refine WpL_val rfl rfl (by decide) (r_assign (v := (.bool (decide ((t.kind : Int) = 3)))) rfl) ?_
            refine WpL_nil ?_
            refine Wp_cond (b := decide ((t.kind : Int) = 3)) rfl (fun k3 => ?_) (fun k3 => ?_)
            · have kk3 := k3
              replace k3 := of_decide_eq_true k3
              refine Wp_region ?_
              refine WpL_val rfl rfl (by decide) (r_move (v := (.int .i64 ((sm : Nat) : Int))) rfl) ?_
              refine WpL_val rfl rfl (by decide) (r_assign (v := (.int .i64 ((sm : Nat) : Int))) rfl) ?_
              refine WpL_nil ?_
              refine inB_normal ?_
              refine thn_normal ?_
              exact ⟨sm, Fits.out ⟨rfl, trivial⟩, E, Bx, (by unfold lenK; rw [if_neg k1, if_pos k3]), (by omega)⟩
            · have kk3 := k3
              replace k3 := of_decide_eq_false k3
              refine Wp_seq_region ?_
              refine WpL_val rfl rfl (by decide) (r_eql (k := .i64) (a := t.kind) (b := 4) rfl rfl) ?_
              refine WpL_val rfl rfl (by decide) (r_assign (v := (.bool (decide ((t.kind : Int) = 4)))) rfl) ?_
              refine WpL_nil ?_
              refine Wp_cond (b := decide ((t.kind : Int) = 4)) rfl (fun k4 => ?_) (fun k4 => ?_)
              · have kk4 := k4
                replace k4 := of_decide_eq_true k4
                have h2n := hN.two (.inr (.inl k4))
                refine Wp_region ?_
                refine WpL_val rfl rfl (by decide) (r_move (v := (.int .i64 ((sm : Nat) : Int))) rfl) ?_
                refine WpL_val rfl rfl (by decide) (r_fieldAddr (b := bx) (o := 0) (o' := 2) rfl Try.underlying27 rfl siz25 rfl) ?_
                refine WpL_val rfl rfl (by decide) (r_load (v := (.slice aa n ac)) rfl flat25 (Bx.cell rfl)) ?_
                refine WpL_val rfl rfl (by decide) (r_lenSlice (ad := aa) (n := n) (cap := ac) Try.underlying25 rfl) ?_
                refine WpL_val rfl rfl (by decide) (r_sub (k := .i64) (a := ((n : Nat) : Int)) (b := 1) (c := ((n - 1 : Nat) : Int)) rfl rfl ((wI64 (by omega)).trans (by omega))) ?_
                refine WpL_val rfl rfl (by decide) (r_mul (k := .i64) (a := 2) (b := ((n - 1 : Nat) : Int)) (c := ((2 * (n - 1) : Nat) : Int)) rfl rfl ((wI64 (by omega)).trans (by omega))) ?_
                refine WpL_val rfl rfl (by decide) (r_add (k := .i64) (a := ((sm : Nat) : Int)) (b := ((2 * (n - 1) : Nat) : Int)) (c := ((sm + 2 * (n - 1) : Nat) : Int)) rfl rfl ((wI64 (by omega)).trans (by omega))) ?_
                refine WpL_val rfl rfl (by decide) (r_assign (v := (.int .i64 ((sm + 2 * (n - 1) : Nat) : Int))) rfl) ?_
                refine WpL_nil ?_
                refine inB_normal ?_
                refine thn_normal ?_
                exact ⟨sm + 2 * (n - 1), Fits.out ⟨rfl, trivial⟩, E, Bx, (by unfold lenK; rw [if_neg k1, if_neg k3, if_pos k4]), (by omega)⟩
              · have kk4 := k4
                replace k4 := of_decide_eq_false k4
                refine Wp_seq_region ?_
                refine WpL_val rfl rfl (by decide) (r_eql (k := .i64) (a := t.kind) (b := 5) rfl rfl) ?_
                refine WpL_val rfl rfl (by decide) (r_assign (v := (.bool (decide ((t.kind : Int) = 5)))) rfl) ?_
                refine WpL_nil ?_
                refine Wp_cond (b := decide ((t.kind : Int) = 5)) rfl (fun k5 => ?_) (fun k5 => ?_)
                · have kk5 := k5
                  replace k5 := of_decide_eq_true k5
                  refine Wp_region ?_
                  refine WpL_val rfl rfl (by decide) (r_move (v := (.int .i64 ((sm : Nat) : Int))) rfl) ?_
                  refine WpL_val rfl rfl (by decide) (r_add (k := .i64) (a := ((sm : Nat) : Int)) (b := 4) (c := ((sm + 4 : Nat) : Int)) rfl rfl ((wI64 (by omega)).trans (by omega))) ?_
                  refine WpL_val rfl rfl (by decide) (r_assign (v := (.int .i64 ((sm + 4 : Nat) : Int))) rfl) ?_
                  refine WpL_nil ?_
                  refine inB_normal ?_
                  refine thn_normal ?_
                  exact ⟨sm + 4, Fits.out ⟨rfl, trivial⟩, E, Bx, (by unfold lenK; rw [if_neg k1, if_neg k3, if_neg k4, if_pos k5]), (by omega)⟩
                · have kk5 := k5
                  replace k5 := of_decide_eq_false k5
                  refine Wp_seq_region ?_
                  refine WpL_val rfl rfl (by decide) (r_eql (k := .i64) (a := t.kind) (b := 6) rfl rfl) ?_
                  refine WpL_val rfl rfl (by decide) (r_assign (v := (.bool (decide ((t.kind : Int) = 6)))) rfl) ?_
                  refine WpL_nil ?_
                  refine Wp_cond (b := decide ((t.kind : Int) = 6)) rfl (fun k6 => ?_) (fun k6 => ?_)
                  · have kk6 := k6
                    replace k6 := of_decide_eq_true k6
                    obtain ⟨r1, r2, r3⟩ := hN.rep k6
                    obtain ⟨a, ha⟩ := Int.eq_ofNat_of_zero_le r1
                    obtain ⟨c, hc⟩ := Int.eq_ofNat_of_zero_le (show 0 ≤ t.mx - t.mn by omega)
                    have hp1 : t.mn * (sm : Int) = ((a * sm : Nat) : Int) := by rw [ha]; push_cast; rfl
                    have hp2 : ((c : Nat) : Int) * ((sm + 3 : Nat) : Int) = ((c * (sm + 3) : Nat) : Int) := by push_cast; rfl
                    have hb1 : a * sm ≤ 8 * 50000000 := Nat.mul_le_mul (by omega) (by omega)
                    have hb2 : c * (sm + 3) ≤ 8 * 50000000 := Nat.mul_le_mul (by omega) (by omega)
                    have hs3 : t.mn.toNat * sm + (t.mx - t.mn).toNat * (sm + 3) = a * sm + c * (sm + 3) := by rw [show t.mn.toNat = a by omega, show (t.mx - t.mn).toNat = c by omega]
                    refine Wp_region ?_
                    refine WpL_val rfl rfl (by decide) (r_fieldAddr (b := bx) (o := 0) (o' := 3) rfl Try.underlying27 rfl siz3 rfl) ?_
                    refine WpL_val rfl rfl (by decide) (r_load (v := (.int .i64 t.mn)) rfl flat3 (Bx.cell rfl)) ?_
                    refine WpL_val rfl rfl (by decide) (r_move (v := (.int .i64 ((sm : Nat) : Int))) rfl) ?_
                    refine WpL_val rfl rfl (by decide) (r_mul (k := .i64) (a := t.mn) (b := ((sm : Nat) : Int)) (c := ((a * sm : Nat) : Int)) rfl rfl ((wI64 (by omega)).trans hp1)) ?_
                    refine WpL_val rfl rfl (by decide) (r_fieldAddr (b := bx) (o := 0) (o' := 4) rfl Try.underlying27 rfl siz3 rfl) ?_
                    refine WpL_val rfl rfl (by decide) (r_load (v := (.int .i64 t.mx)) rfl flat3 (Bx.cell rfl)) ?_
                    refine WpL_val rfl rfl (by decide) (r_fieldAddr (b := bx) (o := 0) (o' := 3) rfl Try.underlying27 rfl siz3 rfl) ?_
                    refine WpL_val rfl rfl (by decide) (r_load (v := (.int .i64 t.mn)) rfl flat3 (Bx.cell rfl)) ?_
                    refine WpL_val rfl rfl (by decide) (r_sub (k := .i64) (a := t.mx) (b := t.mn) (c := ((c : Nat) : Int)) rfl rfl ((wI64 (by omega)).trans (by omega))) ?_
                    refine WpL_val rfl rfl (by decide) (r_move (v := (.int .i64 ((sm : Nat) : Int))) rfl) ?_
                    refine WpL_val rfl rfl (by decide) (r_add (k := .i64) (a := ((sm : Nat) : Int)) (b := 3) (c := ((sm + 3 : Nat) : Int)) rfl rfl ((wI64 (by omega)).trans (by omega))) ?_
                    refine WpL_val rfl rfl (by decide) (r_mul (k := .i64) (a := ((c : Nat) : Int)) (b := ((sm + 3 : Nat) : Int)) (c := ((c * (sm + 3) : Nat) : Int)) rfl rfl ((wI64 (by omega)).trans hp2)) ?_
                    refine WpL_val rfl rfl (by decide) (r_add (k := .i64) (a := ((a * sm : Nat) : Int)) (b := ((c * (sm + 3) : Nat) : Int)) (c := ((a * sm + c * (sm + 3) : Nat) : Int)) rfl rfl ((wI64 (by omega)).trans (by omega))) ?_
                    refine WpL_val rfl rfl (by decide) (r_assign (v := (.int .i64 ((a * sm + c * (sm + 3) : Nat) : Int))) rfl) ?_
                    refine WpL_nil ?_
                    refine inB_normal ?_
                    refine thn_normal ?_
                    exact ⟨a * sm + c * (sm + 3), Fits.out ⟨rfl, trivial⟩, E, Bx, (by unfold lenK; rw [if_neg k1, if_neg k3, if_neg k4, if_neg k5, if_pos k6, hs3]), (by omega)⟩
                  · have kk6 := k6
                    replace k6 := of_decide_eq_false k6
                    refine Wp_seq ?_
                    refine Wp_seq_region ?_
                    refine WpL_val rfl rfl (by decide) (r_eql (k := .i64) (a := t.kind) (b := 9) rfl rfl) ?_
                    refine WpL_val rfl rfl (by decide) (r_assign (v := (.bool (decide ((t.kind : Int) = 9)))) rfl) ?_
                    refine WpL_nil ?_
                    refine Wp_cond (b := decide ((t.kind : Int) = 9)) rfl (fun k9 => ?_) (fun k9 => ?_)
                    · have kk9 := k9
                      replace k9 := of_decide_eq_true k9
                      refine Wp_skip ?_
                      refine thn_normal ?_
                      refine Wp_cond_true (congrArg Value.bool kk9) ?_
                      refine Wp_region ?_
                      refine WpL_val rfl rfl (by decide) (r_move (v := (.int .i64 ((sm : Nat) : Int))) rfl) ?_
                      refine WpL_val rfl rfl (by decide) (r_add (k := .i64) (a := ((sm : Nat) : Int)) (b := 2) (c := ((sm + 2 : Nat) : Int)) rfl rfl ((wI64 (by omega)).trans (by omega))) ?_
                      refine WpL_val rfl rfl (by decide) (r_assign (v := (.int .i64 ((sm + 2 : Nat) : Int))) rfl) ?_
                      refine WpL_nil ?_
                      refine inB_normal ?_
                      refine thn_normal ?_
                      exact ⟨sm + 2, Fits.out ⟨rfl, trivial⟩, E, Bx, (by unfold lenK; rw [if_neg k1, if_neg k3, if_neg k4, if_neg k5, if_neg k6, if_pos k9]), (by omega)⟩
                    · have kk9 := k9
                      replace k9 := of_decide_eq_false k9
                      refine Wp_region ?_
                      refine WpL_val rfl rfl (by decide) (r_eql (k := .i64) (a := t.kind) (b := 10) rfl rfl) ?_
                      refine WpL_val rfl rfl (by decide) (r_assign (v := (.bool (decide ((t.kind : Int) = 10)))) rfl) ?_
                      refine WpL_nil ?_
                      refine thn_normal ?_
                      refine Wp_cond (b := decide ((t.kind : Int) = 10)) rfl (fun k10 => ?_) (fun k10 => ?_)
                      · have kk10 := k10
                        replace k10 := of_decide_eq_true k10
                        refine Wp_region ?_
                        refine WpL_val rfl rfl (by decide) (r_move (v := (.int .i64 ((sm : Nat) : Int))) rfl) ?_
                        refine WpL_val rfl rfl (by decide) (r_add (k := .i64) (a := ((sm : Nat) : Int)) (b := 2) (c := ((sm + 2 : Nat) : Int)) rfl rfl ((wI64 (by omega)).trans (by omega))) ?_
                        refine WpL_val rfl rfl (by decide) (r_assign (v := (.int .i64 ((sm + 2 : Nat) : Int))) rfl) ?_
                        refine WpL_nil ?_
                        refine inB_normal ?_
                        refine thn_normal ?_
                        exact ⟨sm + 2, Fits.out ⟨rfl, trivial⟩, E, Bx, (by unfold lenK; rw [if_neg k1, if_neg k3, if_neg k4, if_neg k5, if_neg k6, if_neg k9, if_pos k10]), (by omega)⟩
                      · have kk10 := k10
                        replace k10 := of_decide_eq_false k10
                        refine Wp_skip ?_
                        refine inB_normal ?_
                        refine thn_normal ?_
                        exact ⟨1, Fits.out ⟨rfl, trivial⟩, E, Bx, (by unfold lenK; rw [if_neg k1, if_neg k3, if_neg k4, if_neg k5, if_neg k6, if_neg k9, if_neg k10]), (by omega)⟩
        · clear E Bx
          rintro _ W3 ⟨u, ⟨j3, rfl⟩, E, Bx, hu, hu2⟩
          refine Wp_seq_region ?_
          refine WpL_val rfl rfl (by decide) (r_move (v := (.int .i64 ((u : Nat) : Int))) rfl) ?_
          refine WpL_val rfl rfl (by decide) (r_minI (k := .i64) (a := ((u : Nat) : Int)) (b := 1048576) (c := ((min u 1048576 : Nat) : Int)) rfl rfl (by omega)) ?_
          refine WpL_val rfl rfl (by decide) (r_assign (v := (.int .i64 ((min u 1048576 : Nat) : Int))) rfl) ?_
          refine WpL_nil ?_
          refine Wp_ret ?_
          refine fin_tmp Try.results32 (v := (.int .i64 ((min u 1048576 : Nat) : Int))) rfl ?_
          exact ⟨by rw [lenQ_eq, ← hn, ← hsm, ← hu], E⟩
def FLen (f : Frg) (q : Nat) : Prop := ∀ a d t, (f a d t).1.length ≤ q ∧ (f a d t).2 ≤ t + q
theorem FLen.mono {f : Frg} {q q' : Nat} (h : FLen f q) (hq : q ≤ q') : FLen f q' := fun a d t => ⟨Nat.le_trans (h a d t).1 hq, Nat.le_trans (h a d t).2 (by omega)⟩
theorem seqF_len : ∀ (args : List Re), (∀ y ∈ args, FLen (frgOf y) (lenQ y)) → FLen (seqF (args.map frgOf)) (lenQs args)
  | [], _, a, d, t => by simp [seqF, lenQs]
  | y :: args, h, a, d, t => by
    have h1 := h y (by simp) a d t
    have h2 := seqF_len args (fun z hz => h z (by simp [hz])) (a + (frgOf y a d t).1.length) d (frgOf y a d t).2
    simp only [List.map_cons, seqF, lenQs, List.length_append]
    omega
theorem seqR_len {f : Frg} {q : Nat} (h : FLen f q) : ∀ n, FLen (seqF (List.replicate n f)) (n * q)
  | 0, a, d, t => by simp [seqF]
  | n + 1, a, d, t => by
    have h1 := h a d t
    have h2 := seqR_len h n (a + (f a d t).1.length) d (f a d t).2
    simp only [List.replicate_succ, seqF, List.length_append, Nat.succ_mul]
    omega
theorem itF_len2 {f : Frg} {q : Nat} (e : Nat) (h : FLen f q) : ∀ n, FLen (itF e f n) (n * (q + 3))
  | 0, a, d, t => by simp [itF]
  | n + 1, a, d, t => by
    have h1 := h (a + 2) (d + 1) t
    have h2 := itF_len2 e h n (a + 2 + (f (a + 2) (d + 1) t).1.length + 1) d (f (a + 2) (d + 1) t).2
    simp only [itF, List.length_append, List.length_cons, Nat.succ_mul]
    omega
theorem altF_len2 (e : Nat) : ∀ (args : List Re), (∀ y ∈ args, FLen (frgOf y) (lenQ y)) → FLen (altF e (args.map frgOf)) (lenQs args + 2 * (args.length - 1))
  | [], _, a, d, t => by simp [altF]
  | [y], h, a, d, t => by
    have h1 := h y (by simp) a d t
    simp only [List.map_cons, List.map_nil, altF, lenQs, List.length_cons, List.length_nil]
    omega
  | y :: z :: args, h, a, d, t => by
    have h1 := h y (by simp) (a + 1) d t
    have h2 := altF_len2 e (z :: args) (fun x hx => h x (by simp only [List.mem_cons] at hx ⊢; exact .inr hx)) (a + 1 + (frgOf y (a + 1) d t).1.length + 1) d (frgOf y (a + 1) d t).2
    simp only [List.map_cons] at h2
    simp only [List.map_cons, altF, lenQs, List.length_cons, List.length_append] at h2 ⊢
    omega
theorem lenQs_mem : ∀ {ts : List Re} {y : Re}, y ∈ ts → lenQ y ≤ lenQs ts
  | t :: ts, y, h => by
    simp only [lenQs]
    rcases List.mem_cons.1 h with rfl | h
    · omega
    · have := lenQs_mem h; omega
theorem one_arg {args : List Re} (h : args.length = 1) : ∃ y, args = [y] := by
  match args, h with
  | [y], _ => exact ⟨y, rfl⟩
theorem okRes_mem {ts : List Re} (h : okRes ts) : ∀ y ∈ ts, okRe y := fun y hy => by
  obtain ⟨i, hi⟩ := List.getElem?_of_mem hy
  exact okRes_get h hi
theorem usesBs_mem {ks : List Int} : ∀ {ts : List Re}, usesBs ks ts = false → ∀ y ∈ ts, usesB ks y = false
  | t :: ts, h, y, hy => by
    simp only [usesBs, Bool.or_eq_false_iff] at h
    rcases List.mem_cons.1 hy with rfl | hy
    · exact h.1
    · exact usesBs_mem h.2 y hy
/-- What can be translated, kind by kind. -/
theorem kinds_of {k : Int} {set : List (Int × Int)} {args : List Re} {mn mx : Int} {ng : Bool} (hok : okRe (.mk k set args mn mx ng)) (hu : usesB [7, 8] (.mk k set args mn mx ng) = false) :
    k = 0 ∨ k = 1 ∨ k = 2 ∨ k = 3 ∨ (k = 4 ∧ 2 ≤ args.length) ∨ (k = 5 ∧ ∃ y, args = [y]) ∨ (k = 6 ∧ (∃ y, args = [y]) ∧ ∃ k1 k2 : Nat, mn = k1 ∧ mx = ((k1 + k2 : Nat) : Int) ∧ k1 + k2 ≤ 8) ∨ (k = 9 ∧ (∃ y, args = [y]) ∧ ∃ q : Nat, mn = q ∧ q ≤ 9) ∨ (k = 10 ∧ ∃ y, args = [y]) := by
  have hN := node_inv (okRe_node hok)
  simp only [usesB, Bool.or_eq_false_iff] at hu
  have h7 : k ≠ 7 ∧ k ≠ 8 := by
    have := hu.1
    simp at this
    exact this
  have hk := hN.k
  have h2 := hN.two
  have h1 := hN.one
  have h6 := hN.rep
  have h9 := hN.grp
  simp only [Re.kind, Re.args, Re.mn, Re.mx] at hk h2 h1 h6 h9
  by_cases e4 : k = 4
  · exact .inr (.inr (.inr (.inr (.inl ⟨e4, h2 (.inr (.inl e4))⟩))))
  by_cases e5 : k = 5
  · exact .inr (.inr (.inr (.inr (.inr (.inl ⟨e5, one_arg (h1 (.inl e5))⟩)))))
  by_cases e6 : k = 6
  · obtain ⟨a, b, c⟩ := h6 e6
    exact .inr (.inr (.inr (.inr (.inr (.inr (.inl ⟨e6, one_arg (h1 (.inr (.inl e6))), mn.toNat, (mx - mn).toNat, by omega, by omega, by omega⟩))))))
  by_cases e9 : k = 9
  · obtain ⟨a, b⟩ := h9 e9
    exact .inr (.inr (.inr (.inr (.inr (.inr (.inr (.inl ⟨e9, one_arg (h1 (.inr (.inr (.inr (.inl e9))))), mn.toNat, by omega, by omega⟩)))))))
  by_cases e10 : k = 10
  · exact .inr (.inr (.inr (.inr (.inr (.inr (.inr (.inr ⟨e10, one_arg (h1 (.inr (.inr (.inr (.inr e10)))))⟩)))))))
  omega
theorem lenQ_lt {k : Int} {set : List (Int × Int)} {args : List Re} {mn mx : Int} {ng : Bool} (h : lenQ (.mk k set args mn mx ng) < 400) : lenQ (.mk k set args mn mx ng) = lenK k args.length (lenQs args) mn mx := by
  simp only [lenQ] at h ⊢
  omega
theorem frg_len : ∀ (m : Nat) (t : Re), t.size ≤ m → okRe t → usesB [7, 8] t = false → lenQ t < 400 → FLen (frgOf t) (lenQ t)
  | 0, t, hs, _, _, _ => by have := t.size_pos; omega
  | m + 1, .mk k set args mn mx ng, hs, hok, hu, hl => by
    have ih : ∀ y ∈ args, lenQ y < 400 → FLen (frgOf y) (lenQ y) := fun y hy hly => by
      refine frg_len m y ?_ (okRes_mem (okRe_args hok) y hy) (usesBs_mem (by simp only [usesB, Bool.or_eq_false_iff] at hu; exact hu.2) y hy) hly
      obtain ⟨i, hi⟩ := List.getElem?_of_mem hy
      have := Re.size_arg (t := .mk k set args mn mx ng) hi
      omega
    have hq := lenQ_lt hl
    have hmem : ∀ y ∈ args, lenQ y ≤ lenQs args := fun y hy => lenQs_mem hy
    rcases kinds_of hok hu with rfl | rfl | rfl | rfl | ⟨rfl, h2⟩ | ⟨rfl, y, rfl⟩ | ⟨rfl, ⟨y, rfl⟩, k1, k2, rfl, rfl, h8⟩ | ⟨rfl, ⟨y, rfl⟩, q, rfl, h9⟩ | ⟨rfl, y, rfl⟩
    · intro a d t
      rw [frg_0, hq]
      simp [lenK]
    · intro a d t
      rw [frg_1]
      simp
    · intro a d t
      rw [frg_2, hq]
      simp [lenK]
    · have e : lenK 3 args.length (lenQs args) mn mx = lenQs args := by simp [lenK]
      rw [e] at hq
      intro a d t
      rw [frg_3, hq]
      exact seqF_len args (fun y hy => ih y hy (by have := hmem y hy; omega)) a d t
    · have e : lenK 4 args.length (lenQs args) mn mx = lenQs args + 2 * (args.length - 1) := by simp [lenK]
      rw [e] at hq
      intro a d t
      rw [frg_4, hq]
      exact altF_len2 _ args (fun y hy => ih y hy (by have := hmem y hy; omega)) a d t
    · have e : lenK 5 [y].length (lenQs [y]) mn mx = lenQ y + 4 := by simp [lenK, lenQs]
      rw [e] at hq
      intro a d t
      rw [frg_5, hq]
      have := ih y (by simp) (by omega) (a + 2) (d + 1) t
      simp only [List.length_cons, List.length_append, List.length_nil]
      omega
    · have e : lenK 6 [y].length (lenQs [y]) (k1 : Int) ((k1 + k2 : Nat) : Int) = k1 * lenQ y + k2 * (lenQ y + 3) := by
        simp only [lenK, lenQs, Nat.add_zero, Int.toNat_natCast]
        rw [show (((k1 + k2 : Nat) : Int) - (k1 : Int)).toNat = k2 by omega]
        rfl
      rw [e] at hq
      intro a d t
      rw [frg_6, hq]
      by_cases h0 : k1 + k2 = 0
      · obtain ⟨rfl, rfl⟩ : k1 = 0 ∧ k2 = 0 := by omega
        simp [seqF, itF]
      · have hyl : lenQ y < 400 := by
          rcases Nat.eq_zero_or_pos k1 with h | h
          · have := Nat.mul_le_mul_right (lenQ y + 3) (show 1 ≤ k2 by omega); omega
          · have := Nat.mul_le_mul_right (lenQ y) h; omega
        have hy := ih y (by simp) hyl
        have h3 := seqR_len hy k1 a d t
        have h4 := itF_len2 (a + (seqF (List.replicate k1 (frgOf y)) a d t).1.length + (itF 0 (frgOf y) k2 (a + (seqF (List.replicate k1 (frgOf y)) a d t).1.length) d (seqF (List.replicate k1 (frgOf y)) a d t).2).1.length) hy k2 (a + (seqF (List.replicate k1 (frgOf y)) a d t).1.length) d (seqF (List.replicate k1 (frgOf y)) a d t).2
        simp only [List.length_append]
        omega
    · have e : lenK 9 [y].length (lenQs [y]) (q : Int) mx = lenQ y + 2 := by simp [lenK, lenQs]
      rw [e] at hq
      intro a d t
      rw [frg_9, hq]
      have := ih y (by simp) (by omega) (a + 1) d (t + 1)
      simp only [List.length_cons, List.length_append, List.length_nil]
      omega
    · have e : lenK 10 [y].length (lenQs [y]) mn mx = lenQ y + 2 := by simp [lenK, lenQs]
      rw [e] at hq
      intro a d t
      rw [frg_10, hq]
      simp
theorem of_all (wb : World) : ∀ (m : Nat) (t : Re), t.size ≤ m → okRe t → usesB [7, 8] t = false → lenQ t < 400 → t.size ≤ 40 → OfC wb t
  | 0, t, hs, _, _, _, _ => by have := t.size_pos; omega
  | m + 1, .mk k set args mn mx ng, hs, hok, hu, hl, h40 => by
    have hsy : ∀ y ∈ args, y.size < (Re.mk k set args mn mx ng).size := fun y hy => by
      obtain ⟨i, hi⟩ := List.getElem?_of_mem hy
      exact Re.size_arg (t := .mk k set args mn mx ng) hi
    have huy : ∀ y ∈ args, usesB [7, 8] y = false := usesBs_mem (by simp only [usesB, Bool.or_eq_false_iff] at hu; exact hu.2)
    have hoy := okRes_mem (okRe_args hok)
    have ih : ∀ y ∈ args, lenQ y < 400 → OfC wb y := fun y hy hly => of_all wb m y (by have := hsy y hy; omega) (hoy y hy) (huy y hy) hly (by have := hsy y hy; omega)
    have hq := lenQ_lt hl
    have hmem : ∀ y ∈ args, lenQ y ≤ lenQs args := fun y hy => lenQs_mem hy
    rcases kinds_of hok hu with rfl | rfl | rfl | rfl | ⟨rfl, h2⟩ | ⟨rfl, y, rfl⟩ | ⟨rfl, ⟨y, rfl⟩, k1, k2, rfl, rfl, h8⟩ | ⟨rfl, ⟨y, rfl⟩, q, rfl, h9⟩ | ⟨rfl, y, rfl⟩
    · exact of_0 wb set args mn mx ng
    · exact of_1 wb set args mn mx ng
    · exact of_2 wb set args mn mx ng
    · have e : lenK 3 args.length (lenQs args) mn mx = lenQs args := by simp [lenK]
      rw [e] at hq
      exact of_3 wb set args mn mx ng fun y hy => ih y hy (by have := hmem y hy; omega)
    · have e : lenK 4 args.length (lenQs args) mn mx = lenQs args + 2 * (args.length - 1) := by simp [lenK]
      rw [e] at hq
      have hne : args ≠ [] := by intro h; rw [h] at h2; simp at h2
      have hsp := List.dropLast_concat_getLast hne
      rw [← hsp]
      exact of_4 wb set args.dropLast (args.getLast hne) mn mx ng fun y hy => by
        rw [hsp] at hy
        exact ih y hy (by have := hmem y hy; omega)
    · have e : lenK 5 [y].length (lenQs [y]) mn mx = lenQ y + 4 := by simp [lenK, lenQs]
      rw [e] at hq
      exact of_5 wb set y [] mn mx ng (ih y (by simp) (by omega))
    · have e : lenK 6 [y].length (lenQs [y]) (k1 : Int) ((k1 + k2 : Nat) : Int) = k1 * lenQ y + k2 * (lenQ y + 3) := by
        simp only [lenK, lenQs, Nat.add_zero, Int.toNat_natCast]
        rw [show (((k1 + k2 : Nat) : Int) - (k1 : Int)).toNat = k2 by omega]
        rfl
      rw [e] at hq
      refine of_6 wb set y [] k1 k2 ng (by omega) fun h0 => ih y (by simp) ?_
      rcases Nat.eq_zero_or_pos k1 with h | h
      · have := Nat.mul_le_mul_right (lenQ y + 3) (show 1 ≤ k2 by omega); omega
      · have := Nat.mul_le_mul_right (lenQ y) h; omega
    · have e : lenK 9 [y].length (lenQs [y]) (q : Int) mx = lenQ y + 2 := by simp [lenK, lenQs]
      rw [e] at hq
      exact of_9 wb set y [] q mx ng (ih y (by simp) (by omega))
    · have e : lenK 10 [y].length (lenQs [y]) mn mx = lenQ y + 2 := by simp [lenK, lenQs]
      rw [e] at hq
      have hy1 : y ∈ [y] := List.mem_singleton.2 rfl
      have hfl := frg_len y.size y (Nat.le_refl _) (hoy y hy1) (huy y hy1) (by omega) 0 0 0
      refine of_10 wb set y [] mn mx ng (ih y hy1 (by omega)) (by omega) ?_ ?_
      · unfold tempsOf; omega
      · have := hsy y hy1; omega
end Go.Proofs
namespace Go.Eng
open Go
theorem keyOfEq3 {P : Program} {kt : TypeId} {κ : Type} [DecidableEq κ] {ek : κ → Value} (hwide : (match P.underlying kt with | some (.array _ _) | some (.struct _) => true | _ => false) = true)
    (hchk : ∀ (b : Bool) (w : World) (k : κ), (Instr.checkKey b 10000 kt (ek k)).run P w = .ok () w) (heq : ∀ (w : World) (a b : κ), (Op.equal kt (ek a) (ek b)).run P w = .ok (decide (a = b)) w) (hsame : ∀ k, Instr.sameBits 10000 (ek k) (ek k) = true) : KeyOk P kt ek where
  check := hchk
  same := hsame
  find := fun ν w k es eV L hL => by
    have key : ∀ (L : List MapEntry) (es : List (κ × ν)) (i : Nat), L.map (fun e => (e.key, e.val)) = es.map (fun p => (ek p.1, eV p.2)) → (Instr.findAsking kt (ek k) L i).run P w = .ok (findM eV es k i) w := by
      intro L
      induction L with
      | nil =>
        intro es i h
        cases es with
        | nil => rfl
        | cons _ _ => simp at h
      | cons e L ih =>
        intro es i h
        cases es with
        | nil => simp at h
        | cons p es =>
          simp only [List.map_cons, List.cons.injEq, Prod.mk.injEq] at h
          obtain ⟨⟨h1, h2⟩, h3⟩ := h
          unfold Instr.findAsking findM
          simp only [Sem.run_bind, h1, heq, Result.andThen_ok]
          by_cases hk : p.1 = k
          · rw [if_pos hk, hk]; simp [h2]
          · rw [if_neg hk, show decide (k = p.1) = false by simpa using fun h => hk h.symm]
            exact ih es (i + 1) h3
    rw [run_findKey_eq w hwide]
    exact key L es 0 hL
abbrev Spt := Nat × Nat × Nat
def kSp (s : Spt) : Value := .agg #[.int .i64 ((s.1 : Nat) : Int), .int .i64 ((s.2.1 : Nat) : Int), .int .i64 ((s.2.2 : Nat) : Int)]
theorem same_sp (k : Spt) : Instr.sameBits 10000 (kSp k) (kSp k) = true := by
  show Instr.sameBits (9999 + 1) (.agg _) (.agg _) = true
  simp [Instr.sameBits]
theorem eqStr3 {P : Program} {t e : TypeId} {n1 n2 n3 p1 p2 p3 g1 g2 g3 : String} {m1 m2 m3 : Bool} {o1 o2 o3 : Nat} (hu : P.underlying t = some (.struct #[⟨n1, e, 0, m1, p1, g1, o1⟩, ⟨n2, e, 1, m2, p2, g2, o2⟩, ⟨n3, e, 2, m3, p3, g3, o3⟩])) (hs : P.stoodInHeld t = false) (he : P.underlying e = some (.int .i64)) (h1 : n1 ≠ "_") (h2 : n2 ≠ "_") (h3 : n3 ≠ "_") (w : World) (a b : Spt) :
    (Op.equal t (kSp a) (kSp b)).run P w = .ok (decide (a = b)) w := by
  have hp : P.plainKey e = true := by simp [Program.plainKey, he]
  have hf : P.fieldsOf t = #[⟨n1, e, 0, m1, p1, g1, o1⟩, ⟨n2, e, 1, m2, p2, g2, o2⟩, ⟨n3, e, 2, m3, p3, g3, o3⟩] := by simp [Program.fieldsOf, hu]
  have hq : ∀ (d : Nat) (x y : Int), (Op.equalIn (d + 1) e (.int .i64 x) (.int .i64 y)).run P w = .ok (x == y) w := fun d x y => by
    simp [Op.equalIn, run_underlying he]
  show (Op.equalIn (9999 + 1) t (.agg _) (.agg _)).run P w = _
  rw [run_equalIn_struct w 9999 t _ _ (by rw [hf]; exact hu) hs, hf]
  obtain ⟨a1, a2, a3⟩ := a
  obtain ⟨b1, b2, b3⟩ := b
  have q0 : ∀ (x y z : Int), (part e #[.int .i64 x, .int .i64 y, .int .i64 z] 0).run P w = .ok (.int .i64 x) w := fun x y z => run_part_plain w hp rfl
  have q1 : ∀ (x y z : Int), (part e #[.int .i64 x, .int .i64 y, .int .i64 z] 1).run P w = .ok (.int .i64 y) w := fun x y z => run_part_plain w hp rfl
  have q2 : ∀ (x y z : Int), (part e #[.int .i64 x, .int .i64 y, .int .i64 z] 2).run P w = .ok (.int .i64 z) w := fun x y z => run_part_plain w hp rfl
  have b' : ∀ x y : Nat, (((x : Nat) : Int) == ((y : Nat) : Int)) = decide (x = y) := fun x y => by rw [Bool.eq_iff_iff]; simp; omega
  simp only [Op.eqFields, h1, h2, h3, ne_eq, not_false_eq_true, if_true, Sem.run_bind, q0, q1, q2, Result.andThen_ok, hq 9998, b', Prod.mk.injEq]
  by_cases e1 : a1 = b1
  · by_cases e2 : a2 = b2
    · by_cases e3 : a3 = b3 <;> simp [e1, e2, e3, q1, q2, hq 9998, b']
    · simp [e1, e2, q1, q2, hq 9998, b']
  · simp [e1]
end Go.Eng
namespace Go.Proofs
open Go Go.Eng Go.Sort
set_option maxRecDepth 100000
abbrev TSpt : Nat := 77
theorem chk_sp (b : Bool) (w : World) (k : Spt) : (Instr.checkKey b 10000 TSpt (kSp k)).run Try.prog w = .ok () w := by kernel_rfl
theorem key77 : KeyOk Try.prog TSpt kSp := keyOfEq3 (by rw [Try.underlying77]) chk_sp (fun w a b => eqStr3 Try.underlying77 (by kernel_rfl) Try.underlying3 (by decide) (by decide) (by decide) w a b) same_sp
end Go.Proofs
