/- Contracts and plain lemmas, part 3. -/
import Derived.Tactics
import Derived.Deep.Quiet
import Derived.Laws.AppendOwn
import Derived.KernelRfl
import Derived.Laws.Entries
import Derived.Laws.Build
import Derived.Below
import Derived.RowKit3
import Derived.StillTail
import Derived.Sort.Grow
import Derived.Deep.Draws
import Derived.Test.YtgifkdbbgffemaaChecked
import Derived.Laws.StructEq
import Derived.MapKept
import Derived.Laws.BytesArg
import Derived.DeepKeys3
import Derived.OpenShut
import Derived.ChangeSlices
import Derived.Test.YtgifkdbbgffemaaRows
import Derived.Test.YtgifkdbbgffemaaCl2
namespace Go.Proofs
open Go Go.Eng Go.Sort
set_option maxRecDepth 100000
theorem frg_5 {set : List (Int × Int)} {y : Re} {args : List Re} {mn mx : Int} {ng : Bool} (a d t : Nat) : frgOf (.mk 5 set (y :: args) mn mx ng) a d t = (.split (a + 1) (a + 2 + (frgOf y (a + 2) (d + 1) t).1.length + 2) :: .ent (d + 1) :: ((frgOf y (a + 2) (d + 1) t).1 ++ [.chk (d + 1), .jump a]), (frgOf y (a + 2) (d + 1) t).2) := by simp [frgOf, frgK, frgsOf_eq, starF]
theorem get_mid {α : Type} {l r : List α} {x : α} {n : Nat} (h : l.length = n) : (l ++ x :: r)[n]? = some x := by
 rw [List.getElem?_append_right (by omega), h, Nat.sub_self]; rfl
theorem set_mid {α : Type} {l r : List α} {x y : α} {n : Nat} (h : l.length = n) : (l ++ x :: r).set n y = l ++ y :: r := by
 rw [List.set_append_right _ _ (by omega), h, Nat.sub_self]; rfl
theorem PSt2.form' {F : Nat → Prop} {w : World} {base pb n m : Nat} {v : Value} {code : List Ins} {t d : Nat} (h : PSt2 F w base pb v n code t d) (hm : n = m) : ∃ a c, v = .slice a m c := by
 subst hm
 exact h.form
theorem PSt2.block {F : Nat → Prop} {w : World} {base pb n : Nat} {a : Option Addr} {c m : Nat} {code : List Ins} {t d : Nat} (h : PSt2 F w base pb (.slice a m c) n code t d) (hn : 0 < n) : ∃ g cur, a = some ⟨g, 0, none⟩ ∧ Blk w g cur TCd ∧ n * 8 ≤ cur.size ∧ base ≤ g ∧ ¬ F g := by
 obtain ⟨rows, h1, _⟩ := h.rows
 obtain ⟨va, vc, e⟩ := own_form h1
 cases e
 have hlt := h1.lt
 obtain ⟨g, rfl, _, _⟩ := own_cells h1 hn
 obtain ⟨cur, h2, h3⟩ := own_blkG h1
 exact ⟨g, cur, rfl, h2, h3, (hlt g rfl).1, h.ho g rfl⟩
theorem split_row {F : Nat → Prop} {w : World} {code : List Ins} {n x z : Nat} (hc : code[n]? = some (.split x 0)) : ∀ row0 pb0 ins0, code[n]? = some ins0 → RowF F w pb0 ins0 row0 → row0.set 2 (iV z) = row8 1 x z 0 0 nilS nilP false := by
 intro row0 pb0 ins0 h1 h2
 rw [hc] at h1
 cases h1
 simp only [RowF] at h2
 subst h2
 rfl
theorem jump_row {F : Nat → Prop} {w : World} {code : List Ins} {n z : Nat} (hc : code[n]? = some (.jump 0)) : ∀ row0 pb0 ins0, code[n]? = some ins0 → RowF F w pb0 ins0 row0 → row0.set 1 (iV z) = row8 2 z 0 0 0 nilS nilP false := by
 intro row0 pb0 ins0 h1 h2
 rw [hc] at h1
 cases h1
 simp only [RowF] at h2
 subst h2
 rfl
set_option maxHeartbeats 1000000 in
theorem of_5 (wb : World) (set : List (Int × Int)) (y : Re) (args : List Re) (mn mx : Int) (ng : Bool) (hih : OfC wb y) : OfC wb (.mk 5 set (y :: args) mn mx ng) := by
 intro base pb F w0 v n code t d vs hx hE hF hP hn ht hd
 simp only [ReAt] at hx
 obtain ⟨sa, sc, aa, ac, rfl, hset, hal, hargs⟩ := hx
 rw [frg_5] at hn ht ⊢
 have hlen := hP.len
 simp only [Re.size, Re.sizes] at hd
 obtain ⟨⟨cb, tb⟩, hr⟩ : ∃ r, frgOf y (n + 2) (d + 1) t = r := ⟨_, rfl⟩
 rw [hr] at hn ht ⊢
 simp only [List.length_cons, List.length_append, List.length_nil] at hn ht hal ⊢
 obtain ⟨b, o, rfl, hres⟩ := res_block (i := 0) hargs (by simp)
 obtain ⟨us, hus, hyt⟩ := hres.get (i := 0) (t := y) rfl
 obtain ⟨m, hm⟩ : ∃ m, m = args.length + 1 := ⟨_, rfl⟩
 have hm1 : 1 ≤ m := by omega
 rw [← hm] at hal ⊢
 refine Ret_of Try.func41 rfl Try.ntmps41 (Nat.le_of_ble_eq_true rfl) ?_
 have E : Chg (fun _ => True) w0 w0 := Chg.refl _ _
 refine Wp_seq_region ?_
 refine s_box (v := (.agg #[(I6 5), (.slice sa set.length sc), (.slice (some ⟨b, o, none⟩) m ac), (I6 mn), (I6 mx), (.bool ng)])) (c := #[(I6 5), (.slice sa set.length sc), (.slice (some ⟨b, o, none⟩) m ac), (I6 mn), (I6 mx), (.bool ng)]) (by decide) rfl rfl ?_
 intro bx wx Nx
 have Fx := Nx.ge E
 replace E := E.ext Nx.ext
 have Bx := Nx.blk
 refine WpL_nil (Wp_seq_region ?_)
 refine qF bx 0 0 rfl Try.underlying27 rfl siz3 rfl ?_
 refine qV (r_load (v := (I6 5)) rfl flat3 (Bx.cell rfl)) ?_
 refine WpL_nil (Wp_block (Wp_seq_region ?_))
 refine qV (r_eql (k := .i64) (a := 5) (b := 0) rfl rfl) ?_
 refine qA (.bool false) rfl ?_
 refine WpL_nil ?_
 refine Wp_cond_false rfl ?_
 refine Wp_seq_region ?_
 refine qV (r_eql (k := .i64) (a := 5) (b := 2) rfl rfl) ?_
 refine qA (.bool false) rfl ?_
 refine WpL_nil ?_
 refine Wp_cond_false rfl ?_
 refine Wp_seq_region ?_
 refine qV (r_eql (k := .i64) (a := 5) (b := 3) rfl rfl) ?_
 refine qA (.bool false) rfl ?_
 refine WpL_nil ?_
 refine Wp_cond_false rfl ?_
 refine Wp_seq_region ?_
 refine qV (r_eql (k := .i64) (a := 5) (b := 4) rfl rfl) ?_
 refine qA (.bool false) rfl ?_
 refine WpL_nil ?_
 refine Wp_cond_false rfl ?_
 refine Wp_seq_region ?_
 refine qV (r_eql (k := .i64) (a := 5) (b := 5) rfl rfl) ?_
 refine qA (.bool true) rfl ?_
 refine WpL_nil ?_
 refine Wp_cond_true rfl ?_
 refine Wp_seq_region ?_
 refine qM (P6 pb 0) rfl ?_
 refine qF bx 0 2 rfl Try.underlying27 rfl siz25 rfl ?_
 refine qV (r_load (v := (.slice (some ⟨b, o, none⟩) m ac)) rfl flat25 (Bx.cell rfl)) ?_
 refine qV (r_indexSlice (b := b) (o := o) (len := m) (cap := ac) (i := 0) (o' := o + 0 * 6) rfl rfl rfl Try.underlying25 siz27 (by omega) (by omega)) ?_
 refine qV (r_loadAgg (vs := us) rfl agg27 siz27 hyt.len ((by simpa using hus : CellsAt wb b (o + 0 * 6) us).ext (hE.trans Nx.ext))) ?_
 have G1 := (GrX.start hP).frz Nx.ext (b := bx) (by rw [Nx.eq]; exact Nat.le_refl _) Bx.lt
 refine WpL_enter rfl rfl (by decide) (r_callF (vs := [(P6 pb 0), (.agg us.toArray)]) Try.func61 nm61 bd61 rfl) (iteration_c wb base pb _ _ v n code t d us y hih hyt (hE.trans Nx.ext) (fun q hq => .inl (hF q hq)) (hlen ▸ G1.st) (frgOf_mono y) (by rw [hr]; dsimp only; omega) (by rw [hr]; exact ht) (by omega)) ?_
 rintro _ w19 ⟨rfl, F2, v2, G2⟩
 replace Bx := G2.chg.keep (G1.st.kept (.inr rfl)) Bx
 replace E := E.step G2.chg (fun _ _ _ => trivial)
 rw [hr] at G2
 dsimp only at G2
 have k2 : F2 bx := G2.sub _ (.inr rfl)
 replace G2 := G1.comp G2
 have hl2 : (code ++ (Ins.split (n + 1) 0 :: Ins.ent (d + 1) :: (cb ++ [Ins.chk (d + 1)]))).length = n + 3 + cb.length := by simp [hlen]; omega
 refine qA (I6 (n : Int)) rfl ?_
 refine WpL_nil (Wp_seq_region ?_)
 refine qM (P6 pb 0) rfl ?_
 refine qM (I6 (n : Int)) rfl ?_
 refine qV (r_build (ps := [(0, (I6 2)), (1, (I6 (n : Int)))]) (v := (.agg #[(I6 2), (I6 (n : Int)), (I6 0), (I6 0), (I6 0), (.slice none 0 0), (.pointer none), (.bool false)])) rfl (by kernel_rfl)) ?_
 refine WpL_enter rfl rfl (by decide) (r_callF (vs := [(P6 pb 0), (.agg #[(I6 2), (I6 (n : Int)), (I6 0), (I6 0), (I6 0), (.slice none 0 0), (.pointer none), (.bool false)])]) Try.func42 nm42 bd42 rfl) (add_c _ _ base pb _ (n + 3 + cb.length) _ tb d (.jump n) 0 2 n 0 0 0 none 0 0 nilP false (hl2 ▸ G2.st) (by omega) rfl rfl (fun _ _ h => by cases h)) ?_
 rintro _ w29 ⟨rfl, F3, v3, G3⟩
 replace Bx := G3.chg.keep (G2.st.kept k2) Bx
 replace E := E.step G3.chg (fun _ _ _ => trivial)
 have k3 : F3 bx := G3.sub _ k2
 replace G3 := G2.comp G3
 have e3 : (code ++ (Ins.split (n + 1) 0 :: Ins.ent (d + 1) :: (cb ++ [Ins.chk (d + 1)]))) ++ [Ins.jump n] = code ++ (Ins.split (n + 1) 0 :: Ins.ent (d + 1) :: (cb ++ [Ins.chk (d + 1), Ins.jump n])) := by simp
 rw [e3] at G3
 have hl3 : (code ++ (Ins.split (n + 1) 0 :: Ins.ent (d + 1) :: (cb ++ [Ins.chk (d + 1), Ins.jump n]))).length = n + 4 + cb.length := by simp [hlen]; omega
 obtain ⟨va3, vc3, rfl⟩ := G3.st.form
 rw [hl3] at G3
 obtain ⟨g, cur, rfl, hg, hgs, hgb, hgF⟩ := G3.st.block (by omega)
 rw [hl3] at hgs
 have hxg : bx ≠ g := fun e => hgF (e ▸ k3)
 have hblk := G3.st.blk
 have hgp := G3.st.pb
 refine WpL_nil ?_
 refine Wp_draw 12 mixed (by kernel_rfl) ?_
 intro w1 X1 _
 replace Bx := X1.keep Bx
 replace hblk := X1.keep hblk
 replace hg := X1.keep hg
 replace G3 := G3.ext X1
 replace E := E.ext X1
 refine qT (r_move (v := (P6 pb 0)) rfl) ?_
 refine qT (r_nilCheck (a := ⟨pb, 0, none⟩) rfl) ?_
 refine qT (r_fieldAddr (b := pb) (o := 0) (o' := 0) rfl Try.underlying83 rfl siz81 rfl) ?_
 refine qT (r_load (v := (.slice (some ⟨g, 0, none⟩) (n + 4 + cb.length) vc3)) rfl flat81 (hblk.cell rfl)) ?_
 refine qT (r_move (v := (I6 (n : Int))) rfl) ?_
 refine qT (r_move (v := (P6 pb 0)) rfl) ?_
 refine qT (r_nilCheck (a := ⟨pb, 0, none⟩) rfl) ?_
 refine qT (r_fieldAddr (b := pb) (o := 0) (o' := 0) rfl Try.underlying83 rfl siz81 rfl) ?_
 refine qT (r_load (v := (.slice (some ⟨g, 0, none⟩) (n + 4 + cb.length) vc3)) rfl flat81 (hblk.cell rfl)) ?_
 refine qT (r_lenSlice (ad := some ⟨g, 0, none⟩) (n := (n + 4 + cb.length)) (cap := vc3) Try.underlying81 rfl) ?_
 refine qT (r_indexSlice (b := g) (o := 0) (len := (n + 4 + cb.length)) (cap := vc3) (i := n) (o' := 0 + n * 8) rfl rfl rfl Try.underlying81 siz87 (by omega) (by omega)) ?_
 refine qT (r_fieldAddr (b := g) (o := 0 + n * 8) (o' := 0 + n * 8 + 2) rfl Try.underlying87 rfl siz3 rfl) ?_
 refine WpT_zero ?_
 refine s_store (b := g) (o := 0 + n * 8 + 2) (c' := cur.setIfInBounds (n * 8 + 2) (iV (n + 4 + cb.length))) (v := (I6 (((n + 4 + cb.length) : Nat) : Int))) rfl rfl rfl siz3 hg (by omega) (by rw [Nat.zero_add]) ?_
 intro w2 S2
 replace G3 := G3.patch (i := n) (f := 2) (x := iV (n + 4 + cb.length)) (ins := .split (n + 1) (n + 4 + cb.length)) hl3.symm hg S2 (by omega) (by omega) (split_row (get_mid hlen)) (fun _ _ => rfl) (fun _ _ h => by cases h)
 replace Bx := S2.keep (by omega) Bx
 replace hblk := S2.keep (by omega) hblk
 replace E := S2.step E (by first | exact Or.inl (by omega) | exact Or.inr rfl | exact Or.inr (by assumption) | exact Or.inr (by simp) | exact Or.inr (by omega) | exact Or.inr (by dsimp only; omega))
 replace hg := S2.blk
 refine WpL_nil (inB_normal ?_)
 refine fin_none Try.results41 ?_
 rw [set_mid hlen] at G3
 rw [show n + 2 + cb.length + 2 = n + 4 + cb.length by omega]
 exact ⟨F3, _, G3⟩
abbrev TIn : Nat := 3
/-- A block that is neither the program's nor frozen. -/
def Apt (F : Nat → Prop) (pb : Nat) (v : Value) (b : Nat) : Prop := ¬ F b ∧ b ≠ pb ∧ v.ownBlock ≠ some b
theorem Apt.step {F F2 : Nat → Prop} {w w2 : World} {base pb b : Nat} {v v2 : Value} {c : List Ins} {t d : Nat} (h : Apt F pb v b) (G : GrX F w base pb v F2 v2 c t d w2) (hb : b < w.heap.size) : Apt F2 pb v2 b :=
 ⟨fun hf => (G.new b hf).elim h.1 (fun h2 => by omega), h.2.1, fun e => (G.own b e).elim h.2.2 (fun h2 => by omega)⟩
theorem Apt.keep {F : Nat → Prop} {pb b : Nat} {v : Value} (h : Apt F pb v b) : ¬ (b = pb ∨ v.ownBlock = some b) := fun hm => hm.elim h.2.1 h.2.2
theorem frg_6 {set : List (Int × Int)} {y : Re} {args : List Re} {k1 k2 : Nat} {ng : Bool} (a d t : Nat) : frgOf (.mk 6 set (y :: args) (k1 : Int) ((k1 + k2 : Nat) : Int) ng) a d t = ((seqF (List.replicate k1 (frgOf y)) a d t).1 ++ (itF (a + (seqF (List.replicate k1 (frgOf y)) a d t).1.length + (itF 0 (frgOf y) k2 (a + (seqF (List.replicate k1 (frgOf y)) a d t).1.length) d (seqF (List.replicate k1 (frgOf y)) a d t).2).1.length) (frgOf y) k2 (a + (seqF (List.replicate k1 (frgOf y)) a d t).1.length) d (seqF (List.replicate k1 (frgOf y)) a d t).2).1, (itF (a + (seqF (List.replicate k1 (frgOf y)) a d t).1.length + (itF 0 (frgOf y) k2 (a + (seqF (List.replicate k1 (frgOf y)) a d t).1.length) d (seqF (List.replicate k1 (frgOf y)) a d t).2).1.length) (frgOf y) k2 (a + (seqF (List.replicate k1 (frgOf y)) a d t).1.length) d (seqF (List.replicate k1 (frgOf y)) a d t).2).2) := by
 have e : (((k1 + k2 : Nat) : Int) - (k1 : Int)).toNat = k2 := by omega
 simp only [frgOf, frgK, frgsOf_eq, List.map_cons, List.headD_cons, Int.toNat_natCast, e]
 rfl
theorem itF_le (f : Frg) (hf : FMono f) : ∀ (k j a d t : Nat), j ≤ k → (itF 0 f j a d t).1.length ≤ (itF 0 f k a d t).1.length ∧ (itF 0 f j a d t).2 ≤ (itF 0 f k a d t).2
  | k, 0, a, d, t, _ => ⟨by simp [itF], itF_mono 0 hf k a d t⟩
  | k + 1, j + 1, a, d, t, h => by
    have ih := itF_le f hf k j (a + 2 + (f (a + 2) (d + 1) t).1.length + 1) d (f (a + 2) (d + 1) t).2 (by omega)
    simp only [itF, List.length_cons, List.length_append]
    omega
set_option maxHeartbeats 4000000 in
theorem of_6 (wb : World) (set : List (Int × Int)) (y : Re) (args : List Re) (k1 k2 : Nat) (ng : Bool) (hk8 : k1 + k2 ≤ 100) (hih : 0 < k1 + k2 → OfC wb y) : OfC wb (.mk 6 set (y :: args) (k1 : Int) ((k1 + k2 : Nat) : Int) ng) := by
 intro base pb F w0 v n code t d vs hx hE hF hP hn ht hd
 simp only [ReAt] at hx
 obtain ⟨sa, sc, aa, ac, rfl, hset, hal, hargs⟩ := hx
 rw [frg_6] at hn ht ⊢
 have hlen := hP.len
 simp only [Re.size, Re.sizes] at hd
 have hfm := frgOf_mono y
 obtain ⟨f, hf⟩ : ∃ f, f = frgOf y := ⟨_, rfl⟩
 have hrm : ∀ g ∈ List.replicate k1 f, FMono g := fun g hg => by rw [(List.mem_replicate.1 hg).2, hf]; exact hfm
 rw [← hf] at hfm
 rw [← hf] at hn ht ⊢
 obtain ⟨S, hS⟩ : ∃ S, S = seqF (List.replicate k1 f) n d t := ⟨_, rfl⟩
 rw [← hS] at hn ht ⊢
 obtain ⟨ee, hee⟩ : ∃ e, e = n + S.1.length + (itF 0 f k2 (n + S.1.length) d S.2).1.length := ⟨_, rfl⟩
 rw [← hee] at hn ht ⊢
 have hel := itF_len ee 0 f k2 (n + S.1.length) d S.2
 rw [hel.2] at ht
 simp only [List.length_append, hel.1] at hn
 simp only [List.length_cons] at hal ⊢
 obtain ⟨b, o, rfl, hres⟩ := res_block (i := 0) hargs (by simp)
 obtain ⟨us, hus, hyt⟩ := hres.get (i := 0) (t := y) rfl
 replace hus : CellsAt wb b (o + 0 * 6) us := by simpa using hus
 obtain ⟨m, hm⟩ : ∃ m, m = args.length + 1 := ⟨_, rfl⟩
 have hm1 : 1 ≤ m := by omega
 rw [← hm] at hal ⊢
 have hSm := itF_mono 0 hfm k2 (n + S.1.length) d S.2
 refine Ret_of Try.func41 rfl Try.ntmps41 (Nat.le_of_ble_eq_true rfl) ?_
 have E : Chg (fun _ => True) w0 w0 := Chg.refl _ _
 refine Wp_seq_region ?_
 refine s_box (v := (.agg #[(I6 6), (.slice sa set.length sc), (.slice (some ⟨b, o, none⟩) m ac), (I6 (k1 : Int)), (I6 ((k1 + k2 : Nat) : Int)), (.bool ng)])) (c := #[(I6 6), (.slice sa set.length sc), (.slice (some ⟨b, o, none⟩) m ac), (I6 (k1 : Int)), (I6 ((k1 + k2 : Nat) : Int)), (.bool ng)]) (by decide) rfl rfl ?_
 intro bx wx Nx
 have Fx := Nx.ge E
 replace E := E.ext Nx.ext
 have Bx := Nx.blk
 refine WpL_nil (Wp_seq_region ?_)
 refine qF bx 0 0 rfl Try.underlying27 rfl siz3 rfl ?_
 refine qV (r_load (v := (I6 6)) rfl flat3 (Bx.cell rfl)) ?_
 refine WpL_nil (Wp_block (Wp_seq_region ?_))
 refine qV (r_eql (k := .i64) (a := 6) (b := 0) rfl rfl) ?_
 refine qA (.bool false) rfl ?_
 refine WpL_nil ?_
 refine Wp_cond_false rfl ?_
 refine Wp_seq_region ?_
 refine qV (r_eql (k := .i64) (a := 6) (b := 2) rfl rfl) ?_
 refine qA (.bool false) rfl ?_
 refine WpL_nil ?_
 refine Wp_cond_false rfl ?_
 refine Wp_seq_region ?_
 refine qV (r_eql (k := .i64) (a := 6) (b := 3) rfl rfl) ?_
 refine qA (.bool false) rfl ?_
 refine WpL_nil ?_
 refine Wp_cond_false rfl ?_
 refine Wp_seq_region ?_
 refine qV (r_eql (k := .i64) (a := 6) (b := 4) rfl rfl) ?_
 refine qA (.bool false) rfl ?_
 refine WpL_nil ?_
 refine Wp_cond_false rfl ?_
 refine Wp_seq_region ?_
 refine qV (r_eql (k := .i64) (a := 6) (b := 5) rfl rfl) ?_
 refine qA (.bool false) rfl ?_
 refine WpL_nil ?_
 refine Wp_cond_false rfl ?_
 refine Wp_seq_region ?_
 refine qV (r_eql (k := .i64) (a := 6) (b := 6) rfl rfl) ?_
 refine qA (.bool true) rfl ?_
 refine WpL_nil ?_
 refine Wp_cond_true rfl ?_
 refine Wp_seq (Wp_seq_region ?_)
 refine qF bx 0 3 rfl Try.underlying27 rfl siz3 rfl ?_
 refine qV (r_load (v := (I6 (k1 : Int))) rfl flat3 (Bx.cell rfl)) ?_
 refine qM (I6 0) rfl ?_
 refine WpL_nil (Wp_block ?_)
 have G1 := (GrX.start hP).frz Nx.ext (b := bx) (by rw [Nx.eq]; exact Nat.le_refl _) Bx.lt
 refine Wp_loop (fun nn_ σ W1 => ∃ (j : Nat) (F1 : Nat → Prop) (v1 : Value), (∃ jj_, σ = upds jj_ [(0, (P6 pb 0)), (3, (P6 bx 0)), (140, (I6 (k1 : Int))), (141, (I6 (j : Int)))]) ∧ Chg (fun _ => True) w0 W1 ∧ Blk W1 bx #[(I6 6), (.slice sa set.length sc), (.slice (some ⟨b, o, none⟩) m ac), (I6 (k1 : Int)), (I6 ((k1 + k2 : Nat) : Int)), (.bool ng)] 27 ∧ (j ≤ k1) ∧ (GrX F w0 base pb v F1 v1 (code ++ (seqF ((List.replicate k1 f).take j) n d t).1) (seqF ((List.replicate k1 f).take j) n d t).2 d W1) ∧ (F1 bx) ∧ nn_ = k1 - j) (n := k1 - 0) ?_ ?_
 ·exact ⟨0, (fun y => F y ∨ y = bx), v, Fits.out ⟨rfl, rfl, rfl, rfl, trivial⟩, E, Bx, Nat.zero_le _, (by rw [List.take_zero]; simp only [seqF, List.append_nil]; exact G1), .inr rfl, rfl⟩
 ·clear E Bx
  rintro _ _ W1 ⟨j, F1, v1, ⟨j1, rfl⟩, E, Bx, hj, G, hk, rfl⟩
  refine Wp_seq_region ?_
  refine qV (r_lss (k := .i64) (a := (j : Int)) (b := (k1 : Int)) rfl rfl) ?_
  refine WpL_nil (Wp_seq ?_)
  refine Wp_cond (b := decide (((j : Int) : Int) < (k1 : Int))) rfl (fun hlt => ?_) (fun hlt => ?_)
  ·have khlt := hlt
   replace hlt := of_decide_eq_true hlt
   have hfy : (List.replicate k1 f)[j]? = some f := by rw [List.getElem?_replicate, if_pos (by omega)]
   have hst := seqF_step hfy n d t
   have hle := seqF_le hrm (j + 1) n d t
   rw [hst, ← hS] at hle
   dsimp only at hle
   obtain ⟨Q, hQ⟩ : ∃ Q, Q = seqF ((List.replicate k1 f).take j) n d t := ⟨_, rfl⟩
   rw [← hQ] at hst hle G
   have hlj : (code ++ Q.1).length = n + Q.1.length := by rw [List.length_append, hlen]
   rw [List.length_append] at hle
   have hEW := G.wb hP.hp hP.ho hF hE
   refine Wp_skip (thn_normal (Wp_seq (Wp_block (Wp_region ?_))))
   refine qM (P6 pb 0) rfl ?_
   refine qF bx 0 2 rfl Try.underlying27 rfl siz25 rfl ?_
   refine qV (r_load (v := (.slice (some ⟨b, o, none⟩) m ac)) rfl flat25 (Bx.cell rfl)) ?_
   refine qV (r_indexSlice (b := b) (o := o) (len := m) (cap := ac) (i := 0) (o' := o + 0 * 6) rfl rfl rfl Try.underlying25 siz27 (by omega) (by omega)) ?_
   refine qV (r_loadAgg (vs := us) rfl agg27 siz27 hyt.len (hus.ext hEW)) ?_
   refine WpL_enter rfl rfl (by decide) (r_callF (vs := [(P6 pb 0), (.agg us.toArray)]) Try.func41 nm41 bd41 rfl) (hih (by omega) base pb _ _ v1 (n + Q.1.length) (code ++ Q.1) Q.2 d us hyt hEW (fun q hq => (G.sub q (hF q hq))) (hlj ▸ G.st) (by rw [← hf]; omega) (by rw [← hf]; omega) (by omega)) ?_
   rintro _ w19 ⟨F3, v3, G3⟩
   replace Bx := G3.chg.keep (G.st.kept hk) Bx
   replace E := E.step G3.chg (fun _ _ _ => trivial)
   refine WpL_nil (inB_normal (thn_normal (Wp_region ?_)))
   refine qV (r_add (k := .i64) (a := (j : Int)) (b := 1) (c := (j : Int) + 1) rfl rfl (wI64 (by omega))) ?_
   refine qM (I6 ((j : Int) + 1)) rfl ?_
   refine WpL_nil (thn_normal ?_)
   exact ⟨k1 - (j + 1), by omega, j + 1, F3, v3, Fits.out ⟨rfl, rfl, rfl, rfl, trivial⟩, E, Bx, (by omega), (by rw [hst]; dsimp only; rw [← List.append_assoc]; rw [← hf] at G3; exact G.comp G3), G3.sub _ hk, rfl⟩
  ·have khlt := hlt
   replace hlt := of_decide_eq_false hlt
   have hjl : j = k1 := by omega
   rw [hjl, List.take_of_length_le (by simp), ← hS] at G
   refine Wp_exit (thn_exit (thn_exit (inB_here (thn_normal (Wp_seq_region ?_)))))
   refine qA (.slice none 0 0) rfl ?_
   refine WpL_nil (Wp_seq (Wp_seq_region ?_))
   refine qF bx 0 4 rfl Try.underlying27 rfl siz3 rfl ?_
   refine qV (r_load (v := (I6 ((k1 + k2 : Nat) : Int))) rfl flat3 (Bx.cell rfl)) ?_
   refine qF bx 0 3 rfl Try.underlying27 rfl siz3 rfl ?_
   refine qV (r_load (v := (I6 (k1 : Int))) rfl flat3 (Bx.cell rfl)) ?_
   refine qV (r_sub (k := .i64) (a := ((k1 + k2 : Nat) : Int)) (b := (k1 : Int)) (c := (k2 : Int)) rfl rfl ((wI64 (by omega)).trans (by omega))) ?_
   refine qM (I6 0) rfl ?_
   refine WpL_nil (Wp_block ?_)
   obtain ⟨n2, hn2⟩ : ∃ n2, n2 = (W1).heap.size := ⟨_, rfl⟩
   have hn2b : bx < n2 ∧ w0.heap.size ≤ n2 := ⟨by rw [hn2]; exact Bx.lt, by rw [hn2]; exact G.chg.size⟩
   refine Wp_loop (fun nn_ σ W3 => ∃ (j : Nat) (F1 : Nat → Prop) (v1 : Value) (la : Option Addr) (lc : Nat), (∃ jj_, σ = upds jj_ [(0, (P6 pb 0)), (3, (P6 bx 0)), (154, (I6 (k2 : Int))), (155, (I6 (j : Int))), (13, (.slice la j lc))]) ∧ Chg (fun _ => True) w0 W3 ∧ Blk W3 bx #[(I6 6), (.slice sa set.length sc), (.slice (some ⟨b, o, none⟩) m ac), (I6 (k1 : Int)), (I6 ((k1 + k2 : Nat) : Int)), (.bool ng)] 27 ∧ (j ≤ k2) ∧ (GrX F w0 base pb v F1 v1 ((code ++ S.1) ++ (itF 0 f j (n + S.1.length) d S.2).1) (itF 0 f j (n + S.1.length) d S.2).2 d W3) ∧ (F1 bx) ∧ (W3.ownsRow n2 TIn 1 (.slice la j lc) j ((itI f j (n + S.1.length) d S.2).map iV)) ∧ (∀ q, (Value.slice la j lc).ownBlock = some q → Apt F1 pb v1 q) ∧ (n2 ≤ W3.heap.size) ∧ nn_ = k2 - j) (n := k2 - 0) ?_ ?_
   ·exact ⟨0, F1, v1, none, 0, Fits.out ⟨rfl, rfl, rfl, rfl, rfl, trivial⟩, E, Bx, Nat.zero_le _, (by simp only [itF, List.append_nil]; exact G), hk, World.ownsRow_nil _ _ _ _, (fun q hq => by cases hq), (by omega), rfl⟩
   ·clear E Bx
    rintro _ _ W3 ⟨j, F1, v1, la, lc, ⟨j3, rfl⟩, E, Bx, hj, G, hk, hs, hap, hsz, rfl⟩
    refine Wp_seq_region ?_
    refine qV (r_lss (k := .i64) (a := (j : Int)) (b := (k2 : Int)) rfl rfl) ?_
    refine WpL_nil (Wp_seq ?_)
    refine Wp_cond (b := decide (((j : Int) : Int) < (k2 : Int))) rfl (fun hlt => ?_) (fun hlt => ?_)
    ·have khlt := hlt
     replace hlt := of_decide_eq_true hlt
     have hst := itF_step 0 f j (n + S.1.length) d S.2
     have hle := itF_le f hfm k2 (j + 1) (n + S.1.length) d S.2 (by omega)
     rw [hst] at hle
     have hix := itI_step f j (n + S.1.length) d S.2
     obtain ⟨Q, hQ⟩ : ∃ Q, Q = itF 0 f j (n + S.1.length) d S.2 := ⟨_, rfl⟩
     rw [← hQ] at hst hle G hix
     simp only [List.length_append, List.length_cons, List.length_nil] at hle
     have hlj : ((code ++ S.1) ++ Q.1).length = n + S.1.length + Q.1.length := by simp [hlen]; omega
     have hEW := G.wb hP.hp hP.ho hF hE
     have hslt := hs.lt
     refine Wp_skip (thn_normal (Wp_seq (Wp_block (Wp_region ?_))))
     refine qM (.slice la j lc) rfl ?_
     refine qM (P6 pb 0) rfl ?_
     refine qF bx 0 2 rfl Try.underlying27 rfl siz25 rfl ?_
     refine qV (r_load (v := (.slice (some ⟨b, o, none⟩) m ac)) rfl flat25 (Bx.cell rfl)) ?_
     refine qV (r_indexSlice (b := b) (o := o) (len := m) (cap := ac) (i := 0) (o' := o + 0 * 6) rfl rfl rfl Try.underlying25 siz27 (by omega) (by omega)) ?_
     refine qV (r_loadAgg (vs := us) rfl agg27 siz27 hyt.len (hus.ext hEW)) ?_
     refine WpL_enter rfl rfl (by decide) (r_callF (vs := [(P6 pb 0), (.agg us.toArray)]) Try.func61 nm61 bd61 rfl) (iteration_c wb base pb _ _ v1 (n + S.1.length + Q.1.length) ((code ++ S.1) ++ Q.1) Q.2 d us y (hih (by omega)) hyt hEW (fun q hq => G.sub q (hF q hq)) (hlj ▸ G.st) (frgOf_mono y) (by rw [← hf]; omega) (by rw [← hf]; omega) (by omega)) ?_
     rintro _ w29 ⟨rfl, F3, v3, G3⟩
     replace Bx := G3.chg.keep (G.st.kept hk) Bx
     replace E := E.step G3.chg (fun _ _ _ => trivial)
     rw [← hf] at G3
     have hs := own_chg hs G3.chg (fun q hq h => (hap q hq).keep h)
     have hap3 : ∀ q, (Value.slice la j lc).ownBlock = some q → Apt F3 pb v3 q := fun q hq => (hap q hq).step G3 (hslt q hq).2
     have k3 : F3 bx := G3.sub _ hk
     have hz3 := G3.chg.size
     replace G3 := G.comp G3
     refine s_buildSlice (ps := [(0, (I6 ((n + S.1.length + Q.1.length : Nat) : Int)))]) (c := #[(I6 ((n + S.1.length + Q.1.length : Nat) : Int))]) (by decide) rfl Try.underlying22 siz3 zer3 (by decide) (by decide) (by kernel_rfl) ?_
     intro br wr Nr
     have Fr := Nr.ge E
     have Or_bx := Nr.lt Bx
     replace Bx := Nr.keep Bx
     replace E := E.ext Nr.ext
     have Br := Nr.blk
     have hs := own_ext hs Nr.ext
     have G4 := G3.ext Nr.ext
     refine s_append (base := n2) (n := j) (m := 1) (xs := ((itI f j (n + S.1.length) d S.2).map iV)) (news := [(I6 ((n + S.1.length + Q.1.length : Nat) : Int))]) (size := 1) (bytes := 8) (v := (.slice la j lc)) (by decide) Try.underlying22 siz3 byt3 zer3 rfl (by decide) rfl hs rfl (rfl) (Br.cells rfl) (by simp [Value.oneCell']) (by unfold maxLen; omega) (by omega) ((by have := Nr.ext.size; omega)) ?_
     intro v7 w59 Ov7 Cv7 Dv7
     replace Bx := Cv7.keep (fun h => by have := (hs.lt _ h).1; omega) Bx
     replace E := E.step Cv7 (fun _ _ _ => trivial)
     obtain ⟨la2, lc2, rfl⟩ := own_form Ov7
     have G5 := G4.other Cv7 (fun q hq => ⟨by have := (hs.lt q hq).1; omega, hap3 q hq⟩)
     have hap5 : ∀ q, (Value.slice la2 (j + 1) lc2).ownBlock = some q → Apt F3 pb v3 q := fun q hq => by rcases Dv7 q hq with h9 | h9; exact hap3 q h9; exact ⟨fun hf9 => by have := G4.st.fl q hf9; omega, fun e9 => by have := G4.st.blk.lt; omega, fun e9 => by obtain ⟨_, r9, _⟩ := G4.st.rows; have := (r9.lt q e9).2; omega⟩
     refine qA (.slice la2 (j + 1) lc2) rfl ?_
     refine WpL_nil (inB_normal (thn_normal (Wp_region ?_)))
     refine qV (r_add (k := .i64) (a := (j : Int)) (b := 1) (c := (j : Int) + 1) rfl rfl (wI64 (by omega))) ?_
     refine qM (I6 ((j : Int) + 1)) rfl ?_
     refine WpL_nil (thn_normal ?_)
     exact ⟨k2 - (j + 1), by omega, j + 1, F3, v3, la2, lc2, Fits.out ⟨rfl, rfl, rfl, rfl, rfl, trivial⟩, E, Bx, (by omega), (by rw [hst]; dsimp only; rw [← List.append_assoc]; exact G5), k3, (by rw [hix, List.map_append]; exact Ov7), hap5, (by have := Cv7.size; have := Nr.ext.size; omega), rfl⟩
    ·have khlt := hlt
     replace hlt := of_decide_eq_false hlt
     have hjl : k2 = j := by omega
     subst hjl
     obtain ⟨C, hC⟩ : ∃ C, C = (code ++ S.1) ++ (itF 0 f k2 (n + S.1.length) d S.2).1 := ⟨_, rfl⟩
     obtain ⟨L, hL⟩ : ∃ L, L = itI f k2 (n + S.1.length) d S.2 := ⟨_, rfl⟩
     have hLl : L.length = k2 := by rw [hL]; exact itI_len f k2 _ _ _
     have hpl : (code ++ S.1).length = n + S.1.length := by rw [List.length_append, hlen]
     have hCl : C.length = ee := by rw [hC, List.length_append, hpl, hee]
     have hLr : Rise (n + S.1.length) L := by rw [hL]; exact itI_rise f k2 _ _ _
     have hLg : ∀ k ∈ L, C[k]? = some (.split (k + 1) 0) := by rw [hC, hL]; exact itI_get f k2 _ _ _ _ hpl
     have hLp : patW (fun k => .split (k + 1) ee) C L = (code ++ S.1) ++ (itF ee f k2 (n + S.1.length) d S.2).1 := by rw [hC, hL]; exact itI_pat f ee k2 _ _ _ _ hpl
     rw [← hC] at G
     rw [← hL] at hs
     refine Wp_exit (thn_exit (thn_exit (inB_here (thn_normal (Wp_seq_region ?_)))))
     refine qM (.slice la k2 lc) rfl ?_
     refine qV (r_lenSlice (ad := la) (n := k2) (cap := lc) Try.underlying22 rfl) ?_
     refine qM (I6 0) rfl ?_
     refine WpL_nil (Wp_block ?_)
     refine Wp_loop (fun nn_ σ W5 => ∃ (i : Nat), (∃ jj_, σ = upds jj_ [(0, (P6 pb 0)), (167, (.slice la k2 lc)), (168, (I6 (k2 : Int))), (169, (I6 (i : Int)))]) ∧ Chg (fun _ => True) w0 W5 ∧ Blk W5 bx #[(I6 6), (.slice sa set.length sc), (.slice (some ⟨b, o, none⟩) m ac), (I6 (k1 : Int)), (I6 ((k1 + k2 : Nat) : Int)), (.bool ng)] 27 ∧ (i ≤ k2) ∧ (GrX F w0 base pb v F1 v1 (patW (fun k => .split (k + 1) ee) C (L.take i)) (itF 0 f k2 (n + S.1.length) d S.2).2 d W5) ∧ (W5.ownsRow n2 TIn 1 (.slice la k2 lc) k2 (L.map iV)) ∧ nn_ = k2 - i) (n := k2 - 0) ?_ ?_
     ·exact ⟨0, Fits.out ⟨rfl, rfl, rfl, rfl, trivial⟩, E, Bx, Nat.zero_le _, (by rw [List.take_zero]; exact G), hs, rfl⟩
     ·clear E Bx
      rintro _ _ W5 ⟨i, ⟨j5, rfl⟩, E, Bx, hi, G, hs, rfl⟩
      refine Wp_seq_region ?_
      refine qV (r_lss (k := .i64) (a := (i : Int)) (b := (k2 : Int)) rfl rfl) ?_
      refine WpL_nil (Wp_seq ?_)
      refine Wp_cond (b := decide (((i : Int) : Int) < (k2 : Int))) rfl (fun hlt3 => ?_) (fun hlt3 => ?_)
      ·have khlt3 := hlt3
       replace hlt3 := of_decide_eq_true hlt3
       obtain ⟨k, hkL⟩ := get_of_lt (l := L) (i := i) (by omega)
       have hkm := List.mem_of_getElem? hkL
       have hck : (patW (fun k => .split (k + 1) ee) C (L.take i))[k]? = some (.split (k + 1) 0) := by rw [patW_get _ _ _ (hLr.fresh hkL)]; exact hLg k hkm
       have hkl := lt_of_get hck
       have hpL := patW_len (fun k => Ins.split (k + 1) ee) (L.take i) C
       rw [hCl] at hpL
       rw [hpL] at hkl
       obtain ⟨sb, rfl, _, hsc⟩ := own_cells hs (by omega)
       obtain ⟨va3, vc3, rfl⟩ := G.st.form' hpL
       obtain ⟨g, cur, rfl, hg, hgs, hgb, hgF⟩ := G.st.block (by omega)
       rw [hpL] at hgs
       have hxg : bx ≠ g := fun e => hgF (e ▸ hk)
       have hblk := G.st.blk
       have hgp := G.st.pb
       refine Wp_skip (thn_normal (Wp_seq (Wp_block (Wp_seq_region ?_))))
       refine qV (r_indexSlice (b := sb) (o := 0) (len := k2) (cap := lc) (i := i) (o' := 0 + i) rfl rfl rfl Try.underlying22 siz3 (by omega) (by omega)) ?_
       refine qV (r_load (v := (I6 (k : Int))) rfl flat3 (hsc i (iV k) (by rw [List.getElem?_map, hkL]; rfl))) ?_
       refine qA (I6 (k : Int)) rfl ?_
       refine WpL_nil ?_
       refine Wp_draw 12 mixed (by kernel_rfl) ?_
       intro w7 X7 _
       replace Bx := X7.keep Bx
       replace hblk := X7.keep hblk
       replace hg := X7.keep hg
       replace G := G.ext X7
       replace hs := own_ext hs X7
       replace E := E.ext X7
       refine qT (r_move (v := (P6 pb 0)) rfl) ?_
       refine qT (r_nilCheck (a := ⟨pb, 0, none⟩) rfl) ?_
       refine qT (r_fieldAddr (b := pb) (o := 0) (o' := 0) rfl Try.underlying83 rfl siz81 rfl) ?_
       refine qT (r_load (v := (.slice (some ⟨g, 0, none⟩) ee vc3)) rfl flat81 (hblk.cell rfl)) ?_
       refine qT (r_move (v := (I6 (k : Int))) rfl) ?_
       refine qT (r_move (v := (P6 pb 0)) rfl) ?_
       refine qT (r_nilCheck (a := ⟨pb, 0, none⟩) rfl) ?_
       refine qT (r_fieldAddr (b := pb) (o := 0) (o' := 0) rfl Try.underlying83 rfl siz81 rfl) ?_
       refine qT (r_load (v := (.slice (some ⟨g, 0, none⟩) ee vc3)) rfl flat81 (hblk.cell rfl)) ?_
       refine qT (r_lenSlice (ad := some ⟨g, 0, none⟩) (n := ee) (cap := vc3) Try.underlying81 rfl) ?_
       refine qT (r_indexSlice (b := g) (o := 0) (len := ee) (cap := vc3) (i := k) (o' := 0 + k * 8) rfl rfl rfl Try.underlying81 siz87 (by omega) (by omega)) ?_
       refine qT (r_fieldAddr (b := g) (o := 0 + k * 8) (o' := 0 + k * 8 + 2) rfl Try.underlying87 rfl siz3 rfl) ?_
       refine WpT_zero ?_
       refine s_store (b := g) (o := 0 + k * 8 + 2) (c' := cur.setIfInBounds (k * 8 + 2) (iV ee)) (v := (I6 (ee : Int))) rfl rfl rfl siz3 hg (by omega) (by rw [Nat.zero_add]) ?_
       intro w8 S8
       replace G := G.patch (i := k) (f := 2) (x := iV ee) (ins := .split (k + 1) ee) hpL.symm hg S8 (by omega) (by omega) (split_row hck) (fun _ _ => rfl) (fun _ _ h => by cases h)
       replace hs := own_chg hs S8.chg (fun q hq e => (hap q hq).2.2 (by have e' : q = g := e; rw [e']; rfl))
       replace Bx := S8.keep (by omega) Bx
       replace hblk := S8.keep (by omega) hblk
       replace E := S8.step E (by first | exact Or.inl (by omega) | exact Or.inr rfl | exact Or.inr (by assumption) | exact Or.inr (by simp) | exact Or.inr (by omega) | exact Or.inr (by dsimp only; omega))
       replace hg := S8.blk
       refine WpL_nil (inB_normal (thn_normal (Wp_region ?_)))
       refine qV (r_add (k := .i64) (a := (i : Int)) (b := 1) (c := (i : Int) + 1) rfl rfl (wI64 (by omega))) ?_
       refine qM (I6 ((i : Int) + 1)) rfl ?_
       refine WpL_nil (thn_normal ?_)
       exact ⟨k2 - (i + 1), by omega, i + 1, Fits.out ⟨rfl, rfl, rfl, rfl, trivial⟩, E, Bx, (by omega), (by rw [patW_take hkL]; exact G), hs, rfl⟩
      ·have khlt3 := hlt3
       replace hlt3 := of_decide_eq_false hlt3
       have hik : i = k2 := by omega
       refine Wp_exit (thn_exit (thn_exit (inB_here (inB_normal ?_))))
       refine fin_none Try.results41 ?_
       rw [hik, List.take_of_length_le (by omega), hLp, List.append_assoc] at G
       rw [hel.2]
       exact ⟨F1, v1, G⟩
theorem sizes_ge : ∀ ts : List Re, ts.length ≤ Re.sizes ts
  | [] => Nat.le_refl 0
  | t :: ts => by
    have h1 := Re.size_pos t
    have h2 := sizes_ge ts
    simp only [List.length_cons, Re.sizes]
    omega
theorem altP_mono (e : Nat) : ∀ {L : List Frg}, (∀ f ∈ L, FMono f) → FMono (altP e L)
  | [], _, _, _, t => Nat.le_refl t
  | f :: L, h, a, d, t => by
    have h1 := h f (by simp) (a + 1) d t
    have h2 := altP_mono e (L := L) (fun x hx => h x (by simp [hx])) (a + 1 + (f (a + 1) d t).1.length + 1) d (f (a + 1) d t).2
    simp only [altP]; omega
theorem altP_le : ∀ {L : List Frg}, (∀ f ∈ L, FMono f) → ∀ (j a d t : Nat), (altP 0 (L.take j) a d t).1.length ≤ (altP 0 L a d t).1.length ∧ (altP 0 (L.take j) a d t).2 ≤ (altP 0 L a d t).2
  | [], _, j, _, _, _ => by simp
  | f :: L, h, 0, a, d, t => ⟨by simp [altP], altP_mono 0 h a d t⟩
  | f :: L, h, j + 1, a, d, t => by
    have ih := altP_le (L := L) (fun x hx => h x (by simp [hx])) j (a + 1 + (f (a + 1) d t).1.length + 1) d (f (a + 1) d t).2
    simp only [List.take_succ_cons, altP, List.length_cons, List.length_append]
    omega
theorem frg_4 {set : List (Int × Int)} {args : List Re} {mn mx : Int} {ng : Bool} (a d t : Nat) : frgOf (.mk 4 set args mn mx ng) a d t = altF (a + (altF 0 (args.map frgOf) a d t).1.length) (args.map frgOf) a d t := by simp [frgOf, frgK, frgsOf_eq]
set_option maxHeartbeats 4000000 in
theorem of_4 (wb : World) (set : List (Int × Int)) (init : List Re) (zl : Re) (mn mx : Int) (ng : Bool) (hih : ∀ y ∈ init ++ [zl], OfC wb y) : OfC wb (.mk 4 set (init ++ [zl]) mn mx ng) := by
 intro base pb F w0 v n code t d vs hx hE hF hP hn ht hd
 simp only [ReAt] at hx
 obtain ⟨sa, sc, aa, ac, rfl, hset, hal, hargs⟩ := hx
 rw [frg_4] at hn ht ⊢
 have hlen := hP.len
 simp only [Re.size] at hd
 obtain ⟨L0, hL0⟩ : ∃ L0, L0 = init.map frgOf := ⟨_, rfl⟩
 have hLm : ∀ f ∈ L0, FMono f := by rw [hL0]; exact maps_mono
 have hmap : (init ++ [zl]).map frgOf = L0 ++ [frgOf zl] := by rw [List.map_append, hL0]; rfl
 rw [hmap] at hn ht ⊢
 obtain ⟨P0, hP0⟩ : ∃ P, P = altP 0 L0 n d t := ⟨_, rfl⟩
 obtain ⟨Z, hZ⟩ : ∃ Z, Z = frgOf zl (n + P0.1.length) d P0.2 := ⟨_, rfl⟩
 have hA0 := altF_last 0 (frgOf zl) L0 n d t
 rw [← hP0, ← hZ] at hA0
 obtain ⟨ee, hee⟩ : ∃ e, e = n + (altF 0 (L0 ++ [frgOf zl]) n d t).1.length := ⟨_, rfl⟩
 rw [← hee] at hn ht ⊢
 rw [hA0] at hee
 dsimp only at hee
 rw [List.length_append] at hee
 have hAe := altF_last ee (frgOf zl) L0 n d t
 have hpe := altP_len ee 0 L0 n d t
 rw [hpe.1, hpe.2, ← hP0, ← hZ] at hAe
 rw [hAe] at hn ht ⊢
 dsimp only at hn ht ⊢
 rw [List.length_append, hpe.1, ← hP0] at hn
 have hZm := frgOf_mono zl (n + P0.1.length) d P0.2
 rw [← hZ] at hZm
 obtain ⟨m, hm⟩ : ∃ m, m = (init ++ [zl]).length := ⟨_, rfl⟩
 have hm1 : m = init.length + 1 := by rw [hm]; simp
 have hml : m ≤ 1000 := by have := sizes_ge (init ++ [zl]); omega
 have hL0l : L0.length = init.length := by rw [hL0]; simp
 obtain ⟨b, o, rfl, hres⟩ := res_block (i := 0) hargs (by rw [← hm]; omega)
 rw [← hm] at hal ⊢
 refine Ret_of Try.func41 rfl Try.ntmps41 (Nat.le_of_ble_eq_true rfl) ?_
 have E : Chg (fun _ => True) w0 w0 := Chg.refl _ _
 refine Wp_seq_region ?_
 refine s_box (v := (.agg #[(I6 4), (.slice sa set.length sc), (.slice (some ⟨b, o, none⟩) m ac), (I6 mn), (I6 mx), (.bool ng)])) (c := #[(I6 4), (.slice sa set.length sc), (.slice (some ⟨b, o, none⟩) m ac), (I6 mn), (I6 mx), (.bool ng)]) (by decide) rfl rfl ?_
 intro bx wx Nx
 have Fx := Nx.ge E
 replace E := E.ext Nx.ext
 have Bx := Nx.blk
 refine WpL_nil (Wp_seq_region ?_)
 refine qF bx 0 0 rfl Try.underlying27 rfl siz3 rfl ?_
 refine qV (r_load (v := (I6 4)) rfl flat3 (Bx.cell rfl)) ?_
 refine WpL_nil (Wp_block (Wp_seq_region ?_))
 refine qV (r_eql (k := .i64) (a := 4) (b := 0) rfl rfl) ?_
 refine qA (.bool false) rfl ?_
 refine WpL_nil ?_
 refine Wp_cond_false rfl ?_
 refine Wp_seq_region ?_
 refine qV (r_eql (k := .i64) (a := 4) (b := 2) rfl rfl) ?_
 refine qA (.bool false) rfl ?_
 refine WpL_nil ?_
 refine Wp_cond_false rfl ?_
 refine Wp_seq_region ?_
 refine qV (r_eql (k := .i64) (a := 4) (b := 3) rfl rfl) ?_
 refine qA (.bool false) rfl ?_
 refine WpL_nil ?_
 refine Wp_cond_false rfl ?_
 refine Wp_seq_region ?_
 refine qV (r_eql (k := .i64) (a := 4) (b := 4) rfl rfl) ?_
 refine qA (.bool true) rfl ?_
 refine WpL_nil ?_
 refine Wp_cond_true rfl ?_
 refine Wp_seq_region ?_
 refine qA (.slice none 0 0) rfl ?_
 refine WpL_nil (Wp_seq (Wp_seq_region ?_))
 refine qF bx 0 2 rfl Try.underlying27 rfl siz25 rfl ?_
 refine qV (r_load (v := (.slice (some ⟨b, o, none⟩) m ac)) rfl flat25 (Bx.cell rfl)) ?_
 refine qV (r_lenSlice (ad := some ⟨b, o, none⟩) (n := m) (cap := ac) Try.underlying25 rfl) ?_
 refine qM (I6 0) rfl ?_
 refine WpL_nil (Wp_block ?_)
 have G1 := (GrX.start hP).frz Nx.ext (b := bx) (by rw [Nx.eq]; exact Nat.le_refl _) Bx.lt
 obtain ⟨n2, hn2⟩ : ∃ n2, n2 = (wx).heap.size := ⟨_, rfl⟩
 have hn2b : bx < n2 ∧ w0.heap.size ≤ n2 ∧ pb < n2 := ⟨by rw [hn2]; exact Bx.lt, by rw [hn2]; exact G1.chg.size, by rw [hn2]; exact G1.st.blk.lt⟩
 refine Wp_loop (fun nn_ σ W1 => ∃ (i : Nat) (F1 : Nat → Prop) (v1 : Value) (la : Option Addr) (lc : Nat), (∃ jj_, σ = upds jj_ [(0, (P6 pb 0)), (3, (P6 bx 0)), (47, (.slice (some ⟨b, o, none⟩) m ac)), (48, (I6 (m : Int))), (49, (I6 (i : Int))), (6, (.slice la i lc))]) ∧ Chg (fun _ => True) w0 W1 ∧ Blk W1 bx #[(I6 4), (.slice sa set.length sc), (.slice (some ⟨b, o, none⟩) m ac), (I6 mn), (I6 mx), (.bool ng)] 27 ∧ (i < m) ∧ (GrX F w0 base pb v F1 v1 (code ++ (altP 0 (L0.take i) n d t).1) (altP 0 (L0.take i) n d t).2 d W1) ∧ (F1 bx) ∧ (W1.ownsRow n2 TIn 1 (.slice la i lc) i ((altI (L0.take i) n d t).map iV)) ∧ (∀ q, (Value.slice la i lc).ownBlock = some q → Apt F1 pb v1 q) ∧ (n2 ≤ W1.heap.size) ∧ nn_ = m - i) (n := m - 0) ?_ ?_
 ·exact ⟨0, (fun y => F y ∨ y = bx), v, none, 0, Fits.out ⟨rfl, rfl, rfl, rfl, rfl, rfl, trivial⟩, E, Bx, (by omega), (by rw [List.take_zero]; simp only [altP, List.append_nil]; exact G1), .inr rfl, World.ownsRow_nil _ _ _ _, (fun q hq => by cases hq), (by omega), rfl⟩
 ·clear E Bx
  rintro _ _ W1 ⟨i, F1, v1, la, lc, ⟨j1, rfl⟩, E, Bx, hi, G, hk, hs, hap, hsz, rfl⟩
  refine Wp_seq_region ?_
  refine qV (r_lss (k := .i64) (a := (i : Int)) (b := (m : Int)) rfl rfl) ?_
  refine WpL_nil (Wp_seq ?_)
  have hc2 : (decide ((((i : Nat) : Int) : Int) < ((m : Nat) : Int))) = true := decide_eq_true (by omega)
  refine Wp_cond_true (congrArg Value.bool hc2) ?_
  refine Wp_skip (thn_normal (Wp_seq (Wp_block (Wp_seq_region ?_))))
  refine qM (I6 (i : Int)) rfl ?_
  refine qV (r_indexSlice (b := b) (o := o) (len := m) (cap := ac) (i := i) (o' := o + i * 6) rfl rfl rfl Try.underlying25 siz27 (by omega) (by omega)) ?_
  obtain ⟨y, hy⟩ := get_of_lt (l := init ++ [zl]) (i := i) (by omega)
  obtain ⟨us, hus, hyt⟩ := hres.get hy
  have hym := List.mem_of_getElem? hy
  have hsz9 := Re.sizes_get hy
  have hEW := G.wb hP.hp hP.ho hF hE
  obtain ⟨ya, yc, za, zc, rfl, _⟩ := hyt.form
  obtain ⟨z, hz⟩ : ∃ z, z = (W1).heap.size := ⟨_, rfl⟩
  have hnb := G.fresh
  have hslt := hs.lt
  rw [← hz] at hnb hslt
  refine qV (r_loadAgg (vs := [(I6 y.kind), (.slice ya y.set.length yc), (.slice za y.args.length zc), (I6 y.mn), (I6 y.mx), (.bool y.neg)]) rfl agg27 siz27 rfl ((hus.ext hEW))) ?_
  refine s_alloc (c := #[(I6 0), (.slice none 0 0), (.slice none 0 0), (I6 0), (I6 0), (.bool false)]) (by decide) zer27 rfl ?_
  intro bu wu Nu
  have Fu := Nu.ge E
  have Ou_bx := Nu.lt Bx
  replace Bx := Nu.keep Bx
  replace G := G.ext Nu.ext
  replace hs := own_ext hs Nu.ext
  replace E := E.ext Nu.ext
  have Bu := Nu.blk
  refine qA (I6 (i : Int)) rfl ?_
  refine s_storeAgg (b := bu) (o := 0) (c' := (R6 y ya yc za zc)) rfl rfl (by simp [Value.oneCell']) siz27 rfl Bu (by first | (simp; done) | exact Nat.le_of_ble_eq_true rfl) rfl ?_
  intro w3 S3
  replace G := G.other S3.chg (fun q hq => hnb q (by have h' : q = bu := hq; have := Nu.eq; omega))
  replace hs := own_chg hs S3.chg (fun q hq e => by have h' : q = bu := e; have := hslt q hq; have := Nu.eq; omega)
  replace Bx := S3.keep (by omega) Bx
  replace E := S3.step E (by first | exact Or.inl (by omega) | exact Or.inr rfl | exact Or.inr (by assumption) | exact Or.inr (by simp) | exact Or.inr (by omega) | exact Or.inr (by dsimp only; omega))
  replace Bu := S3.blk
  refine WpL_nil (Wp_seq (Wp_seq_region ?_))
  refine qM (I6 (i : Int)) rfl ?_
  refine qV (r_add (k := .i64) (a := (i : Int)) (b := 1) (c := (i : Int) + 1) rfl rfl (wI64 (by omega))) ?_
  refine qF bx 0 2 rfl Try.underlying27 rfl siz25 rfl ?_
  refine qV (r_load (v := (.slice (some ⟨b, o, none⟩) m ac)) rfl flat25 (Bx.cell rfl)) ?_
  refine qV (r_lenSlice (ad := some ⟨b, o, none⟩) (n := m) (cap := ac) Try.underlying25 rfl) ?_
  refine qV (r_eql (k := .i64) (a := (i : Int) + 1) (b := (m : Int)) rfl rfl) ?_
  refine WpL_nil ?_
  refine Wp_cond (b := decide (((i : Int) + 1 : Int) = (m : Int))) rfl (fun hlast => ?_) (fun hlast => ?_)
  ·have khlast := hlast
   replace hlast := of_decide_eq_true hlast
   have hie : i = init.length := by omega
   have hyz : y = zl := by rw [hie, List.getElem?_append_right (Nat.le_refl _), Nat.sub_self] at hy; simpa using hy.symm
   have htk : L0.take i = L0 := List.take_of_length_le (by omega)
   rw [htk] at G hs
   rw [← hP0] at G
   have hub : z ≤ bu := by have := Nu.eq; omega
   obtain ⟨q1, q2, q3, q4⟩ := hnb bu hub
   have G2 := G.frz2 q1 Bu.lt q3 q4
   have hap2 : ∀ q, (Value.slice la i lc).ownBlock = some q → Apt (fun y => F1 y ∨ y = bu) pb v1 q := fun q hq => ⟨fun hf => hf.elim (hap q hq).1 (fun e => by have := hslt q hq; omega), (hap q hq).2⟩
   have hslt2 := hs.lt
   have hlj : (code ++ P0.1).length = n + P0.1.length := by rw [List.length_append, hlen]
   have hEW2 := G2.wb hP.hp hP.ho hF hE
   refine Wp_seq_region ?_
   refine qM (P6 pb 0) rfl ?_
   refine qV (r_loadAgg (vs := [(I6 y.kind), (.slice ya y.set.length yc), (.slice za y.args.length zc), (I6 y.mn), (I6 y.mx), (.bool y.neg)]) rfl agg27 siz27 rfl (Bu.cells rfl)) ?_
   refine WpL_enter rfl rfl (by decide) (r_callF (vs := [(P6 pb 0), (.agg (R6 y ya yc za zc))]) Try.func41 nm41 bd41 rfl) (hih y hym base pb _ _ v1 (n + P0.1.length) (code ++ P0.1) P0.2 d _ hyt hEW2 (fun q hq => G2.sub q (hF q hq)) (hlj ▸ G2.st) (by rw [hyz, ← hZ]; omega) (by rw [hyz, ← hZ]; exact ht) (by omega)) ?_
   rintro _ w19 ⟨F3, v3, G3⟩
   replace Bx := G3.chg.keep (G2.st.kept (by first | exact .inr rfl | exact .inl hk)) Bx
   replace Bu := G3.chg.keep (G2.st.kept (by first | exact .inr rfl | exact .inl hk)) Bu
   replace E := E.step G3.chg (fun _ _ _ => trivial)
   rw [hyz, ← hZ] at G3
   have hs := own_chg hs G3.chg (fun q hq h => (hap2 q hq).keep h)
   have hap3 : ∀ q, (Value.slice la i lc).ownBlock = some q → Apt F3 pb v3 q := fun q hq => (hap2 q hq).step G3 (hslt2 q hq).2
   have k3 : F3 bx := G3.sub _ (.inl hk)
   replace G3 := G2.comp G3
   rw [List.append_assoc] at G3
   obtain ⟨C, hC⟩ : ∃ C, C = code ++ (P0.1 ++ Z.1) := ⟨_, rfl⟩
   obtain ⟨L, hL⟩ : ∃ L, L = altI L0 n d t := ⟨_, rfl⟩
   have hLl : L.length = i := by rw [hL, altI_len]; omega
   have hCl : C.length = ee := by rw [hC, List.length_append, List.length_append, hlen, hee]
   have hLr : Rise n L := by rw [hL]; exact altI_rise _ _ _ _
   have hLg : ∀ k ∈ L, C[k]? = some (.jump 0) := by rw [hC, hL, hP0]; exact altI_get L0 n d t code Z.1 hlen
   have hLp : patW (fun _ => .jump ee) C L = code ++ ((altP ee L0 n d t).1 ++ Z.1) := by rw [hC, hL, hP0]; exact altI_pat ee L0 n d t code Z.1 hlen
   rw [← hC] at G3
   rw [← hL] at hs
   refine WpL_nil (Wp_exit (thn_exit ?_))
   refine inB_there (by decide) ?_
   refine thn_exit (thn_exit (inB_here (thn_normal (Wp_seq_region ?_))))
   refine qM (.slice la i lc) rfl ?_
   refine qV (r_lenSlice (ad := la) (n := i) (cap := lc) Try.underlying22 rfl) ?_
   refine qM (I6 0) rfl ?_
   refine WpL_nil (Wp_block ?_)
   refine Wp_loop (fun nn_ σ W5 => ∃ (i2 : Nat), (∃ jj_, σ = upds jj_ [(0, (P6 pb 0)), (94, (.slice la i lc)), (95, (I6 (i : Int))), (96, (I6 (i2 : Int)))]) ∧ Chg (fun _ => True) w0 W5 ∧ Blk W5 bx #[(I6 4), (.slice sa set.length sc), (.slice (some ⟨b, o, none⟩) m ac), (I6 mn), (I6 mx), (.bool ng)] 27 ∧ (i2 ≤ i) ∧ (GrX F w0 base pb v F3 v3 (patW (fun _ => .jump ee) C (L.take i2)) Z.2 d W5) ∧ (W5.ownsRow n2 TIn 1 (.slice la i lc) i (L.map iV)) ∧ nn_ = i - i2) (n := i - 0) ?_ ?_
   ·exact ⟨0, Fits.out ⟨rfl, rfl, rfl, rfl, trivial⟩, E, Bx, Nat.zero_le _, (by rw [List.take_zero]; exact G3), hs, rfl⟩
   ·clear E Bx
    rintro _ _ W5 ⟨i2, ⟨j5, rfl⟩, E, Bx, hi2, G, hs, rfl⟩
    refine Wp_seq_region ?_
    refine qV (r_lss (k := .i64) (a := (i2 : Int)) (b := (i : Int)) rfl rfl) ?_
    refine WpL_nil (Wp_seq ?_)
    refine Wp_cond (b := decide (((i2 : Int) : Int) < (i : Int))) rfl (fun hlt3 => ?_) (fun hlt3 => ?_)
    ·have khlt3 := hlt3
     replace hlt3 := of_decide_eq_true hlt3
     obtain ⟨k, hkL⟩ := get_of_lt (l := L) (i := i2) (by omega)
     have hkm := List.mem_of_getElem? hkL
     have hck : (patW (fun _ => .jump ee) C (L.take i2))[k]? = some (.jump 0) := by rw [patW_get _ _ _ (hLr.fresh hkL)]; exact hLg k hkm
     have hkl := lt_of_get hck
     have hpL := patW_len (fun _ => Ins.jump ee) (L.take i2) C
     rw [hCl] at hpL
     rw [hpL] at hkl
     obtain ⟨sb, rfl, _, hsc⟩ := own_cells hs (by omega)
     obtain ⟨va3, vc3, rfl⟩ := G.st.form' hpL
     obtain ⟨g, cur, rfl, hg, hgs, hgb, hgF⟩ := G.st.block (by omega)
     rw [hpL] at hgs
     have hxg : bx ≠ g := fun e => hgF (e ▸ k3)
     have hblk := G.st.blk
     have hgp := G.st.pb
     refine Wp_skip (thn_normal (Wp_seq (Wp_block (Wp_seq_region ?_))))
     refine qV (r_indexSlice (b := sb) (o := 0) (len := i) (cap := lc) (i := i2) (o' := 0 + i2) rfl rfl rfl Try.underlying22 siz3 (by omega) (by omega)) ?_
     refine qV (r_load (v := (I6 (k : Int))) rfl flat3 (hsc i2 (iV k) (by rw [List.getElem?_map, hkL]; rfl))) ?_
     refine qA (I6 (k : Int)) rfl ?_
     refine WpL_nil ?_
     refine Wp_draw 12 mixed (by kernel_rfl) ?_
     intro w7 X7 _
     replace Bx := X7.keep Bx
     replace hblk := X7.keep hblk
     replace hg := X7.keep hg
     replace G := G.ext X7
     replace hs := own_ext hs X7
     replace E := E.ext X7
     refine qT (r_move (v := (P6 pb 0)) rfl) ?_
     refine qT (r_nilCheck (a := ⟨pb, 0, none⟩) rfl) ?_
     refine qT (r_fieldAddr (b := pb) (o := 0) (o' := 0) rfl Try.underlying83 rfl siz81 rfl) ?_
     refine qT (r_load (v := (.slice (some ⟨g, 0, none⟩) ee vc3)) rfl flat81 (hblk.cell rfl)) ?_
     refine qT (r_move (v := (I6 (k : Int))) rfl) ?_
     refine qT (r_move (v := (P6 pb 0)) rfl) ?_
     refine qT (r_nilCheck (a := ⟨pb, 0, none⟩) rfl) ?_
     refine qT (r_fieldAddr (b := pb) (o := 0) (o' := 0) rfl Try.underlying83 rfl siz81 rfl) ?_
     refine qT (r_load (v := (.slice (some ⟨g, 0, none⟩) ee vc3)) rfl flat81 (hblk.cell rfl)) ?_
     refine qT (r_lenSlice (ad := some ⟨g, 0, none⟩) (n := ee) (cap := vc3) Try.underlying81 rfl) ?_
     refine qT (r_indexSlice (b := g) (o := 0) (len := ee) (cap := vc3) (i := k) (o' := 0 + k * 8) rfl rfl rfl Try.underlying81 siz87 (by omega) (by omega)) ?_
     refine qT (r_fieldAddr (b := g) (o := 0 + k * 8) (o' := 0 + k * 8 + 1) rfl Try.underlying87 rfl siz3 rfl) ?_
     refine WpT_zero ?_
     refine s_store (b := g) (o := 0 + k * 8 + 1) (c' := cur.setIfInBounds (k * 8 + 1) (iV ee)) (v := (I6 (ee : Int))) rfl rfl rfl siz3 hg (by omega) (by rw [Nat.zero_add]) ?_
     intro w8 S8
     replace G := G.patch (i := k) (f := 1) (x := iV ee) (ins := .jump ee) hpL.symm hg S8 (by omega) (by omega) (jump_row hck) (fun _ _ => rfl) (fun _ _ h => by cases h)
     replace hs := own_chg hs S8.chg (fun q hq e => (hap3 q hq).2.2 (by have e' : q = g := e; rw [e']; rfl))
     replace Bx := S8.keep (by omega) Bx
     replace hblk := S8.keep (by omega) hblk
     replace E := S8.step E (by first | exact Or.inl (by omega) | exact Or.inr rfl | exact Or.inr (by assumption) | exact Or.inr (by simp) | exact Or.inr (by omega) | exact Or.inr (by dsimp only; omega))
     replace hg := S8.blk
     refine WpL_nil (inB_normal (thn_normal (Wp_region ?_)))
     refine qV (r_add (k := .i64) (a := (i2 : Int)) (b := 1) (c := (i2 : Int) + 1) rfl rfl (wI64 (by omega))) ?_
     refine qM (I6 ((i2 : Int) + 1)) rfl ?_
     refine WpL_nil (thn_normal ?_)
     exact ⟨i - (i2 + 1), by omega, i2 + 1, Fits.out ⟨rfl, rfl, rfl, rfl, trivial⟩, E, Bx, (by omega), (by rw [patW_take hkL]; exact G), hs, rfl⟩
    ·have khlt3 := hlt3
     replace hlt3 := of_decide_eq_false hlt3
     have hik : i2 = i := by omega
     refine Wp_exit (thn_exit (thn_exit (inB_here (inB_normal ?_))))
     refine fin_none Try.results41 ?_
     rw [hik, List.take_of_length_le (by omega), hLp] at G
     exact ⟨F3, v3, G⟩
  ·have khlast := hlast
   replace hlast := of_decide_eq_false hlast
   have hiI : i < init.length := by omega
   have hbu3 := Bu.lt
   have hyI : init[i]? = some y := by rw [List.getElem?_append_left hiI] at hy; exact hy
   have hfy : L0[i]? = some (frgOf y) := by rw [hL0, List.getElem?_map, hyI]; rfl
   have htake : L0.take (i + 1) = L0.take i ++ [frgOf y] := by rw [List.take_add_one, hfy]; rfl
   have hst := altP_step 0 (frgOf y) (L0.take i) n d t
   have hix := altI_step (frgOf y) (L0.take i) n d t
   have hle := altP_le hLm (i + 1) n d t
   rw [← htake] at hst hix
   rw [hst, ← hP0] at hle
   obtain ⟨Q, hQ⟩ : ∃ Q, Q = altP 0 (L0.take i) n d t := ⟨_, rfl⟩
   rw [← hQ] at hst hle hix G
   have hRm := frgOf_mono y (n + Q.1.length + 1) d Q.2
   obtain ⟨R, hR⟩ : ∃ R, R = frgOf y (n + Q.1.length + 1) d Q.2 := ⟨_, rfl⟩
   rw [← hR] at hst hle hix hRm
   simp only [List.length_append, List.length_cons, List.length_nil] at hle
   have hub : z ≤ bu := by have := Nu.eq; omega
   obtain ⟨q1, q2, q3, q4⟩ := hnb bu hub
   have G2 := G.frz2 q1 Bu.lt q3 q4
   have hap2 : ∀ q, (Value.slice la i lc).ownBlock = some q → Apt (fun y => F1 y ∨ y = bu) pb v1 q := fun q hq => ⟨fun hf => hf.elim (hap q hq).1 (fun e => by have := hslt q hq; omega), (hap q hq).2⟩
   have hslt2 := hs.lt
   have hlj : (code ++ Q.1).length = n + Q.1.length := by rw [List.length_append, hlen]
   obtain ⟨va2, vc2, rfl⟩ := G2.st.form' hlj
   have hblk := G2.st.blk
   have hgp := G2.st.pb
   refine Wp_skip (thn_normal (Wp_seq_region ?_))
   refine qM (P6 pb 0) rfl ?_
   refine qM (P6 pb 0) rfl ?_
   refine qV (r_nilCheck (a := ⟨pb, 0, none⟩) rfl) ?_
   refine qF pb 0 0 rfl Try.underlying83 rfl siz81 rfl ?_
   refine qV (r_load (v := (.slice va2 (n + Q.1.length) vc2)) rfl flat81 (hblk.cell rfl)) ?_
   refine qV (r_lenSlice (ad := va2) (n := (n + Q.1.length)) (cap := vc2) Try.underlying81 rfl) ?_
   refine qV (r_add (k := .i64) (a := (((n + Q.1.length) : Nat) : Int)) (b := 1) (c := ((n + Q.1.length + 1 : Nat) : Int)) rfl rfl ((wI64 (by omega)).trans (by omega))) ?_
   refine qV (r_build (ps := [(0, (I6 1)), (1, (I6 ((n + Q.1.length + 1 : Nat) : Int)))]) (v := (.agg #[(I6 1), (I6 ((n + Q.1.length + 1 : Nat) : Int)), (I6 0), (I6 0), (I6 0), (.slice none 0 0), (.pointer none), (.bool false)])) rfl (by kernel_rfl)) ?_
   refine WpL_enter rfl rfl (by decide) (r_callF (vs := [(P6 pb 0), (.agg #[(I6 1), (I6 ((n + Q.1.length + 1 : Nat) : Int)), (I6 0), (I6 0), (I6 0), (.slice none 0 0), (.pointer none), (.bool false)])]) Try.func42 nm42 bd42 rfl) (add_c _ _ base pb _ (n + Q.1.length) _ Q.2 d (.split (n + Q.1.length + 1) 0) 0 1 (n + Q.1.length + 1) 0 0 0 none 0 0 nilP false (hlj ▸ G2.st) (by omega) rfl rfl (fun _ _ h => by cases h)) ?_
   rintro _ w29 ⟨rfl, F3, v3, G3⟩
   replace Bx := G3.chg.keep (G2.st.kept (by first | exact .inr rfl | exact .inl hk)) Bx
   replace Bu := G3.chg.keep (G2.st.kept (by first | exact .inr rfl | exact .inl hk)) Bu
   replace E := E.step G3.chg (fun _ _ _ => trivial)
   have hs := own_chg hs G3.chg (fun q hq h => (hap2 q hq).keep h)
   have hap3 : ∀ q, (Value.slice la i lc).ownBlock = some q → Apt F3 pb v3 q := fun q hq => (hap2 q hq).step G3 (hslt2 q hq).2
   have k3 : F3 bx := G3.sub _ (.inl hk)
   have k3u : F3 bu := G3.sub _ (.inr rfl)
   have hslt3 := hs.lt
   have hz3 := G3.chg.size
   replace G3 := G2.comp G3
   have hl3 : ((code ++ Q.1) ++ [Ins.split (n + Q.1.length + 1) 0]).length = n + Q.1.length + 1 := by rw [List.length_append, hlj]; rfl
   have hEW3 := G3.wb hP.hp hP.ho hF hE
   refine qA (I6 ((n + Q.1.length : Nat) : Int)) rfl ?_
   refine WpL_nil (Wp_seq_region ?_)
   refine qM (P6 pb 0) rfl ?_
   refine qV (r_loadAgg (vs := [(I6 y.kind), (.slice ya y.set.length yc), (.slice za y.args.length zc), (I6 y.mn), (I6 y.mx), (.bool y.neg)]) rfl agg27 siz27 rfl (Bu.cells rfl)) ?_
   refine WpL_enter rfl rfl (by decide) (r_callF (vs := [(P6 pb 0), (.agg (R6 y ya yc za zc))]) Try.func41 nm41 bd41 rfl) (hih y hym base pb _ _ v3 (n + Q.1.length + 1) _ Q.2 d _ hyt hEW3 (fun q hq => G3.sub q (hF q hq)) (hl3 ▸ G3.st) (by rw [← hR]; omega) (by rw [← hR]; omega) (by omega)) ?_
   rintro _ w39 ⟨F4, v4, G4⟩
   replace Bx := G4.chg.keep (G3.st.kept (by first | exact k3 | exact k3u)) Bx
   replace Bu := G4.chg.keep (G3.st.kept (by first | exact k3 | exact k3u)) Bu
   replace E := E.step G4.chg (fun _ _ _ => trivial)
   rw [← hR] at G4
   have hs := own_chg hs G4.chg (fun q hq h => (hap3 q hq).keep h)
   have hap4 : ∀ q, (Value.slice la i lc).ownBlock = some q → Apt F4 pb v4 q := fun q hq => (hap3 q hq).step G4 (hslt3 q hq).2
   have k4 : F4 bx := G4.sub _ k3
   have k4u : F4 bu := G4.sub _ k3u
   have hslt4 := hs.lt
   have hz4 := G4.chg.size
   replace G4 := G3.comp G4
   have hl4 : (((code ++ Q.1) ++ [Ins.split (n + Q.1.length + 1) 0]) ++ R.1).length = n + Q.1.length + 1 + R.1.length := by rw [List.length_append, hl3]
   refine WpL_nil (Wp_seq_region ?_)
   refine qM (.slice la i lc) rfl ?_
   refine qM (P6 pb 0) rfl ?_
   refine qV (r_build (ps := [(0, (I6 2))]) (v := (.agg #[(I6 2), (I6 0), (I6 0), (I6 0), (I6 0), (.slice none 0 0), (.pointer none), (.bool false)])) rfl (by kernel_rfl)) ?_
   refine WpL_enter rfl rfl (by decide) (r_callF (vs := [(P6 pb 0), (.agg #[(I6 2), (I6 0), (I6 0), (I6 0), (I6 0), (.slice none 0 0), (.pointer none), (.bool false)])]) Try.func42 nm42 bd42 rfl) (add_c _ _ base pb _ (n + Q.1.length + 1 + R.1.length) _ R.2 d (.jump 0) 0 2 0 0 0 0 none 0 0 nilP false (hl4 ▸ G4.st) (by omega) rfl rfl (fun _ _ h => by cases h)) ?_
   rintro _ w49 ⟨rfl, F5, v5, G5⟩
   replace Bx := G5.chg.keep (G4.st.kept (by first | exact k4 | exact k4u)) Bx
   replace Bu := G5.chg.keep (G4.st.kept (by first | exact k4 | exact k4u)) Bu
   replace E := E.step G5.chg (fun _ _ _ => trivial)
   have hs := own_chg hs G5.chg (fun q hq h => (hap4 q hq).keep h)
   have hap5 : ∀ q, (Value.slice la i lc).ownBlock = some q → Apt F5 pb v5 q := fun q hq => (hap4 q hq).step G5 (hslt4 q hq).2
   have k5 : F5 bx := G5.sub _ k4
   have hz5 := G5.chg.size
   replace G5 := G4.comp G5
   have hsz5 : n2 ≤ w49.heap.size := by omega
   refine s_buildSlice (ps := [(0, (I6 ((n + Q.1.length + 1 + R.1.length : Nat) : Int)))]) (c := #[(I6 ((n + Q.1.length + 1 + R.1.length : Nat) : Int))]) (by decide) rfl Try.underlying22 siz3 zer3 (by decide) (by decide) (by kernel_rfl) ?_
   intro br wr Nr
   have Fr := Nr.ge E
   have Or_bx := Nr.lt Bx
   replace Bx := Nr.keep Bx
   replace E := E.ext Nr.ext
   have Br := Nr.blk
   have hs := own_ext hs Nr.ext
   have G6 := G5.ext Nr.ext
   refine s_append (base := n2) (n := i) (m := 1) (xs := ((altI (L0.take i) n d t).map iV)) (news := [(I6 ((n + Q.1.length + 1 + R.1.length : Nat) : Int))]) (size := 1) (bytes := 8) (v := (.slice la i lc)) (by decide) Try.underlying22 siz3 byt3 zer3 rfl (by decide) rfl hs rfl (rfl) (Br.cells rfl) (by simp [Value.oneCell']) (by unfold maxLen; omega) (by omega) ((by have := Nr.ext.size; omega)) ?_
   intro v7 w59 Ov7 Cv7 Dv7
   replace Bx := Cv7.keep (fun h => by have := (hs.lt _ h).1; omega) Bx
   replace E := E.step Cv7 (fun _ _ _ => trivial)
   obtain ⟨la2, lc2, rfl⟩ := own_form Ov7
   have G7 := G6.other Cv7 (fun q hq => ⟨by have := (hs.lt q hq).1; omega, hap5 q hq⟩)
   have hap7 : ∀ q, (Value.slice la2 (i + 1) lc2).ownBlock = some q → Apt F5 pb v5 q := fun q hq => by rcases Dv7 q hq with h9 | h9; exact hap5 q h9; exact (GrX.fresh G6 q h9).2
   have hszw : n2 ≤ w59.heap.size := by have := Cv7.size; have := Nr.ext.size; omega
   have hl7 : ((((code ++ Q.1) ++ [Ins.split (n + Q.1.length + 1) 0]) ++ R.1) ++ [Ins.jump 0]).length = n + Q.1.length + 2 + R.1.length := by rw [List.length_append, hl4, List.length_singleton]; omega
   obtain ⟨va7, vc7, rfl⟩ := G7.st.form' hl7
   obtain ⟨g, cur, rfl, hg, hgs, hgb, hgF⟩ := G7.st.block (by omega)
   rw [hl7] at hgs
   have hxg : bx ≠ g := fun e => hgF (e ▸ k5)
   have hblk := G7.st.blk
   have e7 : (((code ++ Q.1) ++ [Ins.split (n + Q.1.length + 1) 0]) ++ R.1) ++ [Ins.jump 0] = (code ++ Q.1) ++ Ins.split (n + Q.1.length + 1) 0 :: (R.1 ++ [Ins.jump 0]) := by simp
   rw [e7] at G7 hl7
   refine qA (.slice la2 (i + 1) lc2) rfl ?_
   refine WpL_nil ?_
   refine Wp_draw 12 mixed (by kernel_rfl) ?_
   intro w9 X9 _
   replace Bx := X9.keep Bx
   replace hblk := X9.keep hblk
   replace hg := X9.keep hg
   replace hszw := Nat.le_trans hszw X9.size
   replace G7 := G7.ext X9
   replace Ov7 := own_ext Ov7 X9
   replace E := E.ext X9
   refine qT (r_move (v := (P6 pb 0)) rfl) ?_
   refine qT (r_nilCheck (a := ⟨pb, 0, none⟩) rfl) ?_
   refine qT (r_fieldAddr (b := pb) (o := 0) (o' := 0) rfl Try.underlying83 rfl siz81 rfl) ?_
   refine qT (r_load (v := (.slice (some ⟨g, 0, none⟩) (n + Q.1.length + 2 + R.1.length) vc7)) rfl flat81 (hblk.cell rfl)) ?_
   refine qT (r_move (v := (I6 ((n + Q.1.length : Nat) : Int))) rfl) ?_
   refine qT (r_move (v := (P6 pb 0)) rfl) ?_
   refine qT (r_nilCheck (a := ⟨pb, 0, none⟩) rfl) ?_
   refine qT (r_fieldAddr (b := pb) (o := 0) (o' := 0) rfl Try.underlying83 rfl siz81 rfl) ?_
   refine qT (r_load (v := (.slice (some ⟨g, 0, none⟩) (n + Q.1.length + 2 + R.1.length) vc7)) rfl flat81 (hblk.cell rfl)) ?_
   refine qT (r_lenSlice (ad := some ⟨g, 0, none⟩) (n := (n + Q.1.length + 2 + R.1.length)) (cap := vc7) Try.underlying81 rfl) ?_
   refine qT (r_indexSlice (b := g) (o := 0) (len := (n + Q.1.length + 2 + R.1.length)) (cap := vc7) (i := n + Q.1.length) (o' := 0 + (n + Q.1.length) * 8) rfl rfl rfl Try.underlying81 siz87 (by omega) (by omega)) ?_
   refine qT (r_fieldAddr (b := g) (o := 0 + (n + Q.1.length) * 8) (o' := 0 + (n + Q.1.length) * 8 + 2) rfl Try.underlying87 rfl siz3 rfl) ?_
   refine WpT_zero ?_
   refine s_store (b := g) (o := 0 + (n + Q.1.length) * 8 + 2) (c' := cur.setIfInBounds ((n + Q.1.length) * 8 + 2) (iV (n + Q.1.length + 2 + R.1.length))) (v := (I6 (((n + Q.1.length + 2 + R.1.length) : Nat) : Int))) rfl rfl rfl siz3 hg (by omega) (by rw [Nat.zero_add]) ?_
   intro w10 S10
   replace hszw := Nat.le_trans hszw S10.chg.size
   replace G7 := G7.patch (i := n + Q.1.length) (f := 2) (x := iV (n + Q.1.length + 2 + R.1.length)) (ins := .split (n + Q.1.length + 1) (n + Q.1.length + 2 + R.1.length)) hl7.symm hg S10 (by omega) (by omega) (split_row (get_mid hlj)) (fun _ _ => rfl) (fun _ _ h => by cases h)
   replace Ov7 := own_chg Ov7 S10.chg (fun q hq e => (hap7 q hq).2.2 (by have e' : q = g := e; rw [e']; rfl))
   replace Bx := S10.keep (by omega) Bx
   replace hblk := S10.keep (by omega) hblk
   replace E := S10.step E (by first | exact Or.inl (by omega) | exact Or.inr rfl | exact Or.inr (by assumption) | exact Or.inr (by simp) | exact Or.inr (by omega) | exact Or.inr (by dsimp only; omega))
   replace hg := S10.blk
   rw [set_mid hlj] at G7
   refine WpL_nil (inB_normal (thn_normal (Wp_region ?_)))
   refine qV (r_add (k := .i64) (a := (i : Int)) (b := 1) (c := (i : Int) + 1) rfl rfl (wI64 (by omega))) ?_
   refine qM (I6 ((i : Int) + 1)) rfl ?_
   refine WpL_nil (thn_normal ?_)
   exact ⟨m - (i + 1), by omega, i + 1, F5, Value.slice (some ⟨g, 0, none⟩) (n + Q.1.length + 2 + R.1.length) vc7, la2, lc2, Fits.out ⟨rfl, rfl, rfl, rfl, rfl, rfl, trivial⟩, E, Bx, (by omega), (by rw [hst]; dsimp only; rw [← List.append_assoc, show n + Q.1.length + 1 + R.1.length + 1 = n + Q.1.length + 2 + R.1.length by omega]; exact G7), k5, (by rw [hix, List.map_append]; exact Ov7), hap7, hszw, rfl⟩
end Go.Proofs
namespace Go.Proofs
open Go Go.Eng
set_option maxRecDepth 100000
def fitF (most : Int) : Int × Int → Re → Bool × (Int × Int) := fun s t =>
 let n := IntKind.i64.wrap (s.1 + 1)
 let e := if most < n then 2 else nodeE t
 (decide (e = 0), (n, e))
def fitsE (t : Re) (most : Int) : Int := (walkF (fitF most) t (0, 0)).2.2
theorem fits1_c (wb w0 : World) (t : Re) (vs : List Value) (ht : ReAt wb t vs) (hE : Ext wb w0) (b1' b2' b3' : Nat) (s : Int × Int) (most : Int) (h0 : wb.heap.size ≤ b2') (h12 : b2' < b1') (h13 : b1' < b3')
  (hB1 : Blk w0 b1' #[.int .i64 s.1] 3) (hB2 : Blk w0 b2' #[.int .i64 most] 3) (hB3 : Blk w0 b3' #[.int .i64 s.2] 34) :
  Ret Try.prog 64 #[.agg vs.toArray, .pointer (some ⟨b1', 0, none⟩), .pointer (some ⟨b2', 0, none⟩), .pointer (some ⟨b3', 0, none⟩)] w0
   fun v w => v = .bool (fitF most s t).1 ∧ Chg (fun x => x = b1' ∨ x = b3') w0 w ∧ Blk w b1' #[.int .i64 (fitF most s t).2.1] 3 ∧ Blk w b2' #[.int .i64 most] 3 ∧ Blk w b3' #[.int .i64 (fitF most s t).2.2] 34 := by
 have ht0 := ht
 obtain ⟨sa, sc, aa, ac, rfl, hset, hlen, hargs⟩ := ht.form
 refine Ret_of Try.func64 rfl Try.ntmps64 (Nat.le_of_ble_eq_true rfl) ?_
 have E : Chg (fun x => x = b1' ∨ x = b3') w0 w0 := Chg.refl _ _
 refine Wp_seq_region ?_
 refine s_box (v := (.agg (R6 t sa sc aa ac))) (c := (R6 t sa sc aa ac)) (by decide) rfl rfl ?_
 intro b1 w1 N1
 have F1 := N1.ge E
 have O1_b1' := N1.lt hB1
 have O1_b2' := N1.lt hB2
 have O1_b3' := N1.lt hB3
 replace hB1 := N1.keep hB1
 replace hB2 := N1.keep hB2
 replace hB3 := N1.keep hB3
 replace E := E.ext N1.ext
 have B1 := N1.blk
 refine qA (.bool false) rfl ?_
 refine WpL_nil (Wp_seq (Wp_seq_region ?_))
 refine qV (r_load (v := (I6 s.1)) rfl flat3 (hB1.cell rfl)) ?_
 refine qV (r_add (k := .i64) (a := s.1) (b := 1) (c := IntKind.i64.wrap (s.1 + 1)) rfl rfl (rfl)) ?_
 refine s_store (b := b1') (o := 0) (c' := #[(I6 (IntKind.i64.wrap (s.1 + 1)))]) (v := (I6 (IntKind.i64.wrap (s.1 + 1)))) rfl rfl rfl siz3 hB1 (by simp) rfl ?_
 intro w2 S2
 replace hB2 := S2.keep (by omega) hB2
 replace hB3 := S2.keep (by omega) hB3
 replace B1 := S2.keep (by omega) B1
 replace E := S2.step E (by first | exact Or.inl (by omega) | exact Or.inr rfl | exact Or.inr (by assumption) | exact Or.inr (by simp) | exact Or.inr (by omega) | exact Or.inr (by dsimp only; omega))
 replace hB1 := S2.blk
 refine WpL_nil (Wp_seq_region ?_)
 refine qV (r_load (v := (I6 (IntKind.i64.wrap (s.1 + 1)))) rfl flat3 (hB1.cell rfl)) ?_
 refine qV (r_load (v := (I6 most)) rfl flat3 (hB2.cell rfl)) ?_
 refine qV (r_gtr (k := .i64) (a := IntKind.i64.wrap (s.1 + 1)) (b := most) rfl rfl) ?_
 refine WpL_nil ?_
 refine Wp_cond (b := decide ((most : Int) < IntKind.i64.wrap (s.1 + 1))) rfl (fun h => ?_) (fun h => ?_)
 ·have kh := h
  replace h := of_decide_eq_true h
  refine Wp_region ?_
  refine s_store (b := b3') (o := 0) (c' := #[(I6 2)]) (v := (I6 2)) rfl rfl rfl siz34 hB3 (by simp) rfl ?_
  intro w4 S4
  replace hB1 := S4.keep (by omega) hB1
  replace hB2 := S4.keep (by omega) hB2
  replace B1 := S4.keep (by omega) B1
  replace E := S4.step E (by first | exact Or.inl (by omega) | exact Or.inr rfl | exact Or.inr (by assumption) | exact Or.inr (by simp) | exact Or.inr (by omega) | exact Or.inr (by dsimp only; omega))
  replace hB3 := S4.blk
  refine WpL_nil (thn_normal (Wp_seq_region ?_))
  refine qV (r_load (v := (I6 2)) rfl flat34 (hB3.cell rfl)) ?_
  refine qV (r_eql (k := .i64) (a := 2) (b := 0) rfl rfl) ?_
  refine qA (.bool false) rfl ?_
  refine WpL_nil (Wp_ret ?_)
  refine fin_tmp Try.results64 (v := (.bool false)) rfl ?_
  exact ⟨by simp [fitF, h], E, by simpa [fitF] using hB1, hB2, by simpa [fitF, h] using hB3⟩
 ·have kh := h
  replace h := of_decide_eq_false h
  refine Wp_region ?_
  refine qV (r_loadAgg (vs := [(I6 t.kind), (.slice sa t.set.length sc), (.slice aa t.args.length ac), (I6 t.mn), (I6 t.mx), (.bool t.neg)]) rfl agg27 siz27 rfl (B1.cells rfl)) ?_
  refine WpL_enter rfl rfl (by decide) (r_callF (vs := [(.agg (R6 t sa sc aa ac))]) Try.func65 nm65 bd65 rfl) (node_c wb _ t _ ht0 (Chg.step hE E fun x hx hm => by rcases hm with hm | hm <;> omega)) ?_
  rintro _ w9 ⟨rfl, X9⟩
  replace hB1 := X9.keep hB1
  replace hB2 := X9.keep hB2
  replace hB3 := X9.keep hB3
  replace B1 := X9.keep B1
  replace E := E.ext X9
  refine s_store (b := b3') (o := 0) (c' := #[(I6 (nodeE t))]) (v := (I6 (nodeE t))) rfl rfl rfl siz34 hB3 (by simp) rfl ?_
  intro w5 S5
  replace hB1 := S5.keep (by omega) hB1
  replace hB2 := S5.keep (by omega) hB2
  replace B1 := S5.keep (by omega) B1
  replace E := S5.step E (by first | exact Or.inl (by omega) | exact Or.inr rfl | exact Or.inr (by assumption) | exact Or.inr (by simp) | exact Or.inr (by omega) | exact Or.inr (by dsimp only; omega))
  replace hB3 := S5.blk
  refine WpL_nil (thn_normal (Wp_seq_region ?_))
  refine qV (r_load (v := (I6 (nodeE t))) rfl flat34 (hB3.cell rfl)) ?_
  refine qV (r_eql (k := .i64) (a := nodeE t) (b := 0) rfl rfl) ?_
  refine qA (.bool (decide ((nodeE t : Int) = 0))) rfl ?_
  refine WpL_nil (Wp_ret ?_)
  refine fin_tmp Try.results64 (v := (.bool (decide ((nodeE t : Int) = 0)))) rfl ?_
  exact ⟨by simp [fitF, h], E, by simpa [fitF] using hB1, hB2, by simpa [fitF, h] using hB3⟩
theorem fits_c (w0 : World) (t : Re) (vs : List Value) (ht : ReAt w0 t vs) (most : Int) :
  Ret Try.prog 45 #[.agg vs.toArray, .int .i64 most] w0 fun v w => v = .int .i64 (fitsE t most) ∧ Ext w0 w := by
 have ht0 := ht
 obtain ⟨sa, sc, aa, ac, rfl, hset, hlen, hargs⟩ := ht.form
 refine Ret_of Try.func45 rfl Try.ntmps45 (Nat.le_of_ble_eq_true rfl) ?_
 have E : Chg none1 w0 w0 := Chg.refl _ _
 refine Wp_seq_region ?_
 refine s_box (v := (.agg (R6 t sa sc aa ac))) (c := (R6 t sa sc aa ac)) (by decide) rfl rfl ?_
 intro b1 w1 N1
 have F1 := N1.ge E
 replace E := E.ext N1.ext
 have B1 := N1.blk
 refine s_box (v := (I6 most)) (c := #[(I6 most)]) (by decide) rfl rfl ?_
 intro b2 w2 N2
 have F2 := N2.ge E
 have O2_b1 := N2.lt B1
 replace B1 := N2.keep B1
 replace E := E.ext N2.ext
 have B2 := N2.blk
 refine qA (I6 0) rfl ?_
 refine WpL_nil (Wp_seq_region ?_)
 refine s_alloc (c := #[(I6 0)]) (by decide) zer3 rfl ?_
 intro b3 w3 N3
 have F3 := N3.ge E
 have O3_b1 := N3.lt B1
 have O3_b2 := N3.lt B2
 replace B1 := N3.keep B1
 replace B2 := N3.keep B2
 replace E := E.ext N3.ext
 have B3 := N3.blk
 refine s_alloc (c := #[(I6 0)]) (by decide) zer34 rfl ?_
 intro b4 w4 N4
 have F4 := N4.ge E
 have O4_b1 := N4.lt B1
 have O4_b2 := N4.lt B2
 have O4_b3 := N4.lt B3
 replace B1 := N4.keep B1
 replace B2 := N4.keep B2
 replace B3 := N4.keep B3
 replace E := E.ext N4.ext
 have B4 := N4.blk
 refine s_store (b := b3) (o := 0) (c' := #[(I6 0)]) (v := (I6 0)) rfl rfl rfl siz3 B3 (by simp) rfl ?_
 intro w5 S5
 replace B1 := S5.keep (by omega) B1
 replace B2 := S5.keep (by omega) B2
 replace B4 := S5.keep (by omega) B4
 replace E := S5.step E (by first | exact Or.inl (by omega) | exact Or.inr rfl | exact Or.inr (by assumption) | exact Or.inr (by simp) | exact Or.inr (by omega) | exact Or.inr (by dsimp only; omega))
 replace B3 := S5.blk
 refine s_store (b := b4) (o := 0) (c' := #[(I6 0)]) (v := (I6 0)) rfl rfl rfl siz34 B4 (by simp) rfl ?_
 intro w6 S6
 replace B1 := S6.keep (by omega) B1
 replace B2 := S6.keep (by omega) B2
 replace B3 := S6.keep (by omega) B3
 replace E := S6.step E (by first | exact Or.inl (by omega) | exact Or.inr rfl | exact Or.inr (by assumption) | exact Or.inr (by simp) | exact Or.inr (by omega) | exact Or.inr (by dsimp only; omega))
 replace B4 := S6.blk
 refine WpL_nil (Wp_seq_region ?_)
 refine qV (r_loadAgg (vs := [(I6 t.kind), (.slice sa t.set.length sc), (.slice aa t.args.length ac), (I6 t.mn), (I6 t.mx), (.bool t.neg)]) rfl agg27 siz27 rfl (B1.cells rfl)) ?_
 refine qV (r_makeFunc (vs := []) (us := [(P6 b3 0), (P6 b2 0), (P6 b4 0)]) rfl rfl) ?_
 have hf : ∀ (s : Int × Int) (w : World) (t : Re) (vs : List Value), b4 + 1 ≤ w.heap.size → Ext w0 w → (Blk w b3 #[.int .i64 s.1] 3 ∧ Blk w b2 #[.int .i64 most] 3 ∧ Blk w b4 #[.int .i64 s.2] 34) → ReAt w0 t vs → CallV Try.prog (.func (.func 64) #[] #[.pointer (some ⟨b3, 0, none⟩), .pointer (some ⟨b2, 0, none⟩), .pointer (some ⟨b4, 0, none⟩)]) #[.agg vs.toArray] w fun v w' => v = .bool (fitF most s t).1 ∧ Chg (fun x => x = b3 ∨ x = b4) w w' ∧ (Blk w' b3 #[.int .i64 (fitF most s t).2.1] 3 ∧ Blk w' b2 #[.int .i64 most] 3 ∧ Blk w' b4 #[.int .i64 (fitF most s t).2.2] 34) := fun s w t vs _ hE hI ht => CallV.mk (first := #[]) (cap := #[.pointer (some ⟨b3, 0, none⟩), .pointer (some ⟨b2, 0, none⟩), .pointer (some ⟨b4, 0, none⟩)]) (args := #[.agg vs.toArray]) Try.func64 nm64 bd64 rfl (fits1_c w0 w t vs ht hE b3 b2 b4 s most (by omega) (by omega) (by omega) hI.1 hI.2.1 hI.2.2)
 refine WpL_enter rfl rfl (by decide) (r_callF (vs := [(.agg (R6 t sa sc aa ac)), (.func (.func 64) #[] #[(P6 b3 0), (P6 b2 0), (P6 b4 0)])]) Try.func46 nm46 bd46 rfl) (walk_c (fitF most) (fun s w => Blk w b3 #[.int .i64 s.1] 3 ∧ Blk w b2 #[.int .i64 most] 3 ∧ Blk w b4 #[.int .i64 s.2] 34) (fun x => x = b3 ∨ x = b4) (b4 + 1) _ w0 (fun b hb => by omega) (fun s w w' hI e => ⟨e.keep hI.1, e.keep hI.2.1, e.keep hI.2.2⟩) hf t.size t (Nat.le_refl _) (0, 0) _ _ (by have := B4.lt; omega) E ⟨B3, B2, B4⟩ ht0) ?_
 rintro _ w9 ⟨rfl, C9, B3', B2', B4'⟩
 replace B1 := C9.keep (by omega) B1
 replace E := E.step C9 (by intro x hx hm; omega)
 refine WpL_nil (Wp_seq_region ?_)
 refine qV (r_load (v := (I6 ((walkF (fitF most) t (0, 0)).2.2))) rfl flat34 (B4'.cell rfl)) ?_
 refine qA (I6 ((walkF (fitF most) t (0, 0)).2.2)) rfl ?_
 refine WpL_nil (Wp_ret ?_)
 refine fin_tmp Try.results45 (v := (.int .i64 ((walkF (fitF most) t (0, 0)).2.2))) rfl ?_
 exact ⟨rfl, E⟩
theorem check_c (w0 : World) (t : Re) (vs : List Value) (ht : ReAt w0 t vs) :
  Ret Try.prog 29 #[.agg vs.toArray] w0 fun v w => v = .int .i64 (fitsE t 40) ∧ Ext w0 w := by
 have ht0 := ht
 obtain ⟨sa, sc, aa, ac, rfl, hset, hlen, hargs⟩ := ht.form
 refine Ret_of Try.func29 rfl Try.ntmps29 (Nat.le_of_ble_eq_true rfl) ?_
 have E : Chg none1 w0 w0 := Chg.refl _ _
 refine Wp_seq_region ?_
 refine s_box (v := (.agg (R6 t sa sc aa ac))) (c := (R6 t sa sc aa ac)) (by decide) rfl rfl ?_
 intro b1 w1 N1
 have F1 := N1.ge E
 replace E := E.ext N1.ext
 have B1 := N1.blk
 refine qA (I6 0) rfl ?_
 refine WpL_nil (Wp_seq_region ?_)
 refine qV (r_loadAgg (vs := [(I6 t.kind), (.slice sa t.set.length sc), (.slice aa t.args.length ac), (I6 t.mn), (I6 t.mx), (.bool t.neg)]) rfl agg27 siz27 rfl (B1.cells rfl)) ?_
 refine WpL_enter rfl rfl (by decide) (r_callF (vs := [(.agg (R6 t sa sc aa ac)), (I6 40)]) Try.func45 nm45 bd45 rfl) (fits_c _ t _ (ReAt.ext E t ht0) 40) ?_
 rintro _ w9 ⟨rfl, X9⟩
 replace B1 := X9.keep B1
 replace E := E.ext X9
 refine qA (I6 (fitsE t 40)) rfl ?_
 refine WpL_nil (Wp_ret ?_)
 refine fin_tmp Try.results29 (v := (.int .i64 (fitsE t 40))) rfl ?_
 exact ⟨rfl, E⟩
end Go.Proofs
namespace Go.Proofs
open Go Go.Eng
set_option maxRecDepth 100000
mutual
def okRe : Re → Prop
  | .mk k set args mn mx ng => nodeE (.mk k set args mn mx ng) = 0 ∧ okRes args
def okRes : List Re → Prop
  | [] => True
  | t :: ts => okRe t ∧ okRes ts
end
theorem okRes_get {ts : List Re} (h : okRes ts) {i : Nat} {x : Re} (hx : ts[i]? = some x) : okRe x := by
  induction ts generalizing i with
  | nil => simp at hx
  | cons t ts ih =>
    simp only [okRes] at h
    cases i with
    | zero => simp at hx; subst hx; exact h.1
    | succ i => exact ih h.2 (by simpa using hx)
theorem okRe_node {t : Re} (h : okRe t) : nodeE t = 0 := by cases t; simp only [okRe] at h; exact h.1
theorem okRe_args {t : Re} (h : okRe t) : okRes t.args := by cases t; simp only [okRe] at h; exact h.2
theorem okRe_form {t : Re} (h : okRe t) : 0 ≤ t.kind ∧ t.kind ≤ 10 ∧ formB t = true := by
 have := okRe_node h
 unfold nodeE at this
 split at this
 ·omega
 ·rename_i hk
  split at this
  ·omega
  ·rename_i hf; exact ⟨by omega, by omega, by simpa using hf⟩
theorem okRe_one {t : Re} (h : okRe t) (hk : t.kind = 5 ∨ t.kind = 6 ∨ t.kind = 8 ∨ t.kind = 9 ∨ t.kind = 10) : t.args.length = 1 := by
 obtain ⟨_, _, hf⟩ := okRe_form h
 simp only [formB, Bool.and_eq_true] at hf
 have := hf.1.1.1.1
 unfold okB at this
 rw [if_neg (by omega), if_pos hk] at this
 simp at this; omega
theorem okRe_rep {t : Re} (h : okRe t) (hk : t.kind = 6) : 0 ≤ t.mn ∧ t.mn ≤ t.mx ∧ t.mx ≤ 8 := by
 have := okRe_node h
 obtain ⟨h1, h2, hf⟩ := okRe_form h
 unfold nodeE at this
 rw [if_neg (by omega), if_neg (by simp [hf]), if_neg (by omega), if_pos hk] at this
 split at this <;> omega
theorem len_lt_size (t : Re) : t.args.length < t.size := by
  rw [Re.size_eq]
  have : ∀ ts : List Re, ts.length ≤ Re.sizes ts := by
    intro ts
    induction ts with
    | nil => simp
    | cons x r ih => have := x.size_pos; simp [Re.sizes]; omega
  have := this t.args
  omega
end Go.Proofs
namespace Go.Proofs
open Go Go.Eng
set_option maxRecDepth 100000
theorem fitF_eq {most : Int} {n e : Int} (t : Re) (h0 : 0 ≤ n) (h1 : n ≤ 1000000) : fitF most (n, e) t = (decide ((if most < n + 1 then 2 else nodeE t) = 0), (n + 1, if most < n + 1 then 2 else nodeE t)) := by
 simp only [fitF]; rw [wI64 (by omega)]
mutual
theorem fits_yes {most : Int} (hm : most ≤ 1000000) : ∀ (t : Re) (n e : Int), 0 ≤ n → n + t.size ≤ most → okRe t → walkF (fitF most) t (n, e) = (true, (n + t.size, 0))
  | .mk k set args mn mx ng, n, e, h0, h1, hok => by
    simp only [Re.size] at h1 ⊢
    rw [walkF_eq, fitF_eq _ h0 (by omega)]
    have hn := okRe_node hok
    have hlt : ¬ most < n + 1 := by omega
    simp only [if_neg hlt, hn, decide_true, if_true, Re.args]
    have ha := okRe_args hok
    simp only [Re.args] at ha
    rw [fits_yess hm args (n + 1) 0 (by omega) (by omega) ha rfl]
    simp; omega
theorem fits_yess {most : Int} (hm : most ≤ 1000000) : ∀ (ts : List Re) (n e : Int), 0 ≤ n → n + Re.sizes ts ≤ most → okRes ts → e = 0 → walkFs (fitF most) ts (n, e) = (true, (n + Re.sizes ts, 0))
  | [], n, e, _, _, _, he => by simp [walkFs, Re.sizes, he]
  | t :: ts, n, e, h0, h1, hok, he => by
    simp only [Re.sizes] at h1 ⊢
    simp only [okRes] at hok
    rw [walkFs_cons, fits_yes hm t n e h0 (by omega) hok.1]
    simp only [if_true]
    rw [fits_yess hm ts _ _ (by omega) (by omega) hok.2 rfl]
    simp; omega
end
mutual
theorem fits_no {most : Int} (hm : most ≤ 1000000) : ∀ (t : Re) (n e : Int), 0 ≤ n → n ≤ most → (walkF (fitF most) t (n, e)).1 = true → okRe t ∧ n + t.size ≤ most ∧ (walkF (fitF most) t (n, e)).2 = (n + t.size, 0)
  | .mk k set args mn mx ng, n, e, h0, h1, h => by
    rw [walkF_eq, fitF_eq _ h0 (by omega)] at h ⊢
    by_cases hc : (if most < n + 1 then 2 else nodeE (.mk k set args mn mx ng)) = 0
    · have hlt : ¬ most < n + 1 := by intro h'; rw [if_pos h'] at hc; omega
      rw [if_neg hlt] at hc
      simp only [if_neg hlt, hc, decide_true, if_true, Re.args] at h ⊢
      obtain ⟨a, b, c⟩ := fits_nos hm args (n + 1) 0 (by omega) (by omega) h rfl
      refine ⟨by simp only [okRe]; exact ⟨hc, a⟩, by simp only [Re.size]; omega, by rw [c]; simp only [Re.size]; simp; omega⟩
    · simp [hc] at h
theorem fits_nos {most : Int} (hm : most ≤ 1000000) : ∀ (ts : List Re) (n e : Int), 0 ≤ n → n ≤ most → (walkFs (fitF most) ts (n, e)).1 = true → e = 0 → okRes ts ∧ n + Re.sizes ts ≤ most ∧ (walkFs (fitF most) ts (n, e)).2 = (n + Re.sizes ts, 0)
  | [], n, e, _, h1, _, he => by simp [walkFs, Re.sizes, okRes, he]; omega
  | t :: ts, n, e, h0, h1, h, he => by
    rw [walkFs_cons] at h ⊢
    by_cases hc : (walkF (fitF most) t (n, e)).1 = true
    · rw [if_pos hc] at h ⊢
      obtain ⟨a, b, c⟩ := fits_no hm t n e h0 h1 hc
      rw [c] at h ⊢
      obtain ⟨a', b', c'⟩ := fits_nos hm ts _ _ (by omega) b h rfl
      exact ⟨by simp only [okRes]; exact ⟨a, a'⟩, by simp only [Re.sizes]; omega, by rw [c']; simp only [Re.sizes]; simp; omega⟩
    · rw [if_neg hc] at h; simp at h
end
mutual
theorem fits_last {most : Int} : ∀ (t : Re) (s : Int × Int), (walkF (fitF most) t s).1 = decide ((walkF (fitF most) t s).2.2 = 0)
  | .mk k set args mn mx ng, s => by
    rw [walkF_eq]
    by_cases hc : (fitF most s (.mk k set args mn mx ng)).1 = true
    · rw [if_pos hc]
      exact fits_lasts args _ (by simpa [fitF] using hc)
    · rw [if_neg hc]
      have h2 : (fitF most s (.mk k set args mn mx ng)).1 = false := by simpa using hc
      simp only [fitF] at h2 ⊢
      exact h2.symm
theorem fits_lasts {most : Int} : ∀ (ts : List Re) (s : Int × Int), s.2 = 0 → (walkFs (fitF most) ts s).1 = decide ((walkFs (fitF most) ts s).2.2 = 0)
  | [], s, h => by simp [walkFs, h]
  | t :: ts, s, h => by
    rw [walkFs_cons]
    have := fits_last (most := most) t s
    by_cases hc : (walkF (fitF most) t s).1 = true
    · rw [if_pos hc]
      rw [hc] at this
      exact fits_lasts ts _ (by simpa using this.symm)
    · rw [if_neg hc]
      have h2 : (walkF (fitF most) t s).1 = false := by simpa using hc
      rw [h2] at this
      exact this
end
theorem fitsE_zero {t : Re} {most : Int} (h0 : 0 ≤ most) (hm : most ≤ 1000000) : fitsE t most = 0 ↔ okRe t ∧ (t.size : Int) ≤ most := by
 unfold fitsE
 constructor
 ·intro h
  have h1 := fits_last (most := most) t (0, 0)
  rw [h] at h1
  obtain ⟨a, b, _⟩ := fits_no hm t 0 0 (Int.le_refl 0) h0 (by simpa using h1)
  exact ⟨a, by omega⟩
 ·rintro ⟨a, b⟩
  rw [fits_yes hm t 0 0 (Int.le_refl 0) (by omega) a]
def pairV (p : Nat × Nat) : List Value := [.int .i64 (p.1 : Int), .int .i64 (p.2 : Int)]
def PairsAt (w : World) (v : Value) (l : List (Nat × Nat)) : Prop := SlAt w 2 v (l.map pairV)
end Go.Proofs
namespace Go.Proofs
open Go Go.Eng
set_option maxRecDepth 100000
theorem equalIn_pair {P : Program} {w : World} {t e : TypeId} (d : Nat) (a b c f : Int) (ht : P.underlying t = some (.array 2 e)) (he : P.underlying e = some (.int .i64)) (hs : Siz P e 1) (hf : flatB P e = true) :
  (Op.equalIn (d + 2) t (.agg #[.int .i64 a, .int .i64 b]) (.agg #[.int .i64 c, .int .i64 f])).run P w = .ok (decide (a = c) && decide (b = f)) w := by
 have h1 : ∀ x y : Int, (Op.equalIn (d + 1) e (.int .i64 x) (.int .i64 y)).run P w = .ok (x == y) w := fun x y => run_equalIn_int w d e .i64 .i64 x y he
 have p0 : ∀ x y : Int, (part e #[.int .i64 x, .int .i64 y] 0).run P w = .ok (.int .i64 x) w := fun x y => part_int hf rfl
 have p1 : ∀ x y : Int, (part e #[.int .i64 x, .int .i64 y] 1).run P w = .ok (.int .i64 y) w := fun x y => part_int hf rfl
 rw [Op.equalIn]
 simp only [Sem.run_bind, run_underlying ht, Result.andThen_ok, hs.run]
 by_cases hac : a = c
 ·by_cases hbf : b = f
  ·simp [Std.Legacy.Range.forIn_eq_forIn_range', List.range', p0, p1, h1, hac, hbf]
  ·simp [Std.Legacy.Range.forIn_eq_forIn_range', List.range', p0, p1, h1, hac, hbf]
 ·simp [Std.Legacy.Range.forIn_eq_forIn_range', List.range', p0, h1, hac]
theorem r_eqlPair {P : Program} {σ : Env} {w : World} {dst : Option Tmp} {ty : TypeId} {pos : String} {af : Array Edge} {g : Option (Nat × Bool)} {t t' e : TypeId} {x y : Operand} {a b c f : Int}
  (ht : P.underlying t = some (.array 2 e)) (he : P.underlying e = some (.int .i64)) (hs : Siz P e 1) (hf : flatB P e = true) (hm : P.eqGuardType P.depth t = false)
  (hx : ev σ x = .agg #[.int .i64 a, .int .i64 b]) (hy : ev σ y = .agg #[.int .i64 c, .int .i64 f]) :
  (execOp (ev σ) ⟨dst, .binOp .eql t x y t', ty, pos, af, g⟩).run P w = .ok (.value (.bool (decide (a = c) && decide (b = f)))) w := by
 have h := equalIn_pair (P := P) (w := w) 9998 a b c f ht he hs hf
 simp only [execOp, hx, hy, Sem.run_bind, run_eqGuard_agg w .eql t x y _ _ hm, Result.andThen_ok, run_eql_struct, h]
 rfl
theorem PairsAt.ext {w w' : World} {v : Value} {l : List (Nat × Nat)} (h : PairsAt w v l) (e : Ext w w') : PairsAt w' v l := SlAt.ext h e
theorem eqgPair : Try.prog.eqGuardType Try.prog.depth 30 = false := by kernel_rfl
end Go.Proofs
namespace Go.Eng
open Go
def SlIn (S : Nat → Prop) (w : World) (k : Nat) (v : Value) (rows : List (List Value)) : Prop :=
 ∃ a cap, v = .slice a rows.length cap ∧ rows.length ≤ 9223372036854775807 ∧ rows.length ≤ cap ∧ (rows = [] ∨ ∃ b o, S b ∧ a = some ⟨b, o, none⟩ ∧ ∀ i r, rows[i]? = some r → CellsAt w b (o + i * k) r)
theorem SlIn.at {S : Nat → Prop} {w : World} {k : Nat} {v : Value} {rows : List (List Value)} (h : SlIn S w k v rows) : SlAt w k v rows := by
 obtain ⟨a, cap, h1, h2, h3, h4⟩ := h
 refine ⟨a, cap, h1, h2, h3, ?_⟩
 rcases h4 with h | ⟨b, o, _, h5, h6⟩
 ·exact .inl h
 ·exact .inr ⟨b, o, h5, h6⟩
theorem SlIn.of {w : World} {k : Nat} {v : Value} {rows : List (List Value)} (h : SlAt w k v rows) : SlIn (fun _ => True) w k v rows := by
 obtain ⟨a, cap, h1, h2, h3, h4⟩ := h
 refine ⟨a, cap, h1, h2, h3, ?_⟩
 rcases h4 with h | ⟨b, o, h5, h6⟩
 ·exact .inl h
 ·exact .inr ⟨b, o, trivial, h5, h6⟩
theorem SlIn.chg {S M : Nat → Prop} {w w' : World} {k : Nat} {v : Value} {rows : List (List Value)} (h : SlIn S w k v rows) (c : Chg M w w') (hm : ∀ b, S b → ¬ M b) : SlIn S w' k v rows := by
 obtain ⟨a, cap, h1, h2, h3, h4⟩ := h
 refine ⟨a, cap, h1, h2, h3, ?_⟩
 rcases h4 with h | ⟨b, o, hb, h5, h6⟩
 ·exact .inl h
 ·exact .inr ⟨b, o, hb, h5, fun i r hr => (h6 i r hr).chg c (hm b hb)⟩
theorem SlIn.mono {S S' : Nat → Prop} {w : World} {k : Nat} {v : Value} {rows : List (List Value)} (h : SlIn S w k v rows) (hs : ∀ b, S b → S' b) : SlIn S' w k v rows := by
 obtain ⟨a, cap, h1, h2, h3, h4⟩ := h
 refine ⟨a, cap, h1, h2, h3, ?_⟩
 rcases h4 with h | ⟨b, o, hb, h5⟩
 ·exact .inl h
 ·exact .inr ⟨b, o, hs b hb, h5⟩
theorem SlIn.nil (S : Nat → Prop) (w : World) (k : Nat) (a : Option Addr) (cap : Nat) : SlIn S w k (.slice a 0 cap) [] := ⟨a, cap, rfl, by simp, by simp, .inl rfl⟩
theorem SlIn.mk {S : Nat → Prop} {w : World} {k : Nat} {b o n c : Nat} {rows : List (List Value)} (h : SlAt w k (.slice (some ⟨b, o, none⟩) n c) rows) (hs : S b) : SlIn S w k (.slice (some ⟨b, o, none⟩) n c) rows := by
 obtain ⟨a, cap, h1, h2, h3, h4⟩ := h
 refine ⟨a, cap, h1, h2, h3, ?_⟩
 rcases h4 with h | ⟨b', o', h5, h6⟩
 ·exact .inl h
 ·simp only [Value.slice.injEq] at h1
  have : b' = b := by rw [← h1.1] at h5; simp at h5; exact h5.1.symm
  exact .inr ⟨b', o', this ▸ hs, h5, h6⟩
mutual
def ReIn (S : Nat → Prop) (w : World) : Re → List Value → Prop
  | .mk k set args mn mx ng, vs => ∃ sa sc aa ac, vs = [.int .i64 k, .slice sa set.length sc, .slice aa args.length ac, .int .i64 mn, .int .i64 mx, .bool ng] ∧ SlIn S w 2 (.slice sa set.length sc) (set.map spanV) ∧ (args.length ≤ ac ∧ ac ≤ 9223372036854775807) ∧
      (args = [] ∨ ∃ b o, S b ∧ aa = some ⟨b, o, none⟩ ∧ ResIn S w b o args)
def ResIn (S : Nat → Prop) (w : World) (b : Nat) : Nat → List Re → Prop
  | _, [] => True
  | o, t :: ts => (∃ vs, CellsAt w b o vs ∧ ReIn S w t vs) ∧ ResIn S w b (o + 6) ts
end
mutual
theorem ReIn.at {S : Nat → Prop} {w : World} : ∀ (t : Re) {vs : List Value}, ReIn S w t vs → ReAt w t vs
  | .mk k set args mn mx ng, vs, h => by
    simp only [ReIn] at h
    simp only [ReAt]
    obtain ⟨sa, sc, aa, ac, hv, hs, hl, ha⟩ := h
    refine ⟨sa, sc, aa, ac, hv, hs.at, hl, ?_⟩
    rcases ha with h | ⟨b, o, _, h1, h2⟩
    · exact .inl h
    · exact .inr ⟨b, o, h1, ResIn.at args h2⟩
theorem ResIn.at {S : Nat → Prop} {w : World} {b : Nat} : ∀ (ts : List Re) {o : Nat}, ResIn S w b o ts → ResAt w b o ts
  | [], _, _ => by simp only [ResAt]
  | t :: ts, o, h => by
    simp only [ResIn] at h
    simp only [ResAt]
    obtain ⟨⟨vs, h1, h2⟩, h3⟩ := h
    exact ⟨⟨vs, h1, ReIn.at t h2⟩, ResIn.at ts h3⟩
end
mutual
theorem ReIn.chg {S M : Nat → Prop} {w w' : World} (c : Chg M w w') (hm : ∀ b, S b → ¬ M b) : ∀ (t : Re) {vs : List Value}, ReIn S w t vs → ReIn S w' t vs
  | .mk k set args mn mx ng, vs, h => by
    simp only [ReIn] at h ⊢
    obtain ⟨sa, sc, aa, ac, hv, hs, hl, ha⟩ := h
    refine ⟨sa, sc, aa, ac, hv, hs.chg c hm, hl, ?_⟩
    rcases ha with h | ⟨b, o, hb, h1, h2⟩
    · exact .inl h
    · exact .inr ⟨b, o, hb, h1, ResIn.chg c hm args hb h2⟩
theorem ResIn.chg {S M : Nat → Prop} {w w' : World} (c : Chg M w w') (hm : ∀ b, S b → ¬ M b) {b : Nat} : ∀ (ts : List Re) {o : Nat}, S b → ResIn S w b o ts → ResIn S w' b o ts
  | [], _, _, _ => by simp only [ResIn]
  | t :: ts, o, hb, h => by
    simp only [ResIn] at h ⊢
    obtain ⟨⟨vs, h1, h2⟩, h3⟩ := h
    exact ⟨⟨vs, h1.chg c (hm b hb), ReIn.chg c hm t h2⟩, ResIn.chg c hm ts hb h3⟩
end
mutual
theorem ReIn.mono {S S' : Nat → Prop} {w : World} (hs : ∀ b, S b → S' b) : ∀ (t : Re) {vs : List Value}, ReIn S w t vs → ReIn S' w t vs
  | .mk k set args mn mx ng, vs, h => by
    simp only [ReIn] at h ⊢
    obtain ⟨sa, sc, aa, ac, hv, h0, hl, ha⟩ := h
    refine ⟨sa, sc, aa, ac, hv, h0.mono hs, hl, ?_⟩
    rcases ha with h | ⟨b, o, hb, h1, h2⟩
    · exact .inl h
    · exact .inr ⟨b, o, hs b hb, h1, ResIn.mono hs args h2⟩
theorem ResIn.mono {S S' : Nat → Prop} {w : World} (hs : ∀ b, S b → S' b) {b : Nat} : ∀ (ts : List Re) {o : Nat}, ResIn S w b o ts → ResIn S' w b o ts
  | [], _, _ => by simp only [ResIn]
  | t :: ts, o, h => by
    simp only [ResIn] at h ⊢
    obtain ⟨⟨vs, h1, h2⟩, h3⟩ := h
    exact ⟨⟨vs, h1, ReIn.mono hs t h2⟩, ResIn.mono hs ts h3⟩
end
theorem ReIn.ext {S : Nat → Prop} {w w' : World} (e : Ext w w') (t : Re) {vs : List Value} (h : ReIn S w t vs) : ReIn S w' t vs := ReIn.chg e (fun _ _ f => f) t h
theorem ReIn.form {S : Nat → Prop} {w : World} {t : Re} {vs : List Value} (h : ReIn S w t vs) : ∃ sa sc aa ac, vs = [.int .i64 t.kind, .slice sa t.set.length sc, .slice aa t.args.length ac, .int .i64 t.mn, .int .i64 t.mx, .bool t.neg] ∧ SlIn S w 2 (.slice sa t.set.length sc) (t.set.map spanV) ∧ (t.args.length ≤ ac ∧ ac ≤ 9223372036854775807) ∧
  (t.args = [] ∨ ∃ b o, S b ∧ aa = some ⟨b, o, none⟩ ∧ ResIn S w b o t.args) := by
 cases t; simp only [ReIn] at h; exact h
theorem ReIn.of {S : Nat → Prop} {w : World} {k : Int} {set : List (Int × Int)} {args : List Re} {mn mx : Int} {ng : Bool} {sa aa : Option Addr} {sc ac : Nat} (hs : SlIn S w 2 (.slice sa set.length sc) (set.map spanV)) (hl : (args.length ≤ ac ∧ ac ≤ 9223372036854775807)) (ha : args = [] ∨ ∃ b o, S b ∧ aa = some ⟨b, o, none⟩ ∧ ResIn S w b o args) :
  ReIn S w (.mk k set args mn mx ng) [.int .i64 k, .slice sa set.length sc, .slice aa args.length ac, .int .i64 mn, .int .i64 mx, .bool ng] := by
 simp only [ReIn]; exact ⟨sa, sc, aa, ac, rfl, hs, hl, ha⟩
theorem ResIn.one {S : Nat → Prop} {w : World} {b o : Nat} {t : Re} {vs : List Value} (hc : CellsAt w b o vs) (h : ReIn S w t vs) : ResIn S w b o [t] := by
 simp only [ResIn]; exact ⟨⟨vs, hc, h⟩, trivial⟩
theorem ResIn.two {S : Nat → Prop} {w : World} {b o : Nat} {t u : Re} {vs us : List Value} (hc : CellsAt w b o vs) (h : ReIn S w t vs) (hc' : CellsAt w b (o + 6) us) (h' : ReIn S w u us) : ResIn S w b o [t, u] := by
 simp only [ResIn]; exact ⟨⟨vs, hc, h⟩, ⟨us, hc', h'⟩, trivial⟩
theorem ResIn.get {S : Nat → Prop} {w : World} {b : Nat} : ∀ {ts : List Re} {o i : Nat} {t : Re}, ResIn S w b o ts → ts[i]? = some t → ∃ vs, CellsAt w b (o + i * 6) vs ∧ ReIn S w t vs
  | [], _, _, _, _, h => by simp at h
  | x :: ts, o, 0, t, h, hi => by
    simp only [ResIn] at h
    simp at hi
    subst hi
    simpa using h.1
  | x :: ts, o, i + 1, t, h, hi => by
    simp only [ResIn] at h
    have := ResIn.get h.2 (i := i) (by simpa using hi)
    rwa [show o + (i + 1) * 6 = o + 6 + i * 6 from by omega]
theorem ReIn.len {S : Nat → Prop} {w : World} {t : Re} {vs : List Value} (h : ReIn S w t vs) : vs.length = 6 := (ReIn.at t h).len
end Go.Eng
namespace Go.Proofs
open Go Go.Eng
set_option maxRecDepth 100000
abbrev TS : Nat := 51
def StrAt (wb w : World) (bs : Nat) (l : List Int) : Prop := ∃ a c, Blk w bs #[.slice a l.length c] TS ∧ IntsAt wb (.slice a l.length c) l
theorem StrAt.ext {wb w w' : World} {bs : Nat} {l : List Int} (h : StrAt wb w bs l) (e : Ext w w') : StrAt wb w' bs l := let ⟨a, c, h1, h2⟩ := h; ⟨a, c, e.keep h1, h2⟩
theorem StrAt.lt {wb w : World} {bs : Nat} {l : List Int} (h : StrAt wb w bs l) : bs < w.heap.size := let ⟨_, _, h1, _⟩ := h; h1.lt
end Go.Proofs
namespace Go.Proofs
open Go Go.Eng
set_option maxRecDepth 100000
def oneT (r : Int) : Re := .mk 2 [(r, r)] [] 0 0 false
theorem one_at {w : World} {b : Nat} {r : Int} (h : SpansAt w (.slice (some ⟨b, 0, none⟩) 1 1) [(r, r)]) : ReAt w (oneT r) [.int .i64 2, .slice (some ⟨b, 0, none⟩) 1 1, .slice none 0 0, .int .i64 0, .int .i64 0, .bool false] :=
 ReAt.of (set := [(r, r)]) (args := []) h (by simp) (.inl rfl)
end Go.Proofs
namespace Go.Proofs
open Go Go.Eng
set_option maxRecDepth 100000
theorem StrAt.put {wb w w' : World} {bs b : Nat} {l : List Int} {c : Array Value} {t : TypeId} (h : StrAt wb w bs l) (s : Put w w' b c t) (hne : bs ≠ b) : StrAt wb w' bs l :=
 let ⟨a, c, h1, h2⟩ := h; ⟨a, c, s.keep hne h1, h2⟩
end Go.Proofs
namespace Go.Proofs
open Go Go.Eng
set_option maxRecDepth 100000
theorem r_min2 {P : Program} {σ : Env} {w : World} {dst : Option Tmp} {ty : TypeId} {pos : String} {af : Array Edge} {g : Option (Nat × Bool)} {tys : Array TypeId} {x y : Operand} {k : IntKind} {a b c : Int} (hx : ev σ x = .int k a) (hy : ev σ y = .int k b) (hc : min a b = c) :
  (execOp (ev σ) ⟨dst, .call ⟨.builtin .min, #[x, y], tys⟩, ty, pos, af, g⟩).run P w = .ok (.value (.int k c)) w := by
 subst hc
 have : (if b < a then b else a) = min a b := by split <;> omega
 simp [execOp, resolve, invoke, builtin, Builtin.min_, Builtin.min2, hx, hy, this]
end Go.Proofs
namespace Go.Proofs
open Go Go.Eng
set_option maxRecDepth 100000
mutual
def usesB (ks : List Int) : Re → Bool
  | .mk k _ args _ _ _ => ks.contains k || usesBs ks args
def usesBs (ks : List Int) : List Re → Bool
  | [] => false
  | t :: ts => usesB ks t || usesBs ks ts
end
def useF (ks : List Int) : Unit → Re → Bool × Unit := fun _ t => (!ks.contains t.kind, ())
mutual
theorem walk_use (ks : List Int) : ∀ (t : Re), (walkF (useF ks) t ()).1 = !usesB ks t
  | .mk k set args mn mx ng => by
    have h := walks_use ks args
    rw [walkF_eq]
    split
    · rename_i hk
      have hk : ks.contains k = false := by simpa only [useF, Re.kind, Bool.not_eq_true'] using hk
      show (walkFs (useF ks) args ()).1 = _
      rw [h]
      simp only [usesB, hk, Bool.false_or]
    · rename_i hk
      have hk : ks.contains k = true := by
        cases hc : ks.contains k with
        | true => rfl
        | false => exact absurd (show (useF ks () (.mk k set args mn mx ng)).1 = true by simp only [useF, Re.kind, hc, Bool.not_false]) hk
      simp only [usesB, hk, Bool.true_or, Bool.not_true]
theorem walks_use (ks : List Int) : ∀ (ts : List Re), (walkFs (useF ks) ts ()).1 = !usesBs ks ts
  | [] => rfl
  | t :: ts => by
    have h1 := walk_use ks t
    have h := walks_use ks ts
    rw [walkFs_cons]
    split
    · rename_i hk
      rw [hk] at h1
      have hu : usesB ks t = false := by simpa using h1.symm
      show (walkFs (useF ks) ts ()).1 = _
      rw [h]
      simp only [usesBs, hu, Bool.false_or]
    · rename_i hk
      have hu : usesB ks t = true := by
        cases hc : usesB ks t with
        | true => rfl
        | false => rw [hc] at h1; exact absurd h1 hk
      simp only [usesBs, hu, Bool.true_or, Bool.not_true]
end
theorem uses1_c (w0 : World) (t : Re) (vs : List Value) (ks : List Int) (v : Value) (b : Nat) (ht : ReAt w0 t vs) (hB : Blk w0 b #[v] 22) (hks : IntsAt w0 v ks) :
  Ret Try.prog 47 #[.agg vs.toArray, .pointer (some ⟨b, 0, none⟩)] w0 fun r w => r = .bool (!ks.contains t.kind) ∧ Ext w0 w := by
 obtain ⟨sa, sc, aa, ac, rfl, _, _, _⟩ := ht.form
 refine Ret_of Try.func47 rfl Try.ntmps47 (Nat.le_of_ble_eq_true rfl) ?_
 have E : Chg none1 w0 w0 := Chg.refl _ _
 refine Wp_seq_region ?_
 refine s_box (v := (.agg (R6 t sa sc aa ac))) (c := (R6 t sa sc aa ac)) (by decide) rfl rfl ?_
 intro b1 w1 N1
 have F1 := N1.ge E
 have O1_b := N1.lt hB
 replace hB := N1.keep hB
 replace E := E.ext N1.ext
 have B1 := N1.blk
 refine qA (.bool false) rfl ?_
 refine WpL_nil (Wp_seq_region ?_)
 refine qV (r_load (v := v) rfl flat22 (hB.cell rfl)) ?_
 refine qF b1 0 0 rfl Try.underlying27 rfl siz3 rfl ?_
 refine qV (r_load (v := (I6 t.kind)) rfl flat3 (B1.cell rfl)) ?_
 refine WpL_enter rfl rfl (by decide) (r_callF (vs := [v, (I6 t.kind)]) Try.func48 nm48 bd48 rfl) (hasi_c _ v t.kind ks (hks.ext E)) ?_
 rintro _ w9 ⟨rfl, X9⟩
 replace hB := X9.keep hB
 replace B1 := X9.keep B1
 replace E := E.ext X9
 refine qV (r_not (b := ks.contains t.kind) rfl) ?_
 refine qA (.bool (!(ks.contains t.kind))) rfl ?_
 refine WpL_nil (Wp_ret ?_)
 refine fin_tmp Try.results47 (v := (.bool (!(ks.contains t.kind)))) rfl ?_
 exact ⟨rfl, E⟩
set_option maxHeartbeats 1000000 in
theorem uses_c (w0 : World) (t : Re) (vs : List Value) (ks : List Int) (v : Value) (ht : ReAt w0 t vs) (hks : IntsAt w0 v ks) :
  Ret Try.prog 30 #[.agg vs.toArray, v] w0 fun r w => r = .bool (usesB ks t) ∧ Ext w0 w := by
 have ht0 := ht
 obtain ⟨sa, sc, aa, ac, rfl, _, _, _⟩ := ht.form
 obtain ⟨ka, kc, rfl⟩ := SlAt.form hks
 simp only [List.length_map] at hks ⊢
 refine Ret_of Try.func30 rfl Try.ntmps30 (Nat.le_of_ble_eq_true rfl) ?_
 have E : Chg none1 w0 w0 := Chg.refl _ _
 refine Wp_seq_region ?_
 refine s_box (v := (.agg (R6 t sa sc aa ac))) (c := (R6 t sa sc aa ac)) (by decide) rfl rfl ?_
 intro br wr Nr
 have Fr := Nr.ge E
 replace E := E.ext Nr.ext
 have Br := Nr.blk
 refine s_box (v := (.slice ka ks.length kc)) (c := #[(.slice ka ks.length kc)]) (by decide) rfl rfl ?_
 intro bp wp Np
 have Fp := Np.ge E
 have Op_br := Np.lt Br
 replace Br := Np.keep Br
 replace E := E.ext Np.ext
 have Bp := Np.blk
 refine qA (.bool false) rfl ?_
 refine WpL_nil (Wp_seq_region ?_)
 refine qV (r_loadAgg (vs := [(I6 t.kind), (.slice sa t.set.length sc), (.slice aa t.args.length ac), (I6 t.mn), (I6 t.mx), (.bool t.neg)]) rfl agg27 siz27 rfl (Br.cells rfl)) ?_
 refine qV (r_makeFunc (vs := []) (us := [(P6 bp 0)]) rfl rfl) ?_
 have hf : ∀ (s : Unit) (w : World) (t : Re) (vs : List Value), bp + 1 ≤ w.heap.size → Ext wp w → Blk w bp #[.slice ka ks.length kc] 22 → ReAt wp t vs → CallV Try.prog (.func (.func 47) #[] #[.pointer (some ⟨bp, 0, none⟩)]) #[.agg vs.toArray] w fun r w' => r = .bool (useF ks s t).1 ∧ Chg none1 w w' ∧ Blk w' bp #[.slice ka ks.length kc] 22 := fun s w t vs _ hE hI ht => CallV.mk (first := #[]) (cap := #[.pointer (some ⟨bp, 0, none⟩)]) Try.func47 nm47 bd47 rfl ((uses1_c w t vs ks (.slice ka ks.length kc) bp (ReAt.ext hE t ht) hI ((hks.ext E).ext hE)).mono fun r w' h => ⟨h.1, h.2, Ext.keep h.2 hI⟩)
 refine WpL_enter rfl rfl (by decide) (r_callF (vs := [(.agg (R6 t sa sc aa ac)), (.func (.func 47) #[] #[(P6 bp 0)])]) Try.func46 nm46 bd46 rfl) ((walk_c (useF ks) (fun _ w => Blk w bp #[.slice ka ks.length kc] 22) none1 (bp + 1) _ wp (fun b hb => hb.elim) (fun s w w' hI e => e.keep hI) hf t.size t (Nat.le_refl _) () _ _ (by have := Bp.lt; omega) (Ext.refl _) Bp (ReAt.ext E t ht0)).mono (R' := fun r w => r = .bool (walkF (useF ks) t ()).1 ∧ Ext wp w) (fun r w h => ⟨h.1, h.2.1⟩)) ?_
 rintro _ w9 ⟨rfl, X9⟩
 replace Br := X9.keep Br
 replace Bp := X9.keep Bp
 replace E := E.ext X9
 refine qV (r_not (b := (walkF (useF ks) t ()).1) rfl) ?_
 refine qA (.bool (!((walkF (useF ks) t ()).1))) rfl ?_
 refine WpL_nil (Wp_ret ?_)
 refine fin_tmp Try.results30 (v := (.bool (!((walkF (useF ks) t ()).1)))) rfl ?_
 exact ⟨bool_eq (by rw [walk_use]; simp), E⟩
end Go.Proofs
namespace Go.Proofs
open Go Go.Eng Go.Sort
set_option maxRecDepth 100000
structure NodeI (t : Re) : Prop where
 k : 0 ≤ t.kind ∧ t.kind ≤ 10
 two : t.kind = 3 ∨ t.kind = 4 ∨ t.kind = 7 → 2 ≤ t.args.length
 one : t.kind = 5 ∨ t.kind = 6 ∨ t.kind = 8 ∨ t.kind = 9 ∨ t.kind = 10 → t.args.length = 1
 rep : t.kind = 6 → 0 ≤ t.mn ∧ t.mn ≤ t.mx ∧ t.mx ≤ 8
 grp : t.kind = 9 → 0 ≤ t.mn ∧ t.mn ≤ 9
 sett : t.kind = 2 → t.set ≠ []
theorem node_inv {t : Re} (h : nodeE t = 0) : NodeI t := by
 unfold nodeE at h
 split at h
 ·cases h
 rename_i h1
 split at h
 ·cases h
 rename_i h2
 have h3 : formB t = true := by simpa using h2
 unfold formB at h3
 simp only [Bool.and_eq_true] at h3
 have h4 := h3.1.1.1.1
 unfold okB at h4
 refine ⟨by omega, fun hk => ?_, fun hk => ?_, fun hk => ?_, fun hk => ?_, fun hk => ?_⟩
 ·rw [if_pos hk] at h4
  have := of_decide_eq_true h4; omega
 ·rw [if_neg (by omega), if_pos hk] at h4
  have := of_decide_eq_true h4; omega
 ·rw [if_neg (by omega), if_pos hk] at h
  split at h
  ·cases h
  ·omega
 ·rw [if_neg (by omega), if_neg (by omega), if_pos hk] at h
  split at h
  ·cases h
  ·omega
 ·rw [if_pos hk] at h
  intro e
  rw [e] at h
  simp [checkE, checkL] at h
def lenK (k : Int) (n sum : Nat) (mn mx : Int) : Nat := if k = 1 then 0 else if k = 3 then sum else if k = 4 then sum + 2 * (n - 1) else if k = 5 then sum + 4 else if k = 6 then mn.toNat * sum + (mx - mn).toNat * (sum + 3) else if k = 9 then sum + 2 else if k = 10 then sum + 2 else 1
mutual
def lenQ : Re → Nat
  | .mk k _ args mn mx _ => min (lenK k args.length (lenQs args) mn mx) 1048576
def lenQs : List Re → Nat
  | [] => 0
  | t :: ts => lenQ t + lenQs ts
end
theorem lenQ_eq (t : Re) : lenQ t = min (lenK t.kind t.args.length (lenQs t.args) t.mn t.mx) 1048576 := by cases t; rfl
theorem lenQ_le (t : Re) : lenQ t ≤ 1048576 := by rw [lenQ_eq]; exact Nat.min_le_right _ _
theorem lenQs_le : ∀ ts : List Re, lenQs ts ≤ ts.length * 1048576
  | [] => Nat.zero_le _
  | t :: ts => by
    rw [List.length_cons, Nat.succ_mul, Nat.add_comm]
    exact Nat.add_le_add (lenQ_le t) (lenQs_le ts)
theorem lenQs_take {ts : List Re} {j : Nat} {y : Re} (h : ts[j]? = some y) : lenQs (ts.take (j + 1)) = lenQs (ts.take j) + lenQ y := by
  have app : ∀ a b : List Re, lenQs (a ++ b) = lenQs a + lenQs b := fun a b => by
    induction a with
    | nil => simp [lenQs]
    | cons x a ih => simp only [List.cons_append, lenQs, ih]; omega
  rw [List.take_add_one, h, Option.toList_some, app]
  simp [lenQs]
theorem lenQs_takele (ts : List Re) (j : Nat) : lenQs (ts.take j) ≤ ts.length * 1048576 := by
 have h1 := lenQs_le (ts.take j)
 have h2 : (ts.take j).length ≤ ts.length := by simp; omega
 exact Nat.le_trans h1 (Nat.mul_le_mul_right 1048576 h2)
set_option maxHeartbeats 1000000 in
theorem length_c (wb : World) : ∀ (m : Nat) (t : Re), t.size ≤ m → okRe t → t.size ≤ 40 → ∀ (w0 : World) (vs : List Value), ReAt wb t vs → Ext wb w0 →
    Ret Try.prog 32 #[.agg vs.toArray] w0 fun r w => r = iV (lenQ t) ∧ Ext w0 w
  | 0, t, hs, _, _ => by have := t.size_pos; omega
  | m + 1, t, hs, hok, h40 => by
    intro w0 vs hx hE
    obtain ⟨sa, sc, aa, ac, rfl, hset, hal, hargs⟩ := hx.form
    have hN := node_inv (okRe_node hok)
    have hml : t.args.length ≤ 40 := by have := sizes_ge t.args; have := t.size_eq; omega
    obtain ⟨n, hn⟩ : ∃ n, n = t.args.length := ⟨_, rfl⟩
    rw [← hn] at hal ⊢
    refine Ret_of Try.func32 rfl Try.ntmps32 (Nat.le_of_ble_eq_true rfl) ?_
    have E : Chg none1 w0 w0 := Chg.refl _ _
    refine Wp_seq_region ?_
    refine s_box (v := (.agg #[(I6 t.kind), (.slice sa t.set.length sc), (.slice aa n ac), (I6 t.mn), (I6 t.mx), (.bool t.neg)])) (c := #[(I6 t.kind), (.slice sa t.set.length sc), (.slice aa n ac), (I6 t.mn), (I6 t.mx), (.bool t.neg)]) (by decide) rfl rfl ?_
    intro bx wx Nx
    have Fx := Nx.ge E
    replace E := E.ext Nx.ext
    have Bx := Nx.blk
    refine qA (I6 0) rfl ?_
    refine WpL_nil (Wp_seq_region ?_)
    refine qA (I6 0) rfl ?_
    refine WpL_nil (Wp_seq (Wp_seq_region ?_))
    refine qF bx 0 2 rfl Try.underlying27 rfl siz25 rfl ?_
    refine qV (r_load (v := (.slice aa n ac)) rfl flat25 (Bx.cell rfl)) ?_
    refine qV (r_lenSlice (ad := aa) (n := n) (cap := ac) Try.underlying25 rfl) ?_
    refine qM (I6 0) rfl ?_
    refine WpL_nil (Wp_block ?_)
    refine Wp_loop (fun nn_ σ W1 => ∃ (j : Nat), (∃ jj_, σ = upds jj_ [(1, (P6 bx 0)), (8, (.slice aa n ac)), (9, (I6 (n : Int))), (10, (I6 (j : Int))), (3, (I6 ((lenQs (t.args.take j) : Nat) : Int)))]) ∧ Chg none1 w0 W1 ∧ Blk W1 bx #[(I6 t.kind), (.slice sa t.set.length sc), (.slice aa n ac), (I6 t.mn), (I6 t.mx), (.bool t.neg)] 27 ∧ (j ≤ n) ∧ nn_ = n - j) (n := n - 0) ?_ ?_
    · exact ⟨0, Fits.out ⟨rfl, rfl, rfl, rfl, rfl, trivial⟩, E, Bx, Nat.zero_le _, rfl⟩
    · clear E Bx
      rintro _ _ W1 ⟨j, ⟨j1, rfl⟩, E, Bx, hj, rfl⟩
      refine Wp_seq_region ?_
      refine qV (r_lss (k := .i64) (a := (j : Int)) (b := (n : Int)) rfl rfl) ?_
      refine WpL_nil (Wp_seq ?_)
      refine Wp_cond (b := decide (((j : Int) : Int) < (n : Int))) rfl (fun hlt => ?_) (fun hlt => ?_)
      · have khlt := hlt
        replace hlt := of_decide_eq_true hlt
        obtain ⟨y, hy⟩ := get_of_lt (l := t.args) (i := j) (by omega)
        obtain ⟨b, o, rfl, hres⟩ := res_block hargs (lt_of_get hy)
        obtain ⟨us, hus, hyt⟩ := hres.get hy
        have hsz := Re.size_arg hy
        have h1 := Nat.le_trans (lenQs_takele t.args j) (Nat.mul_le_mul_right 1048576 hml)
        have h2 := lenQ_le y
        have hst := lenQs_take hy
        refine Wp_skip (thn_normal (Wp_seq (Wp_block (Wp_seq_region ?_))))
        refine qV (r_indexSlice (b := b) (o := o) (len := n) (cap := ac) (i := j) (o' := o + j * 6) rfl rfl rfl Try.underlying25 siz27 (by omega) (by omega)) ?_
        refine qV (r_loadAgg (vs := us) rfl agg27 siz27 hyt.len (hus.ext (hE.trans E))) ?_
        refine s_allocStore (v := (.agg us.toArray)) (c := us.toArray) (n := 6) (by decide) zer27 rfl siz27 rfl rfl (by simpa using hyt.len) (by simpa using ReAt.one hyt) ?_
        intro bu wu Nu
        have Fu := Nu.ge E
        have Ou_bx := Nu.lt Bx
        replace Bx := Nu.keep Bx
        replace E := E.ext Nu.ext
        have Bu := Nu.blk
        refine WpL_nil (Wp_region ?_)
        refine qM (I6 ((lenQs (t.args.take j) : Nat) : Int)) rfl ?_
        refine qV (r_loadAgg (vs := us) rfl agg27 siz27 hyt.len (Bu.cells (by simp))) ?_
        refine WpL_enter rfl rfl (by decide) (r_callF (vs := [(.agg us.toArray)]) Try.func32 nm32 bd32 rfl) (length_c wb m y (by omega) (okRes_get (okRe_args hok) hy) (by omega) _ us hyt (hE.trans E)) ?_
        rintro _ w19 ⟨rfl, X19⟩
        replace Bx := X19.keep Bx
        replace Bu := X19.keep Bu
        replace E := E.ext X19
        refine qV (r_add (k := .i64) (a := ((lenQs (t.args.take j) : Nat) : Int)) (b := ((lenQ y : Nat) : Int)) (c := ((lenQs (t.args.take (j + 1)) : Nat) : Int)) rfl rfl ((wI64 (by omega)).trans (by omega))) ?_
        refine qA (I6 ((lenQs (t.args.take (j + 1)) : Nat) : Int)) rfl ?_
        refine WpL_nil (inB_normal (thn_normal (Wp_region ?_)))
        refine qV (r_add (k := .i64) (a := (j : Int)) (b := 1) (c := (j : Int) + 1) rfl rfl (wI64 (by omega))) ?_
        refine qM (I6 ((j : Int) + 1)) rfl ?_
        refine WpL_nil (thn_normal ?_)
        exact ⟨n - (j + 1), by omega, j + 1, Fits.out ⟨rfl, rfl, rfl, rfl, rfl, trivial⟩, E, Bx, (by omega), rfl⟩
      · have khlt := hlt
        replace hlt := of_decide_eq_false hlt
        have hjl : j = n := by omega
        rw [hjl, hn, List.take_length]
        have h1 := Nat.le_trans (lenQs_le t.args) (Nat.mul_le_mul_right 1048576 hml)
        obtain ⟨sm, hsm⟩ : ∃ s, s = lenQs t.args := ⟨_, rfl⟩
        rw [← hsm] at h1 ⊢
        refine Wp_exit (thn_exit (thn_exit (inB_here (thn_normal (Wp_seq_region ?_)))))
        refine qA (I6 1) rfl ?_
        refine WpL_nil ?_
        refine Wp_cut (fun σ W3 => ∃ (u : Nat), (∃ jj_, σ = upds jj_ [(6, (I6 (u : Int)))]) ∧ Chg none1 w0 W3 ∧ Blk W3 bx #[(I6 t.kind), (.slice sa t.set.length sc), (.slice aa n ac), (I6 t.mn), (I6 t.mx), (.bool t.neg)] 27 ∧ (u = lenK t.kind n sm t.mn t.mx) ∧ (u ≤ 1000000000)) ?_ ?_
        · skip
          refine Wp_seq_region ?_
          refine qF bx 0 0 rfl Try.underlying27 rfl siz3 rfl ?_
          refine qV (r_load (v := (I6 t.kind)) rfl flat3 (Bx.cell rfl)) ?_
          refine WpL_nil (Wp_block (Wp_seq_region ?_))
          refine qV (r_eql (k := .i64) (a := t.kind) (b := 1) rfl rfl) ?_
          refine qA (.bool (decide ((t.kind : Int) = 1))) rfl ?_
          refine WpL_nil ?_
          refine Wp_cond (b := decide ((t.kind : Int) = 1)) rfl (fun k1 => ?_) (fun k1 => ?_)
          · have kk1 := k1
            replace k1 := of_decide_eq_true k1
            refine Wp_region ?_
            refine qA (I6 0) rfl ?_
            refine WpL_nil (inB_normal (thn_normal ?_))
            exact ⟨0, Fits.out ⟨rfl, trivial⟩, E, Bx, (by unfold lenK; rw [if_pos k1]), (by omega)⟩
          · have kk1 := k1
            replace k1 := of_decide_eq_false k1
            refine Wp_seq_region ?_
            refine qV (r_eql (k := .i64) (a := t.kind) (b := 3) rfl rfl) ?_
            refine qA (.bool (decide ((t.kind : Int) = 3))) rfl ?_
            refine WpL_nil ?_
            refine Wp_cond (b := decide ((t.kind : Int) = 3)) rfl (fun k3 => ?_) (fun k3 => ?_)
            · have kk3 := k3
              replace k3 := of_decide_eq_true k3
              refine Wp_region ?_
              refine qM (I6 (sm : Int)) rfl ?_
              refine qA (I6 (sm : Int)) rfl ?_
              refine WpL_nil (inB_normal (thn_normal ?_))
              exact ⟨sm, Fits.out ⟨rfl, trivial⟩, E, Bx, (by unfold lenK; rw [if_neg k1, if_pos k3]), (by omega)⟩
            · have kk3 := k3
              replace k3 := of_decide_eq_false k3
              refine Wp_seq_region ?_
              refine qV (r_eql (k := .i64) (a := t.kind) (b := 4) rfl rfl) ?_
              refine qA (.bool (decide ((t.kind : Int) = 4))) rfl ?_
              refine WpL_nil ?_
              refine Wp_cond (b := decide ((t.kind : Int) = 4)) rfl (fun k4 => ?_) (fun k4 => ?_)
              · have kk4 := k4
                replace k4 := of_decide_eq_true k4
                have h2n := hN.two (.inr (.inl k4))
                refine Wp_region ?_
                refine qM (I6 (sm : Int)) rfl ?_
                refine qF bx 0 2 rfl Try.underlying27 rfl siz25 rfl ?_
                refine qV (r_load (v := (.slice aa n ac)) rfl flat25 (Bx.cell rfl)) ?_
                refine qV (r_lenSlice (ad := aa) (n := n) (cap := ac) Try.underlying25 rfl) ?_
                refine qV (r_sub (k := .i64) (a := (n : Int)) (b := 1) (c := ((n - 1 : Nat) : Int)) rfl rfl ((wI64 (by omega)).trans (by omega))) ?_
                refine qV (r_mul (k := .i64) (a := 2) (b := ((n - 1 : Nat) : Int)) (c := ((2 * (n - 1) : Nat) : Int)) rfl rfl ((wI64 (by omega)).trans (by omega))) ?_
                refine qV (r_add (k := .i64) (a := (sm : Int)) (b := ((2 * (n - 1) : Nat) : Int)) (c := ((sm + 2 * (n - 1) : Nat) : Int)) rfl rfl ((wI64 (by omega)).trans (by omega))) ?_
                refine qA (I6 ((sm + 2 * (n - 1) : Nat) : Int)) rfl ?_
                refine WpL_nil (inB_normal (thn_normal ?_))
                exact ⟨sm + 2 * (n - 1), Fits.out ⟨rfl, trivial⟩, E, Bx, (by unfold lenK; rw [if_neg k1, if_neg k3, if_pos k4]), (by omega)⟩
              · have kk4 := k4
                replace k4 := of_decide_eq_false k4
                refine Wp_seq_region ?_
                refine qV (r_eql (k := .i64) (a := t.kind) (b := 5) rfl rfl) ?_
                refine qA (.bool (decide ((t.kind : Int) = 5))) rfl ?_
                refine WpL_nil ?_
                refine Wp_cond (b := decide ((t.kind : Int) = 5)) rfl (fun k5 => ?_) (fun k5 => ?_)
                · have kk5 := k5
                  replace k5 := of_decide_eq_true k5
                  refine Wp_region ?_
                  refine qM (I6 (sm : Int)) rfl ?_
                  refine qV (r_add (k := .i64) (a := (sm : Int)) (b := 4) (c := ((sm + 4 : Nat) : Int)) rfl rfl ((wI64 (by omega)).trans (by omega))) ?_
                  refine qA (I6 ((sm + 4 : Nat) : Int)) rfl ?_
                  refine WpL_nil (inB_normal (thn_normal ?_))
                  exact ⟨sm + 4, Fits.out ⟨rfl, trivial⟩, E, Bx, (by unfold lenK; rw [if_neg k1, if_neg k3, if_neg k4, if_pos k5]), (by omega)⟩
                · have kk5 := k5
                  replace k5 := of_decide_eq_false k5
                  refine Wp_seq_region ?_
                  refine qV (r_eql (k := .i64) (a := t.kind) (b := 6) rfl rfl) ?_
                  refine qA (.bool (decide ((t.kind : Int) = 6))) rfl ?_
                  refine WpL_nil ?_
                  refine Wp_cond (b := decide ((t.kind : Int) = 6)) rfl (fun k6 => ?_) (fun k6 => ?_)
                  · have kk6 := k6
                    replace k6 := of_decide_eq_true k6
                    obtain ⟨r1, r2, r3⟩ := hN.rep k6
                    obtain ⟨a, ha⟩ := Int.eq_ofNat_of_zero_le r1
                    obtain ⟨c, hc⟩ := Int.eq_ofNat_of_zero_le (show 0 ≤ t.mx - t.mn by omega)
                    have hp1 : t.mn * (sm : Int) = ((a * sm : Nat) : Int) := by rw [ha]; push_cast; rfl
                    have hp2 : ((c : Nat) : Int) * ((sm + 3 : Nat) : Int) = ((c * (sm + 3) : Nat) : Int) := by push_cast; rfl
                    have hb1 : a * sm ≤ 8 * 50000000 := Nat.mul_le_mul (by omega) (by omega)
                    have hb2 : c * (sm + 3) ≤ 8 * 50000000 := Nat.mul_le_mul (by omega) (by omega)
                    have hs3 : t.mn.toNat * sm + (t.mx - t.mn).toNat * (sm + 3) = a * sm + c * (sm + 3) := by rw [show t.mn.toNat = a by omega, show (t.mx - t.mn).toNat = c by omega]
                    refine Wp_region ?_
                    refine qF bx 0 3 rfl Try.underlying27 rfl siz3 rfl ?_
                    refine qV (r_load (v := (I6 t.mn)) rfl flat3 (Bx.cell rfl)) ?_
                    refine qM (I6 (sm : Int)) rfl ?_
                    refine qV (r_mul (k := .i64) (a := t.mn) (b := (sm : Int)) (c := ((a * sm : Nat) : Int)) rfl rfl ((wI64 (by omega)).trans hp1)) ?_
                    refine qF bx 0 4 rfl Try.underlying27 rfl siz3 rfl ?_
                    refine qV (r_load (v := (I6 t.mx)) rfl flat3 (Bx.cell rfl)) ?_
                    refine qF bx 0 3 rfl Try.underlying27 rfl siz3 rfl ?_
                    refine qV (r_load (v := (I6 t.mn)) rfl flat3 (Bx.cell rfl)) ?_
                    refine qV (r_sub (k := .i64) (a := t.mx) (b := t.mn) (c := (c : Int)) rfl rfl ((wI64 (by omega)).trans (by omega))) ?_
                    refine qM (I6 (sm : Int)) rfl ?_
                    refine qV (r_add (k := .i64) (a := (sm : Int)) (b := 3) (c := ((sm + 3 : Nat) : Int)) rfl rfl ((wI64 (by omega)).trans (by omega))) ?_
                    refine qV (r_mul (k := .i64) (a := (c : Int)) (b := ((sm + 3 : Nat) : Int)) (c := ((c * (sm + 3) : Nat) : Int)) rfl rfl ((wI64 (by omega)).trans hp2)) ?_
                    refine qV (r_add (k := .i64) (a := ((a * sm : Nat) : Int)) (b := ((c * (sm + 3) : Nat) : Int)) (c := ((a * sm + c * (sm + 3) : Nat) : Int)) rfl rfl ((wI64 (by omega)).trans (by omega))) ?_
                    refine qA (I6 ((a * sm + c * (sm + 3) : Nat) : Int)) rfl ?_
                    refine WpL_nil (inB_normal (thn_normal ?_))
                    exact ⟨a * sm + c * (sm + 3), Fits.out ⟨rfl, trivial⟩, E, Bx, (by unfold lenK; rw [if_neg k1, if_neg k3, if_neg k4, if_neg k5, if_pos k6, hs3]), (by omega)⟩
                  · have kk6 := k6
                    replace k6 := of_decide_eq_false k6
                    refine Wp_seq (Wp_seq_region ?_)
                    refine qV (r_eql (k := .i64) (a := t.kind) (b := 9) rfl rfl) ?_
                    refine qA (.bool (decide ((t.kind : Int) = 9))) rfl ?_
                    refine WpL_nil ?_
                    refine Wp_cond (b := decide ((t.kind : Int) = 9)) rfl (fun k9 => ?_) (fun k9 => ?_)
                    · have kk9 := k9
                      replace k9 := of_decide_eq_true k9
                      refine Wp_skip (thn_normal ?_)
                      refine Wp_cond_true (congrArg Value.bool kk9) ?_
                      refine Wp_region ?_
                      refine qM (I6 (sm : Int)) rfl ?_
                      refine qV (r_add (k := .i64) (a := (sm : Int)) (b := 2) (c := ((sm + 2 : Nat) : Int)) rfl rfl ((wI64 (by omega)).trans (by omega))) ?_
                      refine qA (I6 ((sm + 2 : Nat) : Int)) rfl ?_
                      refine WpL_nil (inB_normal (thn_normal ?_))
                      exact ⟨sm + 2, Fits.out ⟨rfl, trivial⟩, E, Bx, (by unfold lenK; rw [if_neg k1, if_neg k3, if_neg k4, if_neg k5, if_neg k6, if_pos k9]), (by omega)⟩
                    · have kk9 := k9
                      replace k9 := of_decide_eq_false k9
                      refine Wp_region ?_
                      refine qV (r_eql (k := .i64) (a := t.kind) (b := 10) rfl rfl) ?_
                      refine qA (.bool (decide ((t.kind : Int) = 10))) rfl ?_
                      refine WpL_nil (thn_normal ?_)
                      refine Wp_cond (b := decide ((t.kind : Int) = 10)) rfl (fun k10 => ?_) (fun k10 => ?_)
                      · have kk10 := k10
                        replace k10 := of_decide_eq_true k10
                        refine Wp_region ?_
                        refine qM (I6 (sm : Int)) rfl ?_
                        refine qV (r_add (k := .i64) (a := (sm : Int)) (b := 2) (c := ((sm + 2 : Nat) : Int)) rfl rfl ((wI64 (by omega)).trans (by omega))) ?_
                        refine qA (I6 ((sm + 2 : Nat) : Int)) rfl ?_
                        refine WpL_nil (inB_normal (thn_normal ?_))
                        exact ⟨sm + 2, Fits.out ⟨rfl, trivial⟩, E, Bx, (by unfold lenK; rw [if_neg k1, if_neg k3, if_neg k4, if_neg k5, if_neg k6, if_neg k9, if_pos k10]), (by omega)⟩
                      · have kk10 := k10
                        replace k10 := of_decide_eq_false k10
                        refine Wp_skip (inB_normal (thn_normal ?_))
                        exact ⟨1, Fits.out ⟨rfl, trivial⟩, E, Bx, (by unfold lenK; rw [if_neg k1, if_neg k3, if_neg k4, if_neg k5, if_neg k6, if_neg k9, if_neg k10]), (by omega)⟩
        · clear E Bx
          rintro _ W3 ⟨u, ⟨j3, rfl⟩, E, Bx, hu, hu2⟩
          refine Wp_seq_region ?_
          refine qM (I6 (u : Int)) rfl ?_
          refine qV (r_minI (k := .i64) (a := (u : Int)) (b := 1048576) (c := ((min u 1048576 : Nat) : Int)) rfl rfl (by omega)) ?_
          refine qA (I6 ((min u 1048576 : Nat) : Int)) rfl ?_
          refine WpL_nil (Wp_ret ?_)
          refine fin_tmp Try.results32 (v := (.int .i64 ((min u 1048576 : Nat) : Int))) rfl ?_
          exact ⟨by rw [lenQ_eq, ← hn, ← hsm, ← hu], E⟩
def FLen (f : Frg) (q : Nat) : Prop := ∀ a d t, (f a d t).1.length ≤ q ∧ (f a d t).2 ≤ t + q
theorem FLen.mono {f : Frg} {q q' : Nat} (h : FLen f q) (hq : q ≤ q') : FLen f q' := fun a d t => ⟨Nat.le_trans (h a d t).1 hq, Nat.le_trans (h a d t).2 (by omega)⟩
theorem seqF_len : ∀ (args : List Re), (∀ y ∈ args, FLen (frgOf y) (lenQ y)) → FLen (seqF (args.map frgOf)) (lenQs args)
  | [], _, a, d, t => by simp [seqF, lenQs]
  | y :: args, h, a, d, t => by
    have h1 := h y (by simp) a d t
    have h2 := seqF_len args (fun z hz => h z (by simp [hz])) (a + (frgOf y a d t).1.length) d (frgOf y a d t).2
    simp only [List.map_cons, seqF, lenQs, List.length_append]
    omega
theorem seqR_len {f : Frg} {q : Nat} (h : FLen f q) : ∀ n, FLen (seqF (List.replicate n f)) (n * q)
  | 0, a, d, t => by simp [seqF]
  | n + 1, a, d, t => by
    have h1 := h a d t
    have h2 := seqR_len h n (a + (f a d t).1.length) d (f a d t).2
    simp only [List.replicate_succ, seqF, List.length_append, Nat.succ_mul]
    omega
theorem itF_len2 {f : Frg} {q : Nat} (e : Nat) (h : FLen f q) : ∀ n, FLen (itF e f n) (n * (q + 3))
  | 0, a, d, t => by simp [itF]
  | n + 1, a, d, t => by
    have h1 := h (a + 2) (d + 1) t
    have h2 := itF_len2 e h n (a + 2 + (f (a + 2) (d + 1) t).1.length + 1) d (f (a + 2) (d + 1) t).2
    simp only [itF, List.length_append, List.length_cons, Nat.succ_mul]
    omega
theorem altF_len2 (e : Nat) : ∀ (args : List Re), (∀ y ∈ args, FLen (frgOf y) (lenQ y)) → FLen (altF e (args.map frgOf)) (lenQs args + 2 * (args.length - 1))
  | [], _, a, d, t => by simp [altF]
  | [y], h, a, d, t => by
    have h1 := h y (by simp) a d t
    simp only [List.map_cons, List.map_nil, altF, lenQs, List.length_cons, List.length_nil]
    omega
  | y :: z :: args, h, a, d, t => by
    have h1 := h y (by simp) (a + 1) d t
    have h2 := altF_len2 e (z :: args) (fun x hx => h x (by simp only [List.mem_cons] at hx ⊢; exact .inr hx)) (a + 1 + (frgOf y (a + 1) d t).1.length + 1) d (frgOf y (a + 1) d t).2
    simp only [List.map_cons] at h2
    simp only [List.map_cons, altF, lenQs, List.length_cons, List.length_append] at h2 ⊢
    omega
theorem lenQs_mem : ∀ {ts : List Re} {y : Re}, y ∈ ts → lenQ y ≤ lenQs ts
  | t :: ts, y, h => by
    simp only [lenQs]
    rcases List.mem_cons.1 h with rfl | h
    · omega
    · have := lenQs_mem h; omega
theorem one_arg {args : List Re} (h : args.length = 1) : ∃ y, args = [y] := by
  match args, h with
  | [y], _ => exact ⟨y, rfl⟩
theorem okRes_mem {ts : List Re} (h : okRes ts) : ∀ y ∈ ts, okRe y := fun y hy => by
 obtain ⟨i, hi⟩ := List.getElem?_of_mem hy
 exact okRes_get h hi
theorem usesBs_mem {ks : List Int} : ∀ {ts : List Re}, usesBs ks ts = false → ∀ y ∈ ts, usesB ks y = false
  | t :: ts, h, y, hy => by
    simp only [usesBs, Bool.or_eq_false_iff] at h
    rcases List.mem_cons.1 hy with rfl | hy
    · exact h.1
    · exact usesBs_mem h.2 y hy
/-- What can be translated, kind by kind. -/
theorem kinds_of {k : Int} {set : List (Int × Int)} {args : List Re} {mn mx : Int} {ng : Bool} (hok : okRe (.mk k set args mn mx ng)) (hu : usesB [7, 8] (.mk k set args mn mx ng) = false) :
  k = 0 ∨ k = 1 ∨ k = 2 ∨ k = 3 ∨ (k = 4 ∧ 2 ≤ args.length) ∨ (k = 5 ∧ ∃ y, args = [y]) ∨ (k = 6 ∧ (∃ y, args = [y]) ∧ ∃ k1 k2 : Nat, mn = k1 ∧ mx = ((k1 + k2 : Nat) : Int) ∧ k1 + k2 ≤ 8) ∨ (k = 9 ∧ (∃ y, args = [y]) ∧ ∃ q : Nat, mn = q ∧ q ≤ 9) ∨ (k = 10 ∧ ∃ y, args = [y]) := by
 have hN := node_inv (okRe_node hok)
 simp only [usesB, Bool.or_eq_false_iff] at hu
 have h7 : k ≠ 7 ∧ k ≠ 8 := by
  have := hu.1
  simp at this
  exact this
 have hk := hN.k
 have h2 := hN.two
 have h1 := hN.one
 have h6 := hN.rep
 have h9 := hN.grp
 simp only [Re.kind, Re.args, Re.mn, Re.mx] at hk h2 h1 h6 h9
 by_cases e4 : k = 4
 ·exact .inr (.inr (.inr (.inr (.inl ⟨e4, h2 (.inr (.inl e4))⟩))))
 by_cases e5 : k = 5
 ·exact .inr (.inr (.inr (.inr (.inr (.inl ⟨e5, one_arg (h1 (.inl e5))⟩)))))
 by_cases e6 : k = 6
 ·obtain ⟨a, b, c⟩ := h6 e6
  exact .inr (.inr (.inr (.inr (.inr (.inr (.inl ⟨e6, one_arg (h1 (.inr (.inl e6))), mn.toNat, (mx - mn).toNat, by omega, by omega, by omega⟩))))))
 by_cases e9 : k = 9
 ·obtain ⟨a, b⟩ := h9 e9
  exact .inr (.inr (.inr (.inr (.inr (.inr (.inr (.inl ⟨e9, one_arg (h1 (.inr (.inr (.inr (.inl e9))))), mn.toNat, by omega, by omega⟩)))))))
 by_cases e10 : k = 10
 ·exact .inr (.inr (.inr (.inr (.inr (.inr (.inr (.inr ⟨e10, one_arg (h1 (.inr (.inr (.inr (.inr e10)))))⟩)))))))
 omega
theorem lenQ_lt {k : Int} {set : List (Int × Int)} {args : List Re} {mn mx : Int} {ng : Bool} (h : lenQ (.mk k set args mn mx ng) < 400) : lenQ (.mk k set args mn mx ng) = lenK k args.length (lenQs args) mn mx := by
 simp only [lenQ] at h ⊢
 omega
theorem frg_len : ∀ (m : Nat) (t : Re), t.size ≤ m → okRe t → usesB [7, 8] t = false → lenQ t < 400 → FLen (frgOf t) (lenQ t)
  | 0, t, hs, _, _, _ => by have := t.size_pos; omega
  | m + 1, .mk k set args mn mx ng, hs, hok, hu, hl => by
    have ih : ∀ y ∈ args, lenQ y < 400 → FLen (frgOf y) (lenQ y) := fun y hy hly => by
      refine frg_len m y ?_ (okRes_mem (okRe_args hok) y hy) (usesBs_mem (by simp only [usesB, Bool.or_eq_false_iff] at hu; exact hu.2) y hy) hly
      obtain ⟨i, hi⟩ := List.getElem?_of_mem hy
      have := Re.size_arg (t := .mk k set args mn mx ng) hi
      omega
    have hq := lenQ_lt hl
    have hmem : ∀ y ∈ args, lenQ y ≤ lenQs args := fun y hy => lenQs_mem hy
    rcases kinds_of hok hu with rfl | rfl | rfl | rfl | ⟨rfl, h2⟩ | ⟨rfl, y, rfl⟩ | ⟨rfl, ⟨y, rfl⟩, k1, k2, rfl, rfl, h8⟩ | ⟨rfl, ⟨y, rfl⟩, q, rfl, h9⟩ | ⟨rfl, y, rfl⟩
    · intro a d t
      rw [frg_0, hq]
      simp [lenK]
    · intro a d t
      rw [frg_1]
      simp
    · intro a d t
      rw [frg_2, hq]
      simp [lenK]
    · have e : lenK 3 args.length (lenQs args) mn mx = lenQs args := by simp [lenK]
      rw [e] at hq
      intro a d t
      rw [frg_3, hq]
      exact seqF_len args (fun y hy => ih y hy (by have := hmem y hy; omega)) a d t
    · have e : lenK 4 args.length (lenQs args) mn mx = lenQs args + 2 * (args.length - 1) := by simp [lenK]
      rw [e] at hq
      intro a d t
      rw [frg_4, hq]
      exact altF_len2 _ args (fun y hy => ih y hy (by have := hmem y hy; omega)) a d t
    · have e : lenK 5 [y].length (lenQs [y]) mn mx = lenQ y + 4 := by simp [lenK, lenQs]
      rw [e] at hq
      intro a d t
      rw [frg_5, hq]
      have := ih y (by simp) (by omega) (a + 2) (d + 1) t
      simp only [List.length_cons, List.length_append, List.length_nil]
      omega
    · have e : lenK 6 [y].length (lenQs [y]) (k1 : Int) ((k1 + k2 : Nat) : Int) = k1 * lenQ y + k2 * (lenQ y + 3) := by
        simp only [lenK, lenQs, Nat.add_zero, Int.toNat_natCast]
        rw [show (((k1 + k2 : Nat) : Int) - (k1 : Int)).toNat = k2 by omega]
        rfl
      rw [e] at hq
      intro a d t
      rw [frg_6, hq]
      by_cases h0 : k1 + k2 = 0
      · obtain ⟨rfl, rfl⟩ : k1 = 0 ∧ k2 = 0 := by omega
        simp [seqF, itF]
      · have hyl : lenQ y < 400 := by
          rcases Nat.eq_zero_or_pos k1 with h | h
          · have := Nat.mul_le_mul_right (lenQ y + 3) (show 1 ≤ k2 by omega); omega
          · have := Nat.mul_le_mul_right (lenQ y) h; omega
        have hy := ih y (by simp) hyl
        have h3 := seqR_len hy k1 a d t
        have h4 := itF_len2 (a + (seqF (List.replicate k1 (frgOf y)) a d t).1.length + (itF 0 (frgOf y) k2 (a + (seqF (List.replicate k1 (frgOf y)) a d t).1.length) d (seqF (List.replicate k1 (frgOf y)) a d t).2).1.length) hy k2 (a + (seqF (List.replicate k1 (frgOf y)) a d t).1.length) d (seqF (List.replicate k1 (frgOf y)) a d t).2
        simp only [List.length_append]
        omega
    · have e : lenK 9 [y].length (lenQs [y]) (q : Int) mx = lenQ y + 2 := by simp [lenK, lenQs]
      rw [e] at hq
      intro a d t
      rw [frg_9, hq]
      have := ih y (by simp) (by omega) (a + 1) d (t + 1)
      simp only [List.length_cons, List.length_append, List.length_nil]
      omega
    · have e : lenK 10 [y].length (lenQs [y]) mn mx = lenQ y + 2 := by simp [lenK, lenQs]
      rw [e] at hq
      intro a d t
      rw [frg_10, hq]
      simp
theorem of_all (wb : World) : ∀ (m : Nat) (t : Re), t.size ≤ m → okRe t → usesB [7, 8] t = false → lenQ t < 400 → t.size ≤ 40 → OfC wb t
  | 0, t, hs, _, _, _, _ => by have := t.size_pos; omega
  | m + 1, .mk k set args mn mx ng, hs, hok, hu, hl, h40 => by
    have hsy : ∀ y ∈ args, y.size < (Re.mk k set args mn mx ng).size := fun y hy => by
      obtain ⟨i, hi⟩ := List.getElem?_of_mem hy
      exact Re.size_arg (t := .mk k set args mn mx ng) hi
    have huy : ∀ y ∈ args, usesB [7, 8] y = false := usesBs_mem (by simp only [usesB, Bool.or_eq_false_iff] at hu; exact hu.2)
    have hoy := okRes_mem (okRe_args hok)
    have ih : ∀ y ∈ args, lenQ y < 400 → OfC wb y := fun y hy hly => of_all wb m y (by have := hsy y hy; omega) (hoy y hy) (huy y hy) hly (by have := hsy y hy; omega)
    have hq := lenQ_lt hl
    have hmem : ∀ y ∈ args, lenQ y ≤ lenQs args := fun y hy => lenQs_mem hy
    rcases kinds_of hok hu with rfl | rfl | rfl | rfl | ⟨rfl, h2⟩ | ⟨rfl, y, rfl⟩ | ⟨rfl, ⟨y, rfl⟩, k1, k2, rfl, rfl, h8⟩ | ⟨rfl, ⟨y, rfl⟩, q, rfl, h9⟩ | ⟨rfl, y, rfl⟩
    · exact of_0 wb set args mn mx ng
    · exact of_1 wb set args mn mx ng
    · exact of_2 wb set args mn mx ng
    · have e : lenK 3 args.length (lenQs args) mn mx = lenQs args := by simp [lenK]
      rw [e] at hq
      exact of_3 wb set args mn mx ng fun y hy => ih y hy (by have := hmem y hy; omega)
    · have e : lenK 4 args.length (lenQs args) mn mx = lenQs args + 2 * (args.length - 1) := by simp [lenK]
      rw [e] at hq
      have hne : args ≠ [] := by intro h; rw [h] at h2; simp at h2
      have hsp := List.dropLast_concat_getLast hne
      rw [← hsp]
      exact of_4 wb set args.dropLast (args.getLast hne) mn mx ng fun y hy => by
        rw [hsp] at hy
        exact ih y hy (by have := hmem y hy; omega)
    · have e : lenK 5 [y].length (lenQs [y]) mn mx = lenQ y + 4 := by simp [lenK, lenQs]
      rw [e] at hq
      exact of_5 wb set y [] mn mx ng (ih y (by simp) (by omega))
    · have e : lenK 6 [y].length (lenQs [y]) (k1 : Int) ((k1 + k2 : Nat) : Int) = k1 * lenQ y + k2 * (lenQ y + 3) := by
        simp only [lenK, lenQs, Nat.add_zero, Int.toNat_natCast]
        rw [show (((k1 + k2 : Nat) : Int) - (k1 : Int)).toNat = k2 by omega]
        rfl
      rw [e] at hq
      refine of_6 wb set y [] k1 k2 ng (by omega) fun h0 => ih y (by simp) ?_
      rcases Nat.eq_zero_or_pos k1 with h | h
      · have := Nat.mul_le_mul_right (lenQ y + 3) (show 1 ≤ k2 by omega); omega
      · have := Nat.mul_le_mul_right (lenQ y) h; omega
    · have e : lenK 9 [y].length (lenQs [y]) (q : Int) mx = lenQ y + 2 := by simp [lenK, lenQs]
      rw [e] at hq
      exact of_9 wb set y [] q mx ng (ih y (by simp) (by omega))
    · have e : lenK 10 [y].length (lenQs [y]) mn mx = lenQ y + 2 := by simp [lenK, lenQs]
      rw [e] at hq
      have hy1 : y ∈ [y] := List.mem_singleton.2 rfl
      have hfl := frg_len y.size y (Nat.le_refl _) (hoy y hy1) (huy y hy1) (by omega) 0 0 0
      refine of_10 wb set y [] mn mx ng (ih y hy1 (by omega)) (by omega) ?_ ?_
      · unfold tempsOf; omega
      · have := hsy y hy1; omega
end Go.Proofs
namespace Go.Proofs
open Go Go.Eng Go.Sort
set_option maxRecDepth 100000
def lenRK (k : Int) (n sum : Nat) (mn mx : Int) : Nat := if k = 0 ∨ k = 2 then 1 else min (if k = 4 then sum + 2 * n - 2 else if k = 5 then sum + 4 else if k = 6 then sum * mx.toNat + 3 * (mx - mn).toNat else if k = 9 ∨ k = 10 then sum + 2 else sum) 1000
mutual
def lenR : Re → Nat
  | .mk k _ args mn mx _ => lenRK k args.length (lenRs 0 args) mn mx
def lenRs (s : Nat) : List Re → Nat
  | [] => s
  | t :: ts => lenRs (min (s + lenR t) 1000) ts
end
theorem lenRK_min (k : Int) (n S : Nat) (mn mx : Int) (hk : k = 0 ∨ k = 1 ∨ k = 2 ∨ k = 3 ∨ k = 4 ∨ k = 5 ∨ k = 6 ∨ k = 9 ∨ k = 10) (h1 : k = 1 → S = 0) (h4 : k = 4 → 1 ≤ n) (h6 : k = 6 → 0 ≤ mn ∧ mn ≤ mx) :
  lenRK k n (min S 1000) mn mx = min (lenK k n S mn mx) 1000 := by
 unfold lenRK lenK
 rcases hk with rfl | rfl | rfl | rfl | rfl | rfl | rfl | rfl | rfl
 ·simp
 ·simp [h1 rfl]
 ·simp
 ·simp
 ·have := h4 rfl
  simp; omega
 ·simp; omega
 ·obtain ⟨g1, g2⟩ := h6 rfl
  obtain ⟨a, rfl⟩ := Int.eq_ofNat_of_zero_le g1
  obtain ⟨b, hb⟩ := Int.eq_ofNat_of_zero_le (show 0 ≤ mx - (a : Int) by omega)
  obtain rfl : mx = ((a + b : Nat) : Int) := by omega
  simp only [show ((6 : Int) = 0 ∨ (6 : Int) = 2) ↔ False by decide, show ((6 : Int) = 4) ↔ False by decide, show ((6 : Int) = 5) ↔ False by decide, show ((6 : Int) = 1) ↔ False by decide, show ((6 : Int) = 3) ↔ False by decide, if_false, if_true, Int.toNat_natCast, show (((a + b : Nat) : Int) - (a : Int)).toNat = b by omega]
  have e : a * S + b * (S + 3) = S * (a + b) + 3 * b := by rw [Nat.mul_add, Nat.mul_comm S, Nat.add_mul, Nat.mul_comm 3]; omega
  rw [e]
  rcases Nat.lt_or_ge S 1000 with h | h
  ·rw [Nat.min_eq_left (Nat.le_of_lt h)]
  ·rw [Nat.min_eq_right h]
   rcases Nat.eq_zero_or_pos (a + b) with h0 | h0
   ·rw [h0, Nat.mul_zero, Nat.mul_zero]
   ·have g3 : 1000 ≤ 1000 * (a + b) := Nat.le_mul_of_pos_right 1000 h0
    have g4 : 1000 ≤ S * (a + b) := Nat.le_trans h (Nat.le_mul_of_pos_right S h0)
    omega
 ·simp; omega
 ·simp; omega
mutual
theorem lenR_eq : ∀ t : Re, okRe t → usesB [7, 8] t = false → lenR t = min (lenQ t) 1000
  | .mk k set args mn mx ng, hok, hu => by
    have hk := kinds_of hok hu
    have hN := node_inv (okRe_node hok)
    have hu2 : usesBs [7, 8] args = false := by simp only [usesB, Bool.or_eq_false_iff] at hu; exact hu.2
    have hs := lenRs_eq args (okRe_args hok) hu2 0
    rw [Nat.zero_add] at hs
    simp only [lenR, lenQ]
    have h0 : lenRs 0 args = min (lenQs args) 1000 := hs
    rw [h0]
    have hone : k = 1 → args = [] := fun h => by
      have hf := (okRe_form hok).2.2
      simp only [formB, Bool.and_eq_true] at hf
      have h5 := hf.1.1.1.1
      simp only [Re.kind, Re.args] at h5
      unfold okB at h5
      rw [if_neg (by omega), if_neg (by omega)] at h5
      have := of_decide_eq_true h5
      exact List.eq_nil_of_length_eq_zero (by omega)
    rw [lenRK_min k args.length (lenQs args) mn mx (by omega) (fun h => by rw [hone h]; rfl) (fun h => by have := hN.two; simp only [Re.kind, Re.args] at this; have := this (.inr (.inl h)); omega) (fun h => by have := hN.rep; simp only [Re.kind, Re.mn, Re.mx] at this; exact ⟨(this h).1, (this h).2.1⟩)]
    omega
theorem lenRs_eq : ∀ ts : List Re, okRes ts → usesBs [7, 8] ts = false → ∀ s, lenRs (min s 1000) ts = min (s + lenQs ts) 1000
  | [], _, _, s => by simp [lenRs, lenQs]
  | t :: ts, hok, hu, s => by
    simp only [okRes] at hok
    simp only [usesBs, Bool.or_eq_false_iff] at hu
    simp only [lenRs, lenQs]
    rw [lenR_eq t hok.1 hu.1, lenRs_eq ts hok.2 hu.2]
    omega
end
end Go.Proofs
namespace Go.Eng
open Go
theorem keyOfEq3 {P : Program} {kt : TypeId} {κ : Type} [DecidableEq κ] {ek : κ → Value} (hwide : (match P.underlying kt with | some (.array _ _) | some (.struct _) => true | _ => false) = true)
    (hchk : ∀ (b : Bool) (w : World) (k : κ), (Instr.checkKey b 10000 kt (ek k)).run P w = .ok () w) (heq : ∀ (w : World) (a b : κ), (Op.equal kt (ek a) (ek b)).run P w = .ok (decide (a = b)) w) (hsame : ∀ k, Instr.sameBits 10000 (ek k) (ek k) = true) : KeyOk P kt ek where
  check := hchk
  same := hsame
  find := fun ν w k es eV L hL => by
    have key : ∀ (L : List MapEntry) (es : List (κ × ν)) (i : Nat), L.map (fun e => (e.key, e.val)) = es.map (fun p => (ek p.1, eV p.2)) → (Instr.findAsking kt (ek k) L i).run P w = .ok (findM eV es k i) w := by
      intro L
      induction L with
      | nil =>
        intro es i h
        cases es with
        | nil => rfl
        | cons _ _ => simp at h
      | cons e L ih =>
        intro es i h
        cases es with
        | nil => simp at h
        | cons p es =>
          simp only [List.map_cons, List.cons.injEq, Prod.mk.injEq] at h
          obtain ⟨⟨h1, h2⟩, h3⟩ := h
          unfold Instr.findAsking findM
          simp only [Sem.run_bind, h1, heq, Result.andThen_ok]
          by_cases hk : p.1 = k
          · rw [if_pos hk, hk]; simp [h2]
          · rw [if_neg hk, show decide (k = p.1) = false by simpa using fun h => hk h.symm]
            exact ih es (i + 1) h3
    rw [run_findKey_eq w hwide]
    exact key L es 0 hL
abbrev Spt := Nat × Nat × Nat
def kSp (s : Spt) : Value := .agg #[.int .i64 ((s.1 : Nat) : Int), .int .i64 ((s.2.1 : Nat) : Int), .int .i64 ((s.2.2 : Nat) : Int)]
theorem same_sp (k : Spt) : Instr.sameBits 10000 (kSp k) (kSp k) = true := by
 show Instr.sameBits (9999 + 1) (.agg _) (.agg _) = true
 simp [Instr.sameBits]
theorem eqStr3 {P : Program} {t e : TypeId} {n1 n2 n3 p1 p2 p3 g1 g2 g3 : String} {m1 m2 m3 : Bool} {o1 o2 o3 : Nat} (hu : P.underlying t = some (.struct #[⟨n1, e, 0, m1, p1, g1, o1⟩, ⟨n2, e, 1, m2, p2, g2, o2⟩, ⟨n3, e, 2, m3, p3, g3, o3⟩])) (hs : P.stoodInHeld t = false) (he : P.underlying e = some (.int .i64)) (h1 : n1 ≠ "_") (h2 : n2 ≠ "_") (h3 : n3 ≠ "_") (w : World) (a b : Spt) :
  (Op.equal t (kSp a) (kSp b)).run P w = .ok (decide (a = b)) w := by
 have hp : P.plainKey e = true := by simp [Program.plainKey, he]
 have hf : P.fieldsOf t = #[⟨n1, e, 0, m1, p1, g1, o1⟩, ⟨n2, e, 1, m2, p2, g2, o2⟩, ⟨n3, e, 2, m3, p3, g3, o3⟩] := by simp [Program.fieldsOf, hu]
 have hq : ∀ (d : Nat) (x y : Int), (Op.equalIn (d + 1) e (.int .i64 x) (.int .i64 y)).run P w = .ok (x == y) w := fun d x y => by
  simp [Op.equalIn, run_underlying he]
 show (Op.equalIn (9999 + 1) t (.agg _) (.agg _)).run P w = _
 rw [run_equalIn_struct w 9999 t _ _ (by rw [hf]; exact hu) hs, hf]
 obtain ⟨a1, a2, a3⟩ := a
 obtain ⟨b1, b2, b3⟩ := b
 have q0 : ∀ (x y z : Int), (part e #[.int .i64 x, .int .i64 y, .int .i64 z] 0).run P w = .ok (.int .i64 x) w := fun x y z => run_part_plain w hp rfl
 have q1 : ∀ (x y z : Int), (part e #[.int .i64 x, .int .i64 y, .int .i64 z] 1).run P w = .ok (.int .i64 y) w := fun x y z => run_part_plain w hp rfl
 have q2 : ∀ (x y z : Int), (part e #[.int .i64 x, .int .i64 y, .int .i64 z] 2).run P w = .ok (.int .i64 z) w := fun x y z => run_part_plain w hp rfl
 have b' : ∀ x y : Nat, (((x : Nat) : Int) == ((y : Nat) : Int)) = decide (x = y) := fun x y => by rw [Bool.eq_iff_iff]; simp; omega
 simp only [Op.eqFields, h1, h2, h3, ne_eq, not_false_eq_true, if_true, Sem.run_bind, q0, q1, q2, Result.andThen_ok, hq 9998, b', Prod.mk.injEq]
 by_cases e1 : a1 = b1
 ·by_cases e2 : a2 = b2
  ·by_cases e3 : a3 = b3 <;> simp [e1, e2, e3, q1, q2, hq 9998, b']
  ·simp [e1, e2, q1, q2, hq 9998, b']
 ·simp [e1]
end Go.Eng
namespace Go.Proofs
open Go Go.Eng Go.Sort
set_option maxRecDepth 100000
abbrev TSpt : Nat := 77
theorem chk_sp (b : Bool) (w : World) (k : Spt) : (Instr.checkKey b 10000 TSpt (kSp k)).run Try.prog w = .ok () w := by kernel_rfl
theorem key77 : KeyOk Try.prog TSpt kSp := keyOfEq3 (by rw [Try.underlying77]) chk_sp (fun w a b => eqStr3 Try.underlying77 (by kernel_rfl) Try.underlying3 (by decide) (by decide) (by decide) w a b) same_sp
end Go.Proofs
namespace Go.Proofs
open Go Go.Eng Go.Sort
set_option maxRecDepth 100000
abbrev TRn : Nat := 80
abbrev TFd : Nat := 33
def grpV (G : Grp) : List Value := G.flatMap fun p => [.int .i64 p.1, .int .i64 p.2]
theorem grpV_len : ∀ G : Grp, (grpV G).length = G.length * 2
  | [] => rfl
  | p :: G => by
    have := grpV_len G
    simp only [grpV, List.flatMap_cons, List.length_append, List.length_cons, List.length_nil] at this ⊢
    omega
theorem grpV_get : ∀ (G : Grp) (i : Nat) (q : Int × Int), G[i]? = some q → (grpV G)[i * 2]? = some (.int .i64 q.1) ∧ (grpV G)[i * 2 + 1]? = some (.int .i64 q.2)
  | [], i, q, h => by simp at h
  | p :: G, 0, q, h => by simp at h; subst h; exact ⟨rfl, rfl⟩
  | p :: G, i + 1, q, h => by
    have ih := grpV_get G i q (by simpa using h)
    have e1 : (i + 1) * 2 = i * 2 + 1 + 1 := by omega
    have e2 : (i + 1) * 2 + 1 = i * 2 + 1 + 1 + 1 := by omega
    rw [e2, e1]
    exact ih
abbrev runV (pb mb bb : Nat) (ta : Option Addr) (tn tc n : Nat) (gf gt : Int) (G : Grp) : List Value :=
 [.pointer (some ⟨pb, 0, none⟩), .slice ta tn tc, .map (some mb), .slice (some ⟨bb, 0, none⟩) n n, .int .i64 gf, .int .i64 gt] ++ grpV G
theorem grpV_put : ∀ (G : Grp) (i : Nat) (q : Int × Int), i < G.length → (grpV G).take (i * 2) ++ [Value.int .i64 q.1, Value.int .i64 q.2] ++ (grpV G).drop (i * 2 + 2) = grpV (G.set i q)
  | [], i, q, h => by simp at h
  | p :: G, 0, q, _ => rfl
  | p :: G, i + 1, q, h => by
    have ih := grpV_put G i q (by simpa using h)
    have e1 : (i + 1) * 2 = i * 2 + 1 + 1 := by omega
    have e2 : (i + 1) * 2 + 2 = i * 2 + 2 + 1 + 1 := by omega
    rw [e2, e1]
    show (Value.int .i64 p.1 :: Value.int .i64 p.2 :: _) = (Value.int .i64 p.1 :: Value.int .i64 p.2 :: _)
    congr 2
theorem runV_put {pb mb bb : Nat} {ta : Option Addr} {tn tc n : Nat} {gf gt : Int} {G : Grp} {i : Nat} {x y : Int} (h : i < G.length) :
  ((runV pb mb bb ta tn tc n gf gt G).toArray.toList.take (6 + i * 2) ++ #[Value.int .i64 x, Value.int .i64 y].toList ++ (runV pb mb bb ta tn tc n gf gt G).toArray.toList.drop (6 + i * 2 + 2)).toArray = (runV pb mb bb ta tn tc n gf gt (G.set i (x, y))).toArray := by
 congr 1
 have h1 := grpV_put G i (x, y) h
 rw [List.toList_toArray]
 unfold runV
 rw [List.take_append, List.drop_append]
 simp only [List.length_cons, List.length_nil]
 rw [List.take_of_length_le (by simp), List.drop_of_length_le (by simp; omega), show 6 + i * 2 - 6 = i * 2 by omega, show 6 + i * 2 + 2 - 6 = i * 2 + 2 by omega, List.nil_append, List.append_assoc, List.append_assoc, ← h1, List.append_assoc]
/-- A runner. -/
structure RunAt (w : World) (rb pb mb bb : Nat) (ta : Option Addr) (tn tc : Nat) (B : List Int) (es : List (Spt × Bool)) (gf gt : Int) (G : Grp) : Prop where
 blk : Blk w rb (runV pb mb bb ta tn tc B.length gf gt G).toArray TRn
 map : MapAt w mb kSp kBool es
 beg : Blk w bb (B.map (Value.int .i64)).toArray TIn
 gl : G.length = 10
theorem RunAt.chg {M : Nat → Prop} {w w' : World} {rb pb mb bb : Nat} {ta : Option Addr} {tn tc : Nat} {B : List Int} {es : List (Spt × Bool)} {gf gt : Int} {G : Grp} (h : RunAt w rb pb mb bb ta tn tc B es gf gt G) (c : Chg M w w') (h1 : ¬ M rb) (h2 : ¬ M mb) (h3 : ¬ M bb) : RunAt w' rb pb mb bb ta tn tc B es gf gt G :=
 ⟨c.keep h1 h.blk, c.keepM h2 h.map, c.keep h3 h.beg, h.gl⟩
theorem RunAt.ext {w w' : World} {rb pb mb bb : Nat} {ta : Option Addr} {tn tc : Nat} {B : List Int} {es : List (Spt × Bool)} {gf gt : Int} {G : Grp} (h : RunAt w rb pb mb bb ta tn tc B es gf gt G) (c : Ext w w') : RunAt w' rb pb mb bb ta tn tc B es gf gt G := h.chg c (fun f => f) (fun f => f) fun f => f
theorem ProgAt.head {F : Nat → Prop} {w : World} {b : Nat} {r : Re} (h : ProgAt F w b r) : ∃ cb cc, Blk w b #[.slice (some ⟨cb, 0, none⟩) (progOf r).length cc, iV (tempsOf r), iV 0] TPg := by
  cases h with
  | mk hB hF hF2 hb htm hn hl hc hr hs => subst hn; exact ⟨_, _, hB⟩
def startG (i : Nat) : Grp := List.replicate i (-1, -1) ++ List.replicate (10 - i) (0, 0)
theorem startG_len {i : Nat} (h : i ≤ 10) : (startG i).length = 10 := by simp [startG]; omega
theorem startG_set {i : Nat} (h : i < 10) : (startG i).set i (-1, -1) = startG (i + 1) := by
 unfold startG
 rw [show 10 - i = (10 - (i + 1)) + 1 by omega, List.replicate_succ, set_midI (by simp), List.replicate_succ', List.append_assoc]; rfl
set_option maxHeartbeats 1000000 in
theorem start_c (F : Nat → Prop) (w0 : World) (pb : Nat) (r : Re) (ta : Option Addr) (tn tc : Nat) (h : ProgAt F w0 pb r) (ht : tempsOf r ≤ 1000) :
  Ret Try.prog 39 #[.pointer (some ⟨pb, 0, none⟩), .slice ta tn tc] w0 fun v w => (∃ rb mb bb, v = .pointer (some ⟨rb, 0, none⟩) ∧ (w0.heap.size ≤ rb ∧ w0.heap.size ≤ mb ∧ w0.heap.size ≤ bb) ∧ (rb ≠ mb ∧ rb ≠ bb ∧ mb ≠ bb) ∧ RunAt w rb pb mb bb ta tn tc (List.replicate (tempsOf r) 0) [] 0 0 G0) ∧ Ext w0 w := by
 obtain ⟨cb, cc, hB⟩ := h.head
 refine Ret_of Try.func39 rfl Try.ntmps39 (Nat.le_of_ble_eq_true rfl) ?_
 have E : Chg none1 w0 w0 := Chg.refl _ _
 refine Wp_seq_region ?_
 refine qA (.pointer none) rfl ?_
 refine WpL_nil (Wp_seq_region ?_)
 refine qM (P6 pb 0) rfl ?_
 refine qM (.slice ta tn tc) rfl ?_
 refine s_makeMap kSp kBool (by decide) ?_
 intro bm wm Nm
 have Fm := Nm.ge E
 have Om_pb := Nm.lt hB
 replace hB := Nm.keep hB
 replace E := E.ext Nm.ext
 intro Mm
 refine qM (P6 pb 0) rfl ?_
 refine qV (r_nilCheck (a := ⟨pb, 0, none⟩) rfl) ?_
 refine qF pb 0 1 rfl Try.underlying83 rfl siz3 rfl ?_
 refine qV (r_load (v := (I6 ((tempsOf r : Nat) : Int))) rfl flat3 (hB.cell rfl)) ?_
 refine s_make (n := tempsOf r) (z := (I6 0)) (bytes := 8) (by decide) Try.underlying22 siz3 byt3 zer3 rfl rfl rfl (by omega) (by omega) ?_
 intro bb wb Nb
 have Fb := Nb.ge E
 have Ob_pb := Nb.lt hB
 have Ob_bm := Nb.ltM Mm
 replace hB := Nb.keep hB
 replace Mm := Nb.keepM Mm
 replace E := E.ext Nb.ext
 have Bb := Nb.blk
 refine qV (r_build (ps := [(0, (P6 pb 0)), (1, (.slice ta tn tc)), (2, (.map (some bm))), (3, (.slice (some ⟨bb, 0, none⟩) (tempsOf r) (tempsOf r)))]) (v := (.agg #[(P6 pb 0), (.slice ta tn tc), (.map (some bm)), (.slice (some ⟨bb, 0, none⟩) (tempsOf r) (tempsOf r)), (I6 0), (I6 0), (I6 0), (I6 0), (I6 0), (I6 0), (I6 0), (I6 0), (I6 0), (I6 0), (I6 0), (I6 0), (I6 0), (I6 0), (I6 0), (I6 0), (I6 0), (I6 0), (I6 0), (I6 0), (I6 0), (I6 0)])) rfl (by kernel_rfl)) ?_
 refine s_box (v := (.agg #[(P6 pb 0), (.slice ta tn tc), (.map (some bm)), (.slice (some ⟨bb, 0, none⟩) (tempsOf r) (tempsOf r)), (I6 0), (I6 0), (I6 0), (I6 0), (I6 0), (I6 0), (I6 0), (I6 0), (I6 0), (I6 0), (I6 0), (I6 0), (I6 0), (I6 0), (I6 0), (I6 0), (I6 0), (I6 0), (I6 0), (I6 0), (I6 0), (I6 0)])) (c := #[(P6 pb 0), (.slice ta tn tc), (.map (some bm)), (.slice (some ⟨bb, 0, none⟩) (tempsOf r) (tempsOf r)), (I6 0), (I6 0), (I6 0), (I6 0), (I6 0), (I6 0), (I6 0), (I6 0), (I6 0), (I6 0), (I6 0), (I6 0), (I6 0), (I6 0), (I6 0), (I6 0), (I6 0), (I6 0), (I6 0), (I6 0), (I6 0), (I6 0)]) (by decide) rfl rfl ?_
 intro br wr Nr
 have Fr := Nr.ge E
 have Or_pb := Nr.lt hB
 have Or_bm := Nr.ltM Mm
 have Or_bb := Nr.lt Bb
 replace hB := Nr.keep hB
 replace Mm := Nr.keepM Mm
 replace Bb := Nr.keep Bb
 replace E := E.ext Nr.ext
 have Br := Nr.blk
 refine qA (P6 br 0) rfl ?_
 refine WpL_nil (Wp_seq (Wp_seq_region ?_))
 refine qM (I6 0) rfl ?_
 refine WpL_nil (Wp_block ?_)
 refine Wp_loop (fun nn_ σ W1 => ∃ (i : Nat), (∃ jj_, σ = upds jj_ [(5, (P6 br 0)), (17, (I6 (i : Int)))]) ∧ Chg none1 w0 W1 ∧ Blk W1 pb #[(.slice (some ⟨cb, 0, none⟩) ((progOf r).length) cc), (I6 ((tempsOf r : Nat) : Int)), (I6 0)] TPg ∧ MapAt W1 bm kSp kBool ([]) ∧ Blk W1 bb ((List.replicate (tempsOf r) (I6 0)).toArray) 3 ∧ Blk W1 br ((runV pb bm bb ta tn tc (tempsOf r) 0 0 (startG i)).toArray) 80 ∧ (i ≤ 10) ∧ nn_ = 10 - i) (n := 10 - 0) ?_ ?_
 ·exact ⟨0, Fits.out ⟨rfl, rfl, trivial⟩, E, hB, Mm, Bb, Br, Nat.zero_le _, rfl⟩
 ·clear E hB Mm Bb Br
  rintro _ _ W1 ⟨i, ⟨j1, rfl⟩, E, hB, Mm, Bb, Br, hi, rfl⟩
  refine Wp_seq_region ?_
  refine qV (r_lss (k := .i64) (a := (i : Int)) (b := 10) rfl rfl) ?_
  refine WpL_nil (Wp_seq ?_)
  refine Wp_cond (b := decide (((i : Int) : Int) < 10)) rfl (fun hlt => ?_) (fun hlt => ?_)
  ·have khlt := hlt
   replace hlt := of_decide_eq_true hlt
   have hgl := startG_len (i := i) (by omega)
   refine Wp_skip (thn_normal (Wp_seq (Wp_block (Wp_seq_region ?_))))
   refine qM (I6 (i : Int)) rfl ?_
   refine qA (I6 (i : Int)) rfl ?_
   refine WpL_nil (Wp_region ?_)
   refine qM (P6 br 0) rfl ?_
   refine qM (I6 (i : Int)) rfl ?_
   refine qV (r_build (ps := [(0, (I6 (-1))), (1, (I6 (-1)))]) (v := (.agg #[(I6 (-1)), (I6 (-1))])) rfl (by kernel_rfl)) ?_
   refine qV (r_nilCheck (a := ⟨br, 0, none⟩) rfl) ?_
   refine qF br 0 4 rfl Try.underlying80 rfl siz33 rfl ?_
   refine qF br 4 6 rfl Try.underlying33 rfl siz31 rfl ?_
   refine qV (r_indexArr (b := br) (o := 6) (i := i) (o' := 6 + i * 2) rfl rfl rfl Try.underlying31 siz30 (by omega) (by omega)) ?_
   refine s_storeAgg (b := br) (o := 6 + i * 2) (n := 2) (c' := (runV pb bm bb ta tn tc (tempsOf r) 0 0 (startG (i + 1))).toArray) (vs := #[(I6 (-1)), (I6 (-1))]) rfl rfl (by simp [Value.oneCell']) siz30 (rfl) Br (by simp [runV, grpV_len, hgl]; omega) (by rw [← startG_set (by omega)]; exact runV_put (by omega)) ?_
   intro w3 S3
   replace hB := S3.keep (by omega) hB
   replace Mm := S3.keepM (by omega) Mm
   replace Bb := S3.keep (by omega) Bb
   replace E := S3.step E (by first | exact Or.inl (by omega) | exact Or.inr rfl | exact Or.inr (by assumption) | exact Or.inr (by simp) | exact Or.inr (by omega) | exact Or.inr (by dsimp only; omega))
   replace Br := S3.blk
   refine WpL_nil (inB_normal (thn_normal (Wp_region ?_)))
   refine qV (r_add (k := .i64) (a := (i : Int)) (b := 1) (c := (i : Int) + 1) rfl rfl (wI64 (by omega))) ?_
   refine qM (I6 ((i : Int) + 1)) rfl ?_
   refine WpL_nil (thn_normal ?_)
   exact ⟨10 - (i + 1), by omega, i + 1, Fits.out ⟨rfl, rfl, trivial⟩, E, hB, Mm, Bb, Br, (by omega), rfl⟩
  ·have khlt := hlt
   replace hlt := of_decide_eq_false hlt
   have hi10 : i = 10 := by omega
   subst hi10
   refine Wp_exit (thn_exit (thn_exit (inB_here (thn_normal (Wp_seq_region ?_)))))
   refine qM (P6 br 0) rfl ?_
   refine qA (P6 br 0) rfl ?_
   refine WpL_nil (Wp_ret ?_)
   refine fin_tmp Try.results39 (v := (.pointer (some ⟨br, 0, none⟩))) rfl ?_
   exact ⟨⟨br, bm, bb, rfl, by omega, by omega, ⟨by rw [List.length_replicate]; exact Br, Mm, by rw [List.map_replicate]; exact Bb, rfl⟩⟩, E⟩
end Go.Proofs
namespace Go.Proofs
open Go Go.Eng Go.Sort
set_option maxRecDepth 100000
structure Ctx (F : Nat → Prop) (w : World) (rb pb mb bb : Nat) (ta : Option Addr) (tn tc : Nat) (text : List Int) (r : Re) : Prop where
 prog : ProgAt F w pb r
 fl : ∀ y, F y → y < w.heap.size ∧ y ≠ rb ∧ y ≠ mb ∧ y ≠ bb
 txt : IntsAt w (.slice ta tn tc) text
 tf : text = [] ∨ ∃ b, (Value.slice ta tn tc).ownBlock = some b ∧ F b
 tl : text.length ≤ 1000
 d1 : rb ≠ mb
 d2 : rb ≠ bb
 d3 : mb ≠ bb
abbrev RMod (rb mb bb : Nat) : Nat → Prop := fun y => y = rb ∨ y = mb ∨ y = bb
theorem Ctx.chg {F M : Nat → Prop} {w w' : World} {rb pb mb bb : Nat} {ta : Option Addr} {tn tc : Nat} {text : List Int} {r : Re} (h : Ctx F w rb pb mb bb ta tn tc text r) (c : Chg M w w') (hM : ∀ y, F y → ¬ M y) : Ctx F w' rb pb mb bb ta tn tc text r :=
 ⟨h.prog.chg c hM, fun y hy => ⟨Nat.lt_of_lt_of_le (h.fl y hy).1 c.size, (h.fl y hy).2⟩, SlAt.chg2 h.txt c (h.tf.elim (fun e => .inl (by rw [e]; rfl)) fun ⟨b, h1, h2⟩ => .inr ⟨b, h1, hM b h2⟩), h.tf, h.tl, h.d1, h.d2, h.d3⟩
theorem Ctx.ext {F : Nat → Prop} {w w' : World} {rb pb mb bb : Nat} {ta : Option Addr} {tn tc : Nat} {text : List Int} {r : Re} (h : Ctx F w rb pb mb bb ta tn tc text r) (c : Ext w w') : Ctx F w' rb pb mb bb ta tn tc text r := h.chg c fun _ _ f => f
theorem Ctx.mod {F : Nat → Prop} {w w' : World} {rb pb mb bb : Nat} {ta : Option Addr} {tn tc : Nat} {text : List Int} {r : Re} (h : Ctx F w rb pb mb bb ta tn tc text r) (c : Chg (RMod rb mb bb) w w') : Ctx F w' rb pb mb bb ta tn tc text r :=
 h.chg c fun y hy hm => by obtain ⟨_, h1, h2, h3⟩ := h.fl y hy; rcases hm with e | e | e; exact h1 e; exact h2 e; exact h3 e
def Fails (text : List Int) (code : List Ins) (n : Nat) (es : List (Spt × Bool)) : Prop := ∀ q ∈ es, q.2 = true ∧ ∀ (B : List Int) (G : Grp), B.length = n → Res text code q.1.1 q.1.2.1 q.1.2.2 B G none
/-- What a run leaves. -/
def Outc (text : List Int) (code : List Ins) (rb pb mb bb : Nat) (ta : Option Addr) (tn tc : Nat) (B : List Int) (gf gt : Int) (G : Grp) (o : Option (Grp × Nat)) (w : World) : Prop :=
 ∃ (es' : List (Spt × Bool)) (B' : List Int) (gt' : Int) (G' : Grp), RunAt w rb pb mb bb ta tn tc B' es' gf gt' G' ∧ B'.length = B.length ∧ Fails text code B.length es' ∧ (o = none → B' = B ∧ gt' = gt ∧ G' = G) ∧ ∀ q, o = some q → G' = q.1 ∧ gt' = ((q.2 : Nat) : Int)
def RunC (fid : Nat) (text : List Int) (code : List Ins) (a p d : Nat) (B : List Int) (G : Grp) (o : Option (Grp × Nat)) : Prop :=
 ∀ (r : Re), code = progOf r → ∀ (F : Nat → Prop) (w0 : World) (rb pb mb bb : Nat) (ta : Option Addr) (tn tc : Nat) (es : List (Spt × Bool)) (gf gt : Int), Ctx F w0 rb pb mb bb ta tn tc text r → RunAt w0 rb pb mb bb ta tn tc B es gf gt G → Fails text code B.length es → p ≤ text.length →
 Ret Try.prog fid #[.pointer (some ⟨rb, 0, none⟩), .agg #[iV a, iV p, iV d]] w0 fun v w => (v = .bool o.isSome ∧ Outc text code rb pb mb bb ta tn tc B gf gt G o w) ∧ Chg (RMod rb mb bb) w0 w
abbrev fRun : Nat := 40
abbrev fTry : Nat := 60
theorem getM_true {es : List (Spt × Bool)} {k : Spt} (h : (getM es k).getD false = true) : (k, true) ∈ es := by
  cases hg : getM es k with
  | none => rw [hg] at h; cases h
  | some b =>
    rw [hg] at h
    have hb : b = true := h
    subst hb
    exact getM_some_mem hg
theorem putM_mem {es : List (Spt × Bool)} {k : Spt} {b : Bool} : ∀ q ∈ putM es k b, q ∈ es ∨ q = (k, b) := by
  induction es with
  | nil => intro q hq; simp [putM] at hq; exact .inr hq
  | cons x es ih =>
    intro q hq
    unfold putM at hq
    split at hq
    · rcases List.mem_cons.1 hq with h | h
      · exact .inr h
      · exact .inl (List.mem_cons_of_mem _ h)
    · rcases List.mem_cons.1 hq with h | h
      · exact .inl (by rw [h]; simp)
      · exact (ih q h).imp (fun h => List.mem_cons_of_mem _ h) id
set_option maxHeartbeats 1000000 in
theorem run_of_try {text : List Int} {code : List Ins} {a p d : Nat} {B : List Int} {G : Grp} {o : Option (Grp × Nat)} (hR : Res text code a p d B G o) (hT : RunC fTry text code a p d B G o) : RunC fRun text code a p d B G o := by
 intro r hcode F w0 rb pb mb bb ta tn tc es gf gt hC hA hFl hp
 have hblk := hA.blk
 have hmap := hA.map
 have hbeg := hA.beg
 have hrl := hblk.lt
 have hml := hmap.lt
 have hbl := hbeg.lt
 have hd1 := hC.d1
 have hd2 := hC.d2
 have hd3 := hC.d3
 have hgl := hA.gl
 refine Ret_of Try.func40 rfl Try.ntmps40 (Nat.le_of_ble_eq_true rfl) ?_
 have E : Chg (RMod rb mb bb) w0 w0 := Chg.refl _ _
 refine Wp_seq_region ?_
 refine s_box (v := (.agg #[(I6 (a : Int)), (I6 (p : Int)), (I6 (d : Int))])) (c := #[(I6 (a : Int)), (I6 (p : Int)), (I6 (d : Int))]) (by decide) rfl rfl ?_
 intro bs ws Ns
 have Fs := Ns.ge E
 have Os_rb := Ns.lt hblk
 have Os_bb := Ns.lt hbeg
 have Os_mb := Ns.ltM hmap
 replace hblk := Ns.keep hblk
 replace hbeg := Ns.keep hbeg
 replace hmap := Ns.keepM hmap
 replace E := E.ext Ns.ext
 have Bs := Ns.blk
 refine qA (.bool false) rfl ?_
 refine WpL_nil (Wp_seq ?_)
 refine Wp_seq_draw 5 mixed (by kernel_rfl) ?_
 intro w1 X1 _
 replace hblk := X1.keep hblk
 replace hbeg := X1.keep hbeg
 replace hmap := X1.keepM hmap
 replace Bs := X1.keep Bs
 replace E := E.ext X1
 refine qT (r_move (v := (P6 rb 0)) rfl) ?_
 refine qT (r_nilCheck (a := ⟨rb, 0, none⟩) rfl) ?_
 refine qT (r_fieldAddr (b := rb) (o := 0) (o' := 2) rfl Try.underlying80 rfl siz78 rfl) ?_
 refine qT (r_load (v := (.map (some mb))) rfl flat78 (hblk.cell rfl)) ?_
 refine qT (r_loadAgg (vs := [(I6 (a : Int)), (I6 (p : Int)), (I6 (d : Int))]) rfl agg77 siz77 rfl (Bs.cells rfl)) ?_
 refine WpT_zero ?_
 refine WpL_val (v := (.bool ((getM es (a, p, d)).getD false))) rfl rfl (by decide) (r_lookup (k := (a, p, d)) (z := false) Try.underlying78 (key77) zer4 hmap rfl rfl) ?_
 refine WpL_nil ?_
 refine Wp_cond (b := (getM es (a, p, d)).getD false) rfl (fun hf => ?_) (fun hf => ?_)
 ·have khf := hf
  have hno : o = none := res_det hR _ ((hFl _ (getM_true hf)).2 B G rfl)
  refine Wp_seq_region ?_
  refine qA (.bool false) rfl ?_
  refine WpL_nil (Wp_ret (thn_ret ?_))
  refine fin_tmp Try.results40 (v := (.bool false)) rfl ?_
  exact ⟨⟨by rw [hno]; rfl, es, B, gt, G, ⟨hblk, hmap, hbeg, hgl⟩, rfl, hFl, fun _ => ⟨rfl, rfl, rfl⟩, fun q hq => by rw [hno] at hq; cases hq⟩, E⟩
 ·have khf := hf
  refine Wp_skip (thn_normal (Wp_seq (Wp_seq_region ?_)))
  refine qM (P6 rb 0) rfl ?_
  refine qV (r_loadAgg (vs := [(I6 (a : Int)), (I6 (p : Int)), (I6 (d : Int))]) rfl agg77 siz77 rfl (Bs.cells rfl)) ?_
  refine WpL_enter rfl rfl (by decide) (r_callF (vs := [(P6 rb 0), (.agg #[(I6 (a : Int)), (I6 (p : Int)), (I6 (d : Int))])]) Try.func60 nm60 bd60 rfl) (hT r hcode F _ rb pb mb bb ta tn tc es gf gt (hC.mod E) ⟨hblk, hmap, hbeg, hgl⟩ hFl hp) ?_
  rintro _ w19 ⟨⟨rfl, hO⟩, C19⟩
  replace Bs := C19.keep (fun h => by rcases h with h | h | h <;> omega) Bs
  replace E := E.step C19 (fun _ _ h => h)
  refine WpL_nil ?_
  refine Wp_cond (b := o.isSome) rfl (fun hs => ?_) (fun hs => ?_)
  ·have khs := hs
   refine Wp_seq_region ?_
   refine qA (.bool true) rfl ?_
   refine WpL_nil (Wp_ret (thn_ret ?_))
   refine fin_tmp Try.results40 (v := (.bool true)) rfl ?_
   exact ⟨⟨by rw [hs], hO⟩, E⟩
  ·have khs := hs
   have hno : o = none := by simpa using hs
   obtain ⟨es', B', gt', G', hA', hl', hF', hn', _⟩ := hO
   obtain ⟨rfl, rfl, rfl⟩ := hn' hno
   have hblk := hA'.blk
   have hmap := hA'.map
   have hbeg := hA'.beg
   refine Wp_skip (thn_normal ?_)
   refine Wp_seq_draw 5 mixed (by kernel_rfl) ?_
   intro w4 X4 _
   replace Bs := X4.keep Bs
   replace hblk := X4.keep hblk
   replace hbeg := X4.keep hbeg
   replace hmap := X4.keepM hmap
   replace E := E.ext X4
   refine qT (r_move (v := (P6 rb 0)) rfl) ?_
   refine qT (r_nilCheck (a := ⟨rb, 0, none⟩) rfl) ?_
   refine qT (r_fieldAddr (b := rb) (o := 0) (o' := 2) rfl Try.underlying80 rfl siz78 rfl) ?_
   refine qT (r_load (v := (.map (some mb))) rfl flat78 (hblk.cell rfl)) ?_
   refine qT (r_loadAgg (vs := [(I6 (a : Int)), (I6 (p : Int)), (I6 (d : Int))]) rfl agg77 siz77 rfl (Bs.cells rfl)) ?_
   refine WpT_zero ?_
   refine s_mapUpdate (k := (a, p, d)) (v := true) Try.underlying78 (key77) hmap rfl rfl rfl ?_
   intro w5 S5 H5
   replace Bs := S5.keep (by omega) Bs
   replace hblk := S5.keep (by omega) hblk
   replace hbeg := S5.keep (by omega) hbeg
   replace E := S5.step E (by first | exact Or.inl (by omega) | exact Or.inr rfl | exact Or.inr (by assumption) | exact Or.inr (by simp) | exact Or.inr (by omega) | exact Or.inr (by dsimp only; omega))
   replace hmap := H5
   refine WpL_nil (Wp_seq_region ?_)
   refine qA (.bool false) rfl ?_
   refine WpL_nil (Wp_ret ?_)
   refine fin_tmp Try.results40 (v := (.bool false)) rfl ?_
   exact ⟨⟨by rw [hno]; rfl, _, B', gt', G', ⟨hblk, hmap, hbeg, hA'.gl⟩, rfl, fun q hq => (putM_mem q hq).elim (fun h => hF' q h) (fun h => by rw [h]; exact ⟨rfl, fun B2 G2 hB2 => res_indep hR hno B2 G2 hB2⟩), fun _ => ⟨rfl, rfl, rfl⟩, fun q hq => by rw [hno] at hq; cases hq⟩, E⟩
end Go.Proofs
