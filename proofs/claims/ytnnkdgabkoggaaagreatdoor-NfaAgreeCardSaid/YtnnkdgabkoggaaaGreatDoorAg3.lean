/- Contracts and plain lemmas, part 3. -/
import Derived.Tactics
import Derived.Deep.Quiet
import Derived.Laws.AppendOwn
import Derived.KernelRfl
import Derived.Laws.Entries
import Derived.Laws.Build
import Derived.Below
import Derived.RowKit3
import Derived.StillTail
import Derived.Sort.Grow
import Derived.Deep.Draws
import Derived.Test.YtnnkdgabkoggaaaGreatDoorChecked
import Derived.Laws.StructEq
import Derived.MapKept
import Derived.Laws.BytesArg
import Derived.Defers
import Derived.Recover
import Derived.Shelf.SlSortCmp.WholeK
import Derived.Shelf.Sort.Plain
import Derived.Shelf.Slices.CompactI
import Derived.Test.YtnnkdgabkoggaaaGreatDoorProg
import Derived.Shelf.Small.Bits
import Derived.DeepKeys3
import Derived.Test.YtnnkdgabkoggaaaGreatDoorAg2
set_option maxHeartbeats 16000000
set_option maxRecDepth 100000
namespace Go.Proofs
open Go Go.Eng
mutual
def allRe (p : Re → Prop) : Re → Prop
  | .mk k set args mn mx ng => p (.mk k set args mn mx ng) ∧ allRes p args
def allRes (p : Re → Prop) : List Re → Prop
  | [] => True
  | t :: ts => allRe p t ∧ allRes p ts
end
def genP (kinds : Int) (t : Re) : Prop := nodeE t = 0 ∧ t.kind ≤ kinds ∧ (t.kind = 2 → ∃ lo hi,t.set = [(lo,hi)] ∧ 97 ≤ lo ∧ lo ≤ hi ∧ hi ≤ 100)
theorem StrAt.put {wb w w' : World} {bs b : Nat} {l : List Int} {c : Array Value} {t : TypeId} (h : StrAt wb w bs l) (s : Put w w' b c t) (hne : bs ≠ b) : StrAt wb w' bs l :=
 let ⟨a,c,h1,h2⟩ := h; ⟨a,c,s.keep hne h1,h2⟩
theorem node_leaf {k : Int} (h : k = 0 ∨ k = 1) : nodeE (.mk k [] [] 0 0 false) = 0 := by
 rcases h with rfl | rfl <;> decide
theorem node_set {lo hi : Int} (h1 : 0 ≤ lo) (h2 : lo ≤ hi) (h3 : hi ≤ 1114111) : nodeE (.mk 2 [(lo,hi)] [] 0 0 false) = 0 := by
 simp [nodeE,formB,okB,checkE,checkL,validB,Re.kind,Re.set,Re.args,Re.mn,Re.mx,Re.neg,h1,h2,h3]
theorem node_two {k : Int} (h : k = 3 ∨ k = 4 ∨ k = 7) (t u : Re) : nodeE (.mk k [] [t,u] 0 0 false) = 0 := by
 rcases h with rfl | rfl | rfl <;> simp [nodeE,formB,okB,Re.kind,Re.set,Re.args,Re.mn,Re.mx,Re.neg]
theorem node_rep {mn mx : Int} (h0 : 0 ≤ mn) (h1 : mn ≤ mx) (h2 : mx ≤ 8) (t : Re) : nodeE (.mk 6 [] [t] mn mx false) = 0 := by
 simp [nodeE,formB,okB,Re.kind,Re.set,Re.args,Re.mn,Re.mx,Re.neg]; omega
theorem node_group {mn : Int} (h0 : 0 ≤ mn) (h1 : mn ≤ 9) (t : Re) : nodeE (.mk 9 [] [t] mn 0 false) = 0 := by
 simp [nodeE,formB,okB,Re.kind,Re.set,Re.args,Re.mn,Re.mx,Re.neg]; omega
theorem node_look (ng : Bool) (t : Re) : nodeE (.mk 10 [] [t] 0 0 ng) = 0 := by
 simp [nodeE,formB,okB,Re.kind,Re.set,Re.args,Re.mn,Re.mx,Re.neg]
theorem node_one {k : Int} (h : k = 5 ∨ k = 8) (t : Re) : nodeE (.mk k [] [t] 0 0 false) = 0 := by
 rcases h with rfl | rfl <;> simp [nodeE,formB,okB,Re.kind,Re.set,Re.args,Re.mn,Re.mx,Re.neg]
theorem gen_mk {kinds k mn mx : Int} {ng : Bool} {ts : List Re} (hk : k ≤ kinds) (h2 : k ≠ 2) (hn : nodeE (.mk k [] ts mn mx ng) = 0) (ht : allRes (genP kinds) ts) : allRe (genP kinds) (.mk k [] ts mn mx ng) := by
 simp only [allRe]; exact ⟨⟨hn,hk,fun h => absurd h h2⟩,ht⟩
theorem gen_pow {d : Nat} (h : 1 ≤ d) : 2 ^ (d - 1 + 1) = 2 ^ d := by rw [Nat.sub_add_cancel h]
theorem gen_size1 {d : Nat} (h : 1 ≤ d) {t : Re} (hs : t.size + 1 ≤ 2 ^ (d - 1 + 1)) {k mn mx : Int} {set : List (Int × Int)} {ng : Bool} : (Re.mk k set [t] mn mx ng).size + 1 ≤ 2 ^ (d + 1) := by
 rw [gen_pow h] at hs
 simp only [Re.size,Re.sizes,Nat.pow_succ]; have := t.size_pos; omega
theorem gen_size2 {d : Nat} (h : 1 ≤ d) {t u : Re} (hs : t.size + 1 ≤ 2 ^ (d - 1 + 1)) (hu : u.size + 1 ≤ 2 ^ (d - 1 + 1)) {k mn mx : Int} {set : List (Int × Int)} {ng : Bool} : (Re.mk k set [t,u] mn mx ng).size + 1 ≤ 2 ^ (d + 1) := by
 rw [gen_pow h] at hs hu
 simp only [Re.size,Re.sizes,Nat.pow_succ]; omega
theorem gen_c (wb : World) (bs : Nat) (kinds : Int) (hk : kinds = 8 ∨ kinds = 10) (hb : wb.heap.size ≤ bs) : ∀ (d : Nat),d ≤ 4 → ∀ (w0 : World) (l : List Int),Ext wb w0 → StrAt wb w0 bs l →
    Ret Tryz.prog 17 #[.pointer (some ⟨bs,0,none⟩),.int .i64 ((d : Nat) : Int),.int .i64 kinds] w0 fun v w => ∃ t vs l',v = .agg vs.toArray ∧ allRe (genP kinds) t ∧ t.size + 1 ≤ 2 ^ (d + 1) ∧ ReIn (fun b => w0.heap.size ≤ b) w t vs ∧ StrAt wb w bs l' ∧ Chg (fun x => x = bs) w0 w := by
  intro d
  induction d using Nat.strongRecOn with
  | _ d ih =>
  intro hd4 w0 l hE hS
  have hbs0 := hS.lt
  have toE : ∀ {w : World},Chg (fun x => x = bs) w0 w → Ext wb w := fun c => Chg.step hE c fun x hx hm => by have hm' : x = bs := hm; omega
  refine Ret_of Tryz.func17 rfl Tryz.ntmps17 (Nat.le_of_ble_eq_true rfl) ?_
  have E : Chg (fun x => x = bs) w0 w0 := Chg.refl _ _
  refine Wp_seq_region ?_
  refine s_alloc (c := #[(I6 0),(.slice none 0 0),(.slice none 0 0),(I6 0),(I6 0),(.bool false)]) (by decide) zer27 rfl ?_
  intro b1 w1 N1
  have F1 := N1.ge E
  replace hS := hS.ext N1.ext
  replace E := E.ext N1.ext
  have B1 := N1.blk
  refine WpL_nil (Wp_seq_region ?_)
  refine qM (P6 bs 0) rfl ?_
  refine qM (I6 kinds) rfl ?_
  refine qV (r_add (k := .i64) (a := kinds) (b := 1) (c := kinds + 1) rfl rfl (wI64 (by omega))) ?_
  have hne1 : b1 ≠ bs := by omega
  refine WpL_enter rfl rfl (by decide) (r_callF (vs := [(P6 bs 0),(I6 (kinds + 1))]) Tryz.func48 kQ kQ rfl) (next_c wb _ bs _ _ (by omega) (by omega) (toE E) hb hS) ?_
  rintro _ w2 ⟨k0,l1,rfl,hk0,hk1,hS,C2⟩
  replace B1 := C2.keep (hne1) B1
  replace E := E.trans C2
  refine qA (I6 k0) rfl ?_
  refine WpL_nil ?_
  refine Wp_cut (fun σ W2 => ∃ (k : Int) (l1 : List Int),(∃ jj_,σ = upds jj_ [(0,(P6 bs 0)),(1,(I6 (d : Int))),(2,(I6 kinds)),(6,(P6 b1 0)),(7,(I6 k))]) ∧ Chg (fun x => x = bs) w0 W2 ∧ Blk W2 b1 #[(I6 0),(.slice none 0 0),(.slice none 0 0),(I6 0),(I6 0),(.bool false)] 27 ∧ (StrAt wb W2 bs l1) ∧ (0 ≤ k ∧ k ≤ kinds ∧ (d = 0 → k < 3))) ?_ ?_
  · skip
    refine Wp_seq_region ?_
    refine qM (I6 (d : Int)) rfl ?_
    refine qV (r_eql (k := .i64) (a := (d : Int)) (b := 0) rfl rfl) ?_
    refine WpL_nil ?_
    refine Wp_cond (b := decide (((d : Int) : Int) = 0)) rfl (fun hd => ?_) (fun hd => ?_)
    · have khd := hd
      replace hd := of_decide_eq_true hd
      refine Wp_region ?_
      refine qM (P6 bs 0) rfl ?_
      refine WpL_enter rfl rfl (by decide) (r_callF (vs := [(P6 bs 0),(I6 3)]) Tryz.func48 kQ kQ rfl) (next_c wb _ bs _ _ (by omega) (by omega) (toE E) hb hS) ?_
      rintro _ w3 ⟨k2,l2,rfl,hk2,hk3,hS,C3⟩
      replace B1 := C3.keep (hne1) B1
      replace E := E.trans C3
      refine qA (I6 k2) rfl ?_
      refine WpL_nil (thn_normal ?_)
      exact ⟨k2,l2,Fits.out ⟨rfl,rfl,rfl,rfl,rfl,trivial⟩,E,B1,hS,(by omega)⟩
    · have khd := hd
      replace hd := of_decide_eq_false hd
      refine Wp_skip (thn_normal ?_)
      exact ⟨k0,l1,Fits.out ⟨rfl,rfl,rfl,rfl,rfl,trivial⟩,E,B1,hS,(by omega)⟩
  · clear E B1
    rintro _ W2 ⟨k,l1,⟨j2,rfl⟩,E,B1,hS,hkk⟩
    refine Wp_seq (Wp_seq_region ?_)
    refine qM (I6 k) rfl ?_
    refine WpL_nil (Wp_block (Wp_seq (Wp_seq_region ?_)))
    refine qV (r_eql (k := .i64) (a := k) (b := 0) rfl rfl) ?_
    refine qA (.bool (decide ((k : Int) = 0))) rfl ?_
    refine WpL_nil ?_
    refine Wp_cond (b := decide ((k : Int) = 0)) rfl (fun h0 => ?_) (fun h0 => ?_)
    · have kh0 := h0
      replace h0 := of_decide_eq_true h0
      refine Wp_skip (thn_normal ?_)
      refine Wp_cond_true (congrArg Value.bool kh0) ?_
      refine Wp_seq_region ?_
      refine qM (I6 k) rfl ?_
      refine qV (r_build (ps := [(0,(I6 k))]) (v := (.agg #[(I6 k),(.slice none 0 0),(.slice none 0 0),(I6 0),(I6 0),(.bool false)])) rfl (by kernel_rfl)) ?_
      refine s_storeAgg (b := b1) (o := 0) (c' := #[(I6 k),(.slice none 0 0),(.slice none 0 0),(I6 0),(I6 0),(.bool false)]) rfl rfl (by simp [Value.oneCell']) siz27 rfl B1 (by first | (simp; done) | exact Nat.le_of_ble_eq_true rfl) rfl ?_
      intro w5 S5
      replace hS := hS.put S5 (Ne.symm hne1)
      replace E := S5.step E (by first | exact Or.inl (by omega) | exact Or.inr rfl | exact Or.inr (by assumption) | exact Or.inr (by simp) | exact Or.inr (by omega) | exact Or.inr (by dsimp only; omega))
      replace B1 := S5.blk
      refine WpL_nil (Wp_ret (inB_ret (thn_ret ?_)))
      refine fin_agg Tryz.results17 (vs := [(.int .i64 k),(.slice none 0 0),(.slice none 0 0),(.int .i64 0),(.int .i64 0),(.bool false)]) (b := b1) rfl agg27 siz27 rfl (B1.cells rfl) ?_
      exact ⟨.mk k [] [] 0 0 false,_,l1,rfl,gen_mk hkk.2.1 (by omega) (node_leaf (by omega)) (by simp only [allRes]),by simp only [Re.size,Re.sizes]; have := Nat.two_pow_pos d; rw [Nat.pow_succ]; omega,ReIn.of (set := []) (SlIn.nil _ _ _ _ _) (by simp) (.inl rfl),hS,E⟩
    · have kh0 := h0
      replace h0 := of_decide_eq_false h0
      refine Wp_region ?_
      refine qV (r_eql (k := .i64) (a := k) (b := 1) rfl rfl) ?_
      refine qA (.bool (decide ((k : Int) = 1))) rfl ?_
      refine WpL_nil (thn_normal ?_)
      refine Wp_cond (b := decide ((k : Int) = 1)) rfl (fun h1 => ?_) (fun h1 => ?_)
      · have kh1 := h1
        replace h1 := of_decide_eq_true h1
        refine Wp_seq_region ?_
        refine qM (I6 k) rfl ?_
        refine qV (r_build (ps := [(0,(I6 k))]) (v := (.agg #[(I6 k),(.slice none 0 0),(.slice none 0 0),(I6 0),(I6 0),(.bool false)])) rfl (by kernel_rfl)) ?_
        refine s_storeAgg (b := b1) (o := 0) (c' := #[(I6 k),(.slice none 0 0),(.slice none 0 0),(I6 0),(I6 0),(.bool false)]) rfl rfl (by simp [Value.oneCell']) siz27 rfl B1 (by first | (simp; done) | exact Nat.le_of_ble_eq_true rfl) rfl ?_
        intro w7 S7
        replace hS := hS.put S7 (Ne.symm hne1)
        replace E := S7.step E (by first | exact Or.inl (by omega) | exact Or.inr rfl | exact Or.inr (by assumption) | exact Or.inr (by simp) | exact Or.inr (by omega) | exact Or.inr (by dsimp only; omega))
        replace B1 := S7.blk
        refine WpL_nil (Wp_ret (inB_ret (thn_ret ?_)))
        refine fin_agg Tryz.results17 (vs := [(.int .i64 k),(.slice none 0 0),(.slice none 0 0),(.int .i64 0),(.int .i64 0),(.bool false)]) (b := b1) rfl agg27 siz27 rfl (B1.cells rfl) ?_
        exact ⟨.mk k [] [] 0 0 false,_,l1,rfl,gen_mk hkk.2.1 (by omega) (node_leaf (by omega)) (by simp only [allRes]),by simp only [Re.size,Re.sizes]; have := Nat.two_pow_pos d; rw [Nat.pow_succ]; omega,ReIn.of (set := []) (SlIn.nil _ _ _ _ _) (by simp) (.inl rfl),hS,E⟩
      · have kh1 := h1
        replace h1 := of_decide_eq_false h1
        refine Wp_seq_region ?_
        refine qV (r_eql (k := .i64) (a := k) (b := 2) rfl rfl) ?_
        refine qA (.bool (decide ((k : Int) = 2))) rfl ?_
        refine WpL_nil ?_
        refine Wp_cond (b := decide ((k : Int) = 2)) rfl (fun h2 => ?_) (fun h2 => ?_)
        · have kh2 := h2
          replace h2 := of_decide_eq_true h2
          refine Wp_seq_region ?_
          refine qM (P6 bs 0) rfl ?_
          refine WpL_enter rfl rfl (by decide) (r_callF (vs := [(P6 bs 0),(I6 3)]) Tryz.func48 kQ kQ rfl) (next_c wb _ bs _ _ (by omega) (by omega) (toE E) hb hS) ?_
          rintro _ w5 ⟨x,l2,rfl,hx0,hx1,hS,C5⟩
          replace B1 := C5.keep (hne1) B1
          replace E := E.trans C5
          refine qV (r_add (k := .i64) (a := 97) (b := x) (c := 97 + x) rfl rfl (wI64 (by omega))) ?_
          refine qA (I6 (97 + x)) rfl ?_
          refine WpL_nil (Wp_seq_region ?_)
          refine qM (I6 k) rfl ?_
          refine qM (I6 (97 + x)) rfl ?_
          refine qM (I6 (97 + x)) rfl ?_
          refine qM (P6 bs 0) rfl ?_
          refine WpL_enter rfl rfl (by decide) (r_callF (vs := [(P6 bs 0),(I6 2)]) Tryz.func48 kQ kQ rfl) (next_c wb _ bs _ _ (by omega) (by omega) (toE E) hb hS) ?_
          rintro _ w6 ⟨y,l3,rfl,hy0,hy1,hS,C6⟩
          replace B1 := C6.keep (hne1) B1
          replace E := E.trans C6
          refine qV (r_add (k := .i64) (a := 97 + x) (b := y) (c := (97 + x) + y) rfl rfl (wI64 (by omega))) ?_
          refine qV (r_build (ps := [(0,(I6 (97 + x))),(1,(I6 ((97 + x) + y)))]) (v := (.agg #[(I6 (97 + x)),(I6 ((97 + x) + y))])) rfl (by kernel_rfl)) ?_
          refine s_buildSlice (ps := [(0,(.agg #[(I6 (97 + x)),(I6 ((97 + x) + y))]))]) (c := #[(I6 (97 + x)),(I6 ((97 + x) + y))]) (by decide) rfl Tryz.underlying24 siz72 zer72 (by decide) (by decide) (by kernel_rfl) ?_
          intro bq wq Nq
          have Fq := Nq.ge E
          have Oq_b1 := Nq.lt B1
          replace B1 := Nq.keep B1
          replace hS := hS.ext Nq.ext
          replace E := E.ext Nq.ext
          have Bq := Nq.blk
          refine qV (r_build (ps := [(0,(I6 k)),(1,(.slice (some ⟨bq,0,none⟩) 1 1))]) (v := (.agg #[(I6 k),(.slice (some ⟨bq,0,none⟩) 1 1),(.slice none 0 0),(I6 0),(I6 0),(.bool false)])) rfl (by kernel_rfl)) ?_
          refine s_storeAgg (b := b1) (o := 0) (c' := #[(I6 k),(.slice (some ⟨bq,0,none⟩) 1 1),(.slice none 0 0),(I6 0),(I6 0),(.bool false)]) rfl rfl (by simp [Value.oneCell']) siz27 rfl B1 (by first | (simp; done) | exact Nat.le_of_ble_eq_true rfl) rfl ?_
          intro w9 S9
          replace hS := hS.put S9 (Ne.symm hne1)
          replace Bq := S9.keep (by omega) Bq
          replace E := S9.step E (by first | exact Or.inl (by omega) | exact Or.inr rfl | exact Or.inr (by assumption) | exact Or.inr (by simp) | exact Or.inr (by omega) | exact Or.inr (by dsimp only; omega))
          replace B1 := S9.blk
          refine WpL_nil (Wp_ret (inB_ret (thn_ret ?_)))
          refine fin_agg Tryz.results17 (vs := [(.int .i64 k),(.slice (some ⟨bq,0,none⟩) 1 1),(.slice none 0 0),(.int .i64 0),(.int .i64 0),(.bool false)]) (b := b1) rfl agg27 siz27 rfl (B1.cells rfl) ?_
          exact ⟨.mk k [(97 + x,97 + x + y)] [] 0 0 false,_,l3,rfl,by subst h2; simp only [allRe,allRes]; exact ⟨⟨node_set (by omega) (by omega) (by omega),hkk.2.1,fun _ => ⟨_,_,rfl,by omega,by omega,by omega⟩⟩,trivial⟩,by simp only [Re.size,Re.sizes]; have := Nat.two_pow_pos d; rw [Nat.pow_succ]; omega,ReIn.of (set := [(97 + x,97 + x + y)]) (SlIn.mk (spans_of_blk [(97 + x,97 + x + y)] Bq (by simp) (by simp)) (by omega)) (by simp) (.inl rfl),hS,E⟩
        · have kh2 := h2
          replace h2 := of_decide_eq_false h2
          refine Wp_seq (Wp_seq_region ?_)
          refine qV (r_eql (k := .i64) (a := k) (b := 3) rfl rfl) ?_
          refine qA (.bool (decide ((k : Int) = 3))) rfl ?_
          refine WpL_nil ?_
          refine Wp_cond (b := decide ((k : Int) = 3)) rfl (fun h3 => ?_) (fun h3 => ?_)
          · have kh3 := h3
            replace h3 := of_decide_eq_true h3
            have hd1 : 1 ≤ d := by omega
            have hlt1 := B1.lt
            have hz1 := E.size
            refine Wp_skip (thn_normal ?_)
            refine Wp_cond_true (congrArg Value.bool kh3) ?_
            refine Wp_seq_region ?_
            refine qM (I6 k) rfl ?_
            refine qM (P6 bs 0) rfl ?_
            refine qM (I6 (d : Int)) rfl ?_
            refine qV (r_sub (k := .i64) (a := (d : Int)) (b := 1) (c := ((d - 1 : Nat) : Int)) rfl rfl (by rw [wI64 (by omega)]; omega)) ?_
            refine qM (I6 kinds) rfl ?_
            refine WpL_enter rfl rfl (by decide) (r_callF (vs := [(P6 bs 0),(I6 ((d - 1 : Nat) : Int)),(I6 kinds)]) Tryz.func17 kQ kQ rfl) (ih (d - 1) (by omega) (by omega) _ _ (toE E) hS) ?_
            rintro _ w5 ⟨t1,us1,l5,rfl,hg1,hs1,ht1,hS,C5⟩
            replace B1 := C5.keep (hne1) B1
            replace E := E.trans C5
            obtain ⟨sa1,sc1,aa1,ac1,rfl,_,_,_⟩ := ht1.form
            have hlt2 := B1.lt
            have hz2 := E.size
            refine qM (P6 bs 0) rfl ?_
            refine qM (I6 (d : Int)) rfl ?_
            refine qV (r_sub (k := .i64) (a := (d : Int)) (b := 1) (c := ((d - 1 : Nat) : Int)) rfl rfl (by rw [wI64 (by omega)]; omega)) ?_
            refine qM (I6 kinds) rfl ?_
            refine WpL_enter rfl rfl (by decide) (r_callF (vs := [(P6 bs 0),(I6 ((d - 1 : Nat) : Int)),(I6 kinds)]) Tryz.func17 kQ kQ rfl) (ih (d - 1) (by omega) (by omega) _ _ (toE E) hS) ?_
            rintro _ w6 ⟨t2,us2,l6,rfl,hg2,hs2,ht2,hS,C6⟩
            replace B1 := C6.keep (hne1) B1
            replace E := E.trans C6
            obtain ⟨sa2,sc2,aa2,ac2,rfl,_,_,_⟩ := ht2.form
            replace ht1 := ReIn.chg C6 (fun x hx hm => by have hx' := hx; have hm' : x = bs := hm; have := E.size; omega) t1 ht1
            refine s_buildSlice (ps := [(0,(.agg (R6 t1 sa1 sc1 aa1 ac1))),(1,(.agg (R6 t2 sa2 sc2 aa2 ac2)))]) (c := #[(I6 t1.kind),(.slice sa1 t1.set.length sc1),(.slice aa1 t1.args.length ac1),(I6 t1.mn),(I6 t1.mx),(.bool t1.neg),(I6 t2.kind),(.slice sa2 t2.set.length sc2),(.slice aa2 t2.args.length ac2),(I6 t2.mn),(I6 t2.mx),(.bool t2.neg)]) (by decide) rfl Tryz.underlying25 siz27 zer27 (by decide) (by decide) (by kernel_rfl) ?_
            intro bq wq Nq
            have Fq := Nq.ge E
            have Oq_b1 := Nq.lt B1
            replace B1 := Nq.keep B1
            replace hS := hS.ext Nq.ext
            replace ht1 := ReIn.ext Nq.ext t1 ht1
            replace ht2 := ReIn.ext Nq.ext t2 ht2
            replace E := E.ext Nq.ext
            have Bq := Nq.blk
            refine qV (r_build (ps := [(0,(I6 k)),(2,(.slice (some ⟨bq,0,none⟩) 2 2))]) (v := (.agg #[(I6 k),(.slice none 0 0),(.slice (some ⟨bq,0,none⟩) 2 2),(I6 0),(I6 0),(.bool false)])) rfl (by kernel_rfl)) ?_
            refine s_storeAgg (b := b1) (o := 0) (c' := #[(I6 k),(.slice none 0 0),(.slice (some ⟨bq,0,none⟩) 2 2),(I6 0),(I6 0),(.bool false)]) rfl rfl (by simp [Value.oneCell']) siz27 rfl B1 (by first | (simp; done) | exact Nat.le_of_ble_eq_true rfl) rfl ?_
            intro w11 S11
            replace hS := hS.put S11 (Ne.symm hne1)
            replace ht1 := ReIn.chg S11.chg (fun x hx hm => by have hx' := hx; have hm' : x = b1 := hm; omega) t1 ht1
            replace ht2 := ReIn.chg S11.chg (fun x hx hm => by have hx' := hx; have hm' : x = b1 := hm; omega) t2 ht2
            replace Bq := S11.keep (by omega) Bq
            replace E := S11.step E (by first | exact Or.inl (by omega) | exact Or.inr rfl | exact Or.inr (by assumption) | exact Or.inr (by simp) | exact Or.inr (by omega) | exact Or.inr (by dsimp only; omega))
            replace B1 := S11.blk
            refine WpL_nil (Wp_ret (inB_ret (thn_ret ?_)))
            refine fin_agg Tryz.results17 (vs := [(.int .i64 k),(.slice none 0 0),(.slice (some ⟨bq,0,none⟩) 2 2),(.int .i64 0),(.int .i64 0),(.bool false)]) (b := b1) rfl agg27 siz27 rfl (B1.cells rfl) ?_
            exact ⟨.mk k [] [t1,t2] 0 0 false,_,l6,rfl,gen_mk hkk.2.1 (by omega) (node_two (by omega) t1 t2) (by simp only [allRes]; exact ⟨hg1,hg2,trivial⟩),gen_size2 hd1 hs1 hs2,ReIn.of (set := []) (SlIn.nil _ _ _ _ _) (by simp) (.inr ⟨bq,0,by omega,rfl,ResIn.two (Bq.cells rfl) (ReIn.mono (fun b (h : _ ≤ b) => by omega) t1 ht1) (Bq.cells rfl) (ReIn.mono (fun b (h : _ ≤ b) => by omega) t2 ht2)⟩),hS,E⟩
          · have kh3 := h3
            replace h3 := of_decide_eq_false h3
            refine Wp_seq_region ?_
            refine qV (r_eql (k := .i64) (a := k) (b := 4) rfl rfl) ?_
            refine qA (.bool (decide ((k : Int) = 4))) rfl ?_
            refine WpL_nil ?_
            refine Wp_cond (b := decide ((k : Int) = 4)) rfl (fun h4 => ?_) (fun h4 => ?_)
            · have kh4 := h4
              replace h4 := of_decide_eq_true h4
              have hd1 : 1 ≤ d := by omega
              have hlt1 := B1.lt
              have hz1 := E.size
              refine Wp_skip (thn_normal ?_)
              refine Wp_cond_true (congrArg Value.bool kh4) ?_
              refine Wp_seq_region ?_
              refine qM (I6 k) rfl ?_
              refine qM (P6 bs 0) rfl ?_
              refine qM (I6 (d : Int)) rfl ?_
              refine qV (r_sub (k := .i64) (a := (d : Int)) (b := 1) (c := ((d - 1 : Nat) : Int)) rfl rfl (by rw [wI64 (by omega)]; omega)) ?_
              refine qM (I6 kinds) rfl ?_
              refine WpL_enter rfl rfl (by decide) (r_callF (vs := [(P6 bs 0),(I6 ((d - 1 : Nat) : Int)),(I6 kinds)]) Tryz.func17 kQ kQ rfl) (ih (d - 1) (by omega) (by omega) _ _ (toE E) hS) ?_
              rintro _ w5 ⟨t1,us1,l5,rfl,hg1,hs1,ht1,hS,C5⟩
              replace B1 := C5.keep (hne1) B1
              replace E := E.trans C5
              obtain ⟨sa1,sc1,aa1,ac1,rfl,_,_,_⟩ := ht1.form
              have hlt2 := B1.lt
              have hz2 := E.size
              refine qM (P6 bs 0) rfl ?_
              refine qM (I6 (d : Int)) rfl ?_
              refine qV (r_sub (k := .i64) (a := (d : Int)) (b := 1) (c := ((d - 1 : Nat) : Int)) rfl rfl (by rw [wI64 (by omega)]; omega)) ?_
              refine qM (I6 kinds) rfl ?_
              refine WpL_enter rfl rfl (by decide) (r_callF (vs := [(P6 bs 0),(I6 ((d - 1 : Nat) : Int)),(I6 kinds)]) Tryz.func17 kQ kQ rfl) (ih (d - 1) (by omega) (by omega) _ _ (toE E) hS) ?_
              rintro _ w6 ⟨t2,us2,l6,rfl,hg2,hs2,ht2,hS,C6⟩
              replace B1 := C6.keep (hne1) B1
              replace E := E.trans C6
              obtain ⟨sa2,sc2,aa2,ac2,rfl,_,_,_⟩ := ht2.form
              replace ht1 := ReIn.chg C6 (fun x hx hm => by have hx' := hx; have hm' : x = bs := hm; have := E.size; omega) t1 ht1
              refine s_buildSlice (ps := [(0,(.agg (R6 t1 sa1 sc1 aa1 ac1))),(1,(.agg (R6 t2 sa2 sc2 aa2 ac2)))]) (c := #[(I6 t1.kind),(.slice sa1 t1.set.length sc1),(.slice aa1 t1.args.length ac1),(I6 t1.mn),(I6 t1.mx),(.bool t1.neg),(I6 t2.kind),(.slice sa2 t2.set.length sc2),(.slice aa2 t2.args.length ac2),(I6 t2.mn),(I6 t2.mx),(.bool t2.neg)]) (by decide) rfl Tryz.underlying25 siz27 zer27 (by decide) (by decide) (by kernel_rfl) ?_
              intro bq wq Nq
              have Fq := Nq.ge E
              have Oq_b1 := Nq.lt B1
              replace B1 := Nq.keep B1
              replace hS := hS.ext Nq.ext
              replace ht1 := ReIn.ext Nq.ext t1 ht1
              replace ht2 := ReIn.ext Nq.ext t2 ht2
              replace E := E.ext Nq.ext
              have Bq := Nq.blk
              refine qV (r_build (ps := [(0,(I6 k)),(2,(.slice (some ⟨bq,0,none⟩) 2 2))]) (v := (.agg #[(I6 k),(.slice none 0 0),(.slice (some ⟨bq,0,none⟩) 2 2),(I6 0),(I6 0),(.bool false)])) rfl (by kernel_rfl)) ?_
              refine s_storeAgg (b := b1) (o := 0) (c' := #[(I6 k),(.slice none 0 0),(.slice (some ⟨bq,0,none⟩) 2 2),(I6 0),(I6 0),(.bool false)]) rfl rfl (by simp [Value.oneCell']) siz27 rfl B1 (by first | (simp; done) | exact Nat.le_of_ble_eq_true rfl) rfl ?_
              intro w13 S13
              replace hS := hS.put S13 (Ne.symm hne1)
              replace ht1 := ReIn.chg S13.chg (fun x hx hm => by have hx' := hx; have hm' : x = b1 := hm; omega) t1 ht1
              replace ht2 := ReIn.chg S13.chg (fun x hx hm => by have hx' := hx; have hm' : x = b1 := hm; omega) t2 ht2
              replace Bq := S13.keep (by omega) Bq
              replace E := S13.step E (by first | exact Or.inl (by omega) | exact Or.inr rfl | exact Or.inr (by assumption) | exact Or.inr (by simp) | exact Or.inr (by omega) | exact Or.inr (by dsimp only; omega))
              replace B1 := S13.blk
              refine WpL_nil (Wp_ret (inB_ret (thn_ret ?_)))
              refine fin_agg Tryz.results17 (vs := [(.int .i64 k),(.slice none 0 0),(.slice (some ⟨bq,0,none⟩) 2 2),(.int .i64 0),(.int .i64 0),(.bool false)]) (b := b1) rfl agg27 siz27 rfl (B1.cells rfl) ?_
              exact ⟨.mk k [] [t1,t2] 0 0 false,_,l6,rfl,gen_mk hkk.2.1 (by omega) (node_two (by omega) t1 t2) (by simp only [allRes]; exact ⟨hg1,hg2,trivial⟩),gen_size2 hd1 hs1 hs2,ReIn.of (set := []) (SlIn.nil _ _ _ _ _) (by simp) (.inr ⟨bq,0,by omega,rfl,ResIn.two (Bq.cells rfl) (ReIn.mono (fun b (h : _ ≤ b) => by omega) t1 ht1) (Bq.cells rfl) (ReIn.mono (fun b (h : _ ≤ b) => by omega) t2 ht2)⟩),hS,E⟩
            · have kh4 := h4
              replace h4 := of_decide_eq_false h4
              refine Wp_region ?_
              refine qV (r_eql (k := .i64) (a := k) (b := 7) rfl rfl) ?_
              refine qA (.bool (decide ((k : Int) = 7))) rfl ?_
              refine WpL_nil (thn_normal ?_)
              refine Wp_cond (b := decide ((k : Int) = 7)) rfl (fun h7 => ?_) (fun h7 => ?_)
              · have kh7 := h7
                replace h7 := of_decide_eq_true h7
                have hd1 : 1 ≤ d := by omega
                have hlt1 := B1.lt
                have hz1 := E.size
                refine Wp_seq_region ?_
                refine qM (I6 k) rfl ?_
                refine qM (P6 bs 0) rfl ?_
                refine qM (I6 (d : Int)) rfl ?_
                refine qV (r_sub (k := .i64) (a := (d : Int)) (b := 1) (c := ((d - 1 : Nat) : Int)) rfl rfl (by rw [wI64 (by omega)]; omega)) ?_
                refine qM (I6 kinds) rfl ?_
                refine WpL_enter rfl rfl (by decide) (r_callF (vs := [(P6 bs 0),(I6 ((d - 1 : Nat) : Int)),(I6 kinds)]) Tryz.func17 kQ kQ rfl) (ih (d - 1) (by omega) (by omega) _ _ (toE E) hS) ?_
                rintro _ w5 ⟨t1,us1,l5,rfl,hg1,hs1,ht1,hS,C5⟩
                replace B1 := C5.keep (hne1) B1
                replace E := E.trans C5
                obtain ⟨sa1,sc1,aa1,ac1,rfl,_,_,_⟩ := ht1.form
                have hlt2 := B1.lt
                have hz2 := E.size
                refine qM (P6 bs 0) rfl ?_
                refine qM (I6 (d : Int)) rfl ?_
                refine qV (r_sub (k := .i64) (a := (d : Int)) (b := 1) (c := ((d - 1 : Nat) : Int)) rfl rfl (by rw [wI64 (by omega)]; omega)) ?_
                refine qM (I6 kinds) rfl ?_
                refine WpL_enter rfl rfl (by decide) (r_callF (vs := [(P6 bs 0),(I6 ((d - 1 : Nat) : Int)),(I6 kinds)]) Tryz.func17 kQ kQ rfl) (ih (d - 1) (by omega) (by omega) _ _ (toE E) hS) ?_
                rintro _ w6 ⟨t2,us2,l6,rfl,hg2,hs2,ht2,hS,C6⟩
                replace B1 := C6.keep (hne1) B1
                replace E := E.trans C6
                obtain ⟨sa2,sc2,aa2,ac2,rfl,_,_,_⟩ := ht2.form
                replace ht1 := ReIn.chg C6 (fun x hx hm => by have hx' := hx; have hm' : x = bs := hm; have := E.size; omega) t1 ht1
                refine s_buildSlice (ps := [(0,(.agg (R6 t1 sa1 sc1 aa1 ac1))),(1,(.agg (R6 t2 sa2 sc2 aa2 ac2)))]) (c := #[(I6 t1.kind),(.slice sa1 t1.set.length sc1),(.slice aa1 t1.args.length ac1),(I6 t1.mn),(I6 t1.mx),(.bool t1.neg),(I6 t2.kind),(.slice sa2 t2.set.length sc2),(.slice aa2 t2.args.length ac2),(I6 t2.mn),(I6 t2.mx),(.bool t2.neg)]) (by decide) rfl Tryz.underlying25 siz27 zer27 (by decide) (by decide) (by kernel_rfl) ?_
                intro bq wq Nq
                have Fq := Nq.ge E
                have Oq_b1 := Nq.lt B1
                replace B1 := Nq.keep B1
                replace hS := hS.ext Nq.ext
                replace ht1 := ReIn.ext Nq.ext t1 ht1
                replace ht2 := ReIn.ext Nq.ext t2 ht2
                replace E := E.ext Nq.ext
                have Bq := Nq.blk
                refine qV (r_build (ps := [(0,(I6 k)),(2,(.slice (some ⟨bq,0,none⟩) 2 2))]) (v := (.agg #[(I6 k),(.slice none 0 0),(.slice (some ⟨bq,0,none⟩) 2 2),(I6 0),(I6 0),(.bool false)])) rfl (by kernel_rfl)) ?_
                refine s_storeAgg (b := b1) (o := 0) (c' := #[(I6 k),(.slice none 0 0),(.slice (some ⟨bq,0,none⟩) 2 2),(I6 0),(I6 0),(.bool false)]) rfl rfl (by simp [Value.oneCell']) siz27 rfl B1 (by first | (simp; done) | exact Nat.le_of_ble_eq_true rfl) rfl ?_
                intro w15 S15
                replace hS := hS.put S15 (Ne.symm hne1)
                replace ht1 := ReIn.chg S15.chg (fun x hx hm => by have hx' := hx; have hm' : x = b1 := hm; omega) t1 ht1
                replace ht2 := ReIn.chg S15.chg (fun x hx hm => by have hx' := hx; have hm' : x = b1 := hm; omega) t2 ht2
                replace Bq := S15.keep (by omega) Bq
                replace E := S15.step E (by first | exact Or.inl (by omega) | exact Or.inr rfl | exact Or.inr (by assumption) | exact Or.inr (by simp) | exact Or.inr (by omega) | exact Or.inr (by dsimp only; omega))
                replace B1 := S15.blk
                refine WpL_nil (Wp_ret (inB_ret (thn_ret ?_)))
                refine fin_agg Tryz.results17 (vs := [(.int .i64 k),(.slice none 0 0),(.slice (some ⟨bq,0,none⟩) 2 2),(.int .i64 0),(.int .i64 0),(.bool false)]) (b := b1) rfl agg27 siz27 rfl (B1.cells rfl) ?_
                exact ⟨.mk k [] [t1,t2] 0 0 false,_,l6,rfl,gen_mk hkk.2.1 (by omega) (node_two (by omega) t1 t2) (by simp only [allRes]; exact ⟨hg1,hg2,trivial⟩),gen_size2 hd1 hs1 hs2,ReIn.of (set := []) (SlIn.nil _ _ _ _ _) (by simp) (.inr ⟨bq,0,by omega,rfl,ResIn.two (Bq.cells rfl) (ReIn.mono (fun b (h : _ ≤ b) => by omega) t1 ht1) (Bq.cells rfl) (ReIn.mono (fun b (h : _ ≤ b) => by omega) t2 ht2)⟩),hS,E⟩
              · have kh7 := h7
                replace h7 := of_decide_eq_false h7
                refine Wp_seq_region ?_
                refine qV (r_eql (k := .i64) (a := k) (b := 6) rfl rfl) ?_
                refine qA (.bool (decide ((k : Int) = 6))) rfl ?_
                refine WpL_nil ?_
                refine Wp_cond (b := decide ((k : Int) = 6)) rfl (fun h6 => ?_) (fun h6 => ?_)
                · have kh6 := h6
                  replace h6 := of_decide_eq_true h6
                  refine Wp_seq_region ?_
                  refine qM (P6 bs 0) rfl ?_
                  refine WpL_enter rfl rfl (by decide) (r_callF (vs := [(P6 bs 0),(I6 3)]) Tryz.func48 kQ kQ rfl) (next_c wb _ bs _ _ (by omega) (by omega) (toE E) hb hS) ?_
                  rintro _ w3 ⟨x,l2,rfl,hx0,hx1,hS,C3⟩
                  replace B1 := C3.keep (hne1) B1
                  replace E := E.trans C3
                  refine qA (I6 x) rfl ?_
                  refine WpL_nil (Wp_seq_region ?_)
                  refine qM (I6 k) rfl ?_
                  refine qM (I6 x) rfl ?_
                  refine qM (I6 x) rfl ?_
                  refine qM (P6 bs 0) rfl ?_
                  refine WpL_enter rfl rfl (by decide) (r_callF (vs := [(P6 bs 0),(I6 3)]) Tryz.func48 kQ kQ rfl) (next_c wb _ bs _ _ (by omega) (by omega) (toE E) hb hS) ?_
                  rintro _ w4 ⟨y,l3,rfl,hy0,hy1,hS,C4⟩
                  replace B1 := C4.keep (hne1) B1
                  replace E := E.trans C4
                  refine qV (r_add (k := .i64) (a := x) (b := y) (c := x + y) rfl rfl (wI64 (by omega))) ?_
                  refine qM (P6 bs 0) rfl ?_
                  refine qM (I6 (d : Int)) rfl ?_
                  have hd1 : 1 ≤ d := by omega
                  have hlt1 := B1.lt
                  have hz1 := E.size
                  refine qV (r_sub (k := .i64) (a := (d : Int)) (b := 1) (c := ((d - 1 : Nat) : Int)) rfl rfl (by rw [wI64 (by omega)]; omega)) ?_
                  refine qM (I6 kinds) rfl ?_
                  refine WpL_enter rfl rfl (by decide) (r_callF (vs := [(P6 bs 0),(I6 ((d - 1 : Nat) : Int)),(I6 kinds)]) Tryz.func17 kQ kQ rfl) (ih (d - 1) (by omega) (by omega) _ _ (toE E) hS) ?_
                  rintro _ w5 ⟨t1,us1,l5,rfl,hg1,hs1,ht1,hS,C5⟩
                  replace B1 := C5.keep (hne1) B1
                  replace E := E.trans C5
                  obtain ⟨sa1,sc1,aa1,ac1,rfl,_,_,_⟩ := ht1.form
                  refine s_buildSlice (ps := [(0,(.agg (R6 t1 sa1 sc1 aa1 ac1)))]) (c := (R6 t1 sa1 sc1 aa1 ac1)) (by decide) rfl Tryz.underlying25 siz27 zer27 (by decide) (by decide) (by kernel_rfl) ?_
                  intro bq wq Nq
                  have Fq := Nq.ge E
                  have Oq_b1 := Nq.lt B1
                  replace B1 := Nq.keep B1
                  replace hS := hS.ext Nq.ext
                  replace ht1 := ReIn.ext Nq.ext t1 ht1
                  replace E := E.ext Nq.ext
                  have Bq := Nq.blk
                  refine qV (r_build (ps := [(0,(I6 k)),(3,(I6 x)),(4,(I6 (x + y))),(2,(.slice (some ⟨bq,0,none⟩) 1 1))]) (v := (.agg #[(I6 k),(.slice none 0 0),(.slice (some ⟨bq,0,none⟩) 1 1),(I6 x),(I6 (x + y)),(.bool false)])) rfl (by kernel_rfl)) ?_
                  refine s_storeAgg (b := b1) (o := 0) (c' := #[(I6 k),(.slice none 0 0),(.slice (some ⟨bq,0,none⟩) 1 1),(I6 x),(I6 (x + y)),(.bool false)]) rfl rfl (by simp [Value.oneCell']) siz27 rfl B1 (by first | (simp; done) | exact Nat.le_of_ble_eq_true rfl) rfl ?_
                  intro w17 S17
                  replace hS := hS.put S17 (Ne.symm hne1)
                  replace ht1 := ReIn.chg S17.chg (fun x hx hm => by have hx' := hx; have hm' : x = b1 := hm; omega) t1 ht1
                  replace Bq := S17.keep (by omega) Bq
                  replace E := S17.step E (by first | exact Or.inl (by omega) | exact Or.inr rfl | exact Or.inr (by assumption) | exact Or.inr (by simp) | exact Or.inr (by omega) | exact Or.inr (by dsimp only; omega))
                  replace B1 := S17.blk
                  refine WpL_nil (Wp_ret (inB_ret (thn_ret ?_)))
                  refine fin_agg Tryz.results17 (vs := [(.int .i64 k),(.slice none 0 0),(.slice (some ⟨bq,0,none⟩) 1 1),(.int .i64 x),(.int .i64 (x + y)),(.bool false)]) (b := b1) rfl agg27 siz27 rfl (B1.cells rfl) ?_
                  exact ⟨.mk k [] [t1] x (x + y) false,_,l5,rfl,gen_mk (by omega) (by omega) (by subst h6; exact node_rep (by omega) (by omega) (by omega) t1) (by simp only [allRes]; exact ⟨hg1,trivial⟩),gen_size1 hd1 hs1,ReIn.of (set := []) (SlIn.nil _ _ _ _ _) (by simp) (.inr ⟨bq,0,by omega,rfl,ResIn.one (Bq.cells rfl) (ReIn.mono (fun b (h : _ ≤ b) => by omega) t1 ht1)⟩),hS,E⟩
                · have kh6 := h6
                  replace h6 := of_decide_eq_false h6
                  refine Wp_seq_region ?_
                  refine qV (r_eql (k := .i64) (a := k) (b := 9) rfl rfl) ?_
                  refine qA (.bool (decide ((k : Int) = 9))) rfl ?_
                  refine WpL_nil ?_
                  refine Wp_cond (b := decide ((k : Int) = 9)) rfl (fun h9 => ?_) (fun h9 => ?_)
                  · have kh9 := h9
                    replace h9 := of_decide_eq_true h9
                    refine Wp_seq_region ?_
                    refine qM (I6 k) rfl ?_
                    refine qM (P6 bs 0) rfl ?_
                    refine WpL_enter rfl rfl (by decide) (r_callF (vs := [(P6 bs 0),(I6 4)]) Tryz.func48 kQ kQ rfl) (next_c wb _ bs _ _ (by omega) (by omega) (toE E) hb hS) ?_
                    rintro _ w3 ⟨x,l2,rfl,hx0,hx1,hS,C3⟩
                    replace B1 := C3.keep (hne1) B1
                    replace E := E.trans C3
                    have hd1 : 1 ≤ d := by omega
                    have hlt1 := B1.lt
                    have hz1 := E.size
                    refine qM (P6 bs 0) rfl ?_
                    refine qM (I6 (d : Int)) rfl ?_
                    refine qV (r_sub (k := .i64) (a := (d : Int)) (b := 1) (c := ((d - 1 : Nat) : Int)) rfl rfl (by rw [wI64 (by omega)]; omega)) ?_
                    refine qM (I6 kinds) rfl ?_
                    refine WpL_enter rfl rfl (by decide) (r_callF (vs := [(P6 bs 0),(I6 ((d - 1 : Nat) : Int)),(I6 kinds)]) Tryz.func17 kQ kQ rfl) (ih (d - 1) (by omega) (by omega) _ _ (toE E) hS) ?_
                    rintro _ w5 ⟨t1,us1,l5,rfl,hg1,hs1,ht1,hS,C5⟩
                    replace B1 := C5.keep (hne1) B1
                    replace E := E.trans C5
                    obtain ⟨sa1,sc1,aa1,ac1,rfl,_,_,_⟩ := ht1.form
                    refine s_buildSlice (ps := [(0,(.agg (R6 t1 sa1 sc1 aa1 ac1)))]) (c := (R6 t1 sa1 sc1 aa1 ac1)) (by decide) rfl Tryz.underlying25 siz27 zer27 (by decide) (by decide) (by kernel_rfl) ?_
                    intro bq wq Nq
                    have Fq := Nq.ge E
                    have Oq_b1 := Nq.lt B1
                    replace B1 := Nq.keep B1
                    replace hS := hS.ext Nq.ext
                    replace ht1 := ReIn.ext Nq.ext t1 ht1
                    replace E := E.ext Nq.ext
                    have Bq := Nq.blk
                    refine qV (r_build (ps := [(0,(I6 k)),(3,(I6 x)),(2,(.slice (some ⟨bq,0,none⟩) 1 1))]) (v := (.agg #[(I6 k),(.slice none 0 0),(.slice (some ⟨bq,0,none⟩) 1 1),(I6 x),(I6 0),(.bool false)])) rfl (by kernel_rfl)) ?_
                    refine s_storeAgg (b := b1) (o := 0) (c' := #[(I6 k),(.slice none 0 0),(.slice (some ⟨bq,0,none⟩) 1 1),(I6 x),(I6 0),(.bool false)]) rfl rfl (by simp [Value.oneCell']) siz27 rfl B1 (by first | (simp; done) | exact Nat.le_of_ble_eq_true rfl) rfl ?_
                    intro w19 S19
                    replace hS := hS.put S19 (Ne.symm hne1)
                    replace ht1 := ReIn.chg S19.chg (fun x hx hm => by have hx' := hx; have hm' : x = b1 := hm; omega) t1 ht1
                    replace Bq := S19.keep (by omega) Bq
                    replace E := S19.step E (by first | exact Or.inl (by omega) | exact Or.inr rfl | exact Or.inr (by assumption) | exact Or.inr (by simp) | exact Or.inr (by omega) | exact Or.inr (by dsimp only; omega))
                    replace B1 := S19.blk
                    refine WpL_nil (Wp_ret (inB_ret (thn_ret ?_)))
                    refine fin_agg Tryz.results17 (vs := [(.int .i64 k),(.slice none 0 0),(.slice (some ⟨bq,0,none⟩) 1 1),(.int .i64 x),(.int .i64 0),(.bool false)]) (b := b1) rfl agg27 siz27 rfl (B1.cells rfl) ?_
                    exact ⟨.mk k [] [t1] x 0 false,_,l5,rfl,gen_mk (by omega) (by omega) (by subst h9; exact node_group (by omega) (by omega) t1) (by simp only [allRes]; exact ⟨hg1,trivial⟩),gen_size1 hd1 hs1,ReIn.of (set := []) (SlIn.nil _ _ _ _ _) (by simp) (.inr ⟨bq,0,by omega,rfl,ResIn.one (Bq.cells rfl) (ReIn.mono (fun b (h : _ ≤ b) => by omega) t1 ht1)⟩),hS,E⟩
                  · have kh9 := h9
                    replace h9 := of_decide_eq_false h9
                    refine Wp_seq_region ?_
                    refine qV (r_eql (k := .i64) (a := k) (b := 10) rfl rfl) ?_
                    refine qA (.bool (decide ((k : Int) = 10))) rfl ?_
                    refine WpL_nil ?_
                    refine Wp_cond (b := decide ((k : Int) = 10)) rfl (fun h10 => ?_) (fun h10 => ?_)
                    · have kh10 := h10
                      replace h10 := of_decide_eq_true h10
                      refine Wp_seq_region ?_
                      refine qM (I6 k) rfl ?_
                      refine qM (P6 bs 0) rfl ?_
                      refine WpL_enter rfl rfl (by decide) (r_callF (vs := [(P6 bs 0),(I6 2)]) Tryz.func48 kQ kQ rfl) (next_c wb _ bs _ _ (by omega) (by omega) (toE E) hb hS) ?_
                      rintro _ w3 ⟨x,l2,rfl,hx0,hx1,hS,C3⟩
                      replace B1 := C3.keep (hne1) B1
                      replace E := E.trans C3
                      have hd1 : 1 ≤ d := by omega
                      have hlt1 := B1.lt
                      have hz1 := E.size
                      refine qV (r_eql (k := .i64) (a := x) (b := 1) rfl rfl) ?_
                      refine qM (P6 bs 0) rfl ?_
                      refine qM (I6 (d : Int)) rfl ?_
                      refine qV (r_sub (k := .i64) (a := (d : Int)) (b := 1) (c := ((d - 1 : Nat) : Int)) rfl rfl (by rw [wI64 (by omega)]; omega)) ?_
                      refine qM (I6 kinds) rfl ?_
                      refine WpL_enter rfl rfl (by decide) (r_callF (vs := [(P6 bs 0),(I6 ((d - 1 : Nat) : Int)),(I6 kinds)]) Tryz.func17 kQ kQ rfl) (ih (d - 1) (by omega) (by omega) _ _ (toE E) hS) ?_
                      rintro _ w5 ⟨t1,us1,l5,rfl,hg1,hs1,ht1,hS,C5⟩
                      replace B1 := C5.keep (hne1) B1
                      replace E := E.trans C5
                      obtain ⟨sa1,sc1,aa1,ac1,rfl,_,_,_⟩ := ht1.form
                      refine s_buildSlice (ps := [(0,(.agg (R6 t1 sa1 sc1 aa1 ac1)))]) (c := (R6 t1 sa1 sc1 aa1 ac1)) (by decide) rfl Tryz.underlying25 siz27 zer27 (by decide) (by decide) (by kernel_rfl) ?_
                      intro bq wq Nq
                      have Fq := Nq.ge E
                      have Oq_b1 := Nq.lt B1
                      replace B1 := Nq.keep B1
                      replace hS := hS.ext Nq.ext
                      replace ht1 := ReIn.ext Nq.ext t1 ht1
                      replace E := E.ext Nq.ext
                      have Bq := Nq.blk
                      refine qV (r_build (ps := [(0,(I6 k)),(5,(.bool (decide ((x : Int) = 1)))),(2,(.slice (some ⟨bq,0,none⟩) 1 1))]) (v := (.agg #[(I6 k),(.slice none 0 0),(.slice (some ⟨bq,0,none⟩) 1 1),(I6 0),(I6 0),(.bool (decide ((x : Int) = 1)))])) rfl (by kernel_rfl)) ?_
                      refine s_storeAgg (b := b1) (o := 0) (c' := #[(I6 k),(.slice none 0 0),(.slice (some ⟨bq,0,none⟩) 1 1),(I6 0),(I6 0),(.bool (decide ((x : Int) = 1)))]) rfl rfl (by simp [Value.oneCell']) siz27 rfl B1 (by first | (simp; done) | exact Nat.le_of_ble_eq_true rfl) rfl ?_
                      intro w21 S21
                      replace hS := hS.put S21 (Ne.symm hne1)
                      replace ht1 := ReIn.chg S21.chg (fun x hx hm => by have hx' := hx; have hm' : x = b1 := hm; omega) t1 ht1
                      replace Bq := S21.keep (by omega) Bq
                      replace E := S21.step E (by first | exact Or.inl (by omega) | exact Or.inr rfl | exact Or.inr (by assumption) | exact Or.inr (by simp) | exact Or.inr (by omega) | exact Or.inr (by dsimp only; omega))
                      replace B1 := S21.blk
                      refine WpL_nil (Wp_ret (inB_ret (thn_ret ?_)))
                      refine fin_agg Tryz.results17 (vs := [(.int .i64 k),(.slice none 0 0),(.slice (some ⟨bq,0,none⟩) 1 1),(.int .i64 0),(.int .i64 0),(.bool (decide ((x : Int) = 1)))]) (b := b1) rfl agg27 siz27 rfl (B1.cells rfl) ?_
                      exact ⟨.mk k [] [t1] 0 0 (decide (x = 1)),_,l5,rfl,gen_mk (by omega) (by omega) (by subst h10; exact node_look _ t1) (by simp only [allRes]; exact ⟨hg1,trivial⟩),gen_size1 hd1 hs1,ReIn.of (set := []) (SlIn.nil _ _ _ _ _) (by simp) (.inr ⟨bq,0,by omega,rfl,ResIn.one (Bq.cells rfl) (ReIn.mono (fun b (h : _ ≤ b) => by omega) t1 ht1)⟩),hS,E⟩
                    · have kh10 := h10
                      replace h10 := of_decide_eq_false h10
                      have hd1 : 1 ≤ d := by omega
                      have hlt1 := B1.lt
                      have hz1 := E.size
                      refine Wp_skip (inB_normal (thn_normal (Wp_seq_region ?_)))
                      refine qM (I6 k) rfl ?_
                      refine qM (P6 bs 0) rfl ?_
                      refine qM (I6 (d : Int)) rfl ?_
                      refine qV (r_sub (k := .i64) (a := (d : Int)) (b := 1) (c := ((d - 1 : Nat) : Int)) rfl rfl (by rw [wI64 (by omega)]; omega)) ?_
                      refine qM (I6 kinds) rfl ?_
                      refine WpL_enter rfl rfl (by decide) (r_callF (vs := [(P6 bs 0),(I6 ((d - 1 : Nat) : Int)),(I6 kinds)]) Tryz.func17 kQ kQ rfl) (ih (d - 1) (by omega) (by omega) _ _ (toE E) hS) ?_
                      rintro _ w5 ⟨t1,us1,l5,rfl,hg1,hs1,ht1,hS,C5⟩
                      replace B1 := C5.keep (hne1) B1
                      replace E := E.trans C5
                      obtain ⟨sa1,sc1,aa1,ac1,rfl,_,_,_⟩ := ht1.form
                      refine s_buildSlice (ps := [(0,(.agg (R6 t1 sa1 sc1 aa1 ac1)))]) (c := (R6 t1 sa1 sc1 aa1 ac1)) (by decide) rfl Tryz.underlying25 siz27 zer27 (by decide) (by decide) (by kernel_rfl) ?_
                      intro bq wq Nq
                      have Fq := Nq.ge E
                      have Oq_b1 := Nq.lt B1
                      replace B1 := Nq.keep B1
                      replace hS := hS.ext Nq.ext
                      replace ht1 := ReIn.ext Nq.ext t1 ht1
                      replace E := E.ext Nq.ext
                      have Bq := Nq.blk
                      refine qV (r_build (ps := [(0,(I6 k)),(2,(.slice (some ⟨bq,0,none⟩) 1 1))]) (v := (.agg #[(I6 k),(.slice none 0 0),(.slice (some ⟨bq,0,none⟩) 1 1),(I6 0),(I6 0),(.bool false)])) rfl (by kernel_rfl)) ?_
                      refine s_storeAgg (b := b1) (o := 0) (c' := #[(I6 k),(.slice none 0 0),(.slice (some ⟨bq,0,none⟩) 1 1),(I6 0),(I6 0),(.bool false)]) rfl rfl (by simp [Value.oneCell']) siz27 rfl B1 (by first | (simp; done) | exact Nat.le_of_ble_eq_true rfl) rfl ?_
                      intro w22 S22
                      replace hS := hS.put S22 (Ne.symm hne1)
                      replace ht1 := ReIn.chg S22.chg (fun x hx hm => by have hx' := hx; have hm' : x = b1 := hm; omega) t1 ht1
                      replace Bq := S22.keep (by omega) Bq
                      replace E := S22.step E (by first | exact Or.inl (by omega) | exact Or.inr rfl | exact Or.inr (by assumption) | exact Or.inr (by simp) | exact Or.inr (by omega) | exact Or.inr (by dsimp only; omega))
                      replace B1 := S22.blk
                      refine WpL_nil (Wp_ret ?_)
                      refine fin_agg Tryz.results17 (vs := [(.int .i64 k),(.slice none 0 0),(.slice (some ⟨bq,0,none⟩) 1 1),(.int .i64 0),(.int .i64 0),(.bool false)]) (b := b1) rfl agg27 siz27 rfl (B1.cells rfl) ?_
                      exact ⟨.mk k [] [t1] 0 0 false,_,l5,rfl,gen_mk (by omega) (by omega) (node_one (by omega) t1) (by simp only [allRes]; exact ⟨hg1,trivial⟩),gen_size1 hd1 hs1,ReIn.of (set := []) (SlIn.nil _ _ _ _ _) (by simp) (.inr ⟨bq,0,by omega,rfl,ResIn.one (Bq.cells rfl) (ReIn.mono (fun b (h : _ ≤ b) => by omega) t1 ht1)⟩),hS,E⟩
theorem mkRe_c (w0 : World) (v : Value) (l : List Int) (hl : IntsAt w0 v l) : Ret Tryz.prog 6 #[v] w0 fun r w => ∃ t vs,r = .agg vs.toArray ∧ allRe (genP 8) t ∧ t.size ≤ 31 ∧ ReIn (fun b => w0.heap.size ≤ b) w t vs ∧ Ext w0 w := by
 obtain ⟨a,c,rfl⟩ := SlAt.form hl
 simp only [List.length_map] at hl ⊢
 refine Ret_of Tryz.func6 rfl Tryz.ntmps6 (Nat.le_of_ble_eq_true rfl) ?_
 have E : Chg none1 w0 w0 := Chg.refl _ _
 refine Wp_seq_region ?_
 refine s_alloc (c := #[(I6 0),(.slice none 0 0),(.slice none 0 0),(I6 0),(I6 0),(.bool false)]) (by decide) zer27 rfl ?_
 intro br wr Nr
 have Fr := Nr.ge E
 replace E := E.ext Nr.ext
 have Br := Nr.blk
 refine WpL_nil (Wp_seq_region ?_)
 refine qM (.slice a l.length c) rfl ?_
 refine qV (r_build (ps := [(0,(.slice a l.length c))]) (v := (.agg #[(.slice a l.length c)])) rfl (by kernel_rfl)) ?_
 refine s_box (v := (.agg #[(.slice a l.length c)])) (c := #[(.slice a l.length c)]) (by decide) rfl rfl ?_
 intro bs ws Ns
 have Fs := Ns.ge E
 have Os_br := Ns.lt Br
 replace Br := Ns.keep Br
 replace E := E.ext Ns.ext
 have Bs := Ns.blk
 have hne : br < bs := by omega
 have hz1 := Br.lt
 have hz2 := E.size
 refine WpL_enter rfl rfl (by decide) (r_callF (vs := [(P6 bs 0),(I6 4),(I6 8)]) Tryz.func17 kQ kQ rfl) (gen_c wr bs 8 (by omega) (by have := Ns.eq; omega) 4 (by decide) ws l Ns.ext ⟨a,c,Bs,hl.ext Nr.ext⟩) ?_
 rintro _ w9 ⟨t,us,l',rfl,hg,hs,ht,hS,C9⟩
 replace Br := C9.keep (by omega) Br
 replace E := E.step C9 (by intro x hx hm; omega)
 obtain ⟨sa,sc,aa,ac,rfl,_,_,_⟩ := ht.form
 refine s_storeAgg (b := br) (o := 0) (c' := (R6 t sa sc aa ac)) rfl rfl (by simp [Value.oneCell']) siz27 rfl Br (by first | (simp; done) | exact Nat.le_of_ble_eq_true rfl) rfl ?_
 intro w1 S1
 replace ht := ReIn.chg S1.chg (fun x hx hm => by have hx' := hx; have hm' : x = br := hm; omega) t ht
 replace E := S1.step E (by first | exact Or.inl (by omega) | exact Or.inr rfl | exact Or.inr (by assumption) | exact Or.inr (by simp) | exact Or.inr (by omega) | exact Or.inr (by dsimp only; omega))
 replace Br := S1.blk
 refine WpL_nil (Wp_ret ?_)
 refine fin_agg Tryz.results6 (vs := [(.int .i64 t.kind),(.slice sa t.set.length sc),(.slice aa t.args.length ac),(.int .i64 t.mn),(.int .i64 t.mx),(.bool t.neg)]) (b := br) rfl agg27 siz27 rfl (Br.cells rfl) ?_
 exact ⟨t,_,rfl,hg,by omega,ReIn.mono (fun b (h : _ ≤ b) => by omega) t ht,E⟩
def textArr : Array Value := #[.int .i64 97,.int .i64 98,.int .i64 99,.int .i64 97,.int .i64 98,.int .i64 122,.int .i64 0,.int .i64 233,.int .i64 8364,.int .i64 1114111]
theorem text_tab : ∀ i,i < 10 → ∃ r,textArr[i]? = some (.int .i64 r) ∧ runeB r = true := by
  intro i h
  match i,h with
  | 0,_ => exact ⟨97,rfl,by decide⟩
  | 1,_ => exact ⟨98,rfl,by decide⟩
  | 2,_ => exact ⟨99,rfl,by decide⟩
  | 3,_ => exact ⟨97,rfl,by decide⟩
  | 4,_ => exact ⟨98,rfl,by decide⟩
  | 5,_ => exact ⟨122,rfl,by decide⟩
  | 6,_ => exact ⟨0,rfl,by decide⟩
  | 7,_ => exact ⟨233,rfl,by decide⟩
  | 8,_ => exact ⟨8364,rfl,by decide⟩
  | 9,_ => exact ⟨1114111,rfl,by decide⟩
theorem r_min2 {P : Program} {σ : Env} {w : World} {dst : Option Tmp} {ty : TypeId} {pos : String} {af : Array Edge} {g : Option (Nat × Bool)} {tys : Array TypeId} {x y : Operand} {k : IntKind} {a b c : Int} (hx : ev σ x = .int k a) (hy : ev σ y = .int k b) (hc : min a b = c) :
  (execOp (ev σ) ⟨dst,.call ⟨.builtin .min,#[x,y],tys⟩,ty,pos,af,g⟩).run P w = .ok (.value (.int k c)) w := by
 subst hc
 have : (if b < a then b else a) = min a b := by split <;> omega
 simp [execOp,resolve,invoke,builtin,Builtin.min_,Builtin.min2,hx,hy,this]
theorem text_o (w0 : World) (v : Value) (l : List Int) (hl : IntsAt w0 v l) : Ret Tryz.prog 7 #[v] w0 fun r w => ∃ (a : Option Addr) (c : Nat) (text : List Int),r = .slice a text.length c ∧ w.ownsRow w0.heap.size 3 1 (.slice a text.length c) text.length (text.map intV).flatten ∧ text.length ≤ 10 ∧ (∀ x ∈ text,runeB x = true) ∧ Ext w0 w := by
 obtain ⟨a,c,rfl⟩ := SlAt.form hl
 have hlen : l.length ≤ 9223372036854775807 := by simpa using SlAt.le hl
 have hcap := SlAt.cap hl
 simp only [List.length_map] at hl hcap ⊢
 obtain ⟨m,hm⟩ : ∃ m,m = min l.length 10 := ⟨_,rfl⟩
 obtain ⟨base,hbase⟩ : ∃ base,base = w0.heap.size := ⟨_,rfl⟩
 refine Ret_of Tryz.func7 rfl Tryz.ntmps7 (Nat.le_of_ble_eq_true rfl) ?_
 have E : Chg none1 w0 w0 := Chg.refl _ _
 refine Wp_seq_region ?_
 refine qA (.slice none 0 0) rfl ?_
 refine WpL_nil (Wp_seq_region ?_)
 refine qA (.slice none 0 0) rfl ?_
 refine WpL_nil (Wp_seq (Wp_seq_region ?_))
 refine qM (.slice a l.length c) rfl ?_
 refine qM (.slice a l.length c) rfl ?_
 refine qV (r_lenSlice (ad := a) (n := l.length) (cap := c) Tryz.underlying22 rfl) ?_
 refine qV (r_min2 (a := (l.length : Int)) (b := 10) (c := (m : Int)) rfl rfl (by omega)) ?_
 obtain ⟨sl,hsl⟩ : ∃ a' : Option Addr,(if c = 0 then a else Option.map (fun q : Addr => q.add (0 * 1)) a) = a' := ⟨_,rfl⟩
 refine qV (r_sliceHi (a := a) (len := l.length) (cap := c) (hi := m) (l := (m : Int)) Tryz.underlying22 siz3 rfl rfl (by omega) (by omega) hsl) ?_
 refine qV (r_lenSlice (ad := sl) (n := m) (cap := c) Tryz.underlying22 rfl) ?_
 refine qM (I6 0) rfl ?_
 refine WpL_nil (Wp_block ?_)
 have hcut := SlAt.cut (lo := 0) (hi := m) hl (by omega) (by omega) hsl rfl rfl
 simp only [Nat.sub_zero,List.drop_zero] at hcut
 have hcut2 : IntsAt w0 (.slice sl m c) (l.take m) := by unfold IntsAt; rw [List.map_take]; exact hcut
 refine Wp_loop (fun nn_ σ W1 => ∃ (k : Nat) (la : Option Addr) (lc : Nat) (ts : List Int),(∃ jj_,σ = upds jj_ [(10,(.slice sl m c)),(11,(I6 (m : Int))),(12,(I6 (k : Int))),(3,(.slice la k lc))]) ∧ Chg none1 w0 W1 ∧ (k ≤ m) ∧ (W1.ownsRow base 3 1 (.slice la k lc) k (ts.map intV).flatten) ∧ (ts.length = k ∧ ∀ x ∈ ts,runeB x = true) ∧ (base ≤ W1.heap.size) ∧ nn_ = m - k) (n := m - 0) ?_ ?_
 ·exact ⟨0,none,0,[],Fits.out ⟨rfl,rfl,rfl,rfl,trivial⟩,E,Nat.zero_le _,World.ownsRow_nil _ _ _ _,⟨rfl,by simp⟩,(by omega),rfl⟩
 ·clear E
  rintro _ _ W1 ⟨k,la,lc,ts,⟨j1,rfl⟩,E,hk,hown,hts,hbs,rfl⟩
  refine Wp_seq_region ?_
  refine qV (r_lss (k := .i64) (a := (k : Int)) (b := (m : Int)) rfl rfl) ?_
  refine WpL_nil (Wp_seq ?_)
  refine Wp_cond (b := decide (((k : Int) : Int) < (m : Int))) rfl (fun hlt => ?_) (fun hlt => ?_)
  ·have khlt := hlt
   replace hlt := of_decide_eq_true hlt
   obtain ⟨x,hx⟩ := get_of_lt (l := l.take m) (i := k) (by simp; omega)
   obtain ⟨b,o,rfl,hcl⟩ := ints_cells hcut2 (by omega)
   refine Wp_skip (thn_normal (Wp_seq (Wp_block (Wp_seq_region ?_))))
   refine qV (r_indexSlice (b := b) (o := o) (len := m) (cap := c) (i := k) (o' := o + k) rfl rfl rfl Tryz.underlying22 siz3 (by omega) (by omega)) ?_
   refine qV (r_load (v := (I6 x)) rfl flat3 (E.cell (fun f => f) (hcl k x hx))) ?_
   have hx10 : 0 ≤ x % 10 ∧ x % 10 < 10 := by omega
   refine qA (I6 x) rfl ?_
   refine WpL_nil (Wp_region ?_)
   refine qM (.slice la k lc) rfl ?_
   refine s_buildSlice (ps := [(0,(I6 97)),(1,(I6 98)),(2,(I6 99)),(3,(I6 97)),(4,(I6 98)),(5,(I6 122)),(6,(I6 0)),(7,(I6 233)),(8,(I6 8364)),(9,(I6 1114111))]) (c := #[(I6 97),(I6 98),(I6 99),(I6 97),(I6 98),(I6 122),(I6 0),(I6 233),(I6 8364),(I6 1114111)]) (by decide) rfl Tryz.underlying22 siz3 zer3 (by decide) (by decide) (by kernel_rfl) ?_
   intro bq wq Nq
   have Fq := Nq.ge E
   replace hown := own_ext hown Nq.ext
   replace hbs := Nat.le_trans hbs Nq.ext.size
   replace E := E.ext Nq.ext
   have Bq := Nq.blk
   refine qM (I6 x) rfl ?_
   refine WpL_enter rfl rfl (by decide) (r_callF (vs := [(I6 x),(I6 10)]) Tryz.func18 kQ kQ rfl) (below_c x 10 (by decide) (by decide) _) ?_
   rintro _ _ ⟨rfl,rfl⟩
   obtain ⟨r,hr,hrb⟩ := text_tab (x % 10).toNat (by omega)
   refine qV (r_indexSlice (b := bq) (o := 0) (len := 10) (cap := 10) (i := (x % 10).toNat) (o' := 0 + ((x % 10).toNat)) rfl rfl (by omega) Tryz.underlying22 siz3 (by omega) (by omega)) ?_
   refine qV (r_load (v := (I6 r)) rfl flat3 (Bq.cell (by rw [Nat.zero_add]; exact hr))) ?_
   refine s_buildSlice (ps := [(0,(I6 r))]) (c := #[(I6 r)]) (by decide) rfl Tryz.underlying22 siz3 zer3 (by decide) (by decide) (by kernel_rfl) ?_
   intro b3 w3 N3
   have F3 := N3.ge E
   have O3_bq := N3.lt Bq
   replace Bq := N3.keep Bq
   replace hown := own_ext hown N3.ext
   replace hbs := Nat.le_trans hbs N3.ext.size
   replace E := E.ext N3.ext
   have B3 := N3.blk
   refine s_append (base := base) (n := k) (m := 1) (xs := (ts.map intV).flatten) (news := [(I6 r)]) (size := 1) (bytes := 8) (v := (.slice la k lc)) (by decide) Tryz.underlying22 siz3 byt3 zer3 rfl (by decide) rfl hown rfl (rfl) (B3.cells rfl) (by simp [Value.oneCell']) (by unfold maxLen; omega) (by omega) (hbs) ?_
   intro v9 w29 Ov9 Cv9 Dv9
   replace E := E.step Cv9 (fun x hx h => absurd (hown.lt x h).1 (by omega))
   obtain ⟨la2,lc2,rfl⟩ := own_form Ov9
   refine qA (.slice la2 (k + 1) lc2) rfl ?_
   refine WpL_nil (inB_normal (thn_normal (Wp_region ?_)))
   refine qV (r_add (k := .i64) (a := (k : Int)) (b := 1) (c := (k : Int) + 1) rfl rfl (wI64 (by omega))) ?_
   refine qM (I6 ((k : Int) + 1)) rfl ?_
   refine WpL_nil (thn_normal ?_)
   exact ⟨m - (k + 1),by omega,k + 1,la2,lc2,ts ++ [r],Fits.out ⟨rfl,rfl,rfl,rfl,trivial⟩,E,(by omega),(by simpa [intV] using Ov9),⟨by simp [hts.1],by intro y hy; simp at hy; rcases hy with h | h; exact hts.2 y h; subst h; exact hrb⟩,Nat.le_trans hbs Cv9.size,rfl⟩
  ·have khlt := hlt
   replace hlt := of_decide_eq_false hlt
   obtain ⟨rfl,htr⟩ := hts
   refine Wp_exit (thn_exit (thn_exit (inB_here (thn_normal (Wp_seq_region ?_)))))
   refine qM (.slice la ts.length lc) rfl ?_
   refine qA (.slice la ts.length lc) rfl ?_
   refine WpL_nil (Wp_ret ?_)
   refine fin_tmp Tryz.results7 (v := (.slice la ts.length lc)) rfl ?_
   exact ⟨la,lc,ts,rfl,by rw [← hbase]; exact hown,by omega,htr,E⟩
theorem text_c (w0 : World) (v : Value) (l : List Int) (hl : IntsAt w0 v l) : Ret Tryz.prog 7 #[v] w0 fun r w => ∃ a c text,r = .slice a text.length c ∧ IntsAt w (.slice a text.length c) text ∧ text.length ≤ 10 ∧ (∀ x ∈ text,runeB x = true) ∧ Ext w0 w :=
 (text_o w0 v l hl).mono fun r w ⟨a,c,text,h1,h2,h3⟩ => ⟨a,c,text,h1,own_slat h2 (by intro r hr; simp only [List.mem_map] at hr; obtain ⟨p,_,rfl⟩ := hr; rfl) (by simp) (by decide),h3⟩
mutual
def usesB (ks : List Int) : Re → Bool
  | .mk k _ args _ _ _ => ks.contains k || usesBs ks args
def usesBs (ks : List Int) : List Re → Bool
  | [] => false
  | t :: ts => usesB ks t || usesBs ks ts
end
def useF (ks : List Int) : Unit → Re → Bool × Unit := fun _ t => (!ks.contains t.kind,())
mutual
theorem walk_use (ks : List Int) : ∀ (t : Re),(walkF (useF ks) t ()).1 = !usesB ks t
  | .mk k set args mn mx ng => by
    have h := walks_use ks args
    rw [walkF_eq]
    split
    · rename_i hk
      have hk : ks.contains k = false := by simpa only [useF,Re.kind,Bool.not_eq_true'] using hk
      show (walkFs (useF ks) args ()).1 = _
      rw [h]
      simp only [usesB,hk,Bool.false_or]
    · rename_i hk
      have hk : ks.contains k = true := by
        cases hc : ks.contains k with
        | true => rfl
        | false => exact absurd (show (useF ks () (.mk k set args mn mx ng)).1 = true by simp only [useF,Re.kind,hc,Bool.not_false]) hk
      simp only [usesB,hk,Bool.true_or,Bool.not_true]
theorem walks_use (ks : List Int) : ∀ (ts : List Re),(walkFs (useF ks) ts ()).1 = !usesBs ks ts
  | [] => rfl
  | t :: ts => by
    have h1 := walk_use ks t
    have h := walks_use ks ts
    rw [walkFs_cons]
    split
    · rename_i hk
      rw [hk] at h1
      have hu : usesB ks t = false := by simpa using h1.symm
      show (walkFs (useF ks) ts ()).1 = _
      rw [h]
      simp only [usesBs,hu,Bool.false_or]
    · rename_i hk
      have hu : usesB ks t = true := by
        cases hc : usesB ks t with
        | true => rfl
        | false => rw [hc] at h1; exact absurd h1 hk
      simp only [usesBs,hu,Bool.true_or,Bool.not_true]
end
theorem uses1_c (w0 : World) (t : Re) (vs : List Value) (ks : List Int) (v : Value) (b : Nat) (ht : ReAt w0 t vs) (hB : Blk w0 b #[v] 22) (hks : IntsAt w0 v ks) :
  Ret Tryz.prog 51 #[.agg vs.toArray,.pointer (some ⟨b,0,none⟩)] w0 fun r w => r = .bool (!ks.contains t.kind) ∧ Ext w0 w := by
 obtain ⟨sa,sc,aa,ac,rfl,_,_,_⟩ := ht.form
 refine Ret_of Tryz.func51 rfl Tryz.ntmps51 (Nat.le_of_ble_eq_true rfl) ?_
 have E : Chg none1 w0 w0 := Chg.refl _ _
 refine Wp_seq_region ?_
 refine s_box (v := (.agg (R6 t sa sc aa ac))) (c := (R6 t sa sc aa ac)) (by decide) rfl rfl ?_
 intro b1 w1 N1
 have F1 := N1.ge E
 have O1_b := N1.lt hB
 replace hB := N1.keep hB
 replace E := E.ext N1.ext
 have B1 := N1.blk
 refine qA (.bool false) rfl ?_
 refine WpL_nil (Wp_seq_region ?_)
 refine qV (r_load (v := v) rfl flat22 (hB.cell rfl)) ?_
 refine qF b1 0 0 rfl Tryz.underlying27 rfl siz3 rfl ?_
 refine qV (r_load (v := (I6 t.kind)) rfl flat3 (B1.cell rfl)) ?_
 refine WpL_enter rfl rfl (by decide) (r_callF (vs := [v,(I6 t.kind)]) Tryz.func52 kQ kQ rfl) (hasi_c _ v t.kind ks (hks.ext E)) ?_
 rintro _ w9 ⟨rfl,X9⟩
 replace hB := X9.keep hB
 replace B1 := X9.keep B1
 replace E := E.ext X9
 refine qV (r_not (b := ks.contains t.kind) rfl) ?_
 refine qA (.bool (!(ks.contains t.kind))) rfl ?_
 refine WpL_nil (Wp_ret ?_)
 refine fin_tmp Tryz.results51 (v := (.bool (!(ks.contains t.kind)))) rfl ?_
 exact ⟨rfl,E⟩
theorem uses_c (w0 : World) (t : Re) (vs : List Value) (ks : List Int) (v : Value) (ht : ReAt w0 t vs) (hks : IntsAt w0 v ks) :
  Ret Tryz.prog 20 #[.agg vs.toArray,v] w0 fun r w => r = .bool (usesB ks t) ∧ Ext w0 w := by
 have ht0 := ht
 obtain ⟨sa,sc,aa,ac,rfl,_,_,_⟩ := ht.form
 obtain ⟨ka,kc,rfl⟩ := SlAt.form hks
 simp only [List.length_map] at hks ⊢
 refine Ret_of Tryz.func20 rfl Tryz.ntmps20 (Nat.le_of_ble_eq_true rfl) ?_
 have E : Chg none1 w0 w0 := Chg.refl _ _
 refine Wp_seq_region ?_
 refine s_box (v := (.agg (R6 t sa sc aa ac))) (c := (R6 t sa sc aa ac)) (by decide) rfl rfl ?_
 intro br wr Nr
 have Fr := Nr.ge E
 replace E := E.ext Nr.ext
 have Br := Nr.blk
 refine s_box (v := (.slice ka ks.length kc)) (c := #[(.slice ka ks.length kc)]) (by decide) rfl rfl ?_
 intro bp wp Np
 have Fp := Np.ge E
 have Op_br := Np.lt Br
 replace Br := Np.keep Br
 replace E := E.ext Np.ext
 have Bp := Np.blk
 refine qA (.bool false) rfl ?_
 refine WpL_nil (Wp_seq_region ?_)
 refine qV (r_loadAgg (vs := [(I6 t.kind),(.slice sa t.set.length sc),(.slice aa t.args.length ac),(I6 t.mn),(I6 t.mx),(.bool t.neg)]) rfl agg27 siz27 rfl (Br.cells rfl)) ?_
 refine qV (r_makeFunc (vs := []) (us := [(P6 bp 0)]) rfl rfl) ?_
 have hf : ∀ (s : Unit) (w : World) (t : Re) (vs : List Value),bp + 1 ≤ w.heap.size → Ext wp w → Blk w bp #[.slice ka ks.length kc] 22 → ReAt wp t vs → CallV Tryz.prog (.func (.func 51) #[] #[.pointer (some ⟨bp,0,none⟩)]) #[.agg vs.toArray] w fun r w' => r = .bool (useF ks s t).1 ∧ Chg none1 w w' ∧ Blk w' bp #[.slice ka ks.length kc] 22 := fun s w t vs _ hE hI ht => CallV.mk (first := #[]) (cap := #[.pointer (some ⟨bp,0,none⟩)]) Tryz.func51 kQ kQ rfl ((uses1_c w t vs ks (.slice ka ks.length kc) bp (ReAt.ext hE t ht) hI ((hks.ext E).ext hE)).mono fun r w' h => ⟨h.1,h.2,Ext.keep h.2 hI⟩)
 refine WpL_enter rfl rfl (by decide) (r_callF (vs := [(.agg (R6 t sa sc aa ac)),(.func (.func 51) #[] #[(P6 bp 0)])]) Tryz.func50 kQ kQ rfl) ((walk_c (useF ks) (fun _ w => Blk w bp #[.slice ka ks.length kc] 22) none1 (bp + 1) _ wp (fun b hb => hb.elim) (fun s w w' hI e => e.keep hI) hf t.size t (Nat.le_refl _) () _ _ (by have := Bp.lt; omega) (Ext.refl _) Bp (ReAt.ext E t ht0)).mono (R' := fun r w => r = .bool (walkF (useF ks) t ()).1 ∧ Ext wp w) (fun r w h => ⟨h.1,h.2.1⟩)) ?_
 rintro _ w9 ⟨rfl,X9⟩
 replace Br := X9.keep Br
 replace Bp := X9.keep Bp
 replace E := E.ext X9
 refine qV (r_not (b := (walkF (useF ks) t ()).1) rfl) ?_
 refine qA (.bool (!((walkF (useF ks) t ()).1))) rfl ?_
 refine WpL_nil (Wp_ret ?_)
 refine fin_tmp Tryz.results20 (v := (.bool (!((walkF (useF ks) t ()).1)))) rfl ?_
 exact ⟨bool_eq (by rw [walk_use]; simp),E⟩
structure NodeI (t : Re) : Prop where
 k : 0 ≤ t.kind ∧ t.kind ≤ 10
 two : t.kind = 3 ∨ t.kind = 4 ∨ t.kind = 7 → 2 ≤ t.args.length
 one : t.kind = 5 ∨ t.kind = 6 ∨ t.kind = 8 ∨ t.kind = 9 ∨ t.kind = 10 → t.args.length = 1
 rep : t.kind = 6 → 0 ≤ t.mn ∧ t.mn ≤ t.mx ∧ t.mx ≤ 8
 grp : t.kind = 9 → 0 ≤ t.mn ∧ t.mn ≤ 9
 sett : t.kind = 2 → t.set ≠ []
theorem node_inv {t : Re} (h : nodeE t = 0) : NodeI t := by
 unfold nodeE at h
 split at h
 ·cases h
 rename_i h1
 split at h
 ·cases h
 rename_i h2
 have h3 : formB t = true := by simpa using h2
 unfold formB at h3
 simp only [Bool.and_eq_true] at h3
 have h4 := h3.1.1.1.1
 unfold okB at h4
 refine ⟨by omega,fun hk => ?_,fun hk => ?_,fun hk => ?_,fun hk => ?_,fun hk => ?_⟩
 ·rw [if_pos hk] at h4
  have := of_decide_eq_true h4; omega
 ·rw [if_neg (by omega),if_pos hk] at h4
  have := of_decide_eq_true h4; omega
 ·rw [if_neg (by omega),if_pos hk] at h
  split at h
  ·cases h
  ·omega
 ·rw [if_neg (by omega),if_neg (by omega),if_pos hk] at h
  split at h
  ·cases h
  ·omega
 ·rw [if_pos hk] at h
  intro e
  rw [e] at h
  simp [checkE,checkL] at h
/-- What Check takes. -/
structure OkN (n : Nf) : Prop where
 st : n.states ≤ 500
 s0 : 0 ≤ n.start ∧ n.start < n.states
 el : n.ends.length ≤ 500
 pl : n.eps.length ≤ 20000
 xl : n.edges.length ≤ 20000
 en : ∀ s ∈ n.ends,0 ≤ s ∧ s < n.states
 ep : ∀ p ∈ n.eps,(0 ≤ p.1 ∧ p.1 < n.states) ∧ 0 ≤ p.2 ∧ p.2 < n.states
 ed : ∀ e ∈ n.edges,(0 ≤ e.1 ∧ e.1 < n.states) ∧ (0 ≤ e.2.1 ∧ e.2.1 < n.states) ∧ checkE e.2.2 = 0
abbrev ZOk : List Sp → Prop := fun z => checkE z = 0
theorem node_chk {t : Re} (h : nodeE t = 0) (hk : t.kind = 2) : checkE t.set = 0 := by
 unfold nodeE at h
 split at h
 ·cases h
 split at h
 ·cases h
 split at h
 ·assumption
 ·rename_i hc
  exact Classical.byContradiction hc
mutual
theorem frag_all : ∀ t : Re,okRe t → FragOk ZOk (tmO t)
  | .mk k z a mn mx g,h => by
    rw [tmO]
    exact node_frag (fun hk => node_chk (okRe_node h) hk) (frag_list a (okRe_args h))
theorem frag_list : ∀ l : List Re,okRes l → ∀ f ∈ tmL l,FragOk ZOk f
  | [],_,f,hf => by cases hf
  | x :: l,h,f,hf => by
    rw [tmL] at hf
    simp only [okRes] at h
    rcases List.mem_cons.1 hf with rfl | h1
    · exact frag_all x h.1
    · exact frag_list l h.2 f h1
end
theorem len_count {α : Type} (key : α → Int) (m : Nat) : ∀ (n : Nat) (l : List α),(∀ x ∈ l,0 ≤ key x ∧ key x < n) → (∀ q : Nat,l.countP (fun x => key x == (q : Int)) ≤ m) → l.length ≤ n * m
  | 0,l,h,_ => by
    cases l with
    | nil => simp
    | cons x l => have := h x List.mem_cons_self; omega
  | n + 1,l,h,hq => by
    have h1 := len_count key m n (l.filter fun x => !(key x == (n : Int))) (fun x hx => by
      rw [List.mem_filter] at hx
      have := h x hx.1
      have h2 : ¬ key x = (n : Int) := by simpa using hx.2
      omega) (fun q => Nat.le_trans (by rw [List.countP_filter]; exact List.countP_mono_left fun x _ hx => by simp only [Bool.and_eq_true] at hx; exact hx.1) (hq q))
    have h2 := hq n
    have h3 := List.length_eq_countP_add_countP (fun x => key x == (n : Int)) (l := l)
    rw [List.countP_eq_length_filter] at h2 h3
    rw [List.countP_eq_length_filter] at h3
    rw [Nat.add_mul,Nat.one_mul]
    have h4 : (l.filter fun x => decide ¬ (key x == (n : Int)) = true) = l.filter fun x => !(key x == (n : Int)) := by
      congr 1; funext x; by_cases e : key x = (n : Int) <;> simp [e]
    rw [h4] at h3
    omega
/-- The automaton that is built. -/
def nfT (s : ThS) (a b : Nat) : Nf := ⟨(s.n : Int),(a : Int),[(b : Int)],s.eps,s.edges⟩
theorem thom_ok {t : Re} (h : okRe t) {s : ThS} {a b : Nat} (e : tmO t ⟨0,[],[]⟩ = some (s,a,b)) : OkN (nfT s a b) ∧ Shp ZOk s := by
 have h0 : Shp ZOk ⟨0,[],[]⟩ := ⟨by simp,fun p hp => (by cases hp),fun p hp => (by cases hp),fun q => by simp [edN,epN]⟩
 obtain ⟨k1,k2,k3,k4,k5,k6⟩ := frag_all t h _ _ _ _ h0 e
 have hs := k1.sh
 have hn := hs.nl
 simp only at k2 k3
 have l1 := len_count (fun p : Int × Int => p.1) 2 s.n s.eps (fun p hp => (hs.ep p hp).1) (fun q => (hs.dg q).2.1)
 have l2 := len_count (fun p : Ed => p.1) 1 s.n s.edges (fun p hp => (hs.ed p hp).1) (fun q => (hs.dg q).1)
 refine ⟨⟨?_,?_,?_,?_,?_,fun x hx => ?_,hs.ep,hs.ed⟩,hs⟩
 ·show ((s.n : Nat) : Int) ≤ 500; omega
 ·show 0 ≤ ((a : Nat) : Int) ∧ ((a : Nat) : Int) < ((s.n : Nat) : Int); omega
 ·simp [nfT]
 ·show s.eps.length ≤ 20000; omega
 ·show s.edges.length ≤ 20000; omega
 ·rw [List.mem_singleton.1 hx]
  show 0 ≤ ((b : Nat) : Int) ∧ ((b : Nat) : Int) < ((s.n : Nat) : Int); omega
structure GS where
 sets : List (List Sp)
 fol : List (List Nat)
structure Pt where
 nul : Bool
 fst : List Nat
 lst : List Nat
abbrev GF := GS → Option (GS × Pt)
def lnk1 (f : List (List Nat)) (to : List Nat) (p : Nat) : List (List Nat) := f.set p (f.getD p [] ++ to)
def lnk (f : List (List Nat)) (src to : List Nat) : List (List Nat) := src.foldl (fun f p => lnk1 f to p) f
def catP (a b : Pt) : Pt := ⟨a.nul && b.nul,if a.nul then a.fst ++ b.fst else a.fst,if b.nul then a.lst ++ b.lst else b.lst⟩
def catK (g : GS) (a b : Pt) : GS := ⟨g.sets,lnk g.fol a.lst b.fst⟩
def altP (a b : Pt) : Pt := ⟨a.nul || b.nul,a.fst ++ b.fst,a.lst ++ b.lst⟩
def catGs : List GF → GS → Pt → Option (GS × Pt)
  | [],g,o => some (g,o)
  | f :: fs,g,o => (f g).bind fun (g1,p) => catGs fs (catK g1 o p) (catP o p)
def altGs : List GF → GS → Pt → Option (GS × Pt)
  | [],g,o => some (g,o)
  | f :: fs,g,o => (f g).bind fun (g1,p) => altGs fs g1 (altP o p)
def orP (p : Pt) (b : Bool) : Pt := ⟨p.nul || b,p.fst,p.lst⟩
def repGs (f : GF) (mn : Int) (g : GS) : Nat → Option (GS × Pt)
  | 0 => some (g,⟨true,[],[]⟩)
  | k + 1 => (repGs f mn g k).bind fun (g1,o) => (f g1).bind fun (g2,p) => some (catK g2 o (orP p (decide (mn ≤ (k : Int)))),catP o (orP p (decide (mn ≤ (k : Int)))))
def setK (z : List Sp) : GF := fun g => if 499 < g.sets.length + 1 then none else some (⟨g.sets ++ [z],g.fol ++ [[]]⟩,⟨false,[g.sets.length + 1],[g.sets.length + 1]⟩)
def gnode (k : Int) (z : List Sp) (mn mx : Int) (fs : List GF) : GF := fun g =>
 if k = 1 then some (g,⟨true,[],[]⟩)
 else if k = 2 then setK z g
 else if k = 3 then catGs fs g ⟨true,[],[]⟩
 else if k = 4 then altGs fs g ⟨false,[],[]⟩
 else if k = 5 then (match fs with | f :: _ => (f g).bind fun (g1,p) => some (catK g1 p p,⟨true,p.fst,p.lst⟩) | [] => none)
 else if k = 6 then (match fs with | f :: _ => repGs f mn g mx.toNat | [] => none)
 else if k = 9 then (match fs with | f :: _ => f g | [] => none)
 else some (g,⟨false,[],[]⟩)
mutual
def gkO : Re → GF
  | .mk k z a mn mx _ => gnode k z mn mx (gkL a)
def gkL : List Re → List GF
  | [] => []
  | x :: l => gkO x :: gkL l
end
theorem gkL_map : ∀ l : List Re,gkL l = l.map gkO
  | [] => rfl
  | x :: l => by rw [gkL,gkL_map l]; rfl
theorem lnk1_len (f : List (List Nat)) (to : List Nat) (p : Nat) : (lnk1 f to p).length = f.length := by unfold lnk1; rw [List.length_set]
theorem lnk1_get (f : List (List Nat)) (to : List Nat) (p i : Nat) : (lnk1 f to p)[i]? = (f[i]?).map fun l => if i = p then l ++ to else l := by
  unfold lnk1
  rw [List.getElem?_set]
  by_cases e : p = i
  · subst e
    rw [if_pos rfl]
    by_cases h : p < f.length
    · rw [if_pos h,List.getD_eq_getElem?_getD,List.getElem?_eq_getElem h]
      simp
    · rw [if_neg h,List.getElem?_eq_none (by omega)]; rfl
  · rw [if_neg e]
    cases f[i]? with
    | none => rfl
    | some l => simp only [Option.map_some]; rw [if_neg (fun h => e h.symm)]
theorem lnk_len : ∀ (src : List Nat) (f : List (List Nat)) (to : List Nat),(lnk f src to).length = f.length
  | [],f,to => rfl
  | p :: src,f,to => (lnk_len src (lnk1 f to p) to).trans (lnk1_len f to p)
theorem lnk_get : ∀ (src : List Nat) (f : List (List Nat)) (to : List Nat) (i : Nat),src.Nodup → (lnk f src to)[i]? = (f[i]?).map fun l => if i ∈ src then l ++ to else l
  | [],f,to,i,_ => by
    show f[i]? = _
    cases f[i]? <;> simp
  | p :: src,f,to,i,h => by
    rw [List.nodup_cons] at h
    show (lnk (lnk1 f to p) src to)[i]? = _
    rw [lnk_get src _ to i h.2,lnk1_get]
    cases f[i]? with
    | none => rfl
    | some l =>
      simp only [Option.map_some,Option.some.injEq,List.mem_cons]
      by_cases e : i = p
      · subst e
        rw [if_pos rfl,if_neg h.1,if_pos (.inl rfl)]
      · rw [if_neg e]
        by_cases e2 : i ∈ src
        · rw [if_pos e2,if_pos (.inr e2)]
        · rw [if_neg e2,if_neg (fun h => h.elim e e2)]
theorem lnk_snoc (f : List (List Nat)) (src to : List Nat) (p : Nat) : lnk f (src ++ [p]) to = lnk1 (lnk f src to) to p := by unfold lnk; rw [List.foldl_append]; rfl
/-- Rows are not longer than B. -/
def RowB (B : Nat) (f : List (List Nat)) : Prop := ∀ (i : Nat) l,f[i]? = some l → l.length ≤ B
theorem RowB.lnk1 {B : Nat} {f : List (List Nat)} (h : RowB B f) {to : List Nat} (p : Nat) {m : Nat} (hm : to.length ≤ m) : RowB (B + m) (lnk1 f to p) := by
 intro i l hl
 rw [lnk1_get,Option.map_eq_some_iff] at hl
 obtain ⟨l0,h0,rfl⟩ := hl
 have := h i l0 h0
 split
 ·rw [List.length_append]; omega
 ·omega
/-- A list that rises, within bounds. -/
def Rise (n m : Nat) (l : List Nat) : Prop := l.Pairwise (· < ·) ∧ (∀ t ∈ l,n < t ∧ t ≤ m) ∧ l.length + n ≤ m
theorem Rise.nil {n m : Nat} (h : n ≤ m) : Rise n m [] := ⟨.nil,fun t h => (by cases h),by simpa using h⟩
theorem Rise.nodup {n m : Nat} {l : List Nat} (h : Rise n m l) : l.Nodup := List.nodup_iff_pairwise_ne.2 (h.1.imp fun h => Nat.ne_of_lt h)
theorem Rise.mono {n m n' m' : Nat} {l : List Nat} (h : Rise n m l) (h1 : n' ≤ n) (h2 : m ≤ m') : Rise n' m' l := ⟨h.1,fun t ht => by have := h.2.1 t ht; omega,by have := h.2.2; omega⟩
theorem Rise.app {n m k : Nat} {a b : List Nat} (h : Rise n m a) (g : Rise m k b) : Rise n k (a ++ b) := by
 refine ⟨List.pairwise_append.2 ⟨h.1,g.1,fun x hx y hy => ?_⟩,fun t ht => ?_,?_⟩
 ·have := h.2.1 x hx; have := g.2.1 y hy; omega
 ·have h2 := h.2.2; have g2 := g.2.2
  rcases List.mem_append.1 ht with h1 | h1
  ·have := h.2.1 t h1; omega
  ·have := g.2.1 t h1; omega
 ·rw [List.length_append]; have := h.2.2; have := g.2.2; omega
def GI (g : GS) : Prop := g.fol.length = g.sets.length + 1 ∧ g.sets.length ≤ 499
/-- What a part of an expression adds. -/
structure GSt1 (c : Nat) (g g' : GS) (p : Pt) : Prop where
 inv : GI g'
 pre : ∃ zs,g'.sets = g.sets ++ zs
 old : ∀ i,i ≤ g.sets.length → g'.fol[i]? = g.fol[i]?
 new : ∀ (i : Nat) l,g.sets.length < i → g'.fol[i]? = some l → l.length ≤ c * (g'.sets.length - g.sets.length) ∧ ∀ t ∈ l,g.sets.length < t ∧ t ≤ g'.sets.length
 fst : Rise g.sets.length g'.sets.length p.fst
 lst : Rise g.sets.length g'.sets.length p.lst
theorem GSt1.le {c : Nat} {g g' : GS} {p : Pt} (h : GSt1 c g g' p) : g.sets.length ≤ g'.sets.length := by obtain ⟨zs,h1⟩ := h.pre; rw [h1,List.length_append]; omega
theorem GSt1.refl (c : Nat) {g : GS} (h : GI g) (b : Bool) : GSt1 c g g ⟨b,[],[]⟩ :=
 ⟨h,⟨[],by simp⟩,fun _ _ => rfl,fun i l hi hl => by have := lt_of_get hl; have := h.1; omega,Rise.nil (Nat.le_refl _),Rise.nil (Nat.le_refl _)⟩
theorem GSt1.rows {c : Nat} {g g' : GS} {p : Pt} (h : GSt1 c g g' p) (hg : RowB 25000 g.fol) (hc : c ≤ 45) : RowB 25000 g'.fol := by
 intro i l hl
 rcases Nat.lt_or_ge g.sets.length i with h1 | h1
 ·have h2 := (h.new i l h1 hl).1
  have h3 : c * (g'.sets.length - g.sets.length) ≤ 45 * 499 := Nat.mul_le_mul hc (by have := h.inv.2; omega)
  omega
 ·rw [h.old i h1] at hl
  exact hg i l hl
/-- One part behind what there is. -/
theorem GSt1.cat {c C : Nat} {g0 g g1 : GS} {o p : Pt} (h : GSt1 c g0 g o) (k : GSt1 C g g1 p) (hc : C + 1 ≤ c) : GSt1 c g0 (catK g1 o p) (catP o p) := by
  have hl := h.le
  have kl := k.le
  have hnd := h.lst.nodup
  have hget := fun i => lnk_get o.lst g1.fol p.fst i hnd
  refine ⟨⟨by show (lnk g1.fol o.lst p.fst).length = _; rw [lnk_len]; exact k.inv.1,k.inv.2⟩,?_,fun i hi => ?_,fun i l hi hl2 => ?_,?_,?_⟩
  · obtain ⟨z1,e1⟩ := h.pre
    obtain ⟨z2,e2⟩ := k.pre
    exact ⟨z1 ++ z2,by show g1.sets = _; rw [e2,e1,List.append_assoc]⟩
  · show (lnk g1.fol o.lst p.fst)[i]? = _
    rw [hget,k.old i (by omega),h.old i hi]
    cases g0.fol[i]? with
    | none => rfl
    | some l => simp only [Option.map_some]; rw [if_neg (fun hm => by have := (h.lst.2.1 i hm).1; omega)]
  · have hl3 : (lnk g1.fol o.lst p.fst)[i]? = some l := hl2
    rw [hget,Option.map_eq_some_iff] at hl3
    obtain ⟨l0,h0,rfl⟩ := hl3
    show _ ≤ c * (g1.sets.length - g0.sets.length) ∧ _
    have hp2 := k.fst.2.2
    have hb : l0.length + (if i ∈ o.lst then p.fst.length else 0) ≤ c * (g1.sets.length - g0.sets.length) ∧ ∀ t ∈ l0,g0.sets.length < t ∧ t ≤ g1.sets.length := by
      rcases Nat.lt_or_ge g.sets.length i with h1 | h1
      · have h2 := k.new i l0 h1 h0
        rw [if_neg (fun hm => by have := (h.lst.2.1 i hm).2; omega)]
        refine ⟨?_,fun t ht => by have := h2.2 t ht; omega⟩
        have : C * (g1.sets.length - g.sets.length) ≤ c * (g1.sets.length - g0.sets.length) := Nat.mul_le_mul (by omega) (by omega)
        omega
      · rw [k.old i h1] at h0
        have h2 := h.new i l0 hi h0
        refine ⟨?_,fun t ht => by have := h2.2 t ht; omega⟩
        have h5 : c * (g1.sets.length - g0.sets.length) = c * (g.sets.length - g0.sets.length) + c * (g1.sets.length - g.sets.length) := by rw [← Nat.mul_add]; congr 1; omega
        have h6 : 1 * (g1.sets.length - g.sets.length) ≤ c * (g1.sets.length - g.sets.length) := Nat.mul_le_mul_right _ (by omega)
        split <;> omega
    split
    · rename_i hm
      rw [if_pos hm] at hb
      refine ⟨by rw [List.length_append]; exact hb.1,fun t ht => ?_⟩
      rcases List.mem_append.1 ht with h1 | h1
      · exact hb.2 t h1
      · have := k.fst.2.1 t h1; exact ⟨by omega,this.2⟩
    · exact ⟨by omega,hb.2⟩
  · show Rise _ g1.sets.length (if o.nul then o.fst ++ p.fst else o.fst)
    split
    · exact h.fst.app k.fst
    · exact h.fst.mono (Nat.le_refl _) kl
  · show Rise _ g1.sets.length (if p.nul then o.lst ++ p.lst else p.lst)
    split
    · exact h.lst.app k.lst
    · exact k.lst.mono hl (Nat.le_refl _)
theorem GSt1.alt {c C : Nat} {g0 g g1 : GS} {o p : Pt} (h : GSt1 c g0 g o) (k : GSt1 C g g1 p) (hc : C ≤ c) : GSt1 c g0 g1 (altP o p) := by
 have hl := h.le
 have kl := k.le
 refine ⟨k.inv,?_,fun i hi => (k.old i (by omega)).trans (h.old i hi),fun i l hi hl2 => ?_,h.fst.app k.fst,h.lst.app k.lst⟩
 ·obtain ⟨z1,e1⟩ := h.pre
  obtain ⟨z2,e2⟩ := k.pre
  exact ⟨z1 ++ z2,by rw [e2,e1,List.append_assoc]⟩
 ·rcases Nat.lt_or_ge g.sets.length i with h1 | h1
  ·have h2 := k.new i l h1 hl2
   refine ⟨?_,fun t ht => by have := h2.2 t ht; omega⟩
   have : C * (g1.sets.length - g.sets.length) ≤ c * (g1.sets.length - g0.sets.length) := Nat.mul_le_mul hc (by omega)
   omega
  ·rw [k.old i h1] at hl2
   have h2 := h.new i l hi hl2
   refine ⟨?_,fun t ht => by have := h2.2 t ht; omega⟩
   have : c * (g.sets.length - g0.sets.length) ≤ c * (g1.sets.length - g0.sets.length) := Nat.mul_le_mul (Nat.le_refl _) (by omega)
   omega
theorem GSt1.orP {c : Nat} {g g' : GS} {p : Pt} (h : GSt1 c g g' p) (b : Bool) : GSt1 c g g' (orP p b) := ⟨h.inv,h.pre,h.old,h.new,h.fst,h.lst⟩
theorem GSt1.wide {c c' : Nat} {g g' : GS} {p : Pt} (h : GSt1 c g g' p) (hc : c ≤ c') : GSt1 c' g g' p := ⟨h.inv,h.pre,h.old,fun i l hi hl => by have h2 := h.new i l hi hl; exact ⟨Nat.le_trans h2.1 (Nat.mul_le_mul_right _ hc),h2.2⟩,h.fst,h.lst⟩
theorem GSt1.star {c C : Nat} {g g1 : GS} {p : Pt} (k : GSt1 C g g1 p) (hc : C + 1 ≤ c) : GSt1 c g (catK g1 p p) ⟨true,p.fst,p.lst⟩ := by
  have kl := k.le
  have hnd := k.lst.nodup
  have hget := fun i => lnk_get p.lst g1.fol p.fst i hnd
  refine ⟨⟨by show (lnk g1.fol p.lst p.fst).length = _; rw [lnk_len]; exact k.inv.1,k.inv.2⟩,k.pre,fun i hi => ?_,fun i l hi hl2 => ?_,k.fst,k.lst⟩
  · show (lnk g1.fol p.lst p.fst)[i]? = _
    rw [hget,k.old i hi]
    cases g.fol[i]? with
    | none => rfl
    | some l => simp only [Option.map_some]; rw [if_neg (fun hm => by have := (k.lst.2.1 i hm).1; omega)]
  · have hl3 : (lnk g1.fol p.lst p.fst)[i]? = some l := hl2
    rw [hget,Option.map_eq_some_iff] at hl3
    obtain ⟨l0,h0,rfl⟩ := hl3
    show _ ≤ c * (g1.sets.length - g.sets.length) ∧ _
    have h2 := k.new i l0 hi h0
    have hp2 := k.fst.2.2
    have h5 : (C + 1) * (g1.sets.length - g.sets.length) ≤ c * (g1.sets.length - g.sets.length) := Nat.mul_le_mul_right _ hc
    rw [Nat.add_mul,Nat.one_mul] at h5
    split
    · refine ⟨by rw [List.length_append]; omega,fun t ht => ?_⟩
      rcases List.mem_append.1 ht with h1 | h1
      · exact h2.2 t h1
      · exact k.fst.2.1 t h1
    · exact ⟨by omega,h2.2⟩
def GOk (c : Nat) (f : GF) : Prop := ∀ g g' p,GI g → f g = some (g',p) → GSt1 c g g' p
theorem catGs_ok {c C : Nat} (hc : C + 1 ≤ c) {g0 : GS} : ∀ (fs : List GF),(∀ f ∈ fs,GOk C f) → ∀ (g g' : GS) (o p : Pt),GSt1 c g0 g o → catGs fs g o = some (g',p) → GSt1 c g0 g' p
  | [],_,g,g',o,p,h,e => by
    simp only [catGs,Option.some.injEq,Prod.mk.injEq] at e
    obtain ⟨rfl,rfl⟩ := e; exact h
  | f :: fs,hf,g,g',o,p,h,e => by
    rw [catGs] at e
    obtain ⟨⟨g1,p1⟩,e1,e2⟩ := Option.bind_eq_some_iff.1 e
    exact catGs_ok hc fs (fun f' h' => hf f' (List.mem_cons_of_mem _ h')) _ _ _ _ (h.cat (hf f List.mem_cons_self _ _ _ h.inv e1) hc) e2
theorem altGs_ok {c C : Nat} (hc : C ≤ c) {g0 : GS} : ∀ (fs : List GF),(∀ f ∈ fs,GOk C f) → ∀ (g g' : GS) (o p : Pt),GSt1 c g0 g o → altGs fs g o = some (g',p) → GSt1 c g0 g' p
  | [],_,g,g',o,p,h,e => by
    simp only [altGs,Option.some.injEq,Prod.mk.injEq] at e
    obtain ⟨rfl,rfl⟩ := e; exact h
  | f :: fs,hf,g,g',o,p,h,e => by
    rw [altGs] at e
    obtain ⟨⟨g1,p1⟩,e1,e2⟩ := Option.bind_eq_some_iff.1 e
    exact altGs_ok hc fs (fun f' h' => hf f' (List.mem_cons_of_mem _ h')) _ _ _ _ (h.alt (hf f List.mem_cons_self _ _ _ h.inv e1) hc) e2
theorem repGs_ok {c C : Nat} (hc : C + 1 ≤ c) {f : GF} (hf : GOk C f) {mn : Int} {g : GS} (hg : GI g) : ∀ (k : Nat) (g' : GS) (p : Pt),repGs f mn g k = some (g',p) → GSt1 c g g' p
  | 0,g',p,e => by
    simp only [repGs,Option.some.injEq,Prod.mk.injEq] at e
    obtain ⟨rfl,rfl⟩ := e; exact GSt1.refl c hg true
  | k + 1,g',p,e => by
    rw [repGs] at e
    obtain ⟨⟨g1,o⟩,e1,e2⟩ := Option.bind_eq_some_iff.1 e
    obtain ⟨⟨g2,q⟩,e3,e4⟩ := Option.bind_eq_some_iff.1 e2
    simp only [Option.some.injEq,Prod.mk.injEq] at e4
    obtain ⟨rfl,rfl⟩ := e4
    have h1 := repGs_ok hc hf hg k g1 o e1
    exact h1.cat ((hf _ _ _ h1.inv e3).orP _) hc
theorem setG_ok (z : List Sp) : GOk 1 (setK z) := by
 intro g g' p hg e
 unfold setK at e
 split at e
 ·cases e
 ·rename_i hn
  simp only [Option.some.injEq,Prod.mk.injEq] at e
  obtain ⟨rfl,rfl⟩ := e
  have hr : Rise g.sets.length (g.sets ++ [z]).length [g.sets.length + 1] := ⟨List.pairwise_singleton _ _,fun t ht => by rw [List.mem_singleton.1 ht]; simp,by simp; omega⟩
  refine ⟨⟨by show (g.fol ++ [[]]).length = (g.sets ++ [z]).length + 1; simp [hg.1],by show (g.sets ++ [z]).length ≤ 499; simp; omega⟩,⟨[z],rfl⟩,fun i hi => ?_,fun i l hi hl => ?_,hr,hr⟩
  ·show (g.fol ++ [[]])[i]? = _
   rw [List.getElem?_append_left (by have := hg.1; omega)]
  ·have h1 : (g.fol ++ [[]])[i]? = some l := hl
   rw [List.getElem?_append_right (by have := hg.1; omega)] at h1
   have := List.mem_of_getElem? h1
   rw [List.mem_singleton.1 this]
   exact ⟨Nat.zero_le _,fun t ht => (by cases ht)⟩
theorem gnode_ok {k : Int} {z : List Sp} {mn mx : Int} {fs : List GF} {C : Nat} (hf : ∀ f ∈ fs,GOk C f) : GOk (C + 1) (gnode k z mn mx fs) := by
  intro g g' p hg e
  unfold gnode at e
  split at e
  · simp only [Option.some.injEq,Prod.mk.injEq] at e
    obtain ⟨rfl,rfl⟩ := e; exact GSt1.refl _ hg true
  split at e
  · exact (setG_ok z g g' p hg e).wide (by omega)
  split at e
  · exact catGs_ok (Nat.le_refl _) fs hf _ _ _ _ (GSt1.refl _ hg true) e
  split at e
  · exact altGs_ok (Nat.le_succ _) fs hf _ _ _ _ (GSt1.refl _ hg false) e
  split at e
  · cases fs with
    | nil => cases e
    | cons f fs =>
      simp only at e
      obtain ⟨⟨g1,p1⟩,e1,e2⟩ := Option.bind_eq_some_iff.1 e
      simp only [Option.some.injEq,Prod.mk.injEq] at e2
      obtain ⟨rfl,rfl⟩ := e2
      exact (hf f List.mem_cons_self _ _ _ hg e1).star (Nat.le_refl _)
  split at e
  · cases fs with
    | nil => cases e
    | cons f fs => exact repGs_ok (Nat.le_refl _) (hf f List.mem_cons_self) hg _ _ _ e
  split at e
  · cases fs with
    | nil => cases e
    | cons f fs => exact (hf f List.mem_cons_self _ _ _ hg e).wide (Nat.le_succ _)
  · simp only [Option.some.injEq,Prod.mk.injEq] at e
    obtain ⟨rfl,rfl⟩ := e; exact GSt1.refl _ hg false
theorem GOk.wide {c c' : Nat} {f : GF} (h : GOk c f) (hc : c ≤ c') : GOk c' f := fun g g' p hg e => (h g g' p hg e).wide hc
mutual
theorem gkO_ok : ∀ t : Re,GOk t.size (gkO t)
  | .mk k z a mn mx b => by
    rw [gkO,Re.size_eq]
    exact gnode_ok (gkL_ok a)
theorem gkL_ok : ∀ l : List Re,∀ f ∈ gkL l,GOk (Re.sizes l) f
  | [],f,hf => by cases hf
  | x :: l,f,hf => by
    rw [gkL] at hf
    have e : Re.sizes (x :: l) = x.size + Re.sizes l := rfl
    rcases List.mem_cons.1 hf with rfl | h1
    · exact (gkO_ok x).wide (by omega)
    · exact (gkL_ok l f h1).wide (by omega)
end
def Wf (n : Nat) (R : Rl) : Prop := ∀ i j,R i j = true → i ≤ j ∧ j ≤ n
theorem wf_no (n : Nat) : Wf n noR := fun i j h => by simp [noR] at h
theorem wf_id (n : Nat) : Wf n (idR n) := fun i j h => by simp [idR] at h; omega
theorem wf_or {n : Nat} {A B : Rl} (a : Wf n A) (b : Wf n B) : Wf n (orR A B) := fun i j h => by
 simp only [orR,Bool.or_eq_true] at h; rcases h with h | h; exact a i j h; exact b i j h
theorem wf_and {n : Nat} {A B : Rl} (a : Wf n A) : Wf n (andR A B) := fun i j h => by
 simp only [andR,Bool.and_eq_true] at h; exact a i j h.1
theorem wf_then {n : Nat} {A B : Rl} (a : Wf n A) (b : Wf n B) : Wf n (thenR A B n) := fun i k h => by
 simp only [thenR,Bool.and_eq_true,List.any_eq_true] at h
 obtain ⟨_,j,_,h1,h2⟩ := h
 have := a i j h1; have := b j k h2; omega
theorem wf_star {n : Nat} {A : Rl} (a : Wf n A) : ∀ m,Wf n (starN n A m)
  | 0 => wf_id n
  | m + 1 => wf_or (wf_star a m) (wf_then (wf_star a m) a)
theorem wf_pow {n : Nat} {A : Rl} (a : Wf n A) : ∀ m,Wf n (powR n A m)
  | 0 => wf_id n
  | m + 1 => wf_then (wf_pow a m) a
theorem wf_rep {n : Nat} {A : Rl} (a : Wf n A) (mn : Int) : ∀ m,Wf n (repR n A mn m)
  | 0 => wf_no n
  | m + 1 => by
    simp only [repR]
    split
    · exact wf_or (wf_rep a mn m) (wf_pow a m)
    · exact wf_rep a mn m
theorem wf_not (n : Nat) (A : Rl) : Wf n (notR n A) := fun i j h => by simp [notR] at h; omega
theorem wf_look (n : Nat) (A : Rl) (ng : Bool) : Wf n (lookR n A ng) := fun i j h => by simp [lookR] at h; omega
theorem wf_set (text : List Int) (set : List (Int × Int)) : Wf text.length (setR text set) := fun i j h => by
  simp only [setR,Bool.and_eq_true,decide_eq_true_eq] at h
  obtain ⟨h1,rfl⟩ := h
  cases hx : text[i]? with
  | none => simp [hx] at h1
  | some c => have := lt_of_get hx; omega
theorem wf_head {n : Nat} {L : List Rl} (h : ∀ x ∈ L,Wf n x) : Wf n (L.headD noR) := by
  cases L with
  | nil => exact wf_no n
  | cons x r => exact h x (by simp)
theorem wf_foldThen {n : Nat} : ∀ (L : List Rl) (A : Rl),Wf n A → (∀ x ∈ L,Wf n x) → Wf n (L.foldl (fun a x => thenR a x n) A)
  | [],_,h,_ => h
  | x :: L,A,h,hl => wf_foldThen L _ (wf_then h (hl x (by simp))) fun y hy => hl y (by simp [hy])
theorem wf_foldOr {n : Nat} : ∀ (L : List Rl) (A : Rl),Wf n A → (∀ x ∈ L,Wf n x) → Wf n (L.foldl orR A)
  | [],_,h,_ => h
  | x :: L,A,h,hl => wf_foldOr L _ (wf_or h (hl x (by simp))) fun y hy => hl y (by simp [hy])
theorem wf_foldAnd {n : Nat} : ∀ (L : List Rl) (A : Rl),Wf n A → Wf n (L.foldl andR A)
  | [],_,h => h
  | x :: L,A,h => wf_foldAnd L _ (wf_and h)
theorem wf_relK (text : List Int) (k : Int) (set : List (Int × Int)) (L : List Rl) (mn mx : Int) (ng : Bool) (h : ∀ x ∈ L,Wf text.length x) : Wf text.length (relK text k set L mn mx ng) := by
 unfold relK
 repeat' split
 ·exact wf_id _
 ·exact wf_set _ _
 ·exact wf_foldThen _ _ (wf_id _) h
 ·exact wf_foldOr _ _ (wf_no _) h
 ·exact wf_foldAnd _ _ (wf_head h)
 ·exact wf_not _ _
 ·exact wf_star (wf_head h) _
 ·exact wf_rep (wf_head h) _ _
 ·exact wf_head h
 ·exact wf_look _ _ _
 ·exact wf_no _
mutual
theorem wf_rel (text : List Int) : ∀ (t : Re),Wf text.length (relOf text t)
  | .mk k set args mn mx ng => by simp only [relOf]; exact wf_relK _ _ _ _ _ _ _ (wf_rels text args)
theorem wf_rels (text : List Int) : ∀ (ts : List Re),∀ x ∈ relsOf text ts,Wf text.length x
  | [],_,h => by simp [relsOf] at h
  | t :: ts,x,h => by
    simp only [relsOf,List.mem_cons] at h
    rcases h with rfl | h
    · exact wf_rel text t
    · exact wf_rels text ts x h
end
theorem rl_ext {A B : Rl} (h : ∀ i j,A i j = true ↔ B i j = true) : A = B := by
 funext i j; exact Bool.eq_iff_iff.2 (h i j)
theorem then_iff {n : Nat} (hn : n ≤ 24) {A B : Rl} (a : Wf n A) (i k : Nat) : thenR A B n i k = true ↔ ∃ j,A i j = true ∧ B j k = true := by
 simp only [thenR,Bool.and_eq_true,List.any_eq_true,List.mem_range,decide_eq_true_eq]
 constructor
 ·rintro ⟨_,j,_,h⟩; exact ⟨j,h⟩
 ·rintro ⟨j,h1,h2⟩; have := a i j h1; exact ⟨by omega,j,by omega,h1,h2⟩
theorem or_iff (A B : Rl) (i j : Nat) : orR A B i j = true ↔ A i j = true ∨ B i j = true := by simp [orR]
theorem id_iff (n i j : Nat) : idR n i j = true ↔ i ≤ n ∧ j = i := by simp [idR]
theorem id_then {n : Nat} (hn : n ≤ 24) {A : Rl} (a : Wf n A) : thenR (idR n) A n = A := rl_ext fun i k => by
 rw [then_iff hn (wf_id n)]
 constructor
 ·rintro ⟨j,h1,h2⟩; rw [id_iff] at h1; obtain ⟨_,rfl⟩ := h1; exact h2
 ·intro h; have := a i k h; exact ⟨i,(id_iff n i i).2 ⟨by omega,rfl⟩,h⟩
theorem then_assoc {n : Nat} (hn : n ≤ 24) {A B C : Rl} (a : Wf n A) (b : Wf n B) : thenR A (thenR B C n) n = thenR (thenR A B n) C n := rl_ext fun i k => by
 rw [then_iff hn a,then_iff hn (wf_then a b)]
 constructor
 ·rintro ⟨j,h1,h2⟩; rw [then_iff hn b] at h2; obtain ⟨m,h3,h4⟩ := h2; exact ⟨m,(then_iff hn a i m).2 ⟨j,h1,h3⟩,h4⟩
 ·rintro ⟨j,h1,h2⟩; rw [then_iff hn a] at h1; obtain ⟨m,h3,h4⟩ := h1; exact ⟨m,h3,(then_iff hn b m k).2 ⟨j,h4,h2⟩⟩
/-- Repetition. -/
inductive St (n : Nat) (A : Rl) (i : Nat) : Nat → Prop where
  | refl : i ≤ n → St n A i i
  | step {j k : Nat} : St n A i j → A j k = true → St n A i k
theorem star_mono {n : Nat} {A : Rl} {m m' : Nat} (h : m ≤ m') {i j : Nat} (hs : starN n A m i j = true) : starN n A m' i j = true := by
  induction m' with
  | zero => obtain rfl : m = 0 := by omega
            exact hs
  | succ m' ih =>
    rcases Nat.lt_or_ge m (m' + 1) with h1 | h1
    · simp only [starN,or_iff]; exact .inl (ih (by omega))
    · obtain rfl : m = m' + 1 := by omega
      exact hs
theorem st_of_star {n : Nat} (hn : n ≤ 24) {A : Rl} (a : Wf n A) : ∀ {m i j : Nat},starN n A m i j = true → St n A i j
  | 0,i,j,h => by simp only [starN,id_iff] at h; obtain ⟨h,rfl⟩ := h; exact .refl h
  | m + 1,i,j,h => by
    simp only [starN,or_iff] at h
    rcases h with h | h
    · exact st_of_star hn a h
    · rw [then_iff hn (wf_star a m)] at h
      obtain ⟨k,h1,h2⟩ := h
      exact .step (st_of_star hn a h1) h2
theorem star_of_st {n : Nat} (hn : n ≤ 24) {A : Rl} (a : Wf n A) {i j : Nat} (h : St n A i j) : starN n A (j - i) i j = true := by
  induction h with
  | refl h => simp only [Nat.sub_self,starN,id_iff]; exact ⟨h,trivial⟩
  | @step j k h1 h2 ih =>
    have h3 := a j k h2
    have h4 := wf_star a _ _ _ ih
    rcases Nat.lt_or_ge j k with h | h
    · refine star_mono (m := j - i + 1) (by omega) ?_
      simp only [starN,or_iff]
      exact .inr ((then_iff hn (wf_star a _) i k).2 ⟨j,ih,h2⟩)
    · obtain rfl : j = k := by omega
      exact ih
theorem star_iff {n : Nat} (hn : n ≤ 24) {A : Rl} (a : Wf n A) (i j : Nat) : starN n A (n + 1) i j = true ↔ St n A i j :=
 ⟨st_of_star hn a,fun h => by
  have h1 := star_of_st hn a h
  have := wf_star a _ _ _ h1
  exact star_mono (by omega) h1⟩
theorem St.trans {n : Nat} {A : Rl} {i j k : Nat} (h : St n A i j) (h' : St n A j k) : St n A i k := by
  induction h' with
  | refl _ => exact h
  | step _ h2 ih => exact .step ih h2
theorem St.one {n : Nat} {A : Rl} (a : Wf n A) {i j : Nat} (h : A i j = true) : St n A i j := .step (.refl (by have := a i j h; omega)) h
def Txt (text : List Int) : Prop := text.length ≤ 24 ∧ ∀ x ∈ text,runeB x = true
section
variable {n : Nat} (hn : n ≤ 24)
include hn
theorem fold_then {A B : Rl} (a : Wf n A) (b : Wf n B) : ∀ (L : List Rl),(∀ x ∈ L,Wf n x) → L.foldl (fun a x => thenR a x n) (thenR A B n) = thenR A (L.foldl (fun a x => thenR a x n) B) n
  := by
  intro L
  induction L generalizing B with
  | nil => intro _; rfl
  | cons x L ih =>
    intro h
    simp only [List.foldl_cons]
    rw [← then_assoc hn a b]
    exact ih (wf_then b (h x (by simp))) fun y hy => h y (by simp [hy])
theorem cat_cons {A : Rl} (a : Wf n A) (L : List Rl) (h : ∀ x ∈ L,Wf n x) : (A :: L).foldl (fun a x => thenR a x n) (idR n) = thenR A (L.foldl (fun a x => thenR a x n) (idR n)) n := by
 rw [List.foldl_cons,id_then hn a]
 have h1 := fold_then hn a (wf_id n) L h
 have h2 : thenR A (idR n) n = A := rl_ext fun i k => by
  rw [then_iff hn a]
  constructor
  ·rintro ⟨j,h1,h2⟩
   rw [id_iff] at h2
   rw [h2.2]; exact h1
  ·intro h; exact ⟨k,h,by rw [id_iff]; have := a i k h; omega⟩
 rw [h2] at h1
 exact h1
theorem then_range {A B : Rl} (a : Wf n A) (b : Wf n B) (i j : Nat) : thenR A B n i j = true ↔ ∃ k,i ≤ k ∧ k ≤ j ∧ A i k = true ∧ B k j = true := by
 rw [then_iff hn a]
 constructor
 ·rintro ⟨k,h1,h2⟩; have := a i k h1; have := b k j h2; exact ⟨k,by omega,by omega,h1,h2⟩
 ·rintro ⟨k,_,_,h1,h2⟩; exact ⟨k,h1,h2⟩
omit hn in
theorem st_first {A : Rl} (a : Wf n A) {i j : Nat} (h : St n A i j) : i = j ∨ ∃ k,i < k ∧ A i k = true ∧ St n A k j := by
  induction h with
  | refl => exact .inl rfl
  | @step j k hs hA ih =>
    have hw := a _ _ hA
    rcases ih with rfl | ⟨m,h1,h2,h3⟩
    · by_cases hk : i = k
      · exact .inl hk
      · exact .inr ⟨k,by omega,hA,.refl (by omega)⟩
    · exact .inr ⟨m,h1,h2,.step h3 hA⟩
theorem star_first {A : Rl} (a : Wf n A) {i j : Nat} (hi : i ≤ n) : starN n A (n + 1) i j = true ↔ i = j ∨ ∃ k,i + 1 ≤ k ∧ k ≤ j ∧ A i k = true ∧ starN n A (n + 1) k j = true := by
 rw [star_iff hn a]
 constructor
 ·intro h
  rcases st_first a h with h | ⟨k,h1,h2,h3⟩
  ·exact .inl h
  ·have := wf_star a (n + 1) k j ((star_iff hn a _ _).2 h3)
   exact .inr ⟨k,by omega,this.1,h2,(star_iff hn a _ _).2 h3⟩
 ·rintro (rfl | ⟨k,_,_,h2,h3⟩)
  ·exact .refl hi
  ·exact (St.one a h2).trans ((star_iff hn a _ _).1 h3)
theorem pow_left {A : Rl} (a : Wf n A) : ∀ p,powR n A (p + 1) = thenR A (powR n A p) n
  | 0 => by
    simp only [powR]
    rw [id_then hn a]
    exact rl_ext fun i k => by
      rw [then_iff hn a]
      constructor
      · intro h; exact ⟨k,h,by rw [id_iff]; have := a i k h; omega⟩
      · rintro ⟨j,h1,h2⟩; rw [id_iff] at h2; rw [h2.2]; exact h1
  | p + 1 => by
    have h := pow_left a p
    have h2 : thenR (powR n A (p + 1)) A n = thenR (thenR A (powR n A p) n) A n := by rw [h]
    have h3 : powR n A (p + 1 + 1) = thenR (powR n A (p + 1)) A n := rfl
    rw [h3,h2,← then_assoc hn a (wf_pow a p)]
    rfl
omit hn in
theorem rep_iff (A : Rl) (mn : Int) (i j : Nat) : ∀ m,repR n A mn m i j = true ↔ ∃ p,p < m ∧ mn ≤ (p : Int) ∧ powR n A p i j = true
  | 0 => by simp [repR,noR]
  | m + 1 => by
    simp only [repR]
    by_cases h : mn ≤ (m : Int)
    · rw [if_pos h,or_iff,rep_iff A mn i j m]
      constructor
      · rintro (⟨p,h1,h2,h3⟩ | h1)
        · exact ⟨p,by omega,h2,h3⟩
        · exact ⟨m,by omega,h,h1⟩
      · rintro ⟨p,h1,h2,h3⟩
        by_cases hp : p = m
        · subst hp; exact .inr h3
        · exact .inl ⟨p,by omega,h2,h3⟩
    · rw [if_neg h,rep_iff A mn i j m]
      constructor
      · rintro ⟨p,h1,h2,h3⟩; exact ⟨p,by omega,h2,h3⟩
      · rintro ⟨p,h1,h2,h3⟩
        exact ⟨p,by omega,h2,h3⟩
end
theorem foldOr_any (i j : Nat) : ∀ (L : List Rl) (A : Rl),L.foldl orR A i j = (A i j || L.any fun R => R i j)
  | [],A => by simp
  | x :: L,A => by rw [List.foldl_cons,foldOr_any i j L]; simp [orR,Bool.or_assoc]
theorem foldAnd_all (i j : Nat) : ∀ (L : List Rl) (A : Rl),L.foldl andR A i j = (A i j && L.all fun R => R i j)
  | [],A => by simp
  | x :: L,A => by rw [List.foldl_cons,foldAnd_all i j L]; simp [andR,Bool.and_assoc]
theorem not_in {n : Nat} {A : Rl} {i j : Nat} (h1 : i ≤ j) (h2 : j ≤ n) : notR n A i j = !A i j := by
 have : i ≤ n := by omega
 simp [notR,h1,h2,this]
def isL (k : Int) : Prop := k = 3 ∨ k = 4 ∨ k = 7
def revA (k : Int) (l : List Re) : List Re := if k = 3 then l.reverse else l
mutual
def revT : Re → Re
  | .mk k set args mn mx ng => .mk k set (revA k (revTs args)) mn mx ng
def revTs : List Re → List Re
  | [] => []
  | t :: ts => revT t :: revTs ts
end
mutual
def noLook : Re → Prop
  | .mk k _ args _ _ _ => k ≠ 10 ∧ noLooks args
def noLooks : List Re → Prop
  | [] => True
  | t :: ts => noLook t ∧ noLooks ts
end
abbrev Lg := List Int → Prop
def noL : Lg := fun _ => False
def nilL : Lg := fun w => w = []
def setG (s : List (Int × Int)) : Lg := fun w => ∃ c,w = [c] ∧ inS s c = true
def catG (A B : Lg) : Lg := fun w => ∃ u v,w = u ++ v ∧ A u ∧ B v
def catsG : List Lg → Lg
  | [] => nilL
  | A :: l => catG A (catsG l)
def anyG (L : List Lg) : Lg := fun w => ∃ A ∈ L,A w
def allG (L : List Lg) : Lg := fun w => ∀ A ∈ L,A w
def notG (A : Lg) : Lg := fun w => ¬ A w
inductive starG (A : Lg) : Lg where
  | nil : starG A []
  | cons {u v : List Int} : A u → starG A v → starG A (u ++ v)
def powG (A : Lg) : Nat → Lg
  | 0 => nilL
  | n + 1 => catG A (powG A n)
def repG (A : Lg) (m x : Int) : Lg := fun w => ∃ n : Nat,m ≤ ((n : Nat) : Int) ∧ ((n : Nat) : Int) ≤ x ∧ powG A n w
def langK (k : Int) (s : List (Int × Int)) (L : List Lg) (m x : Int) : Lg :=
 if k = 1 then nilL else if k = 2 then setG s else if k = 3 then catsG L else if k = 4 then anyG L else if k = 7 then allG L
 else if k = 8 then notG (L.headD noL) else if k = 5 then starG (L.headD noL) else if k = 6 then repG (L.headD noL) m x else if k = 9 then L.headD noL else noL
mutual
def Lang : Re → Lg
  | .mk k s a m x _ => langK k s (Langs a) m x
def Langs : List Re → List Lg
  | [] => []
  | t :: ts => Lang t :: Langs ts
end
def subL (text : List Int) (i j : Nat) : List Int := (text.take j).drop i
def RL (text : List Int) (R : Rl) (A : Lg) : Prop := ∀ i j,i ≤ j → j ≤ text.length → (R i j = true ↔ A (subL text i j))
inductive All3 {α β : Type} (p : α → β → Prop) : List α → List β → Prop where
  | nil : All3 p [] []
  | cons {a : α} {b : β} {l : List α} {m : List β} : p a b → All3 p l m → All3 p (a :: l) (b :: m)
section
variable {text : List Int}
theorem sub_len {i j : Nat} (h : j ≤ text.length) : (subL text i j).length = j - i := by simp [subL]; omega
theorem sub_app {i k j : Nat} (h1 : i ≤ k) (h2 : k ≤ j) : subL text i j = subL text i k ++ subL text k j := by
 unfold subL
 have h3 : text.take k = (text.take j).take k := by rw [List.take_take,Nat.min_eq_left h2]
 rw [h3]
 have h4 := (List.take_append_drop k (text.take j)).symm
 generalize text.take j = l at *
 rcases Nat.lt_or_ge l.length i with h | h
 ·rw [List.drop_eq_nil_of_le (by omega),List.drop_eq_nil_of_le (by simp; omega),List.drop_eq_nil_of_le (by omega)]; rfl
 ·conv => lhs; rw [h4]
  rcases Nat.lt_or_ge l.length k with h5 | h5
  ·rw [List.take_of_length_le (by omega),List.drop_eq_nil_of_le (show l.length ≤ k by omega)]
   simp
  ·rw [List.drop_append_of_le_length (by simp; omega)]
theorem sub_split {i j : Nat} (h : i ≤ j) (hj : j ≤ text.length) {u v : List Int} (e : subL text i j = u ++ v) : i + u.length ≤ j ∧ u = subL text i (i + u.length) ∧ v = subL text (i + u.length) j := by
 have hl := sub_len (text := text) (i := i) hj
 rw [e,List.length_append] at hl
 have h1 := sub_app (text := text) (i := i) (k := i + u.length) (j := j) (by omega) (by omega)
 rw [e] at h1
 have := List.append_inj h1 (by rw [sub_len (by omega)]; omega)
 exact ⟨by omega,this.1,this.2⟩
theorem rl_id : RL text (idR text.length) nilL := fun i j h hj => by
 rw [id_iff]
 unfold nilL
 rw [← List.length_eq_zero_iff,sub_len hj]
 omega
theorem rl_no : RL text noR noL := fun i j h hj => by simp [noR,noL]
theorem rl_set (s : List (Int × Int)) : RL text (setR text s) (setG s) := fun i j h hj => by
 unfold setR setG
 have hl := sub_len (text := text) (i := i) hj
 constructor
 ·intro h1
  simp only [Bool.and_eq_true,decide_eq_true_eq] at h1
  obtain ⟨h2,rfl⟩ := h1
  obtain ⟨c,hc⟩ := get_of_lt (l := text) (i := i) (by omega)
  rw [hc] at h2
  refine ⟨c,?_,h2⟩
  unfold subL
  rw [List.take_add_one,hc]
  rw [List.drop_append_of_le_length (by simp; omega),List.drop_eq_nil_of_le (by simp; omega)]
  rfl
 ·rintro ⟨c,h1,h2⟩
  rw [h1] at hl
  simp at hl
  obtain ⟨d,hd⟩ := get_of_lt (l := text) (i := i) (by omega)
  have h3 : subL text i j = [d] := by
   obtain rfl : j = i + 1 := by omega
   unfold subL
   rw [List.take_add_one,hd]
   rw [List.drop_append_of_le_length (by simp; omega),List.drop_eq_nil_of_le (by simp; omega)]
   rfl
  rw [h1] at h3
  cases h3
  rw [hd]
  simp only [h2,Bool.true_and,decide_eq_true_eq]
  omega
variable (hn : text.length ≤ 24)
include hn
theorem rl_then {A B : Rl} {X Y : Lg} (a : Wf text.length A) (b : Wf text.length B) (hA : RL text A X) (hB : RL text B Y) : RL text (thenR A B text.length) (catG X Y) := fun i j h hj => by
 rw [then_range hn a b]
 constructor
 ·rintro ⟨k,h1,h2,h3,h4⟩
  exact ⟨_,_,sub_app h1 h2,(hA i k h1 (by omega)).1 h3,(hB k j h2 hj).1 h4⟩
 ·rintro ⟨u,v,h1,h2,h3⟩
  obtain ⟨h4,h5,h6⟩ := sub_split h hj h1
  rw [h5] at h2
  rw [h6] at h3
  exact ⟨i + u.length,by omega,h4,(hA _ _ (by omega) (by omega)).2 h2,(hB _ _ h4 hj).2 h3⟩
theorem rl_cats : ∀ {R : List Rl} {L : List Lg},All3 (RL text) R L → (∀ x ∈ R,Wf text.length x) → RL text (R.foldl (fun a x => thenR a x text.length) (idR text.length)) (catsG L)
  | _,_,.nil,_ => rl_id
  | _,_,.cons (a := A) (l := l) ha hl,hw => by
    rw [cat_cons hn (hw A (by simp)) l fun x hx => hw x (by simp [hx])]
    exact rl_then hn (hw A (by simp)) (wf_foldThen _ _ (wf_id _) fun x hx => hw x (by simp [hx])) ha (rl_cats hl fun x hx => hw x (by simp [hx]))
theorem rl_star {A : Rl} {X : Lg} (a : Wf text.length A) (hA : RL text A X) : RL text (starN text.length A (text.length + 1)) (starG X) := fun i j h hj => by
  obtain ⟨m,hm⟩ : ∃ m,m = j - i := ⟨_,rfl⟩
  induction m using Nat.strongRecOn generalizing i with
  | _ m ih =>
  rw [star_first hn a (show i ≤ text.length by omega)]
  constructor
  · rintro (rfl | ⟨k,h1,h2,h3,h4⟩)
    · have : subL text i i = [] := List.eq_nil_of_length_eq_zero (by rw [sub_len hj]; omega)
      rw [this]; exact .nil
    · rw [sub_app (show i ≤ k by omega) h2]
      exact .cons ((hA i k (by omega) (by omega)).1 h3) ((ih (j - k) (by omega) k h2 rfl).1 h4)
  · intro h1
    have key : ∀ w,starG X w → w = [] ∨ ∃ u v,u ≠ [] ∧ w = u ++ v ∧ X u ∧ starG X v := by
      intro w hw
      induction hw with
      | nil => exact .inl rfl
      | @cons u v hu hv ihv =>
        by_cases he : u = []
        · subst he; exact ihv
        · exact .inr ⟨u,v,he,rfl,hu,hv⟩
    rcases key _ h1 with h2 | ⟨u,v,h2,h3,h4,h5⟩
    · left
      have := sub_len (text := text) (i := i) hj
      rw [h2] at this
      simp at this; omega
    · obtain ⟨h6,h7,h8⟩ := sub_split h hj h3
      have hu : 0 < u.length := List.length_pos_iff.2 h2
      rw [h7] at h4
      rw [h8] at h5
      exact .inr ⟨i + u.length,by omega,h6,(hA _ _ (by omega) (by omega)).2 h4,(ih _ (by omega) _ h6 rfl).2 h5⟩
theorem rl_pow {A : Rl} {X : Lg} (a : Wf text.length A) (hA : RL text A X) : ∀ p,RL text (powR text.length A p) (powG X p)
  | 0 => rl_id
  | p + 1 => by
    rw [pow_left hn a]
    exact rl_then hn a (wf_pow a p) hA (rl_pow a hA p)
theorem rl_rep {A : Rl} {X : Lg} (a : Wf text.length A) (hA : RL text A X) {mn mx : Int} (h1 : 0 ≤ mx) : RL text (repR text.length A mn (mx + 1).toNat) (repG X mn mx) := fun i j h hj => by
 rw [rep_iff]
 constructor
 ·rintro ⟨p,h2,h3,h4⟩
  exact ⟨p,h3,by omega,(rl_pow hn a hA p i j h hj).1 h4⟩
 ·rintro ⟨p,h2,h3,h4⟩
  exact ⟨p,by omega,h2,(rl_pow hn a hA p i j h hj).2 h4⟩
end
theorem all3_mem {α β : Type} {p : α → β → Prop} : ∀ {l : List α} {m : List β},All3 p l m → (∀ b ∈ m,∃ a ∈ l,p a b) ∧ ∀ a ∈ l,∃ b ∈ m,p a b
  | _,_,.nil => ⟨fun _ h => (List.not_mem_nil h).elim,fun _ h => (List.not_mem_nil h).elim⟩
  | _,_,.cons (a := a) (b := b) h t => by
    obtain ⟨h1,h2⟩ := all3_mem t
    refine ⟨fun y hy => ?_,fun x hx => ?_⟩
    · rcases List.mem_cons.1 hy with rfl | hy
      · exact ⟨a,by simp,h⟩
      · obtain ⟨x,hx,hp⟩ := h1 y hy
        exact ⟨x,by simp [hx],hp⟩
    · rcases List.mem_cons.1 hx with rfl | hx
      · exact ⟨b,by simp,h⟩
      · obtain ⟨y,hy,hp⟩ := h2 x hx
        exact ⟨y,by simp [hy],hp⟩
theorem all3_head {α β : Type} {p : α → β → Prop} {l : List α} {m : List β} {a : α} {b : β} (h : All3 p l m) (h0 : p a b) : p (l.headD a) (m.headD b) := by
  cases h with
  | nil => exact h0
  | cons h _ => exact h
mutual
theorem rl_lang {text : List Int} (hn : text.length ≤ 24) : ∀ t : Re,okRe t → noLook t → RL text (relOf text t) (Lang t)
  | .mk k s a m x g,ho,hl => by
    have hR : All3 (RL text) (relsOf text a) (Langs a) := rl_langs hn a (by simp only [okRe] at ho; exact ho.2) (by simp only [noLook] at hl; exact hl.2)
    have hW : ∀ R ∈ relsOf text a,Wf text.length R := fun R hR => by
      rw [relsOf_eq] at hR
      obtain ⟨y,_,rfl⟩ := List.mem_map.1 hR
      exact wf_rel text y
    have hI : NodeI (.mk k s a m x g) := node_inv (by simp only [okRe] at ho; exact ho.1)
    have hk10 : k ≠ 10 := by simp only [noLook] at hl; exact hl.1
    have hw : Wf text.length ((relsOf text a).headD noR) := by
      cases h : relsOf text a with
      | nil => exact wf_no _
      | cons y r => exact hW y (by rw [h]; simp)
    have hh := all3_head hR (rl_no (text := text))
    obtain ⟨hm1,hm2⟩ := all3_mem hR
    simp only [relOf,Lang]
    unfold relK langK
    split
    · exact rl_id
    split
    · exact rl_set s
    split
    · exact rl_cats hn hR hW
    split
    · intro i j h hj
      rw [foldOr_any]
      simp only [noR,Bool.false_or,List.any_eq_true]
      constructor
      · rintro ⟨R,h1,h2⟩
        obtain ⟨A,h3,h4⟩ := hm2 R h1
        exact ⟨A,h3,(h4 i j h hj).1 h2⟩
      · rintro ⟨A,h1,h2⟩
        obtain ⟨R,h3,h4⟩ := hm1 A h1
        exact ⟨R,h3,(h4 i j h hj).2 h2⟩
    split
    · rename_i h7
      have h2 := hI.two (.inr (.inr h7))
      simp only [Re.args] at h2
      intro i j h hj
      have h0 : ∃ R0,R0 ∈ relsOf text a ∧ (relsOf text a).headD noR = R0 := by
        cases h : relsOf text a with
        | nil => rw [relsOf_eq] at h; have := congrArg List.length h; simp at this; subst this; simp at h2
        | cons y r => exact ⟨y,by simp,rfl⟩
      obtain ⟨R0,h01,h02⟩ := h0
      rw [foldAnd_all,h02]
      simp only [Bool.and_eq_true,List.all_eq_true]
      constructor
      · rintro ⟨_,h1⟩ A hA
        obtain ⟨R,h3,h4⟩ := hm1 A hA
        exact (h4 i j h hj).1 (h1 R h3)
      · intro h1
        have h9 : ∀ R ∈ relsOf text a,R i j = true := fun R hR => by
          obtain ⟨A,h3,h4⟩ := hm2 R hR
          exact (h4 i j h hj).2 (h1 A h3)
        exact ⟨h9 R0 h01,h9⟩
    split
    · intro i j h hj
      rw [not_in h hj]
      have := hh i j h hj
      unfold notG
      rw [← this]
      cases (relsOf text a).headD noR i j <;> simp
    split
    · exact rl_star hn hw hh
    split
    · rename_i h6
      have h2 := hI.rep h6
      simp only [Re.mn,Re.mx] at h2
      exact rl_rep hn hw hh (by omega)
    split
    · exact hh
    · first | exact rl_no | (rw [if_neg hk10]; exact rl_no)
theorem rl_langs {text : List Int} (hn : text.length ≤ 24) : ∀ ts : List Re,okRes ts → noLooks ts → All3 (RL text) (relsOf text ts) (Langs ts)
  | [],_,_ => .nil
  | t :: ts,ho,hl => by
    simp only [okRes] at ho
    simp only [noLooks] at hl
    simp only [relsOf,Langs]
    exact .cons (rl_lang hn t ho.1 hl.1) (rl_langs hn ts ho.2 hl.2)
end
/-- An expression matches a whole text if the text is in its language. -/
theorem lang_whole {text : List Int} (hn : text.length ≤ 24) {t : Re} (ho : okRe t) (hl : noLook t) : relOf text t 0 text.length = true ↔ Lang t text := by
 have := rl_lang hn t ho hl 0 text.length (Nat.zero_le _) (Nat.le_refl _)
 simpa [subL] using this
--BEGIN
/-- Whether a position takes a rune. -/
abbrev Sat := Int → Nat → Prop
def satS (S : List (List Sp)) : Sat := fun c q => ∃ z,1 ≤ q ∧ S[q - 1]? = some z ∧ inS z c = true
def folR (f : List (List Nat)) (i j : Nat) : Prop := ∃ l,f[i]? = some l ∧ j ∈ l
inductive WkJ (T : Sat) (F : Nat → Nat → Prop) : Nat → List Int → Nat → Prop
  | nil (p : Nat) : WkJ T F p [] p
  | cons {p q r : Nat} {c : Int} {w : List Int} : F p q → T c q → WkJ T F q w r → WkJ T F p (c :: w) r
/-- What a part accepts from a follower on, ending in X. -/
def EntJ (T : Sat) (F : Nat → Nat → Prop) (A X : Nat → Prop) : Lg := fun w => ∃ c v q r,w = c :: v ∧ A q ∧ T c q ∧ WkJ T F q v r ∧ X r
def LgJ (T : Sat) (F : Nat → Nat → Prop) (p : Pt) : Lg := fun w => (w = [] ∧ p.nul = true) ∨ EntJ T F (· ∈ p.fst) (· ∈ p.lst) w
def InJ (n m : Nat) (p : Pt) : Prop := (∀ t ∈ p.fst,n < t ∧ t ≤ m) ∧ ∀ t ∈ p.lst,n < t ∧ t ≤ m
def CloJ (n m : Nat) (F : Nat → Nat → Prop) : Prop := ∀ i j,n < i → i ≤ m → F i j → n < j ∧ j ≤ m
section
variable {T : Sat} {F G : Nat → Nat → Prop} {n m k : Nat}
theorem WkJ.app {p q r : Nat} {v w : List Int} (h : WkJ T F p v q) (g : WkJ T F q w r) : WkJ T F p (v ++ w) r := by
  induction h with
  | nil => exact g
  | cons h1 h2 _ ih => exact .cons h1 h2 (ih g)
theorem WkJ.mono {p q : Nat} {w : List Int} (h : WkJ T F p w q) (hF : ∀ i j,F i j → G i j) : WkJ T G p w q := by
  induction h with
  | nil p => exact .nil p
  | cons h1 h2 _ ih => exact .cons (hF _ _ h1) h2 ih
/-- Within a closed range only the steps of the range count. -/
theorem WkJ.in (hc : CloJ n m F) (hF : ∀ i j,n < i → i ≤ m → F i j → G i j) {p q : Nat} {w : List Int} (h : WkJ T F p w q) (h1 : n < p) (h2 : p ≤ m) : WkJ T G p w q ∧ n < q ∧ q ≤ m := by
  induction h with
  | nil p => exact ⟨.nil p,h1,h2⟩
  | @cons p q r c w g1 g2 _ ih =>
    have := hc p q h1 h2 g1
    obtain ⟨k1,k2⟩ := ih this.1 this.2
    exact ⟨.cons (hF _ _ h1 h2 g1) g2 k1,k2⟩
/-- Two ranges, the second behind the first. -/
theorem WkJ.cut {X Y : Nat → Prop} (hF : ∀ i j,n < i → i ≤ m → F i j → (G i j ∧ n < j ∧ j ≤ m) ∨ (X i ∧ Y j)) (hc : CloJ m k F) (hY : ∀ j,Y j → m < j ∧ j ≤ k) {p q : Nat} {w : List Int} (h : WkJ T F p w q) (h1 : n < p) (h2 : p ≤ m) :
    (WkJ T G p w q ∧ n < q ∧ q ≤ m) ∨ ∃ u v i,w = u ++ v ∧ WkJ T G p u i ∧ X i ∧ EntJ T F Y (· = q) v ∧ m < q ∧ q ≤ k := by
  induction h with
  | nil p => exact .inl ⟨.nil p,h1,h2⟩
  | @cons p q r c w g1 g2 g3 ih =>
    rcases hF p q h1 h2 g1 with ⟨k1,k2,k3⟩ | ⟨k1,k2⟩
    · rcases ih k2 k3 with ⟨l1,l2⟩ | ⟨u,v,i,l1,l2,l3⟩
      · exact .inl ⟨.cons k1 g2 l1,l2⟩
      · exact .inr ⟨c :: u,v,i,by rw [l1]; rfl,.cons k1 g2 l2,l3⟩
    · have h3 := hY q k2
      have h4 := (WkJ.in hc (fun _ _ _ _ h => h) g3 h3.1 h3.2).2
      exact .inr ⟨[],c :: w,p,rfl,.nil p,k1,⟨c,w,q,r,rfl,k2,g2,g3,rfl⟩,h4⟩
theorem EntJ.join {X Y Z : Nat → Prop} {A : Nat → Prop} {u v : List Int} (h : EntJ T F A X u) (g : EntJ T F Y Z v) (hF : ∀ i j,X i → Y j → F i j) : EntJ T F A Z (u ++ v) := by
 obtain ⟨c,w,q,r,rfl,h1,h2,h3,h4⟩ := h
 obtain ⟨d,x,s,t,rfl,g1,g2,g3,g4⟩ := g
 exact ⟨c,w ++ d :: x,q,t,rfl,h1,h2,h3.app (.cons (hF r s h4 g1) g2 g3),g4⟩
theorem EntJ.mono {A B X Y : Nat → Prop} {w : List Int} (h : EntJ T F A X w) (hF : ∀ i j,F i j → G i j) (hA : ∀ i,A i → B i) (hX : ∀ i,X i → Y i) : EntJ T G B Y w := by
 obtain ⟨c,v,q,r,h0,h1,h2,h3,h4⟩ := h
 exact ⟨c,v,q,r,h0,hA _ h1,h2,h3.mono hF,hX _ h4⟩
theorem EntJ.in {A X : Nat → Prop} {w : List Int} (hc : CloJ n m F) (hF : ∀ i j,n < i → i ≤ m → F i j → G i j) (hA : ∀ i,A i → n < i ∧ i ≤ m) (h : EntJ T F A X w) : EntJ T G A (fun i => X i ∧ n < i ∧ i ≤ m) w := by
 obtain ⟨c,v,q,r,h0,h1,h2,h3,h4⟩ := h
 obtain ⟨k1,k2⟩ := WkJ.in hc hF h3 (hA q h1).1 (hA q h1).2
 exact ⟨c,v,q,r,h0,h1,h2,k1,h4,k2⟩
theorem ent_or {A B X : Nat → Prop} {w : List Int} : EntJ T F (fun i => A i ∨ B i) X w ↔ EntJ T F A X w ∨ EntJ T F B X w := by
 constructor
 ·rintro ⟨c,v,q,r,h0,h1 | h1,h2⟩
  ·exact .inl ⟨c,v,q,r,h0,h1,h2⟩
  ·exact .inr ⟨c,v,q,r,h0,h1,h2⟩
 ·rintro (⟨c,v,q,r,h0,h1,h2⟩ | ⟨c,v,q,r,h0,h1,h2⟩)
  ·exact ⟨c,v,q,r,h0,.inl h1,h2⟩
  ·exact ⟨c,v,q,r,h0,.inr h1,h2⟩
end
/-- One behind the other. -/
theorem lgJ_cat {T : Sat} {F A B : Nat → Nat → Prop} {n m k : Nat} {a b : Pt} (ha : InJ n m a) (hb : InJ m k b) (cA : CloJ n m A) (cB : CloJ m k B) (hA : ∀ i j,n < i → i ≤ m → (F i j ↔ A i j ∨ (i ∈ a.lst ∧ j ∈ b.fst))) (hB : ∀ i j,m < i → i ≤ k → (F i j ↔ B i j)) (w : List Int) :
  LgJ T F (catP a b) w ↔ catG (LgJ T A a) (LgJ T B b) w := by
 have cF : CloJ m k F := fun i j h1 h2 h => cB i j h1 h2 ((hB i j h1 h2).1 h)
 have eB : ∀ {X : Nat → Prop} {w : List Int},EntJ T F (· ∈ b.fst) X w → EntJ T B (· ∈ b.fst) (fun i => X i ∧ m < i ∧ i ≤ k) w := fun h => EntJ.in cF (fun i j h1 h2 h => (hB i j h1 h2).1 h) hb.1 h
 have toB : ∀ {X : Nat → Prop} {w : List Int},EntJ T B (· ∈ b.fst) X w → EntJ T F (· ∈ b.fst) (fun i => X i ∧ m < i ∧ i ≤ k) w := fun h => EntJ.in cB (fun i j h1 h2 h => (hB i j h1 h2).2 h) hb.1 h
 have toA : ∀ {X : Nat → Prop} {w : List Int},EntJ T A (· ∈ a.fst) X w → EntJ T F (· ∈ a.fst) (fun i => X i ∧ n < i ∧ i ≤ m) w := fun h => EntJ.in cA (fun i j h1 h2 h => (hA i j h1 h2).2 (.inl h)) ha.1 h
 have hl : ∀ i,i ∈ (catP a b).lst ↔ (b.nul = true ∧ i ∈ a.lst) ∨ i ∈ b.lst := by
  intro i
  show i ∈ (if b.nul then a.lst ++ b.lst else b.lst) ↔ _
  split <;> rename_i h <;> simp [h]
 have hf : ∀ i,i ∈ (catP a b).fst ↔ i ∈ a.fst ∨ (a.nul = true ∧ i ∈ b.fst) := by
  intro i
  show i ∈ (if a.nul then a.fst ++ b.fst else a.fst) ↔ _
  split <;> rename_i h <;> simp [h]
 constructor
 ·rintro (⟨rfl,h⟩ | ⟨c,v,q,r,rfl,h1,h2,h3,h4⟩)
  ·have h9 : (a.nul && b.nul) = true := h
   rw [Bool.and_eq_true] at h9
   exact ⟨[],[],rfl,.inl ⟨rfl,h9.1⟩,.inl ⟨rfl,h9.2⟩⟩
  ·rcases (hf q).1 h1 with g1 | ⟨g0,g1⟩
   ·have hq := ha.1 q g1
    rcases WkJ.cut (G := A) (X := (· ∈ a.lst)) (Y := (· ∈ b.fst)) (fun i j k1 k2 k3 => ((hA i j k1 k2).1 k3).imp (fun k => ⟨k,cA i j k1 k2 k⟩) id) cF (fun j hj => hb.1 j hj) h3 hq.1 hq.2 with ⟨l1,l2⟩ | ⟨u,x,i,l1,l2,l3,l4,l5⟩
    ·rcases (hl r).1 h4 with ⟨g2,g3⟩ | g3
     ·exact ⟨c :: v,[],by simp,.inr ⟨c,v,q,r,rfl,g1,h2,l1,g3⟩,.inl ⟨rfl,g2⟩⟩
     ·have := hb.2 r g3; omega
    ·rcases (hl r).1 h4 with ⟨_,g3⟩ | g3
     ·have := ha.2 r g3; omega
     ·exact ⟨c :: u,x,by rw [l1]; rfl,.inr ⟨c,u,q,i,rfl,g1,h2,l2,l3⟩,.inr ((eB l4).mono (fun _ _ h => h) (fun _ h => h) fun j hj => hj.1 ▸ g3)⟩
   ·have hq := hb.1 q g1
    have e := eB (X := (· = r)) ⟨c,v,q,r,rfl,g1,h2,h3,rfl⟩
    obtain ⟨_,_,_,r',_,_,_,_,hr',hm⟩ := e
    have hm' : m < r ∧ r ≤ k := hr' ▸ hm
    rcases (hl r).1 h4 with ⟨_,g3⟩ | g3
    ·have := ha.2 r g3; omega
    ·exact ⟨[],c :: v,rfl,.inl ⟨rfl,g0⟩,.inr ((eB (X := (· = r)) ⟨c,v,q,r,rfl,g1,h2,h3,rfl⟩).mono (fun _ _ h => h) (fun _ h => h) fun j hj => hj.1 ▸ g3)⟩
 ·rintro ⟨u,v,rfl,hu,hv⟩
  rcases hu with ⟨rfl,g1⟩ | g1
  ·rcases hv with ⟨rfl,g2⟩ | g2
   ·exact .inl ⟨rfl,by show (a.nul && b.nul) = true; rw [g1,g2]; rfl⟩
   ·exact .inr ((toB g2).mono (fun _ _ h => h) (fun i h => (hf i).2 (.inr ⟨g1,h⟩)) fun i h => (hl i).2 (.inr h.1))
  ·rcases hv with ⟨rfl,g2⟩ | g2
   ·rw [List.append_nil]
    exact .inr ((toA g1).mono (fun _ _ h => h) (fun i h => (hf i).2 (.inl h)) fun i h => (hl i).2 (.inl ⟨g2,h.1⟩))
   ·exact .inr (((toA g1).join (toB g2) fun i j h1 h2 => (hA i j h1.2.1 h1.2.2).2 (.inr ⟨h1.1,h2⟩)).mono (fun _ _ h => h) (fun i h => (hf i).2 (.inl h)) fun i h => (hl i).2 (.inr h.1))
/-- One beside the other. -/
theorem lgJ_alt {T : Sat} {F A B : Nat → Nat → Prop} {n m k : Nat} {a b : Pt} (ha : InJ n m a) (hb : InJ m k b) (cA : CloJ n m A) (cB : CloJ m k B) (hA : ∀ i j,n < i → i ≤ m → (F i j ↔ A i j)) (hB : ∀ i j,m < i → i ≤ k → (F i j ↔ B i j)) (w : List Int) :
  LgJ T F (altP a b) w ↔ LgJ T A a w ∨ LgJ T B b w := by
 have cF : CloJ m k F := fun i j h1 h2 h => cB i j h1 h2 ((hB i j h1 h2).1 h)
 have cG : CloJ n m F := fun i j h1 h2 h => cA i j h1 h2 ((hA i j h1 h2).1 h)
 have hl : ∀ i,i ∈ (altP a b).lst ↔ i ∈ a.lst ∨ i ∈ b.lst := fun i => List.mem_append
 have hf : ∀ i,i ∈ (altP a b).fst ↔ i ∈ a.fst ∨ i ∈ b.fst := fun i => List.mem_append
 constructor
 ·rintro (⟨rfl,h⟩ | h)
  ·have h9 : (a.nul || b.nul) = true := h
   rw [Bool.or_eq_true] at h9
   exact h9.imp (fun h => .inl ⟨rfl,h⟩) fun h => .inl ⟨rfl,h⟩
  ·have h1 : EntJ T F (fun i => i ∈ a.fst ∨ i ∈ b.fst) (fun i => i ∈ a.lst ∨ i ∈ b.lst) w := h.mono (fun _ _ h => h) (fun i h => (hf i).1 h) fun i h => (hl i).1 h
   rcases ent_or.1 h1 with h2 | h2
   ·exact .inl (.inr ((EntJ.in cG (fun i j h1 h2 h => (hA i j h1 h2).1 h) ha.1 h2).mono (fun _ _ h => h) (fun _ h => h) fun i h => h.1.resolve_right fun h9 => by have := hb.2 i h9; omega))
   ·exact .inr (.inr ((EntJ.in cF (fun i j h1 h2 h => (hB i j h1 h2).1 h) hb.1 h2).mono (fun _ _ h => h) (fun _ h => h) fun i h => h.1.resolve_left fun h9 => by have := ha.2 i h9; omega))
 ·rintro ((⟨rfl,h⟩ | h) | (⟨rfl,h⟩ | h))
  ·exact .inl ⟨rfl,by show (a.nul || b.nul) = true; rw [h]; rfl⟩
  ·exact .inr ((EntJ.in cA (fun i j h1 h2 h => (hA i j h1 h2).2 h) ha.1 h).mono (fun _ _ h => h) (fun i h => (hf i).2 (.inl h)) fun i h => (hl i).2 (.inl h.1))
  ·exact .inl ⟨rfl,by show (a.nul || b.nul) = true; rw [h]; simp⟩
  ·exact .inr ((EntJ.in cB (fun i j h1 h2 h => (hB i j h1 h2).2 h) hb.1 h).mono (fun _ _ h => h) (fun i h => (hf i).2 (.inr h)) fun i h => (hl i).2 (.inr h.1))
/-- Again and again. -/
theorem lgJ_star {T : Sat} {F A : Nat → Nat → Prop} {n m : Nat} {a : Pt} (ha : InJ n m a) (cA : CloJ n m A) (hA : ∀ i j,n < i → i ≤ m → (F i j ↔ A i j ∨ (i ∈ a.lst ∧ j ∈ a.fst))) (w : List Int) :
    LgJ T F ⟨true,a.fst,a.lst⟩ w ↔ starG (LgJ T A a) w := by
  have toA : ∀ {X : Nat → Prop} {w : List Int},EntJ T A (· ∈ a.fst) X w → EntJ T F (· ∈ a.fst) (fun i => X i ∧ n < i ∧ i ≤ m) w := fun h => EntJ.in cA (fun i j h1 h2 h => (hA i j h1 h2).2 (.inl h)) ha.1 h
  have key : ∀ {p r : Nat} {w : List Int},WkJ T F p w r → n < p → p ≤ m → r ∈ a.lst → ∃ u v i,w = u ++ v ∧ WkJ T A p u i ∧ i ∈ a.lst ∧ starG (LgJ T A a) v := by
    intro p r w h
    induction h with
    | nil p => exact fun _ _ h3 => ⟨[],[],p,rfl,.nil p,h3,.nil⟩
    | @cons p q r c w g1 g2 g3 ih =>
      intro h1 h2 h3
      rcases (hA p q h1 h2).1 g1 with k1 | ⟨k1,k2⟩
      · have := cA p q h1 h2 k1
        obtain ⟨u,v,i,l1,l2,l3⟩ := ih this.1 this.2 h3
        exact ⟨c :: u,v,i,by rw [l1]; rfl,.cons k1 g2 l2,l3⟩
      · have := ha.1 q k2
        obtain ⟨u,v,i,l1,l2,l3,l4⟩ := ih this.1 this.2 h3
        exact ⟨[],c :: w,p,rfl,.nil p,k1,by rw [l1]; exact starG.cons (u := c :: u) (.inr ⟨c,u,q,i,rfl,k2,g2,l2,l3⟩) l4⟩
  constructor
  · rintro (⟨rfl,_⟩ | ⟨c,v,q,r,rfl,h1,h2,h3,h4⟩)
    · exact .nil
    · have := ha.1 q h1
      obtain ⟨u,x,i,l1,l2,l3,l4⟩ := key h3 this.1 this.2 h4
      rw [l1]
      exact starG.cons (u := c :: u) (.inr ⟨c,u,q,i,rfl,h1,h2,l2,l3⟩) l4
  · intro h
    induction h with
    | nil => exact .inl ⟨rfl,rfl⟩
    | @cons u v h1 _ ih =>
      rcases h1 with ⟨rfl,_⟩ | h1
      · exact ih
      · refine .inr ?_
        rcases ih with ⟨rfl,_⟩ | ih
        · rw [List.append_nil]
          exact (toA h1).mono (fun _ _ h => h) (fun _ h => h) fun i h => h.1
        · exact ((toA h1).mono (fun _ _ h => h) (fun _ h => h) fun i h => h.1).join ih fun i j h1 h2 => (hA i j (ha.2 i h1).1 (ha.2 i h1).2).2 (.inr ⟨h1,h2⟩)
--END
abbrev TSp : Nat := 72
theorem own_low {w : World} {base base' e size n : Nat} {v : Value} {xs : List Value} (h : w.ownsRow base e size v n xs) (hb : base' ≤ base) : w.ownsRow base' e size v n xs := by
 obtain ⟨h1,h2⟩ := h
 refine ⟨h1,h2.imp id ?_⟩
 rintro ⟨g,cap,cur,a,b,r⟩
 exact ⟨g,cap,cur,a,Nat.le_trans hb b,r⟩
theorem own_le {w : World} {base e size n c : Nat} {a : Option Addr} {xs : List Value} (h : w.ownsRow base e size (.slice a n c) n xs) : n ≤ c := by
 rcases h.2 with ⟨h1,h2⟩ | ⟨g,cap,cur,hv,_,_,hnc,_⟩
 ·omega
 ·simp only [Value.slice.injEq] at hv
  obtain ⟨_,_,rfl⟩ := hv
  exact hnc
/-- A list of spans that lies in memory of one's own. -/
def OwnS (w : World) (base : Nat) (r : Value) (l : List Sp) : Prop := (∃ a c,r = .slice a l.length c) ∧ w.ownsRow base TSp 2 r l.length (l.map spanV).flatten
theorem OwnS.at {w : World} {base : Nat} {r : Value} {l : List Sp} (h : OwnS w base r l) : SpansAt w r l :=
 own_slat h.2 (by intro x hx; simp only [List.mem_map] at hx; obtain ⟨p,_,rfl⟩ := hx; rfl) (by simp) (by decide)
theorem OwnS.ext {w w' : World} {base : Nat} {r : Value} {l : List Sp} (h : OwnS w base r l) (e : Ext w w') : OwnS w' base r l := ⟨h.1,own_ext h.2 e⟩
theorem clones_c (w0 : World) (v : Value) (l : List Sp) (h : SpansAt w0 v l) (hl : l.length ≤ 8796093022208) :
  Ret Tryz.prog 28 #[v] w0 fun r w => OwnS w w0.heap.size r l ∧ Ext w0 w := by
 obtain ⟨a,c,rfl⟩ := SlAt.form h
 simp only [List.length_map] at h ⊢
 obtain ⟨base,hbase⟩ : ∃ base,base = w0.heap.size := ⟨_,rfl⟩
 rw [← hbase]
 refine Ret_of Tryz.func28 rfl Tryz.ntmps28 (Nat.le_of_ble_eq_true rfl) ?_
 have E : Chg none1 w0 w0 := Chg.refl _ _
 refine Wp_seq_region ?_
 refine qA (.slice none 0 0) rfl ?_
 refine WpL_nil (Wp_seq (Wp_seq_region ?_))
 refine qM (.slice a l.length c) rfl ?_
 refine WpL_val (v := (.bool a.isNone)) rfl rfl (by decide) (r_eqlNil Tryz.underlying24 rfl rfl) ?_
 refine WpL_nil ?_
 refine Wp_cond (b := a.isNone) rfl (fun hn => ?_) (fun hn => ?_)
 ·have khn := hn
  have hl0 : l.length = 0 := by rcases Nat.eq_zero_or_pos l.length with h0 | h0; exact h0; obtain ⟨b,o,rfl,_⟩ := spans_cells h h0; simp at hn
  have hl1 : l = [] := List.eq_nil_of_length_eq_zero hl0
  refine Wp_seq_region ?_
  refine qA (.slice none 0 0) rfl ?_
  refine WpL_nil (Wp_ret (thn_ret ?_))
  refine fin_tmp Tryz.results28 (v := (.slice none 0 0)) rfl ?_
  subst hl1; exact ⟨⟨⟨none,0,rfl⟩,World.ownsRow_nil _ _ _ _⟩,E⟩
 ·have khn := hn
  rcases Bool.eq_false_or_eq_true (decide (l.length = 0)) with hz | hz
  ·have khz := hz
   replace khz := of_decide_eq_true khz
   refine Wp_skip (thn_normal (Wp_seq_region ?_))
   refine s_build0 (by decide) Tryz.underlying24 siz72 ?_
   intro bq wq Nq
   have Fq := Nq.ge E
   replace E := E.ext Nq.ext
   have Bq := Nq.blk
   refine qM (.slice a l.length c) rfl ?_
   refine qV (r_append0 Tryz.underlying24 siz72 (a' := a) (c' := c) rfl (Nat.le_refl _) (by show Value.slice a l.length c = _; rw [khz])) ?_
   refine qA (.slice (some ⟨bq,0,none⟩) 0 0) rfl ?_
   refine WpL_nil (Wp_ret ?_)
   refine fin_tmp Tryz.results28 (v := (.slice (some ⟨bq,0,none⟩) 0 0)) rfl ?_
   have hl1 : l = [] := List.eq_nil_of_length_eq_zero khz
   subst hl1; exact ⟨⟨⟨_,0,rfl⟩,own_empty (base := base) (size := 2) Bq (by omega)⟩,E⟩
  ·have khz := hz
   replace khz := of_decide_eq_false khz
   obtain ⟨b,o,rfl,hcl⟩ := spans_cells h (by omega)
   refine Wp_skip (thn_normal (Wp_seq_region ?_))
   refine s_build0 (by decide) Tryz.underlying24 siz72 ?_
   intro bq wq Nq
   have Fq := Nq.ge E
   replace E := E.ext Nq.ext
   have Bq := Nq.blk
   refine qM (.slice (some ⟨b,o,none⟩) l.length c) rfl ?_
   have hown := own_empty (base := base) (size := 2) Bq (by omega)
   have hbs : base ≤ wq.heap.size := by have := Nq.ext.size; omega
   refine s_append (base := base) (n := 0) (m := l.length) (xs := []) (news := (l.map spanV).flatten) (size := 2) (bytes := 16) (v := (.slice (some ⟨bq,0,none⟩) 0 0)) (by decide) Tryz.underlying24 siz72 byt72 zer72 rfl (by decide) rfl hown rfl (spans_six l) ((spans_flat hcl).ext Nq.ext) (spans_one l) (by unfold maxLen; omega) (by omega) (hbs) ?_
   intro v9 w29 Ov9 Cv9 Dv9
   replace E := E.step Cv9 (fun x hx h => absurd (hown.lt x h).1 (by omega))
   obtain ⟨la,lc,rfl⟩ := own_form Ov9
   refine qA (.slice la (0 + l.length) lc) rfl ?_
   refine WpL_nil (Wp_ret ?_)
   refine fin_tmp Tryz.results28 (v := (.slice la (0 + l.length) lc)) rfl ?_
   simp only [Nat.zero_add,List.nil_append] at Ov9 ⊢
   exact ⟨⟨⟨la,lc,rfl⟩,Ov9⟩,E⟩
/-- One append of whatever slice, an empty one too. -/
theorem s_appendAny {P : Program} {N : Nat} {Q : Post} {σ : Env} {w : World} {K : Env → World → Prop} {ops : Array Oper} {rest : List Oper} {d : Nat} {ty : TypeId} {pos : String} {af : Array Edge} {t : TypeId} {s x : Operand}
  {base e size bytes n m c : Nat} {ax : Option Addr} {z v : Value} {xs news : List Value} (hN : d < N) (hu : P.underlying t = some (.slice e)) (hsz : Siz P e size) (hby : Byt P e bytes) (hz : Zer P e z) (hzs : z.cells.size = size) (h0 : 0 < size)
  (hs : ev σ s = v) (hown : w.ownsRow base e size v n xs) (hx : ev σ x = .slice ax m c) (hl : news.length = m * size) (hany : (m = 0 ∧ news = []) ∨ ∃ bx ox,ax = some ⟨bx,ox,none⟩ ∧ CellsAt w bx ox news) (h1 : ∀ u ∈ news,u.oneCell' = true)
  (h63 : n + m ≤ maxLen) (hbytes : (n + m) * bytes ≤ 140737488355328) (hbase : base ≤ w.heap.size)
  (k : ∀ v' w',w'.ownsRow base e size v' (n + m) (xs ++ news) → Chg (fun x => v.ownBlock = some x) w w' → (∀ k,v'.ownBlock = some k → v.ownBlock = some k ∨ w.heap.size ≤ k) → WpL P N ops K Q rest (upd σ d v') w') :
  WpL P N ops K Q (⟨some d,.call ⟨.builtin .append,#[s,x],#[t,t]⟩,ty,pos,af,none⟩ :: rest) σ w := by
 rcases hany with ⟨rfl,rfl⟩ | ⟨bx,ox,rfl,hc⟩
 ·obtain ⟨a,c',rfl⟩ := own_form hown
  refine WpL_val rfl rfl hN (r_append0 hu hsz hs (own_le hown) hx) (k _ w (by simpa using hown) (Chg.refl _ _) fun _ h => .inl h)
 ·exact s_append hN hu hsz hby hz hzs h0 hs hown hx hl hc h1 h63 hbytes hbase k
theorem ints_any {w : World} {a : Option Addr} {n c : Nat} {l : List Int} (h : IntsAt w (.slice a n c) l) : (n = 0 ∧ l.map (Value.int .i64) = []) ∨ ∃ b o,a = some ⟨b,o,none⟩ ∧ CellsAt w b o (l.map (Value.int .i64)) := by
 have hn : n = l.length := by have := (SlAt.cap h).2; simpa using this.symm
 rcases Nat.eq_zero_or_pos n with h0 | h0
 ·left; exact ⟨h0,by rw [List.eq_nil_of_length_eq_zero (show l.length = 0 by omega)]; rfl⟩
 ·right
  obtain ⟨b,o,ha,hc⟩ := ints_cells h h0
  exact ⟨b,o,ha,fun i u hu => by rw [List.getElem?_map,Option.map_eq_some_iff] at hu; obtain ⟨x,hx,rfl⟩ := hu; exact hc i x hx⟩
theorem s_appendZ {P : Program} {N : Nat} {Q : Post} {σ : Env} {w : World} {K : Env → World → Prop} {ops : Array Oper} {rest : List Oper} {d : Nat} {ty : TypeId} {pos : String} {af : Array Edge} {t ti : TypeId} {s x : Operand} {ik : IntKind}
    {base e size bytes n : Nat} {z : Value} (hN : d < N) (hu : P.underlying t = some (.slice e)) (hti : P.underlying ti = some (.int ik)) (hsz : Siz P e size) (hby : Byt P e bytes) (hz : Zer P e z) (hzs : z.cells.size = size) (h0 : 0 < size)
    (hs : ev σ s = .slice none 0 0) (hx : ev σ x = .int .i64 ((n : Nat) : Int)) (hn : 0 < n) (hbytes : n * bytes ≤ 140737488355328 ∧ n ≤ 8796093022208) (hbase : base ≤ w.heap.size)
    (k : ∀ cc w',Ext w w' → w'.ownsRow base e size (.slice (some ⟨w.heap.size,0,none⟩) 0 cc) 0 [] → n ≤ cc → WpL P N ops K Q rest (upd σ d (.slice (some ⟨w.heap.size,0,none⟩) n cc)) w') :
    WpL P N ops K Q (⟨some d,.call ⟨.builtin .append,#[s,x],#[t,ti]⟩,ty,pos,af,none⟩ :: rest) σ w := by
  unfold Siz at hsz; unfold Byt at hby; unfold Zer at hz
  cases hi : P.info? e with
  | none => rw [hi] at hsz; simp at hsz
  | some i =>
  rw [hi] at hsz hby hz
  simp at hsz hby hz
  subst hsz; subst hby
  have hge := grownCap_ge w n 0 e
  have hcm := grownCap_le_maxLen w n 0 e (by simp only [maxLen]; omega)
  refine WpL_val (v := .slice (some ⟨w.heap.size,0,none⟩) n (grownCap w n 0 e)) (w' := w.drew.alloc (.cells (Builtin.zeroCells z.cells n ++ Builtin.zeroCells z.cells (grownCap w n 0 e - n)) e)) rfl rfl hN ?_ (k _ _ ?_ ?_ hge)
  · have hn0 : n ≠ 0 := by omega
    have h1 : IntKind.i64.wrap ((n : Nat) : Int) = n := wI64 (by omega)
    have h2 : ¬ ((n : Int) < 0) := by omega
    have h3 : ¬ ((281474976710656 : Int) < (n : Int) * (i.bytes : Int)) := by
      have : ((n * i.bytes : Nat) : Int) = (n : Int) * (i.bytes : Int) := by simp
      omega
    have h4 : ¬ (9223372036854775807 < (n : Int)) := by omega
    have h5 : ¬ (281474976710656 < Builtin.nextslicecap n 0 * i.bytes) := by rw [nextslicecap_zero hn]; omega
    have h6 : ¬ (n * i.size = 0) := fun h => by rcases Nat.mul_eq_zero.1 h with h | h <;> omega
    have h7 : i.size ≠ 0 := by omega
    simp [execOp,resolve,invoke,builtin,hs,hx,Builtin.append_,run_underlying hu,run_underlying hti,sizeOf,typeInfo,zeroValue,hi,hz,hn0,h1,h2,h3,h4,h5,h7,asInt,asIntOf,Question.forced,run_firstCells_none,newRow,grownCap]
    exact fun h => absurd h h6
  · exact ⟨rfl,rfl,rfl,Nat.le_succ _,by simp,fun b hb _ => by first | exact heap_alloc_old w.drew _ b hb | exact heap_alloc_old w.drew _ hb⟩
  · refine ⟨by simp,.inr ⟨w.heap.size,_,_,rfl,hbase,heap_alloc_new w.drew _,Nat.zero_le _,hcm,?_,by simp⟩⟩
    simp only [Array.size_append,size_zeroCells,hzs,← Nat.add_mul]
    congr 1
    omega
theorem r_capSlice {P : Program} {σ : Env} {w : World} {dst : Option Tmp} {ty : TypeId} {pos : String} {af : Array Edge} {g : Option (Nat × Bool)} {t e : TypeId} {x : Operand} {ad : Option Addr} {n cap : Nat} (hu : P.underlying t = some (.slice e)) (hx : ev σ x = .slice ad n cap) :
  (execOp (ev σ) ⟨dst,.call ⟨.builtin .cap,#[x],#[t]⟩,ty,pos,af,g⟩).run P w = .ok (.value (.int .i64 cap)) w := by
 simp only [execOp,resolve,List.map_toArray,List.map_cons,List.map_nil,hx]
 simp [invoke,builtin,Builtin.cap_,run_underlying hu,goInt]
end Go.Proofs
namespace Go.Eng
open Go
def IterAt (w : World) (it b n : Nat) (seen : List Nat) : Prop := w.heap[it]? = some (.mapIter (some b) n seen.toArray n)
end Go.Eng
namespace Go.Proofs
open Go Go.Eng Go.Sort
section
variable {P : Program} {N : Nat} {Q : Post} {σ : Env} {w : World} {K : Env → World → Prop} {ops : Array Oper} {rest : List Oper} {d : Nat} {ty : TypeId} {pos : String} {af : Array Edge} {t : TypeId} {x y : Operand}
theorem s_make {e bytes n : Nat} {z : Value} (hN : d < N) (hu : P.underlying t = some (.slice e)) (hsz : Siz P e 1) (hby : Byt P e bytes) (hz : Zer P e z) (hz1 : z.cells = #[z]) (hx : ev σ x = .int .i64 ((n : Nat) : Int)) (hy : ev σ y = .int .i64 ((n : Nat) : Int)) (hb : n * bytes ≤ 140737488355328) (hn : n ≤ 140737488355328)
    (k : ∀ b w',New w w' b (List.replicate n z).toArray e → WpL P N ops K Q rest (upd σ d (.slice (some ⟨b,0,none⟩) n n)) w') : WpL P N ops K Q (⟨some d,.makeSlice t x y,ty,pos,af,none⟩ :: rest) σ w := by
  refine WpL_val (v := .slice (some ⟨w.heap.size,0,none⟩) n n) (w' := { w with heap := w.heap.push (.cells (List.replicate n z).toArray e (0,0)) }) rfl rfl hN ?_ (k _ _ (New.mk' w _ e))
  unfold Siz at hsz; unfold Byt at hby; unfold Zer at hz
  cases hi : P.info? e with
  | none => rw [hi] at hsz; simp at hsz
  | some i =>
  rw [hi] at hsz hby hz
  simp at hsz hby hz
  have h := run_make (P := P) w t e i _ hu hi hz .i64 .i64 ((n : Nat) : Int) ((n : Nat) : Int) (by omega) (Int.le_refl _) (by rw [hby]; have : ((bytes : Nat) : Int) * ((n : Nat) : Int) = (((n * bytes : Nat) : Nat) : Int) := (by rw [Int.natCast_mul,Int.mul_comm]); rw [this]; omega) (by omega)
  have hc : madeCells z.cells (n * i.size) = (List.replicate n z).toArray := by
    rw [hsz,Nat.mul_one,hz1]
    apply Array.ext'
    simp only [madeCells]
    apply List.ext_getElem?
    intro j
    simp only [Array.toList_map,List.getElem?_map,List.getElem?_replicate]
    rcases Nat.lt_or_ge j n with hj | hj
    · have h1 : (Array.range n).toList[j]? = some j := by simp [hj]
      rw [h1,if_pos hj]
      simp [Nat.mod_one]
    · have h1 : (Array.range n).toList[j]? = none := by simp; omega
      rw [h1,if_neg (by omega)]; rfl
  simp only [Int.toNat_natCast,hc] at h
  simp only [execOp,hx,hy,Sem.run_bind,h,Result.andThen_ok]
  rfl
end
def appF (base e size n : Nat) (xs : List Value) (old : Value) (hs : Nat) : Fct := fun v w => (∃ a c,v = .slice a n c) ∧ w.ownsRow base e size v n xs ∧ ∀ k,v.ownBlock = some k → old.ownBlock = some k ∨ hs ≤ k
theorem appF_ext (base e size n : Nat) (xs : List Value) (old : Value) (hs : Nat) : ∀ v w w',Ext w w' → appF base e size n xs old hs v w → appF base e size n xs old hs v w' := by
 rintro v w w' e ⟨h1,h2,h3⟩
 exact ⟨h1,own_ext h2 e,h3⟩
/-- The append to a slice of one's own, in a region that draws its order. -/
theorem DoesT_append {P : Program} {N : Nat} {σ : Env} {w : World} {dst : Option Tmp} {ty : TypeId} {pos : String} {af : Array Edge} {g : Option (Nat × Bool)} {M : Nat → Prop} {t : TypeId} {s x : Operand} {base e size bytes n m c bx ox hs : Nat} {z v : Value} {xs news : List Value} (hu : P.underlying t = some (.slice e)) (hsz : Siz P e size) (hby : Byt P e bytes) (hz : Zer P e z) (hzs : z.cells.size = size) (h0 : 0 < size)
    (he : ev σ s = v) (hown : w.ownsRow base e size v n xs) (hx : ev σ x = .slice (some ⟨bx,ox,none⟩) m c) (hl : news.length = m * size) (hnews : CellsAt w bx ox news) (h1 : ∀ u ∈ news,u.oneCell' = true)
    (h63 : n + m ≤ maxLen) (hbytes : (n + m) * bytes ≤ 140737488355328) (hbase : base ≤ w.heap.size) (hM : ∀ y,v.ownBlock = some y → M y) (hhs : hs ≤ w.heap.size) :
    DoesT M P N ⟨dst,.call ⟨.builtin .append,#[s,x],#[t,t]⟩,ty,pos,af,g⟩ (appF base e size (n + m) (xs ++ news) v hs) σ w := by
  unfold Siz at hsz; unfold Byt at hby; unfold Zer at hz
  cases hi : P.info? e with
  | none => rw [hi] at hsz; simp at hsz
  | some i =>
  rw [hi] at hsz hby hz
  simp at hsz hby hz
  have hcells : ∀ j u,news[j]? = some u → w.cell? ((⟨bx,ox,none⟩ : Addr).add j) = some u := fun j u hj => by rw [Addr.add_lit]; exact hnews j u hj
  obtain ⟨v',w',hr,h2,h3,_⟩ := run_append_own (P := P) w base t ty e i z size bytes hu hi hz hsz hby hzs h0 v n xs hown ⟨bx,ox,none⟩ m c news hl hcells h1 h63 hbytes hbase
  have hC : Chg (fun x => v.ownBlock = some x) w w' := ⟨h3.os,h3.tape,h3.output,append_drawn (P := P) hu hi hz hsz hby hown hl hcells h1 h63 hbytes hr,h3.size,fun b hb hn => h3.block b hb (fun h => hn h.symm)⟩
  have hW := append_where (P := P) hu hi hz hsz hby hzs h0 hown hl hcells h1 h63 hbytes hr
  refine DoesT_val (v := v') (w' := w') (by simp [execOp,resolve,invoke,builtin,he,hx,hr]) (hC.mono fun y _ hy => hM y hy) ⟨own_form h2,h2,fun k hk => ?_⟩
  rcases hW k hk with h4 | h4
  · exact .inl h4
  · exact .inr (Nat.le_trans hhs h4)
/-- A slice of one new element, whose cells are known. -/
def litF (e : Nat) (c : Array Value) (hs : Nat) : Fct := fun v w => ∃ b,v = .slice (some ⟨b,0,none⟩) 1 1 ∧ Blk w b c e ∧ hs ≤ b
theorem litF_ext (e : Nat) (c : Array Value) (hs : Nat) : ∀ v w w',Ext w w' → litF e c hs v w → litF e c hs v w' := by
 rintro v w w' x ⟨b,h1,h2,h3⟩
 exact ⟨b,h1,Ext.keep x h2,h3⟩
theorem DoesT_lit {P : Program} {N : Nat} {σ : Env} {w : World} {dst : Option Tmp} {ty : TypeId} {pos : String} {af : Array Edge} {g : Option (Nat × Bool)} {M : Nat → Prop} {t e n hs : Nat} {x : Operand} {v z : Value} {c : Array Value} (hu : P.underlying t = some (.slice e)) (hsz : Siz P e n) (hz : Zer P e z) (hx : ev σ x = v)
  (hl : ¬ (1 * n > 2 ^ 24)) (h0 : 1 * n ≠ 0) (hc : Instr.fill (fun i => some (i * n,n)) ((Array.range (1 * n)).map (z.cells[· % z.cells.size]!)) [(0,v)] = some c) (hhs : hs ≤ w.heap.size) :
  DoesT M P N ⟨dst,.buildSlice t 1 #[(0,x)],ty,pos,af,g⟩ (litF e c hs) σ w := by
 have hn := New.mk' w c e
 exact DoesT_val (run_buildSlice (parts := [(0,x)]) (ps := [(0,v)]) (by simp only [List.map,hx]) hu hsz hz hl h0 hc) (Ext.chg hn.ext) ⟨_,rfl,hn.blk,hhs⟩
abbrev TB : Nat := 4
structure LSt (To e sz : Nat) (w : World) (base : Nat) (vo : Value) (vs : List Value) (ns : List (Nat × List Value)) : Prop where
 o : w.ownsRow base To 1 vo ns.length vs
 len : vs.length = ns.length
 inn : ∀ (i : Nat) v p,vs[i]? = some v → ns[i]? = some p → w.ownsRow base e sz v p.1 p.2
 apo : ∀ (i : Nat) v b,vs[i]? = some v → v.ownBlock = some b → vo.ownBlock ≠ some b
theorem LSt.chg {M : Nat → Prop} {To e sz base : Nat} {w w' : World} {vo : Value} {vs : List Value} {ns : List (Nat × List Value)} (h : LSt To e sz w base vo vs ns) (c : Chg M w w') (hM : ∀ b,base ≤ b → b < w.heap.size → ¬ M b) : LSt To e sz w' base vo vs ns :=
 ⟨own_chg h.o c fun k hk => hM k (h.o.lt k hk).1 (h.o.lt k hk).2,h.len,fun i v l hv hl => own_chg (h.inn i v l hv hl) c fun k hk => hM k ((h.inn i v l hv hl).lt k hk).1 ((h.inn i v l hv hl).lt k hk).2,h.apo⟩
theorem LSt.ext {To e sz base : Nat} {w w' : World} {vo : Value} {vs : List Value} {ns : List (Nat × List Value)} (h : LSt To e sz w base vo vs ns) (c : Ext w w') : LSt To e sz w' base vo vs ns := h.chg c fun _ _ _ f => f
theorem LSt.on {To e sz base n : Nat} {w : World} {vo : Value} {vs : List Value} {ns : List (Nat × List Value)} (h : LSt To e sz w base vo vs ns) (hn : n = ns.length) : w.ownsRow base To 1 vo n vs := by subst hn; exact h.o
/-- A slice that was made later is appended. -/
theorem LSt.push {To e sz base bu n m : Nat} {w w' : World} {vo v' u : Value} {vs us : List Value} {ns : List (Nat × List Value)} (h : LSt To e sz w base vo vs ns) (hn : n = ns.length) (hu : w.ownsRow bu e sz u m us) (hb : base ≤ bu) (hbu : ∀ k,vo.ownBlock = some k → k < bu)
  (Ov : w'.ownsRow base To 1 v' (n + 1) (vs ++ [u])) (Cv : Chg (fun x => vo.ownBlock = some x) w w') (Wv : ∀ k,v'.ownBlock = some k → vo.ownBlock = some k ∨ w.heap.size ≤ k) : LSt To e sz w' base v' (vs ++ [u]) (ns ++ [(m,us)]) := by
 have hold : ∀ (i : Nat) v,(vs ++ [u])[i]? = some v → vs[i]? = some v ∨ (i = vs.length ∧ v = u) := by
  intro i v hv
  rcases Nat.lt_or_ge i vs.length with h1 | h1
  ·left; rwa [List.getElem?_append_left h1] at hv
  ·right
   rw [List.getElem?_append_right h1] at hv
   have h2 := lt_of_get hv
   simp at h2
   obtain rfl : i = vs.length := by omega
   simp at hv
   exact ⟨rfl,hv.symm⟩
 have hun : ∀ b,u.ownBlock = some b → vo.ownBlock ≠ some b := fun b hb' e' => by
  have h1 := hbu b e'
  have h2 := (hu.lt b hb').1
  omega
 refine ⟨by rw [List.length_append,← hn]; exact Ov,by simp [h.len],?_,?_⟩
 ·intro i v p hv hp
  rcases hold i v hv with h1 | ⟨h1,rfl⟩
  ·rw [List.getElem?_append_left (by have := lt_of_get h1; have := h.len; omega)] at hp
   exact own_chg (h.inn i v p h1 hp) Cv fun k hk => h.apo i v k h1 hk
  ·rw [h1,h.len] at hp
   simp at hp
   subst hp
   exact own_low (own_chg hu Cv fun k hk => hun k hk) hb
 ·intro i v b hv hb1 hb2
  rcases hold i v hv with h1 | ⟨_,rfl⟩
  ·rcases Wv b hb2 with h2 | h2
   ·exact h.apo i v b h1 hb1 h2
   ·obtain ⟨p,hp⟩ := get_of_lt (l := ns) (i := i) (by have := lt_of_get h1; have := h.len; omega)
    have := ((h.inn i v p h1 hp).lt b hb1).2
    omega
  ·rcases Wv b hb2 with h2 | h2
   ·exact hun b hb1 h2
   ·have := (hu.lt b hb1).2; omega
theorem own_writeG {w w' : World} {base e size n cap g i : Nat} {xs : List Value} {cur : Array Value} {v : Value} (h : w.ownsRow base e size (.slice (some ⟨g,0,none⟩) n cap) n xs) (hB : Blk w g cur e) (hi : i < n * size) (hB' : Blk w' g (cur.setIfInBounds i v) e) : w'.ownsRow base e size (.slice (some ⟨g,0,none⟩) n cap) n (xs.set i v) := by
 rcases h.2 with ⟨h1,_⟩ | ⟨g',cap',cur',hv,hbg,hg,hnc,hcm,hcs,htake⟩
 ·simp at h1
 ·simp only [Value.slice.injEq,Option.some.injEq,Addr.mk.injEq,and_true] at hv
  obtain ⟨rfl,_,rfl⟩ := hv
  unfold Blk at hB hB'
  rw [hB] at hg
  simp only [Option.some.injEq,Obj.cells.injEq,and_true] at hg
  obtain ⟨rfl,_⟩ := hg
  refine ⟨by simpa using h.1,.inr ⟨g,cap,_,rfl,hbg,hB',hnc,hcm,by simpa using hcs,?_⟩⟩
  rw [← htake,Array.toList_setIfInBounds,List.take_set]
theorem own_blkG {w : World} {base e size n cap g : Nat} {xs : List Value} (h : w.ownsRow base e size (.slice (some ⟨g,0,none⟩) n cap) n xs) : ∃ cur,Blk w g cur e ∧ n * size ≤ cur.size := by
 rcases h.2 with ⟨h1,_⟩ | ⟨g',cap',cur',hv,hbg,hg,hnc,hcm,hcs,htake⟩
 ·simp at h1
 ·simp only [Value.slice.injEq,Option.some.injEq,Addr.mk.injEq,and_true] at hv
  obtain ⟨rfl,_,rfl⟩ := hv
  exact ⟨cur',hg,by rw [hcs]; exact Nat.mul_le_mul_right _ hnc⟩
/-- The same, and no two members share a block: a member may grow. -/
structure GSt (To e sz : Nat) (w : World) (base : Nat) (vo : Value) (vs : List Value) (ns : List (Nat × List Value)) : Prop where
 l : LSt To e sz w base vo vs ns
 ap : ∀ (i j : Nat) v u b,vs[i]? = some v → vs[j]? = some u → v.ownBlock = some b → u.ownBlock = some b → i = j
theorem GSt.chg {M : Nat → Prop} {To e sz base : Nat} {w w' : World} {vo : Value} {vs : List Value} {ns : List (Nat × List Value)} (h : GSt To e sz w base vo vs ns) (c : Chg M w w') (hM : ∀ b,base ≤ b → b < w.heap.size → ¬ M b) : GSt To e sz w' base vo vs ns := ⟨h.l.chg c hM,h.ap⟩
theorem GSt.ext {To e sz base : Nat} {w w' : World} {vo : Value} {vs : List Value} {ns : List (Nat × List Value)} (h : GSt To e sz w base vo vs ns) (c : Ext w w') : GSt To e sz w' base vo vs ns := ⟨h.l.ext c,h.ap⟩
theorem GSt.made {To e sz base b n : Nat} {w : World} (hB : Blk w b (List.replicate n (Value.slice none 0 0)).toArray To) (hb : base ≤ b) (hn : n ≤ 9223372036854775807) (hbw : base ≤ b) : GSt To e sz w base (.slice (some ⟨b,0,none⟩) n n) (List.replicate n (.slice none 0 0)) (List.replicate n (0,[])) := by
 have hv : ∀ (i : Nat) v,(List.replicate n (Value.slice none 0 0))[i]? = some v → v = .slice none 0 0 := fun i v h => by
  have := List.mem_of_getElem? h
  exact (List.mem_replicate.1 this).2
 refine ⟨⟨?_,by simp,fun i v p h hp => ?_,fun i v b h h2 => ?_⟩,fun i j v u b h _ h2 => ?_⟩
 ·rw [List.length_replicate]
  exact ⟨by simp,.inr ⟨b,n,_,rfl,hb,hB,Nat.le_refl _,hn,by simp,by simp⟩⟩
 ·have hp2 := (List.mem_replicate.1 (List.mem_of_getElem? hp)).2
  subst hp2
  rw [hv i v h]
  exact World.ownsRow_nil _ _ _ _
 ·rw [hv i v h] at h2; cases h2
 ·rw [hv i v h] at h2; cases h2
/-- One member grows, and its new slice is stored in the outer one. -/
theorem GSt.grow {To e sz : Nat} {w w' w2 : World} {base g cap k n m m' : Nat} {v v' : Value} {vs : List Value} {ns : List (Nat × List Value)} {xs xs' : List Value} {cur : Array Value} (h : GSt To e sz w base (.slice (some ⟨g,0,none⟩) n cap) vs ns) (hn : n = ns.length) (hv : vs[k]? = some v) (hp : ns[k]? = some (m,xs))
  (Ov : w'.ownsRow base e sz v' m' xs') (Cv : Chg (fun x => v.ownBlock = some x) w w') (Wv : ∀ k,v'.ownBlock = some k → v.ownBlock = some k ∨ w.heap.size ≤ k)
  (hB : Blk w' g cur To) (P2 : Put w' w2 g (cur.setIfInBounds k v') To) : GSt To e sz w2 base (.slice (some ⟨g,0,none⟩) n cap) (vs.set k v') (ns.set k (m',xs')) := by
 have hkl := lt_of_get hv
 have hgv : v.ownBlock ≠ some g := fun e => h.l.apo k v g hv e rfl
 have hgl := (h.l.o.lt g rfl).2
 have hv'g : v'.ownBlock ≠ some g := fun e => by rcases Wv g e with h1 | h1; exact hgv h1; omega
 have ho1 : w'.ownsRow base To 1 (.slice (some ⟨g,0,none⟩) n cap) ns.length vs := own_chg h.l.o Cv fun q hq => by cases hq; exact hgv
 rw [← hn] at ho1
 have ho2 := own_writeG ho1 hB (i := k) (by have := h.l.len; omega) P2.blk
 have hset : ∀ (i : Nat) u,(vs.set k v')[i]? = some u → (i = k ∧ u = v') ∨ (i ≠ k ∧ vs[i]? = some u) := by
  intro i u hu
  rw [List.getElem?_set] at hu
  split at hu
  ·rename_i he
   exact .inl ⟨he.symm,(Option.some.inj hu).symm⟩
  ·rename_i he
   exact .inr ⟨fun e => he e.symm,hu⟩
 have hsome : ∀ (i : Nat) u,vs[i]? = some u → ∃ q,ns[i]? = some q := fun i u hu => get_of_lt (by have := lt_of_get hu; have := h.l.len; omega)
 have hne : ∀ (i : Nat) u b,i ≠ k → vs[i]? = some u → u.ownBlock = some b → v.ownBlock ≠ some b ∧ v'.ownBlock ≠ some b ∧ b ≠ g := by
  intro i u b hi hu hb
  have h1 : v.ownBlock ≠ some b := fun e => hi (h.ap i k u v b hu hv hb e)
  refine ⟨h1,fun e => ?_,fun e => h.l.apo i u b hu hb (by rw [e]; rfl)⟩
  rcases Wv b e with h2 | h2
  ·exact h1 h2
  ·obtain ⟨q,hq⟩ := hsome i u hu
   have := ((h.l.inn i u q hu hq).lt b hb).2
   omega
 refine ⟨⟨by rw [List.length_set,← hn]; exact ho2,by simp [h.l.len],?_,?_⟩,?_⟩
 ·intro i u q hu hq
  rcases hset i u hu with ⟨rfl,rfl⟩ | ⟨h1,h2⟩
  ·rw [List.getElem?_set,if_pos rfl,if_pos (by have := h.l.len; omega)] at hq
   have hq' := Option.some.inj hq
   subst hq'
   exact own_chg Ov P2.chg fun b hb e => hv'g (e ▸ hb)
  ·rw [List.getElem?_set,if_neg (fun e => h1 e.symm)] at hq
   exact own_chg (own_chg (h.l.inn i u q h2 hq) Cv fun b hb => (hne i u b h1 h2 hb).1) P2.chg fun b hb e => (hne i u b h1 h2 hb).2.2 e
 ·intro i u b hu hb
  rcases hset i u hu with ⟨rfl,rfl⟩ | ⟨h1,h2⟩
  ·intro e; cases e; exact hv'g hb
  ·exact h.l.apo i u b h2 hb
 ·intro i j u z b hu hz hb hb'
  rcases hset i u hu with ⟨rfl,rfl⟩ | ⟨h1,h2⟩ <;> rcases hset j z hz with ⟨rfl,rfl⟩ | ⟨h3,h4⟩
  ·rfl
  ·exact absurd hb (hne j z b h3 h4 hb').2.1
  ·exact absurd hb' (hne i u b h1 h2 hb).2.1
  ·exact h.ap i j u z b h2 h4 hb hb'
abbrev TEd : Nat := 74
abbrev TPr : Nat := 47
def edRow (e : Ed) (u : Value) : List Value := [.int .i64 e.1,.int .i64 e.2.1,u]
def EdgesAt (w : World) (v : Value) (es : List Ed) : Prop := ∃ rows : List (List Value),SlAt w 3 v rows ∧ rows.length = es.length ∧ ∀ (i : Nat) e row,es[i]? = some e → rows[i]? = some row → ∃ u,row = edRow e u ∧ SpansAt w u e.2.2
theorem EdgesAt.ext {w w' : World} {v : Value} {es : List Ed} (h : EdgesAt w v es) (x : Ext w w') : EdgesAt w' v es := by
 obtain ⟨rows,h1,h2,h3⟩ := h
 exact ⟨rows,h1.ext x,h2,fun i e row he hr => let ⟨u,h4,h5⟩ := h3 i e row he hr; ⟨u,h4,h5.ext x⟩⟩
theorem edges_cells {w : World} {a : Option Addr} {n c : Nat} {es : List Ed} (h : EdgesAt w (.slice a n c) es) (hn : 0 < n) :
  ∃ b o,a = some ⟨b,o,none⟩ ∧ ∀ (i : Nat) e,es[i]? = some e → ∃ ra rc,CellsAt w b (o + i * 3) [.int .i64 e.1,.int .i64 e.2.1,.slice ra e.2.2.length rc] ∧ SpansAt w (.slice ra e.2.2.length rc) e.2.2 := by
 obtain ⟨rows,h1,h2,h3⟩ := h
 obtain ⟨b,o,ha,h4⟩ := SlAt.at h1 hn
 refine ⟨b,o,ha,fun i e he => ?_⟩
 obtain ⟨row,hr⟩ := get_of_lt (l := rows) (i := i) (by have := lt_of_get he; omega)
 obtain ⟨u,rfl,h5⟩ := h3 i e row he hr
 obtain ⟨ra,rc,rfl⟩ := SlAt.form h5
 rw [List.length_map] at h5
 exact ⟨ra,rc,by simpa [edRow] using h4 i _ hr,h5⟩
def NfAt (w : World) (n : Nf) (vs : List Value) : Prop := ∃ ea ec pa pc xa xc,vs = [.int .i64 n.states,.int .i64 n.start,.slice ea n.ends.length ec,.slice pa n.eps.length pc,.slice xa n.edges.length xc] ∧
 IntsAt w (.slice ea n.ends.length ec) n.ends ∧ SpansAt w (.slice pa n.eps.length pc) n.eps ∧ EdgesAt w (.slice xa n.edges.length xc) n.edges
theorem NfAt.ext {w w' : World} {n : Nf} {vs : List Value} (h : NfAt w n vs) (x : Ext w w') : NfAt w' n vs := by
 obtain ⟨ea,ec,pa,pc,xa,xc,h1,h2,h3,h4⟩ := h
 exact ⟨ea,ec,pa,pc,xa,xc,h1,h2.ext x,h3.ext x,h4.ext x⟩
def SucP (eps : List (Int × Int)) (n k : Nat) (to : List (List Int)) : Prop := to.length = n ∧ ∀ s : Nat,s < n → to[s]? = some (sucL (eps.take k) s)
theorem SucP.start (eps : List (Int × Int)) (n : Nat) : SucP eps n 0 (List.replicate n []) := by
 refine ⟨by simp,fun s hs => ?_⟩
 rw [List.getElem?_replicate,if_pos hs]; rfl
theorem SucP.add {eps : List (Int × Int)} {n k : Nat} {to : List (List Int)} (h : SucP eps n k to) {p : Int × Int} (hp : eps[k]? = some p) {a : Nat} (ha : p.1 = (a : Int)) {l : List Int} (hl : to[a]? = some l) : SucP eps n (k + 1) (to.set a (l ++ [p.2])) := by
 refine ⟨by rw [List.length_set]; exact h.1,fun s hs => ?_⟩
 have ht : eps.take (k + 1) = eps.take k ++ [p] := by rw [List.take_add_one,hp]; rfl
 have hal := lt_of_get hl
 rw [ht,sucL_snoc ha,List.getElem?_set]
 by_cases e : a = s
 ·subst e
  have := h.2 a hs
  rw [hl] at this
  rw [if_pos rfl,if_pos hal,if_pos rfl,Option.some.inj this]
 ·rw [if_neg e,if_neg (fun h => e h.symm)]
  exact h.2 s hs
theorem SucP.len {eps : List (Int × Int)} {n k : Nat} {to : List (List Int)} (h : SucP eps n k to) {s : Nat} {l : List Int} (hl : to[s]? = some l) : l.length ≤ eps.length := by
 have h1 := h.2 s (by rw [← h.1]; exact lt_of_get hl)
 rw [hl] at h1
 rw [Option.some.inj h1]
 exact Nat.le_trans (sucL_len _ _) (by rw [List.length_take]; exact Nat.min_le_right _ _)
theorem SucP.full {eps : List (Int × Int)} {n k : Nat} {to : List (List Int)} (h : SucP eps n k to) (hk : eps.length ≤ k) {s : Nat} {l : List Int} (hl : to[s]? = some l) (t : Int) : t ∈ l ↔ ((s : Int),t) ∈ eps := by
 have h1 := h.2 s (by rw [← h.1]; exact lt_of_get hl)
 rw [hl,List.take_of_length_le hk] at h1
 rw [Option.some.inj h1]
 exact sucL_mem
end Go.Proofs
namespace Go.Eng
open Go
def edgeB (l : List Oper) (t u : Nat) : Bool := match l[t]? with
  | some o => o.after.any fun e => Region.binds .any e && Nat.beq e.on u
  | none => false
def guardB (hd : List Bool) (o : Oper) : Bool := match o.guard with | some p => hd.getD p.1 false | none => true
def permB (ops : Array Oper) : List Nat → Array Bool → Bool
  | [],listed => (Region.ready .any ops listed).isEmpty
  | k :: ks,listed => decide (Region.ready .any ops listed = [k]) && permB ops ks (listed.setIfInBounds k true)
theorem wpAny_of_perm {P : Program} {ops : Array Oper} {Q' : Exit → Act → World → Prop} : ∀ (ks : List Nat) (listed : Array Bool) (a : Act) (w : World),permB ops ks listed = true → wpList P ops Q' (ks.filterMap fun k => ops[k]?) a w → wpAny P .any ops Q' ks.length listed a w
  | [],_,_,_,hB,h => ⟨by simpa [permB] using hB,h⟩
  | k :: ks,listed,a,w,hB,h => by
    simp only [permB,Bool.and_eq_true,decide_eq_true_eq] at hB
    refine ⟨fun h1 => (by rw [hB.1] at h1; cases h1),fun i hi => ?_⟩
    have hi0 := hi
    rw [hB.1] at hi
    have hik : i = k := by simpa using hi
    subst hik
    obtain ⟨_,o,h0,_⟩ := mem_ready.1 hi0
    have hw : wpOp P ops Q' i (wpList P ops Q' (ks.filterMap fun k => ops[k]?)) a w := by
      rw [List.filterMap_cons,h0] at h
      unfold wpOp; simp only [h0]; exact h
    exact wpOp_mono (fun a' w' h' => wpAny_of_perm ks _ a' w' hB.2 h') hw
/-- How many of the head are yet to come. -/
def leftH (hd : List Bool) (listed : List Bool) : Nat := ((hd.zip listed).filter fun p => p.1 && !p.2).length
theorem leftH_set : ∀ {hd listed : List Bool} {i : Nat},hd[i]? = some true → listed[i]? = some false → leftH hd (listed.set i true) + 1 = leftH hd listed
  | [],_,_,h,_ => by simp at h
  | _ :: _,[],_,_,h => by simp at h
  | h :: hd,x :: listed,0,h1,h2 => by
    simp at h1 h2
    subst h1; subst h2
    simp [leftH]
  | h :: hd,x :: listed,i + 1,h1,h2 => by
    have := leftH_set (hd := hd) (listed := listed) (i := i) (by simpa using h1) (by simpa using h2)
    simp only [leftH,List.set_cons_succ,List.zip_cons_cons,List.filter_cons] at this ⊢
    split
    · simp only [List.length_cons]; omega
    · exact this
theorem leftH_zero : ∀ {hd listed : List Bool},hd.length = listed.length → leftH hd listed = 0 → (∀ (i : Nat),hd[i]? = some false → listed[i]? = some false) → listed = hd
  | [],[],_,_,_ => rfl
  | [],_ :: _,h,_,_ => by simp at h
  | _ :: _,[],h,_,_ => by simp at h
  | h :: hd,x :: listed,hl,h0,ht => by
    have e1 : leftH hd listed = 0 := by
      simp only [leftH,List.zip_cons_cons,List.filter_cons] at h0 ⊢
      split at h0
      · simp at h0
      · exact h0
    have e2 := leftH_zero (by simpa using hl) e1 fun i hi => by have := ht (i + 1) (by simpa using hi); simpa using this
    have e3 : x = h := by
      cases h with
      | false => have := ht 0 rfl; simpa using this
      | true =>
        cases x with
        | true => rfl
        | false => simp [leftH] at h0
    rw [e2,e3]
theorem leftH_pos : ∀ {hd listed : List Bool},0 < leftH hd listed → ∃ i : Nat,hd[i]? = some true ∧ listed[i]? = some false
  | [],_,h => by simp [leftH] at h
  | _ :: _,[],h => by simp [leftH] at h
  | h :: hd,x :: listed,hp => by
    simp only [leftH,List.zip_cons_cons,List.filter_cons] at hp
    split at hp
    · rename_i hc
      simp at hc
      exact ⟨0,by simp [hc.1],by simp [hc.2]⟩
    · obtain ⟨i,h1,h2⟩ := leftH_pos (hd := hd) (listed := listed) hp
      exact ⟨i + 1,by simpa using h1,by simpa using h2⟩
theorem getD_arr {listed : Array Bool} {i : Nat} {b d : Bool} (h : listed.toList[i]? = some b) : listed.getD i d = b := by
 have : listed[i]? = some b := by simpa using h
 simp [Array.getD_eq_getD_getElem?,this]
section
variable {P : Program} {N : Nat} {σ : Env} {w : World} {dst : Option Tmp} {ty : TypeId} {pos : String} {af : Array Edge} {g : Option (Nat × Bool)} {t : TypeId} {x y z u : Operand} {a b c d : Value} {i j k m : Nat}
theorem bld1 (h : ev σ x = a) : ([(i,x)].map fun (i,x) => (i,ev σ x)) = [(i,a)] := by simp only [List.map,h]
theorem bld3 (h : ev σ x = a) (h2 : ev σ y = b) (h3 : ev σ z = c) : ([(i,x),(j,y),(k,z)].map fun (i,x) => (i,ev σ x)) = [(i,a),(j,b),(k,c)] := by simp only [List.map,h,h2,h3]
end
def two (c1 c2 : Nat) (M1 M2 : Nat → Prop) (p : Nat) : Nat → Prop := bif Nat.beq p c1 then M1 else bif Nat.beq p c2 then M2 else none1
/-- Waits that follow from the given ones. -/
def closB1 (wss cl : List (List Nat)) (i : Nat) : Bool := (cl.getD i []).all fun c => (wss.getD i []).contains c || (wss.getD i []).any fun e => (cl.getD e []).contains c
def closB (wss cl : List (List Nat)) : Bool := (List.range wss.length).all (closB1 wss cl)
theorem closB_get {wss cl : List (List Nat)} (h : closB wss cl = true) {i c : Nat} {ws : List Nat} (hw : wss[i]? = some ws) (hc : (cl.getD i []).contains c = true) : c ∈ ws ∨ ∃ e ∈ ws,(cl.getD e []).contains c = true := by
 have h1 := List.all_eq_true.1 h i (List.mem_range.2 (lt_of_get hw))
 have h2 := List.all_eq_true.1 h1 c (by simpa using hc)
 rw [List.getD_eq_getElem?_getD,hw,Option.getD_some,Bool.or_eq_true] at h2
 rcases h2 with h2 | h2
 ·exact .inl (by simpa using h2)
 ·obtain ⟨e,he,h3⟩ := List.any_eq_true.1 h2
  exact .inr ⟨e,he,h3⟩
abbrev FctS := (Nat → Bool) → Env → Fct
abbrev eF (u : Value) : FctS := fun _ _ v _ => v = u
def HoldsS (ds : List Nat) (Fs : List FctS) (S : Nat → Bool) (j : Nat) (σ : Env) (w : World) : Prop := ∀ d F,ds[j]? = some d → Fs[j]? = some F → F S σ (σ d) w
def insS (S : Nat → Bool) (i : Nat) : Nat → Bool := fun j => bif Nat.beq j i then true else S j
theorem insS_self (S : Nat → Bool) (i : Nat) : insS S i i = true := by simp [insS]
theorem insS_ne {S : Nat → Bool} {i j : Nat} (h : j ≠ i) : insS S i j = S j := by
 have : Nat.beq j i = false := by cases hb : Nat.beq j i; rfl; exact absurd (Nat.eq_of_beq_eq_true hb) h
 simp [insS,this]
/-- The blocks that the operations change. -/
def MsL : List (Nat × (Nat → Prop)) → Nat → Nat → Prop
  | [],_,_ => False
  | p :: r,j,y => (j = p.1 ∧ p.2 y) ∨ MsL r j y
theorem MsL_or {c : Nat} {M : Nat → Prop} {r : List (Nat × (Nat → Prop))} {j y : Nat} (h : MsL ((c,M) :: r) j y) : (j = c ∧ M y) ∨ MsL r j y := h
theorem xN0 {S : Nat → Bool} {w w' : World} (X : Chg (fun y => ∃ j,S j = true ∧ MsL [] j y) w w') : Chg none1 w w' := X.mono fun y _ ⟨_,_,h⟩ => h.elim
theorem xN1 {S : Nat → Bool} {w w' : World} {c : Nat} {M : Nat → Prop} (hN : S c = false) (X : Chg (fun y => ∃ j,S j = true ∧ MsL [(c,M)] j y) w w') : Chg none1 w w' := X.mono fun y _ ⟨j,hj,h⟩ => by
  rcases MsL_or h with ⟨rfl,_⟩ | h0
  · rw [hj] at hN; cases hN
  · exact h0.elim
theorem xN2 {S : Nat → Bool} {w w' : World} {c d : Nat} {M M2 : Nat → Prop} (hN : S c = false) (hN2 : S d = false) (X : Chg (fun y => ∃ j,S j = true ∧ MsL [(c,M),(d,M2)] j y) w w') : Chg none1 w w' := X.mono fun y _ ⟨j,hj,h⟩ => by
  rcases MsL_or h with ⟨rfl,_⟩ | h
  · rw [hj] at hN; cases hN
  rcases MsL_or h with ⟨rfl,_⟩ | h0
  · rw [hj] at hN2; cases hN2
  · exact h0.elim
theorem xM1 {S : Nat → Bool} {w w' : World} {c : Nat} {M : Nat → Prop} (X : Chg (fun y => ∃ j,S j = true ∧ MsL [(c,M)] j y) w w') : Chg M w w' := X.mono fun y _ ⟨j,hj,h⟩ => by
  rcases MsL_or h with ⟨_,h⟩ | h0
  · exact h
  · exact h0.elim
theorem xM2 {S : Nat → Bool} {w w' : World} {c d : Nat} {M M2 : Nat → Prop} (hN2 : S d = false) (X : Chg (fun y => ∃ j,S j = true ∧ MsL [(c,M),(d,M2)] j y) w w') : Chg M w w' := X.mono fun y _ ⟨j,hj,h⟩ => by
  rcases MsL_or h with ⟨_,h⟩ | h
  · exact h
  rcases MsL_or h with ⟨rfl,_⟩ | h0
  · rw [hj] at hN2; cases hN2
  · exact h0.elim
def dagOneS (N i : Nat) (hd : List Bool) (o : Oper) (d : Nat) (ws : List Nat) : Bool :=
 (match o.dst with | some d' => Nat.beq d' d && Nat.blt d N | none => Nat.ble N d) && (o.after.all fun e => !Region.binds .any e || (Nat.blt e.on i && hd.getD e.on false)) && (ws.all fun j => o.after.any fun e => Region.binds .any e && Nat.beq e.on j) && guardB hd o
def dagSB (N : Nat) (hd : List Bool) : Nat → List Oper → List Nat → List (List Nat) → List Bool → Bool
  | _,[],[],[],[] => true
  | i,o :: l,d :: ds,ws :: wss,h :: hs => (bif h then dagOneS N i hd o d ws else Nat.ble N d) && dagSB N hd (i + 1) l ds wss hs
  | _,_,_,_,_ => false
theorem dagSB_get {N : Nat} {hd : List Bool} : ∀ {i : Nat} {l : List Oper} {ds : List Nat} {wss : List (List Nat)} {hs : List Bool},dagSB N hd i l ds wss hs = true → ∀ {j : Nat} {o : Oper},l[j]? = some o → ∃ d ws h,ds[j]? = some d ∧ wss[j]? = some ws ∧ hs[j]? = some h ∧ (bif h then dagOneS N (i + j) hd o d ws else Nat.ble N d) = true
  | _,[],_,_,_,_,j,o,h => by simp at h
  | i,x :: l,[],_,_,hB,_,_,_ => by simp [dagSB] at hB
  | i,x :: l,d :: ds,[],_,hB,_,_,_ => by simp [dagSB] at hB
  | i,x :: l,d :: ds,ws :: wss,[],hB,_,_,_ => by simp [dagSB] at hB
  | i,x :: l,d :: ds,ws :: wss,h0 :: hs,hB,j,o,h => by
    simp only [dagSB,Bool.and_eq_true] at hB
    cases j with
    | zero => simp at h; subst h; exact ⟨d,ws,h0,rfl,rfl,rfl,hB.1⟩
    | succ j =>
      simp at h
      obtain ⟨d',ws',h',h1,h2,h3,h4⟩ := dagSB_get hB.2 h
      exact ⟨d',ws',h',by simpa using h1,by simpa using h2,by simpa using h3,by rw [show i + (j + 1) = i + 1 + j from by omega]; exact h4⟩
theorem dagSB_len {N : Nat} {hd : List Bool} : ∀ {i : Nat} {l : List Oper} {ds : List Nat} {wss : List (List Nat)} {hs : List Bool},dagSB N hd i l ds wss hs = true → ds.length = l.length ∧ hs.length = l.length ∧ wss.length = l.length
  | _,[],[],[],[],_ => ⟨rfl,rfl,rfl⟩
  | _,[],[],[],_ :: _,hB => by simp [dagSB] at hB
  | _,[],[],_ :: _,_,hB => by simp [dagSB] at hB
  | _,[],_ :: _,_,_,hB => by simp [dagSB] at hB
  | i,x :: l,[],_,_,hB => by simp [dagSB] at hB
  | i,x :: l,d :: ds,[],_,hB => by simp [dagSB] at hB
  | i,x :: l,d :: ds,ws :: wss,[],hB => by simp [dagSB] at hB
  | i,x :: l,d :: ds,ws :: wss,h0 :: hs,hB => by
    simp only [dagSB,Bool.and_eq_true] at hB
    have := dagSB_len hB.2
    simp [this.1,this.2.1,this.2.2]
def DagStepS (P : Program) (N : Nat) (ds : List Nat) (Fs : List FctS) (σ : Env) (w : World) (Ms : Nat → Nat → Prop) (cl : List (List Nat)) (i : Nat) (o : Oper) (ws : List Nat) (F : FctS) : Prop :=
 ∀ (S : Nat → Bool) σ' w',S i = false → (∀ j,(cl.getD j []).contains i = true → S j = false) → Chg (fun y => ∃ j,S j = true ∧ Ms j y) w w' → (∀ t,ds.contains t = false → σ' t = σ t) → (∀ j d,ds[j]? = some d → S j = false → σ' d = σ d) → (∀ j,ws.contains j = true → S j = true ∧ HoldsS ds Fs S j σ' w') →
  (Guarded ds o σ' ∧ DoesT (Ms i) P N o (fun v w => F (insS S i) σ' (Go.Eng.valOf o v) w) σ' w') ∨ (Unmet ds o σ' ∧ F (insS S i) σ' undef w')
/-- A fact lasts while other operations are done. -/
def StabS (Ms : Nat → Nat → Prop) (i : Nat) (ws : List Nat) (F : FctS) : Prop := ∀ p,p ≠ i → ws.contains p = false → ∀ S σ v w w',S i = true → S p = false → Chg (Ms p) w w' → F S σ v w → F (insS S p) σ v w'
/-- A fact speaks of the values of the operations that it waits for alone. -/
def LocS (ds : List Nat) (ws : List Nat) (F : FctS) : Prop := ∀ S (σ1 σ2 : Env),(∀ j d,ws.contains j = true → ds[j]? = some d → σ2 d = σ1 d) → ∀ v w,F S σ1 v w → F S σ2 v w
inductive DagStepsS (P : Program) (N : Nat) (ds : List Nat) (Fs : List FctS) (σ : Env) (w : World) (Ms : Nat → Nat → Prop) (cl : List (List Nat)) : Nat → List Oper → List (List Nat) → List Bool → List FctS → Prop where
  | nil {i : Nat} : DagStepsS P N ds Fs σ w Ms cl i [] [] [] []
  | cons {i : Nat} {o : Oper} {ws : List Nat} {F : FctS} {l : List Oper} {wss : List (List Nat)} {hs : List Bool} {Gs : List FctS} (s : StabS Ms i ws F) (lc : LocS ds ws F) (h : DagStepS P N ds Fs σ w Ms cl i o ws F) (t : DagStepsS P N ds Fs σ w Ms cl (i + 1) l wss hs Gs) : DagStepsS P N ds Fs σ w Ms cl i (o :: l) (ws :: wss) (true :: hs) (F :: Gs)
  | tail {i : Nat} {o : Oper} {ws : List Nat} {F : FctS} {l : List Oper} {wss : List (List Nat)} {hs : List Bool} {Gs : List FctS} (t : DagStepsS P N ds Fs σ w Ms cl (i + 1) l wss hs Gs) : DagStepsS P N ds Fs σ w Ms cl i (o :: l) (ws :: wss) (false :: hs) (F :: Gs)
def allS (hd : List Bool) : Nat → Bool := fun j => hd.getD j false
def DoesX (M : Nat → Prop) (ch : List PanicEntry) (X : World → Prop) (P : Program) (N : Nat) (o : Oper) (R : Fct) (σ : Env) (w : World) : Prop :=
 ∀ dz a,Ok dz N a → env a = σ → ∀ (Q : Exit → Act → World → Prop) (K : Act → World → Prop),(∀ v w',Chg M w w' → R v w' → K (a.put o.dst v) w') → (∀ w',Chg M w w' → X w' → Q (.panic ch) a w') → o.wp P a w K Q
theorem DoesT.x {M : Nat → Prop} {ch : List PanicEntry} {X : World → Prop} {P : Program} {N : Nat} {o : Oper} {R : Fct} {σ : Env} {w : World} (h : DoesT M P N o R σ w) : DoesX M ch X P N o R σ w := fun dz a ha he Q K hK _ => h dz a ha he Q K hK
theorem DoesX_enter {M : Nat → Prop} {ch : List PanicEntry} {X : World → Prop} {P : Program} {N : Nat} {o : Oper} {R : Fct} {σ : Env} {w : World} {f : FuncId} {args : Array Value} (hr : (execOp (ev σ) o).run P w = .ok (.enter f args) w) (hc : RetX P ch f args w (fun v w' => R v w' ∧ Chg M w w') (fun w' => X w' ∧ Chg M w w')) : DoesX M ch X P N o R σ w := by
 intro dz a ha he Q K hK hX
 unfold Oper.wp
 rw [eval_env,he,hr]
 simp only [Oper.upon]
 refine Calls.mono hc ?_
 rintro e w' (⟨v,rfl,r,c⟩ | ⟨rfl,x,c⟩)
 ·exact hK v w' c r
 ·exact hX w' c x
theorem DoesX.weak {M : Nat → Prop} {ch : List PanicEntry} {X : World → Prop} {P : Program} {N : Nat} {o : Oper} {R R' : Fct} {σ : Env} {w : World} (h : DoesX M ch X P N o R σ w) (hr : ∀ v w',Chg M w w' → R v w' → R' v w') : DoesX M ch X P N o R' σ w := fun dz a ha he Q K hK hX => h dz a ha he Q K (fun v w' c r => hK v w' c (hr v w' c r)) hX
def DagStepG (P : Program) (N : Nat) (ds : List Nat) (Fs : List FctS) (σ : Env) (w : World) (Ms : Nat → Nat → Prop) (Rs : Nat → World → World → Prop) (ch : List PanicEntry) (X : World → Prop) (cl : List (List Nat)) (i : Nat) (o : Oper) (ws : List Nat) (F : FctS) : Prop :=
 ∀ (S : Nat → Bool) σ' w',S i = false → (∀ j,(cl.getD j []).contains i = true → S j = false) → Chg (fun y => ∃ j,S j = true ∧ Ms j y) w w' → (∀ t,ds.contains t = false → σ' t = σ t) → (∀ j d,ds[j]? = some d → S j = false → σ' d = σ d) → (∀ j,ws.contains j = true → S j = true ∧ HoldsS ds Fs S j σ' w') →
  (Guarded ds o σ' ∧ DoesX (Ms i) ch X P N o (fun v w => F (insS S i) σ' (Go.Eng.valOf o v) w ∧ Rs i w' w) σ' w') ∨ (Unmet ds o σ' ∧ F (insS S i) σ' undef w' ∧ Rs i w' w')
/-- A fact lasts while other operations are done. -/
def StabG (Ms : Nat → Nat → Prop) (Rs : Nat → World → World → Prop) (cl : List (List Nat)) (i : Nat) (ws : List Nat) (F : FctS) : Prop := ∀ p,p ≠ i → ws.contains p = false → ∀ S σ v w w',S i = true → S p = false → (∀ j,(cl.getD p []).contains j = true → S j = true) → Chg (Ms p) w w' → Rs p w w' → F S σ v w → F (insS S p) σ v w'
inductive DagStepsG (P : Program) (N : Nat) (ds : List Nat) (Fs : List FctS) (σ : Env) (w : World) (Ms : Nat → Nat → Prop) (Rs : Nat → World → World → Prop) (ch : List PanicEntry) (X : World → Prop) (cl : List (List Nat)) : Nat → List Oper → List (List Nat) → List Bool → List FctS → Prop where
  | nil {i : Nat} : DagStepsG P N ds Fs σ w Ms Rs ch X cl i [] [] [] []
  | cons {i : Nat} {o : Oper} {ws : List Nat} {F : FctS} {l : List Oper} {wss : List (List Nat)} {hs : List Bool} {Gs : List FctS} (s : StabG Ms Rs cl i ws F) (lc : LocS ds ws F) (h : DagStepG P N ds Fs σ w Ms Rs ch X cl i o ws F) (t : DagStepsG P N ds Fs σ w Ms Rs ch X cl (i + 1) l wss hs Gs) : DagStepsG P N ds Fs σ w Ms Rs ch X cl i (o :: l) (ws :: wss) (true :: hs) (F :: Gs)
  | tail {i : Nat} {o : Oper} {ws : List Nat} {F : FctS} {l : List Oper} {wss : List (List Nat)} {hs : List Bool} {Gs : List FctS} (t : DagStepsG P N ds Fs σ w Ms Rs ch X cl (i + 1) l wss hs Gs) : DagStepsG P N ds Fs σ w Ms Rs ch X cl i (o :: l) (ws :: wss) (false :: hs) (F :: Gs)
theorem DagStepsG.get {P : Program} {N : Nat} {ds : List Nat} {Fs : List FctS} {σ : Env} {w : World} {Ms : Nat → Nat → Prop} {Rs : Nat → World → World → Prop} {ch : List PanicEntry} {X : World → Prop} {cl : List (List Nat)} : ∀ {i : Nat} {l : List Oper} {wss : List (List Nat)} {hs : List Bool} {Gs : List FctS},DagStepsG P N ds Fs σ w Ms Rs ch X cl i l wss hs Gs → ∀ {j : Nat} {o : Oper},l[j]? = some o → hs[j]? = some true → ∃ ws F,wss[j]? = some ws ∧ Gs[j]? = some F ∧ StabG Ms Rs cl (i + j) ws F ∧ LocS ds ws F ∧ DagStepG P N ds Fs σ w Ms Rs ch X cl (i + j) o ws F
  | _,_,_,_,_,.nil,j,o,h,_ => by simp at h
  | i,_,_,_,_,.cons s lc h t,0,o,ho,_ => by
    simp at ho; subst ho
    exact ⟨_,_,rfl,rfl,s,lc,h⟩
  | _,_,_,_,_,.tail t,0,o,h,ht => by simp at ht
  | i,_,_,_,_,.cons s lc h t,j + 1,o,ho,ht => by
    obtain ⟨ws,F,h1,h2,h3,h5,h4⟩ := t.get (j := j) (by simpa using ho) (by simpa using ht)
    exact ⟨ws,F,by simpa using h1,by simpa using h2,by rw [show i + (j + 1) = i + 1 + j from by omega]; exact h3,h5,by rw [show i + (j + 1) = i + 1 + j from by omega]; exact h4⟩
  | i,_,_,_,_,.tail t,j + 1,o,ho,ht => by
    obtain ⟨ws,F,h1,h2,h3,h5,h4⟩ := t.get (j := j) (by simpa using ho) (by simpa using ht)
    exact ⟨ws,F,by simpa using h1,by simpa using h2,by rw [show i + (j + 1) = i + 1 + j from by omega]; exact h3,h5,by rw [show i + (j + 1) = i + 1 + j from by omega]; exact h4⟩
/-- An operation waits for another, be it by way of others. -/
def reachB (l : List Oper) : Nat → Nat → Nat → Bool
  | 0,i,u => edgeB l i u
  | k + 1,i,u => edgeB l i u || (List.range l.length).any fun v => edgeB l i v && reachB l k v u
def tailQB (l : List Oper) (hd : List Bool) (ts : List Nat) : Bool :=
 (List.range l.length).all fun i => hd.getD i false || (ts.contains i && ((List.range l.length).all (fun u => !hd.getD u false || reachB l 4 i u) || ts.any fun p => !hd.getD p true && edgeB l i p))
theorem reach_listed {l : List Oper} {listed : Array Bool} (hcd : ∀ (j : Nat) oj,l[j]? = some oj → listed.getD j false = true → ∀ e ∈ oj.after,Region.binds .any e = true → listed.getD e.on false = true) :
    ∀ (k j u : Nat),listed.getD j false = true → reachB l k j u = true → listed.getD u false = true := by
  have edge : ∀ j u,listed.getD j false = true → edgeB l j u = true → listed.getD u false = true := fun j u hj hu => by
    unfold edgeB at hu
    cases ho : l[j]? with
    | none => rw [ho] at hu; cases hu
    | some o =>
      rw [ho] at hu
      simp only [Array.any_eq_true',Bool.and_eq_true] at hu
      obtain ⟨e,he,hb1,hb2⟩ := hu
      have := Nat.eq_of_beq_eq_true hb2
      rw [← this]
      exact hcd j o ho hj e he hb1
  intro k
  induction k with
  | zero => intro j u hj h; exact edge j u hj h
  | succ k ih =>
    intro j u hj h
    simp only [reachB,Bool.or_eq_true] at h
    rcases h with h | h
    · exact edge j u hj h
    · obtain ⟨v,_,h2⟩ := List.any_eq_true.1 h
      rw [Bool.and_eq_true] at h2
      exact ih v u (edge j v hj h2.1) h2.2
theorem Wp_dagG {P : Program} {N : Nat} {Q : Post} {σ : Env} {w : World} {id : Nat} {l : List Oper} (Ms : Nat → Nat → Prop) (Rs : Nat → World → World → Prop) (ch : List PanicEntry) (X : World → Prop) (hd : List Bool) (ts : List Nat) (ds : List Nat) (wss cl : List (List Nat)) (Fs : List FctS) {Gs : List FctS} (hG : Fs = Gs) (hC : closB wss cl = true) (hm : P.follows .mixedOrders = true) (hB : dagSB N hd 0 l ds wss hd = true) (hn : nodupB ds = true)
    (hT : (tailQB l hd ts && permB l.toArray ts hd.toArray) = true) (hN : Nat.beq (leftH hd (List.replicate l.length false) + ts.length) l.length = true)
    (steps : ∀ w1,Ext w w1 → DagStepsG P N ds Fs σ w1 Ms Rs ch X cl 0 l cl hd Gs)
    (hX : ∀ σ' w1 w',Ext w w1 → Chg (fun y => ∃ j,Ms j y) w1 w' → X w' → Q (.panic ch) σ' w')
    (k : ∀ σ' w1 w',Ext w w1 → Chg (fun y => ∃ j,hd.getD j false = true ∧ Ms j y) w1 w' → (∀ t,ds.contains t = false → σ' t = σ t) → (∀ j,hd[j]? = some true → HoldsS ds Fs (allS hd) j σ' w') → WpL P N l.toArray (Q .normal) Q (ts.filterMap fun k => l[k]?) σ' w') : Wp P N (.region id l.toArray true) Q σ w := by
  intro dz a ha he
  have eQ : lift dz N (thn (Q .normal) Q) = lift dz N Q := by funext e a w; cases e <;> rfl
  refine wp_region_any hm ?_
  obtain ⟨w1,hw1⟩ : ∃ w1 : World,w1 = { w with drawn := w.drawn + 1 } := ⟨_,rfl⟩
  have hE1 : Ext w w1 := by rw [hw1]; exact drew_ext w
  rw [← hw1]
  have hst := steps w1 hE1
  rw [← hG] at hst
  rw [Bool.and_eq_true] at hT
  obtain ⟨hT1,hT2⟩ := hT
  obtain ⟨hlen,hlen2,hlen3⟩ := dagSB_len hB
  let Lf : Array Bool → Nat → Bool := fun listed j => listed.getD j false
  have key : ∀ (m : Nat) (listed : Array Bool) (a : Act) (w' : World),leftH hd listed.toList = m → listed.size = l.length → (∀ (t : Nat),hd[t]? = some false → listed.toList[t]? = some false) → (∀ (j : Nat) oj,l[j]? = some oj → listed.getD j false = true → ∀ e ∈ oj.after,Region.binds .any e = true → listed.getD e.on false = true) → Ok dz N a → Chg (fun y => ∃ j,listed.getD j false = true ∧ Ms j y) w1 w' → (∀ t,ds.contains t = false → env a t = σ t) → (∀ j d,ds[j]? = some d → listed.getD j false = false → env a d = σ d) → (∀ j,hd[j]? = some true → listed.getD j false = true → HoldsS ds Fs (Lf listed) j (env a) w') →
      wpAny P .any l.toArray (lift dz N Q) (m + ts.length) listed a w' := by
    intro m
    induction m with
    | zero =>
      intro listed a w' hc0 hsz htl hcd ha hx hu hv0 hh
      have hl : listed = hd.toArray := by
        apply Array.ext'
        exact leftH_zero (by simp; omega) hc0 htl
      have hLf : Lf listed = allS hd := by
        funext j
        show listed.getD j false = hd.getD j false
        rw [hl]; simp [List.getD_eq_getElem?_getD]
      rw [Nat.zero_add]
      have h1 := k (env a) w1 w' hE1 (hx.mono fun y _ h => by
        obtain ⟨j,h1,h2⟩ := h
        have : allS hd j = true := by rw [← hLf]; exact h1
        exact ⟨j,this,h2⟩) hu (fun j hj => by rw [← hLf]; exact hh j hj (getD_arr (by rw [hl]; exact hj))) dz a ha rfl
      rw [eQ] at h1
      exact wpAny_of_perm ts listed a w' (by rw [hl]; exact hT2) (by simpa using h1)
    | succ m ih =>
      intro listed a w' hcm hsz htl hcd ha hx hu hv0 hh
      obtain ⟨i0,hi0,hi1⟩ := leftH_pos (hd := hd) (listed := listed.toList) (by omega)
      rw [show m + 1 + ts.length = (m + ts.length) + 1 by omega]
      refine ⟨fun hr => ?_,fun i hi => ?_⟩
      · exfalso
        have hall : ∀ i : Nat,hd[i]? = some true → listed.getD i true = true := by
          intro i
          induction i using Nat.strongRecOn with
          | _ i ihi =>
            intro hi
            cases hv : listed.getD i true with
            | true => rfl
            | false =>
              exfalso
              obtain ⟨o,ho⟩ := get_of_lt (l := l) (i := i) (by have := lt_of_get hi; omega)
              obtain ⟨d,ws,h,_,_,h2,h3⟩ := dagSB_get hB ho
              rw [hi] at h2
              cases h2
              simp only [cond_true,dagOneS,Bool.and_eq_true,Nat.zero_add] at h3
              have : i ∈ Region.ready .any l.toArray listed := by
                refine mem_ready.2 ⟨hv,o,by simpa using ho,fun e he hb => ?_⟩
                have h4 := h3.1.1.2
                simp only [Array.all_eq_true_iff_forall_mem,Bool.or_eq_true,Bool.not_eq_true',Bool.and_eq_true] at h4
                have h6 := (h4 e he).resolve_left (by simp [hb])
                have hlt : e.on < i := by simpa [Nat.blt_eq] using h6.1
                have h7 := h6.2
                have hj0 : e.on < hd.length := by have := lt_of_get hi; omega
                have h8 : hd[e.on]? = some true := by
                  rw [List.getD_eq_getElem?_getD,List.getElem?_eq_getElem hj0,Option.getD_some] at h7
                  rw [List.getElem?_eq_getElem hj0,h7]
                have h9 := ihi e.on hlt h8
                have hj : e.on < listed.size := by omega
                simpa only [Array.getD_eq_getD_getElem?,Array.getElem?_eq_getElem hj,Option.getD_some] using h9
              rw [hr] at this
              cases this
        have := hall i0 hi0
        rw [getD_arr hi1] at this
        cases this
      · obtain ⟨h1,o,h2,h3⟩ := mem_ready.1 hi
        have ho : l[i]? = some o := by simpa using h2
        have hil : i < l.length := lt_of_get ho
        have hih : hd[i]? = some true := by
          obtain ⟨b,hb⟩ := get_of_lt (l := hd) (i := i) (by omega)
          cases b with
          | true => exact hb
          | false =>
            exfalso
            have h4 := List.all_eq_true.1 hT1 i (List.mem_range.2 hil)
            rw [List.getD_eq_getElem?_getD,hb,Option.getD_some,Bool.false_or,Bool.and_eq_true,Bool.or_eq_true] at h4
            have edge : ∀ u,edgeB l i u = true → listed.getD u false = true := fun u hu' => by
              unfold edgeB at hu'
              rw [ho] at hu'
              simp only [Array.any_eq_true',Bool.and_eq_true] at hu'
              obtain ⟨e,he,hb1,hb2⟩ := hu'
              have := Nat.eq_of_beq_eq_true hb2
              rw [← this]
              exact h3 e he hb1
            rcases h4.2 with h5 | h5
            · have h6 := List.all_eq_true.1 h5 i0 (List.mem_range.2 (by have := lt_of_get hi0; omega))
              rw [List.getD_eq_getElem?_getD,hi0,Option.getD_some,Bool.not_true,Bool.false_or] at h6
              have : listed.getD i0 false = true := by
                simp only [reachB,Bool.or_eq_true] at h6
                rcases h6 with h6 | h6
                · exact edge i0 h6
                · obtain ⟨v,_,h7⟩ := List.any_eq_true.1 h6
                  rw [Bool.and_eq_true] at h7
                  refine reach_listed hcd 3 v i0 (edge v h7.1) ?_
                  simp only [reachB]
                  exact h7.2
              rw [getD_arr hi1] at this
              cases this
            · obtain ⟨p,_,h6⟩ := List.any_eq_true.1 h5
              rw [Bool.and_eq_true,Bool.not_eq_true'] at h6
              have h7 := edge p h6.2
              have hp : hd[p]? = some false := by
                have h8 := h6.1
                rw [List.getD_eq_getElem?_getD] at h8
                cases h9 : hd[p]? with
                | none => rw [h9] at h8; cases h8
                | some b => rw [h9,Option.getD_some] at h8; rw [h8]
              rw [getD_arr (htl p hp)] at h7
              cases h7
        obtain ⟨d,ws,h,hd',hws,hhs,h4⟩ := dagSB_get hB ho
        rw [hih] at hhs
        cases hhs
        obtain ⟨ci,F,hci,hF,hstab,hloc,hstep⟩ := hst.get ho hih
        rw [Nat.zero_add] at hstab hstep
        simp only [cond_true,dagOneS,Bool.and_eq_true,List.all_eq_true,Array.any_eq_true',Nat.zero_add] at h4
        obtain ⟨⟨⟨hdst,_⟩,hwait⟩,hgB⟩ := h4
        have hlisted : ∀ j,listed.getD j false = true → hd[j]? = some true := fun j hj => by
          obtain ⟨b,hb⟩ := get_of_lt (l := hd) (i := j) (by
            rcases Nat.lt_or_ge j listed.size with h9 | h9
            · omega
            · simp [Array.getD_eq_getD_getElem?,Array.getElem?_eq_none h9] at hj)
          cases b with
          | true => exact hb
          | false => rw [getD_arr (htl j hb)] at hj; cases hj
        have hcl : ∀ j,listed.getD j false = true → ∀ c,(cl.getD j []).contains c = true → listed.getD c false = true := by
          intro j
          induction j using Nat.strongRecOn with
          | _ j ihj =>
            intro hlj c hc
            have hjh := hlisted j hlj
            obtain ⟨oc,hoc⟩ := get_of_lt (l := l) (i := j) (by have := lt_of_get hjh; omega)
            obtain ⟨dc,wsc,hb,_,hwsc,hhb,h5⟩ := dagSB_get hB hoc
            rw [hjh] at hhb
            cases hhb
            simp only [cond_true,dagOneS,Bool.and_eq_true,List.all_eq_true,Array.any_eq_true',Array.all_eq_true_iff_forall_mem,Bool.or_eq_true,Bool.not_eq_true',Nat.zero_add] at h5
            have hdir : ∀ e' ∈ wsc,listed.getD e' false = true ∧ e' < j := by
              intro e' he'
              obtain ⟨e,he,hb1,hb2⟩ := h5.1.2 e' he'
              have hei : e.on = e' := Nat.eq_of_beq_eq_true hb2
              have h6 := hcd j oc hoc hlj e he hb1
              have h7 := (h5.1.1.2 e he).resolve_left (by simp [hb1])
              rw [hei] at h6 h7
              exact ⟨h6,by simpa [Nat.blt_eq] using h7.1⟩
            rcases closB_get hC hwsc hc with h6 | ⟨e',he',h6⟩
            · exact (hdir c h6).1
            · exact ihj e' (hdir e' he').2 (hdir e' he').1 c h6
        have hclo : ∀ j,ci.contains j = true → listed.getD j false = true := by
          intro j hj
          have hj' : (cl.getD i []).contains j = true := by rw [List.getD_eq_getElem?_getD,hci,Option.getD_some]; exact hj
          have hdir : ∀ e' ∈ ws,listed.getD e' false = true := by
            intro e' he'
            obtain ⟨e,he,hb1,hb2⟩ := hwait e' he'
            have : e.on = e' := Nat.eq_of_beq_eq_true hb2
            exact this ▸ h3 e he hb1
          rcases closB_get hC hws hj' with h6 | ⟨e',he',h6⟩
          · exact hdir j h6
          · exact hcl e' (hdir e' he') j h6
        have hclo0 : ∀ j,(cl.getD i []).contains j = true → Lf listed j = true := fun j hj => hclo j (by rw [List.getD_eq_getElem?_getD,hci,Option.getD_some] at hj; exact hj)
        have hSi : Lf listed i = false := getD_both h1
        have hSn : ∀ j,(cl.getD j []).contains i = true → Lf listed j = false := by
          intro j hj
          cases hlj : Lf listed j with
          | false => rfl
          | true =>
            exfalso
            have := hcl j hlj i hj
            rw [getD_both h1] at this; cases this
        have hH : ∀ j,ci.contains j = true → Lf listed j = true ∧ HoldsS ds Fs (Lf listed) j (env a) w' := fun j hj => ⟨hclo j hj,hh j (hlisted j (hclo j hj)) (hclo j hj)⟩
        have hil2 : i < listed.size := by omega
        have hLs : Lf (listed.setIfInBounds i true) = insS (Lf listed) i := by
          funext j
          by_cases hij : j = i
          · subst hij
            rw [insS_self]
            show (listed.setIfInBounds j true).getD j false = true
            simp [Array.getD_eq_getD_getElem?,hil2]
          · rw [insS_ne hij]
            exact getD_set_ne _ (Ne.symm hij)
        have hstep2 : ∀ w2,Chg (Ms i) w' w2 → Chg (fun y => ∃ j,(listed.setIfInBounds i true).getD j false = true ∧ Ms j y) w1 w2 := by
          intro w2 hx2
          have hg : (listed.setIfInBounds i true).getD i false = true := by simp [Array.getD_eq_getD_getElem?,hil2]
          refine Chg.step (hx.mono fun y _ h => ?_) hx2 (fun y _ h => ⟨i,hg,h⟩)
          obtain ⟨j,h5,h6⟩ := h
          by_cases hij : j = i
          · exact ⟨i,hg,hij ▸ h6⟩
          · exact ⟨j,by rw [getD_set_ne _ (Ne.symm hij)]; exact h5,h6⟩
        have cont : ∀ v w2,Chg (Ms i) w' w2 → F (insS (Lf listed) i) (env a) (Go.Eng.valOf o v) w2 ∧ Rs i w' w2 → wpAny P .any l.toArray (lift dz N Q) (m + ts.length) (listed.setIfInBounds i true) (a.put o.dst v) w2 := by
          rintro v w2 hx2 ⟨hv,hrs⟩
          have henv : (∀ t,t ≠ d → env (a.put o.dst v) t = env a t) ∧ env (a.put o.dst v) d = Go.Eng.valOf o v := by
            cases hod : o.dst with
            | none =>
              rw [hod] at hdst
              have hNd : N ≤ d := Nat.le_of_ble_eq_true hdst
              refine ⟨fun t _ => rfl,?_⟩
              simp only [Go.Eng.valOf,hod]
              show a.tmps.getD d undef = undef
              have : a.tmps.size ≤ d := by rw [ha.size]; exact hNd
              simp [Array.getElem?_eq_none this]
            | some d' =>
              rw [hod] at hdst
              simp only [Bool.and_eq_true] at hdst
              have hd1 : d' = d := Nat.eq_of_beq_eq_true hdst.1
              have hd2 : d < N := by simpa [Nat.blt_eq] using hdst.2
              subst hd1
              rw [env_put ha hd2 v]
              refine ⟨fun t ht => ?_,?_⟩
              · have : Nat.beq t d' = false := by cases hb : Nat.beq t d'; rfl; exact absurd (Nat.eq_of_beq_eq_true hb) ht
                simp [upd,this]
              · simp [upd,Go.Eng.valOf,hod]
          have hlf : listed.toList[i]? = some false := by
            simp only [Array.getD_eq_getD_getElem?,Array.getElem?_eq_getElem hil2,Option.getD_some] at h1
            rw [Array.getElem?_toList,Array.getElem?_eq_getElem hil2,h1]
          refine ih _ _ _ ?_ (by simpa using hsz) (fun t ht => ?_) (fun j oj hoj hlj e he hb => ?_) (ha.put _ _) (hstep2 w2 hx2) ?_ ?_ ?_
          · rw [Array.toList_setIfInBounds]
            have := leftH_set hih hlf
            omega
          · rw [Array.toList_setIfInBounds,List.getElem?_set]
            have hne : i ≠ t := fun e => by rw [← e,hih] at ht; cases ht
            rw [if_neg hne]
            exact htl t ht
          · refine getD_set_true ?_
            by_cases hij : j = i
            · subst hij
              rw [ho] at hoj; cases hoj
              exact h3 e he hb
            · rw [getD_set_ne _ (Ne.symm hij)] at hlj
              exact hcd j oj hoj hlj e he hb
          · intro t ht
            rw [henv.1 t (fun h => by
              subst h
              have := List.mem_of_getElem? hd'
              simp [this] at ht),hu t ht]
          · intro j d2 hd2 hj2
            by_cases hij : j = i
            · subst hij
              have hg2 : (listed.setIfInBounds j true).getD j false = true := by simp [Array.getD_eq_getD_getElem?,hil2]
              rw [hg2] at hj2; cases hj2
            · rw [getD_set_ne _ (Ne.symm hij)] at hj2
              rw [henv.1 d2 (fun h => by subst h; exact hij (nodupB_get hn hd2 hd')),hv0 j d2 hd2 hj2]
          · intro j hjh hj d2 F2 hd2 hF2
            rw [hLs]
            by_cases hij : j = i
            · subst hij
              rw [hd'] at hd2; cases hd2
              rw [hF] at hF2; cases hF2
              rw [henv.2]
              refine hloc _ (env a) _ (fun j' d2 hj' hd2 => henv.1 d2 fun he => ?_) _ _ hv
              have := nodupB_get hn (he ▸ hd2) hd'
              subst this
              have := hclo j' hj'
              rw [getD_both h1] at this
              cases this
            · have hne : d2 ≠ d := by
                intro h
                subst h
                exact hij (nodupB_get hn hd2 hd')
              rw [henv.1 d2 hne]
              rw [getD_set_ne _ (Ne.symm hij)] at hj
              have h6 := hh j hjh hj d2 F2 hd2 hF2
              obtain ⟨oj,hoj⟩ := get_of_lt (l := l) (i := j) (by have := lt_of_get hjh; omega)
              obtain ⟨cj,Fj,hcj,hFj,hsj,hlj,_⟩ := hst.get hoj hjh
              rw [hF2] at hFj; cases hFj
              rw [Nat.zero_add] at hsj
              have hgc : cl.getD j [] = cj := by rw [List.getD_eq_getElem?_getD,hcj,Option.getD_some]
              have hcji : cj.contains i = false := by
                cases hcji : cj.contains i with
                | false => rfl
                | true =>
                  exfalso
                  have := hSn j (by rw [hgc]; exact hcji)
                  have hj' : Lf listed j = true := hj
                  rw [hj'] at this; cases this
              refine hlj _ (env a) _ (fun j' d3 hj' hd3 => henv.1 d3 fun he => ?_) _ _ (hsj i (Ne.symm hij) hcji (Lf listed) (env a) _ _ _ hj hSi hclo0 hx2 hrs h6)
              have h8 := nodupB_get hn (he ▸ hd3) hd'
              subst h8
              rw [hcji] at hj'
              cases hj'
        have gd : ∀ j b,o.guard = some (j,b) → ∀ dj,ds[j]? = some dj → ((∃ oj,l[j]? = some oj ∧ oj.dst = some dj) ∧ dj < N) ∨ (N ≤ dj ∧ ∃ oj,l[j]? = some oj ∧ oj.dst = none) := fun j b hgd dj hdj => by
          obtain ⟨oj,hoj⟩ := get_of_lt (l := l) (i := j) (by have := lt_of_get hdj; omega)
          obtain ⟨dj',_,hj,hdj',_,h5,h6⟩ := dagSB_get hB hoj
          rw [hdj] at hdj'
          cases hdj'
          unfold guardB at hgB
          rw [hgd] at hgB
          simp only at hgB
          have h7 : hj = true := by rw [List.getD_eq_getElem?_getD,h5,Option.getD_some] at hgB; exact hgB
          rw [h7] at h6
          simp only [cond_true,Bool.and_eq_true,dagOneS] at h6
          have hdst2 := h6.1.1.1
          split at hdst2
          · rename_i d2 hq
            rw [Bool.and_eq_true] at hdst2
            exact .inl ⟨⟨oj,hoj,by rw [hq,Nat.eq_of_beq_eq_true hdst2.1]⟩,by simpa [Nat.blt_eq] using hdst2.2⟩
          · rename_i hq
            exact .inr ⟨Nat.le_of_ble_eq_true hdst2,oj,hoj,hq⟩
        rcases hstep (Lf listed) (env a) w' hSi hSn hx hu hv0 hH with ⟨hg,hdo⟩ | ⟨⟨j,b,dj,hgd,hdj,hvj⟩,hund,hrs⟩
        · have hw : Region.wanted o (yielded l.toArray a.tmps) = true := by
            cases hgd : o.guard with
            | none => simp [Region.wanted,hgd]
            | some p =>
              obtain ⟨j,b⟩ := p
              obtain ⟨dj,hdj,hvj⟩ := hg j b hgd
              rcases gd j b hgd dj hdj with ⟨hdst2,hdN2⟩ | ⟨hge,_⟩
              · have h6 : a.tmps[dj]? = some (Value.bool b) := by
                  have h2 : a.tmps.getD dj undef = .bool b := hvj
                  have hlt : dj < a.tmps.size := by rw [ha.size]; exact hdN2
                  rw [Array.getElem?_eq_getElem hlt]
                  simpa [hlt] using h2
                obtain ⟨oj,hoj,hdst2⟩ := hdst2
                simp [Region.wanted,hgd,yielded,hoj,hdst2,h6]
              · exfalso
                have h2 : a.tmps.getD dj undef = .bool b := hvj
                have : a.tmps.size ≤ dj := by rw [ha.size]; exact hge
                simp [Array.getElem?_eq_none this,undef] at h2
          unfold wpOp
          simp only [h2,hw,if_true]
          exact Or.inl (hdo _ a ha rfl _ _ cont (fun w2 hx2 hX2 => ⟨ha,hX (env a) w1 w2 hE1 ((hstep2 w2 hx2).mono fun y _ h => h.imp fun j h => h.2) hX2⟩))
        · have hw : Region.wanted o (yielded l.toArray a.tmps) = false := by
            rcases gd j b hgd dj hdj with ⟨hdst2,hdN2⟩ | ⟨_,oj,hoj,hq⟩
            · have hlt : dj < a.tmps.size := by rw [ha.size]; exact hdN2
              have h6 : a.tmps[dj]? = some (env a dj) := by
                rw [Array.getElem?_eq_getElem hlt]
                simp [env,hlt]
              obtain ⟨oj,hoj,hdst2⟩ := hdst2
              rcases hvj with hvj | hvj
              · rw [hvj] at h6
                cases b <;> simp [Region.wanted,hgd,yielded,hoj,hdst2,h6]
              · rw [hvj] at h6
                simp [Region.wanted,hgd,yielded,hoj,hdst2,h6,undef]
            · simp [Region.wanted,hgd,yielded,hoj,hq]
          unfold wpOp
          simp only [h2,hw,Bool.false_eq_true,if_false]
          exact cont undef w' (Chg.refl _ _) (by
            have : Go.Eng.valOf o undef = undef := by unfold Go.Eng.valOf; split <;> rfl
            rw [this]; exact ⟨hund,hrs⟩)
  have h1 := key (leftH hd (Array.replicate l.toArray.size false).toList) (Array.replicate l.toArray.size false) a w1 rfl (by simp) (fun t ht => by have h9 := lt_of_get ht; rw [Array.toList_replicate,List.getElem?_replicate,if_pos (by rw [List.size_toArray]; omega)]) (fun j oj _ hl => (by rw [getD_replicate_false] at hl; cases hl)) ha (Chg.refl _ _) (fun t _ => by rw [he]) (fun j d _ _ => by rw [he]) (fun j _ hj => by rw [getD_replicate_false] at hj; cases hj)
  have e3 : leftH hd (Array.replicate l.toArray.size false).toList + ts.length = l.toArray.size := by have h9 := Nat.eq_of_beq_eq_true hN; simpa using h9
  rw [e3] at h1
  exact h1
theorem DagStepS.toG {P : Program} {N : Nat} {ds : List Nat} {Fs : List FctS} {σ : Env} {w : World} {Ms : Nat → Nat → Prop} {cl : List (List Nat)} {i : Nat} {o : Oper} {ws : List Nat} {F : FctS} (h : DagStepS P N ds Fs σ w Ms cl i o ws F) : DagStepG P N ds Fs σ w Ms (fun _ _ _ => True) [] (fun _ => False) cl i o ws F := fun S σ' w' a b c d e f =>
 (h S σ' w' a b c d e f).imp (fun ⟨g,h⟩ => ⟨g,(DoesT.x h).weak fun _ _ _ r => ⟨r,trivial⟩⟩) fun ⟨u,f⟩ => ⟨u,f,trivial⟩
theorem DagStepsS.toG {P : Program} {N : Nat} {ds : List Nat} {Fs : List FctS} {σ : Env} {w : World} {Ms : Nat → Nat → Prop} {cl : List (List Nat)} : ∀ {i : Nat} {l : List Oper} {wss : List (List Nat)} {hs : List Bool} {Gs : List FctS},DagStepsS P N ds Fs σ w Ms cl i l wss hs Gs → DagStepsG P N ds Fs σ w Ms (fun _ _ _ => True) [] (fun _ => False) cl i l wss hs Gs
  | _,_,_,_,_,.nil => .nil
  | _,_,_,_,_,.cons s lc h t => .cons (fun p hp hw S σ v w w' hi hS _ hC _ hF => s p hp hw S σ v w w' hi hS hC hF) lc h.toG t.toG
  | _,_,_,_,_,.tail t => .tail t.toG
theorem Wp_dagS {P : Program} {N : Nat} {Q : Post} {σ : Env} {w : World} {id : Nat} {l : List Oper} (Ms : Nat → Nat → Prop) (hd : List Bool) (ts : List Nat) (ds : List Nat) (wss cl : List (List Nat)) (Fs : List FctS) {Gs : List FctS} (hG : Fs = Gs) (hC : closB wss cl = true) (hm : P.follows .mixedOrders = true) (hB : dagSB N hd 0 l ds wss hd = true) (hn : nodupB ds = true)
  (hT : (tailQB l hd ts && permB l.toArray ts hd.toArray) = true) (hN : Nat.beq (leftH hd (List.replicate l.length false) + ts.length) l.length = true)
  (steps : ∀ w1,Ext w w1 → DagStepsS P N ds Fs σ w1 Ms cl 0 l cl hd Gs)
  (k : ∀ σ' w1 w',Ext w w1 → Chg (fun y => ∃ j,hd.getD j false = true ∧ Ms j y) w1 w' → (∀ t,ds.contains t = false → σ' t = σ t) → (∀ j,hd[j]? = some true → HoldsS ds Fs (allS hd) j σ' w') → WpL P N l.toArray (Q .normal) Q (ts.filterMap fun k => l[k]?) σ' w') : Wp P N (.region id l.toArray true) Q σ w :=
 Wp_dagG Ms (fun _ _ _ => True) [] (fun _ => False) hd ts ds wss cl Fs hG hC hm hB hn hT hN (fun w1 e => (steps w1 e).toG) (fun _ _ _ _ _ h => h.elim) k
section
variable {Ms : Nat → Nat → Prop} {i : Nat} {ws ds : List Nat}
theorem StabS.eq {u : Value} : StabS Ms i ws (fun _ _ v _ => v = u) := fun _ _ _ _ _ _ _ _ _ _ _ h => h
theorem StabS.chg {F : Fct} {U : Nat → Prop} (hF : ∀ v w w',Chg U w w' → F v w → F v w') (hM : ∀ p y,p ≠ i → ws.contains p = false → Ms p y → U y) : StabS Ms i ws (fun _ _ => F) :=
 fun p h1 h2 _ _ v w w' _ _ x h => hF v w w' (x.mono fun y _ hy => hM p y h1 h2 hy) h
theorem LocS.const {G : (Nat → Bool) → Fct} : LocS ds ws (fun S _ => G S) := fun _ _ _ _ _ _ h => h
end
theorem qZ {P : Program} {N : Nat} {ds : List Nat} {Fs : List FctS} {σ : Env} {w : World} {Ms : Nat → Nat → Prop} {cl : List (List Nat)} {i : Nat} {dst : Option Tmp} {op : Op} {ty : TypeId} {pos : String} {af : Array Edge} {ws : List Nat} {u : Value} {l : List Oper} {wss : List (List Nat)} {hs : List Bool} {Gs : List FctS}
  (h : ∀ (S : Nat → Bool) σ' w',S i = false → (∀ j,(cl.getD j []).contains i = true → S j = false) → Chg (fun y => ∃ j,S j = true ∧ Ms j y) w w' → (∀ t,ds.contains t = false → σ' t = σ t) → (∀ j d,ds[j]? = some d → S j = false → σ' d = σ d) → (∀ j,ws.contains j = true → S j = true ∧ HoldsS ds Fs S j σ' w') → DoesT (Ms i) P N ⟨dst,op,ty,pos,af,none⟩ (fun v _ => Go.Eng.valOf ⟨dst,op,ty,pos,af,none⟩ v = u) σ' w')
  (t : DagStepsS P N ds Fs σ w Ms cl (i + 1) l wss hs Gs) : DagStepsS P N ds Fs σ w Ms cl i (⟨dst,op,ty,pos,af,none⟩ :: l) (ws :: wss) (true :: hs) ((eF u) :: Gs) :=
 .cons StabS.eq LocS.const (fun S s' w' a b c d e f => .inl ⟨Guarded_none rfl,h S s' w' a b c d e f⟩) t
section
variable {M : Nat → Prop} {P : Program} {N : Nat} {o : Oper} {R : Fct} {σ : Env} {w : World} {dst : Option Tmp} {ty : TypeId} {pos : String} {af : Array Edge} {g : Option (Nat × Bool)} {t : TypeId}
theorem DoesT_pure {v : Value} (hr : (execOp (ev σ) o).run P w = .ok (.value v) w) (h : R v w) : DoesT M P N o R σ w := DoesT_val hr (Chg.refl _ _) h
theorem DoesT_callE {f : FuncId} {args : Array Value} (hr : (execOp (ev σ) o).run P w = .ok (.enter f args) w) (hc : Ret P f args w fun v w' => R v w' ∧ Ext w w') : DoesT M P N o R σ w :=
 DoesT_enter hr (hc.mono fun _ _ h => ⟨h.1,Ext.chg h.2⟩)
end
theorem finX_ret {P : Program} {ch : List PanicEntry} {fn : Func} {R : Value → World → Prop} {X : World → Prop} {σ : Env} {w : World} (h : fin P fn R .ret σ w) : finX P ch fn R X .ret σ w := h
section
variable {P : Program} {N : Nat} {Q : Post} {σ : Env} {w : World} {K : Env → World → Prop} {ops : Array Oper} {rest : List Oper}
theorem WpL_panic {o : Oper} (hg : o.guard = none) {v : Value} (hr : (execOp (ev σ) o).run P w = .halt (.panic v) w) (k : Q (.panic [{ v,recovered := false }]) σ w) : WpL P N ops K Q (o :: rest) σ w := by
 intro dz a ha he
 refine wpList_plain hg fun K' hK => ?_
 unfold Oper.wp
 rw [eval_env,he,hr]
 simp only [Oper.upon]
 exact ⟨ha,by rw [he]; exact k⟩
theorem r_panic {dst : Option Tmp} {ty : TypeId} {pos : String} {af : Array Edge} {g : Option (Nat × Bool)} {x : Operand} {u : TypeId} {v : Value} (hx : ev σ x = .iface u v) : (execOp (ev σ) ⟨dst,.panic x,ty,pos,af,g⟩).run P w = .halt (.panic (.iface u v)) w := by
 simp [execOp,hx,Instr.panic]
theorem r_makeIface {dst : Option Tmp} {ty : TypeId} {pos : String} {af : Array Edge} {g : Option (Nat × Bool)} {x : Operand} {t : TypeId} {fs : Array Field} {v : Value} (hu : P.underlying t = some (.struct fs)) (hx : ev σ x = v) : (execOp (ev σ) ⟨dst,.makeInterface t x,ty,pos,af,g⟩).run P w = .ok (.value (.iface t v)) w := by
 subst hx; simp [execOp,Instr.makeInterface,run_underlying hu]
end
/-- Where the body ends with the deferred call d still to be made. -/
def finD (P : Program) (fn : Func) (R : Ending → World → Prop) (d : Deferred) : Post
  | .normal,σ,w | .ret,σ,w => ∀ a : Act,env a = σ → Leaves P fn a.tmps R [d] .returning w
  | .panic ch,σ,w => ∀ a : Act,env a = σ → Leaves P fn a.tmps R [d] (.panicking ch) w
  | _,_,_ => False
def WpA (P : Program) (N : Nat) (c : Code) (Q : Exit → Act → World → Prop) (σ : Env) (w : World) : Prop := ∀ a,Ok [] N a → env a = σ → c.wp P Q a w
def WpLA (P : Program) (N : Nat) (ops : Array Oper) (Q : Exit → Act → World → Prop) (l : List Oper) (σ : Env) (w : World) : Prop := ∀ a,Ok [] N a → env a = σ → wpList P ops Q l a w
section
variable {P : Program} {N : Nat} {QA : Exit → Act → World → Prop} {σ : Env} {w : World} {ops : Array Oper} {rest : List Oper} {y : Code}
theorem CallsA_of {f : FuncId} {fn : Func} {c : Code} {args : Array Value} {R : Ending → World → Prop}
  (hf : P.funcs[f]? = some fn) (hb : fn.body = some c) (hn : fn.ntmps = N) (hsz : args.size ≤ N)
  (h : WpA P N c (bodyPostD P fn R) (fun t => args.getD t undef) w) : Calls P f args w R := by
 refine calls_of_wp_defers hf hb (h _ ⟨?_,rfl⟩ ?_)
 ·simp [hn]; omega
 ·funext t
  simp only [env,Array.getD_eq_getD_getElem?,Array.getElem?_append]
  split
  ·rfl
  ·rename_i hlt
   rw [Array.getElem?_replicate,Array.getElem?_eq_none (xs := args) (by omega)]
   split <;> rfl
theorem WpA_seq_region {id : Nat} {l : List Oper} (h : WpL P N l.toArray (WpA P N y QA) (fun _ _ _ => False) l σ w) : WpA P N (.seq (.region id l.toArray false) y) QA σ w := fun a ha he => by
 refine wp_seq (Code.wp_mono ?_ (wp_region_lit (h [] a ha he)))
 rintro e a' w' ⟨o,q⟩
 cases e <;> first | exact q a' o rfl | exact (show False from q).elim
theorem WpA_seq_regionD {id : Nat} {l : List Oper} (h : WpLA P N l.toArray (Exit.then (y.wp P QA) QA) l σ w) : WpA P N (.seq (.region id l.toArray false) y) QA σ w := fun a ha he => wp_seq (wp_region_lit (h a ha he))
theorem WpLA_val {o : Oper} (hg : o.guard = none) {d : Nat} (hd : o.dst = some d) (hN : d < N) {v : Value} {w' : World}
  (hr : (execOp (ev σ) o).run P w = .ok (.value v) w') (k : WpLA P N ops QA rest (upd σ d v) w') : WpLA P N ops QA (o :: rest) σ w := by
 intro a ha he
 refine wpList_plain hg fun K' hK => ?_
 unfold Oper.wp
 rw [eval_env,he,hr]
 simp only [Oper.upon,hd]
 exact hK _ _ (k _ (ha.put _ _) (by rw [env_put ha hN,he]))
theorem WpLA_defer {fn : Func} {R : Ending → World → Prop} {o : Oper} {d : Deferred} (hg : o.guard = none) (hd : o.dst = none)
  (hr : (execOp (ev σ) o).run P w = .ok (.defer d) w) (k : Wp P N y (finD P fn R d) σ w) : WpLA P N ops (Exit.then (y.wp P (bodyPostD P fn R)) (bodyPostD P fn R)) [o] σ w := by
 intro a ha he
 refine wpList_plain hg fun K' hK => ?_
 unfold Oper.wp
 rw [eval_env,he,hr]
 simp only [Oper.upon,hd]
 refine hK _ _ ?_
 have hd0 := ha.defers
 have h1 := k [d] { a with defers := d :: a.defers } ⟨ha.size,by simp [hd0]⟩ (by rw [← he]; rfl)
 show y.wp P (bodyPostD P fn R) { a with defers := d :: a.defers } w
 refine Code.wp_mono ?_ h1
 rintro e a' w' ⟨o',q⟩
 have ho := o'.defers
 cases e <;> simp only [finD] at q <;> simp only [bodyPostD]
 ·rw [ho]; exact q a' rfl
 ·rw [ho]; exact q a' rfl
 ·rw [ho]; exact q a' rfl
theorem r_defer {ty : TypeId} {pos : String} {af : Array Edge} {g : Option (Nat × Bool)} {x : Operand} {ts : Array TypeId} {f : FuncId} {cap : Array Value} (hx : ev σ x = .func (.func f) #[] cap) : (execOp (ev σ) ⟨none,.defer ⟨.value x,#[],ts⟩,ty,pos,af,g⟩).run P w = .ok (.defer { target := .fn (.func f) cap,args := #[] }) w := by
 simp [execOp,resolve,hx,Deferred.ofValue]
theorem leaves_end {fn : Func} {tmps : Array Value} {R : Ending → World → Prop} {d : Deferred} {f : FuncId} {cap : Array Value} {u : FrameMode} {X : World → Prop} (hd : d = { target := .fn (.func f) cap,args := #[] }) (hu : u ≠ .run)
  (hi : (callFunc f cap).run P w = .ok (.enter f cap) w) (hc : CallsD P f cap u w fun e u' w' => (∃ r,e = .returned r) ∧ settle u' = .returning ∧ X w') (hX : ∀ w',X w' → ∃ v,(results fn tmps).run P w' = .ok v w' ∧ R (.returned v) w') : Leaves P fn tmps R [d] u w := by
 subst hd
 refine leaves_cons (f := f) (args := cap) hu (by simpa [invoke] using hi) (hc.mono ?_)
 rintro e u' w' ⟨⟨r,rfl⟩,h1,h2⟩
 simp only
 rw [h1]
 exact hX w' h2
end
theorem r_recover {P : Program} {w : World} {ρ : Operand → Value} {dst : Option Tmp} {ty : TypeId} {pos : String} {af : Array Edge} {g : Option (Nat × Bool)} {ts : Array TypeId} : (execOp ρ ⟨dst,.call ⟨.builtin .recover,#[],ts⟩,ty,pos,af,g⟩).run P w = .ok .recover w := by
 simp [execOp,resolve,invoke,builtin]
section
variable {P : Program} {σ : Env} {w : World} {dst : Option Tmp} {ty : TypeId} {pos : String} {af : Array Edge} {g : Option (Nat × Bool)} {x : Operand} {t s : TypeId} {v : Value} {fs : Array Field}
theorem r_assertYes (hu : P.underlying t = some (.struct fs)) (hx : ev σ x = .iface t v) : (execOp (ev σ) ⟨dst,.typeAssert x s t true,ty,pos,af,g⟩).run P w = .ok (.value (.tuple #[v,.bool true])) w := by
 simp [execOp,hx,Instr.typeAssert,run_underlying hu]
theorem r_assertNil (hu : P.underlying t = some (.struct fs)) (hz : Zer P t v) (hx : ev σ x = .nilIface) : (execOp (ev σ) ⟨dst,.typeAssert x s t true,ty,pos,af,g⟩).run P w = .ok (.value (.tuple #[v,.bool false])) w := by
 have h := hz.run w
 simp [execOp,hx,Instr.typeAssert,run_underlying hu,h]
end
theorem res_agg_cell {P : Program} {fn : Func} {a0 a1 t u b b1 n : Nat} (hr : fn.results = #[.cell a0 t,.cell a1 u]) {σ : Env} {w : World} {vs : List Value} {v' : Value} (hv : σ a0 = .pointer (some ⟨b,0,none⟩)) (hv1 : σ a1 = .pointer (some ⟨b1,0,none⟩)) (hf : aggB P t = true) (hs : Siz P t n) (hn : vs.length = n) (hc : CellsAt w b 0 vs) (hf1 : flatB P u = true) (hc1 : w.cell? ⟨b1,0,none⟩ = some v') {a : Act} (ha : env a = σ) : (results fn a.tmps).run P w = .ok (.tuple #[.agg vs.toArray,v']) w := by
 subst ha
 have h0 : a.tmps.getD a0 undef = .pointer (some ⟨b,0,none⟩) := hv
 have h1 : a.tmps.getD a1 undef = .pointer (some ⟨b1,0,none⟩) := hv1
 simp only [Array.getD_eq_getD_getElem?] at h0 h1
 have h2 := run_loadVar (P := P) (w := w) hf hs hn hc
 have h3 : (loadVar u ⟨b1,0,none⟩).run P w = .ok v' w := by simp [loadVar,flatB.run hf1,hc1]
 simp [results,hr,h0,h1,asAddr,h2,h3]
theorem letsOut_mono {Q Q' : Exit → Act → World → Prop} (hq : ∀ e a w,Q e a w → Q' e a w) (h : LetsOut Q) : LetsOut Q' := by
 obtain ⟨a,w,h⟩ := h; exact ⟨a,w,hq _ _ _ h⟩
theorem oper_mono {P : Program} {o : Oper} {a : Act} {w : World} {K K' : Act → World → Prop} {Q Q' : Exit → Act → World → Prop} (h : ∀ a w,K a w → K' a w) (hq : ∀ e a w,Q e a w → Q' e a w)
    (hh : o.wp P a w K Q) : o.wp P a w K' Q' := by
  unfold Oper.wp at *
  generalize (execOp a.eval o).run P w = r at *
  cases r with
  | ok n w' =>
    cases n <;> simp only [Oper.upon] at hh ⊢ <;>
      first
        | exact h _ _ hh
        | exact Calls.mono hh (fun e w'' he => by cases e <;> first | exact h _ _ he | exact letsOut_mono hq he | exact hq _ _ _ he)
        | exact Rows.mono hh (fun _ _ he => h _ _ he)
  | halt x w' => cases x <;> simp only [Oper.upon] at hh ⊢ <;> first | exact hq _ _ _ hh | exact hh
theorem wpList_monoQ {P : Program} {ops : Array Oper} {Q Q' : Exit → Act → World → Prop} (hq : ∀ e a w,Q e a w → Q' e a w) : ∀ (l : List Oper) (a : Act) (w : World),wpList P ops Q l a w → wpList P ops Q' l a w := by
  intro l
  induction l with
  | nil => intro a w h; exact hq _ _ _ h
  | cons o l ih =>
    intro a w h
    unfold wpList at h ⊢
    by_cases hw : Region.wanted o (yielded ops a.tmps) = true
    · rw [if_pos hw] at h ⊢
      rcases h with h | h
      · exact .inl (oper_mono (fun a w h => ih a w h) hq h)
      · exact .inr ⟨h.1,letsOut_mono hq h.2⟩
    · rw [if_neg hw] at h ⊢
      exact ih _ _ h
theorem wpS_of_list {P : Program} {ops : Array Oper} {Q : Exit → Act → List Frame → World → Prop} {cs : List Frame} (hL : ∀ (a : Act) (w : World),¬ Q .outgrown a cs w) : ∀ (l : List Oper) (k : Nat) (a : Act) (w : World),(∀ j,l[j]? = ops[k + j]?) → wpList P ops (fun e a w => Q e a cs w) l a w → wpOpsS P ops Q (List.range' k l.length) a cs w := by
  intro l
  induction l with
  | nil => intro k a w _ h; exact h
  | cons o l ih =>
    intro k a w hj h
    have h0 : ops[k]? = some o := by simpa using (hj 0).symm
    have hj' : ∀ j,l[j]? = ops[k + 1 + j]? := fun j => by have := hj (j + 1); simpa [Nat.add_assoc,Nat.add_comm 1 j] using this
    rw [List.length_cons,List.range'_succ]
    unfold wpList at h
    unfold wpOpsS
    simp only [h0]
    by_cases hw : Region.wanted o (yielded ops a.tmps) = true
    · rw [if_pos hw] at h ⊢
      rcases h with h | ⟨_,a1,w1,h⟩
      · have h2 := oper_mono (K' := fun a' w' => wpOpsS P ops Q (List.range' (k + 1) l.length) a' cs w') (fun a w h => ih (k + 1) a w hj' h) (fun _ _ _ h => h) h
        unfold Oper.wp at h2
        split
        · rename_i heq
          rw [heq] at h2
          exact (show False from h2).elim
        · exact h2
      · exact absurd h (hL a1 w1)
    · rw [if_neg hw] at h ⊢
      exact ih (k + 1) _ _ hj' h
theorem CallsD_recover {P : Program} {N : Nat} {f : FuncId} {fn : Func} {id d0 : Nat} {o0 : Oper} {rest : List Oper} {y : Code} {args : Array Value} {u u' : FrameMode} {w : World} {v : Value} {R : Value → World → Prop}
    (hf : P.funcs[f]? = some fn) (hb : fn.body = some (.seq (.region id (o0 :: rest).toArray false) y)) (hn : fn.ntmps = N) (hsz : args.size ≤ N) (hg : o0.guard = none) (hd : o0.dst = some d0) (hN : d0 < N)
    (hop : ∀ (ρ : Operand → Value) (w : World),(execOp ρ o0).run P w = .ok .recover w)
    (hu : (u = .returning ∧ v = .nilIface ∧ u' = u) ∨ ∃ older,u = .panicking ({ v := v,recovered := false } :: older) ∧ u' = .panicking ({ v := v,recovered := true } :: older))
    (h : WpL P N (o0 :: rest).toArray (Wp P N y (fin P fn R)) (fin P fn R) rest (upd (fun t => args.getD t undef) d0 v) w) : CallsD P f args u w fun e u1 w' => (∃ r,e = .returned r ∧ R r w') ∧ u1 = u' := by
  refine callsD_of_wpS hf hb fun c₀ cs hu0 => ?_
  apply wpS_seq
  apply wpS_region
  have hsz2 : (o0 :: rest).toArray.size = rest.length + 1 := by simp
  rw [hsz2,List.range_eq_range',List.range'_succ]
  obtain ⟨a0,ha0⟩ : ∃ a0 : Act,a0 = { tmps := args ++ Array.replicate (fn.ntmps - args.size) undef,defers := [] } := ⟨_,rfl⟩
  rw [← ha0]
  have hok : Ok [] N a0 := ⟨by rw [ha0]; simp [hn]; omega,by rw [ha0]⟩
  have henv : env a0 = fun t => args.getD t undef := by
    rw [ha0]
    funext t
    simp only [env,Array.getD_eq_getD_getElem?,Array.getElem?_append]
    split
    · rfl
    · rename_i hlt
      rw [Array.getElem?_replicate,Array.getElem?_eq_none (xs := args) (by omega)]
      split <;> rfl
  have h1 := h [] (a0.put (some d0) v) (hok.put _ _) (by rw [env_put hok hN,henv])
  have hrec : (match recoverD (c₀ :: cs) with | some (v,cs') => some (v,cs') | none => some (Value.nilIface,c₀ :: cs)) = some (v,{ c₀ with mode := u' } :: cs) := by
    rcases hu with ⟨rfl,rfl,rfl⟩ | ⟨older,rfl,rfl⟩
    · have : ({ c₀ with mode := FrameMode.returning } : Frame) = c₀ := by cases c₀; simp at hu0; subst hu0; rfl
      simp [recoverD,hu0,this]
    · simp [recoverD,hu0]
  have h2 : wpOpsS P (o0 :: rest).toArray (Exit.thenS (y.wpS P (bodyPostS P fn c₀ cs fun e u1 w' => (∃ r,e = .returned r ∧ R r w') ∧ u1 = u')) (bodyPostS P fn c₀ cs fun e u1 w' => (∃ r,e = .returned r ∧ R r w') ∧ u1 = u')) (List.range' (0 + 1) rest.length) (a0.put (some d0) v) ({ c₀ with mode := u' } :: cs) w := by
    refine wpS_of_list ?_ rest (0 + 1) _ _ (fun j => by simp [Nat.add_comm]) (wpList_monoQ ?_ rest _ _ h1)
    · rintro a w1 ⟨u9,⟨r,h9,_⟩,_⟩; cases h9
    · rintro e a w1 ⟨o,q⟩
      cases e <;> simp only [thn] at q <;> simp only [Exit.thenS]
      · refine wpS_of_wp (Code.wp_mono ?_ (q [] a o rfl))
        rintro e a w1 ⟨o,q⟩
        cases e <;> simp only [fin] at q <;> simp only [bodyPostS]
        · obtain ⟨v9,hv,r⟩ := q; exact ⟨o.defers,u',rfl,v9,hv a rfl,⟨v9,rfl,r⟩,rfl⟩
        · obtain ⟨v9,hv,r⟩ := q; exact ⟨o.defers,u',rfl,v9,hv a rfl,⟨v9,rfl,r⟩,rfl⟩
      all_goals simp only [fin] at q
      · obtain ⟨v9,hv,r⟩ := q; exact ⟨o.defers,u',rfl,v9,hv a rfl,⟨v9,rfl,r⟩,rfl⟩
  unfold wpOpsS
  have h0 : (o0 :: rest).toArray[0]? = some o0 := by simp
  have hw : Region.wanted o0 (yielded (o0 :: rest).toArray a0.tmps) = true := by simp [Region.wanted,hg]
  simp only [h0,hop]
  rw [if_pos hw,hd]
  cases hr : recoverD (c₀ :: cs) with
  | none => rw [hr] at hrec; simp only [Option.some.injEq,Prod.mk.injEq] at hrec; rw [← hrec.1,← hrec.2] at h2; exact h2
  | some p => rw [hr] at hrec; obtain ⟨p1,p2⟩ := p; simp only [Option.some.injEq,Prod.mk.injEq] at hrec; rw [← hrec.1,← hrec.2] at h2; exact h2
end Go.Eng
namespace Go.Proofs
open Go Go.Eng Go.Sort
abbrev TTh : Nat := 85
abbrev nI (n : Nat) : Value := .int .i64 ((n : Nat) : Int)
theorem slAt_keep {M : Nat → Prop} {w w' : World} {k : Nat} {v : Value} {rows : List (List Value)} (h : SlAt w k v rows) (c : Chg M w w') (hM : rows = [] ∨ ∃ b,v.ownBlock = some b ∧ ¬ M b) : SlAt w' k v rows := by
 obtain ⟨a,cap,hv,hl,hc,h⟩ := h
 refine ⟨a,cap,hv,hl,hc,?_⟩
 rcases h with h | ⟨b,o,ha,h⟩
 ·exact .inl h
 ·rcases hM with hM | ⟨b',hb',hM⟩
  ·exact .inl hM
  ·rw [hv,ha] at hb'
   cases hb'
   exact .inr ⟨b,o,ha,fun i r hr => (h i r hr).chg c hM⟩
/-- An edge whose set lies in a block of F. -/
def EdF (F : Nat → Prop) (w : World) (e : Ed) (row : List Value) : Prop := ∃ u,row = edRow e u ∧ SpansAt w u e.2.2 ∧ (e.2.2 = [] ∨ ∃ b,u.ownBlock = some b ∧ F b)
theorem EdF.chg {F M : Nat → Prop} {w w' : World} {e : Ed} {row : List Value} (h : EdF F w e row) (c : Chg M w w') (hM : ∀ y,F y → ¬ M y) : EdF F w' e row := by
 obtain ⟨u,h1,h2,h3⟩ := h
 refine ⟨u,h1,slAt_keep h2 c ?_,h3⟩
 rcases h3 with h3 | ⟨b,h3,h4⟩
 ·exact .inl (by rw [h3]; rfl)
 ·exact .inr ⟨b,h3,hM b h4⟩
theorem EdF.mono {F F' : Nat → Prop} {w : World} {e : Ed} {row : List Value} (h : EdF F w e row) (hF : ∀ y,F y → F' y) : EdF F' w e row := by
 obtain ⟨u,h1,h2,h3⟩ := h
 exact ⟨u,h1,h2,h3.imp id fun ⟨b,h4,h5⟩ => ⟨b,h4,hF b h5⟩⟩
def EdsF (F : Nat → Prop) (w : World) (es : List Ed) (rows : List (List Value)) : Prop := rows.length = es.length ∧ ∀ (i : Nat) e row,es[i]? = some e → rows[i]? = some row → EdF F w e row
theorem EdsF.chg {F M : Nat → Prop} {w w' : World} {es : List Ed} {rows : List (List Value)} (h : EdsF F w es rows) (c : Chg M w w') (hM : ∀ y,F y → ¬ M y) : EdsF F w' es rows := ⟨h.1,fun i e row h1 h2 => (h.2 i e row h1 h2).chg c hM⟩
theorem EdsF.mono {F F' : Nat → Prop} {w : World} {es : List Ed} {rows : List (List Value)} (h : EdsF F w es rows) (hF : ∀ y,F y → F' y) : EdsF F' w es rows := ⟨h.1,fun i e row h1 h2 => (h.2 i e row h1 h2).mono hF⟩
theorem EdsF.snoc {F : Nat → Prop} {w : World} {es : List Ed} {rows : List (List Value)} {e : Ed} {row : List Value} (h : EdsF F w es rows) (hr : EdF F w e row) : EdsF F w (es ++ [e]) (rows ++ [row]) := by
 refine ⟨by simp [h.1],fun i x y hx hy => ?_⟩
 rcases Nat.lt_or_ge i es.length with hi | hi
 ·rw [List.getElem?_append_left hi] at hx
  rw [List.getElem?_append_left (by have := h.1; omega)] at hy
  exact h.2 i x y hx hy
 ·have := lt_of_get hx
  simp at this
  obtain rfl : i = es.length := by omega
  rw [List.getElem?_append_right (Nat.le_refl _),Nat.sub_self] at hx
  rw [← h.1,List.getElem?_append_right (Nat.le_refl _),Nat.sub_self] at hy
  simp at hx hy
  subst hx; subst hy
  exact hr
/-- An automaton that is being built. -/
structure TSt (F : Nat → Prop) (w : World) (base pb : Nat) (pv xv : Value) (s : ThS) : Prop where
 blk : Blk w pb #[nI s.n,.int .i64 0,.slice none 0 0,pv,xv] TTh
 eps : w.ownsRow base TPr 2 pv s.eps.length (s.eps.map spanV).flatten
 edg : ∃ rows,w.ownsRow base TEd 3 xv s.edges.length rows.flatten ∧ EdsF (fun y => F y ∧ base ≤ y) w s.edges rows
 hpF : ∀ b,pv.ownBlock = some b → ¬ F b
 hxF : ∀ b,xv.ownBlock = some b → ¬ F b
 apt : ∀ b,pv.ownBlock = some b → xv.ownBlock ≠ some b
 hp : ¬ F pb
 pb : pb < base
 bs : base ≤ w.heap.size
 fl : ∀ y,F y → y < w.heap.size
section
variable {F F' F2 M : Nat → Prop} {w0 w w' w2 wb : World} {base pb : Nat} {pv xv pv' xv' pv2 xv2 : Value} {s s' s2 : ThS}
theorem TSt.chg (h : TSt F w base pb pv xv s) (c : Chg M w w') (hM : ∀ y,F y → ¬ M y) (h1 : ¬ M pb) (h2 : ∀ b,pv.ownBlock = some b → ¬ M b) (h3 : ∀ b,xv.ownBlock = some b → ¬ M b) : TSt F w' base pb pv xv s := by
 obtain ⟨rows,h4,h5⟩ := h.edg
 exact ⟨c.keep h1 h.blk,own_chg h.eps c h2,⟨rows,own_chg h4 c h3,h5.chg c fun y hy => hM y hy.1⟩,h.hpF,h.hxF,h.apt,h.hp,h.pb,Nat.le_trans h.bs c.size,fun y hy => Nat.lt_of_lt_of_le (h.fl y hy) c.size⟩
theorem TSt.ext (h : TSt F w base pb pv xv s) (c : Ext w w') : TSt F w' base pb pv xv s := h.chg c (fun _ _ f => f) (fun f => f) (fun _ _ f => f) fun _ _ f => f
theorem TSt.form (h : TSt F w base pb pv xv s) : (∃ a c,pv = .slice a s.eps.length c) ∧ ∃ a c,xv = .slice a s.edges.length c := by
 obtain ⟨rows,h4,h5⟩ := h.edg
 exact ⟨own_form h.eps,own_form h4⟩
theorem TSt.kept (h : TSt F w base pb pv xv s) {b : Nat} (hb : F b) : ¬ (b = pb ∨ pv.ownBlock = some b ∨ xv.ownBlock = some b) := fun hm => hm.elim (fun e => h.hp (e ▸ hb)) fun e => e.elim (fun e => h.hpF b e hb) fun e => h.hxF b e hb
/-- It grew. -/
structure GrT (F : Nat → Prop) (w0 : World) (base pb : Nat) (pv xv : Value) (F' : Nat → Prop) (pv' xv' : Value) (s' : ThS) (w : World) : Prop where
 sub : ∀ y,F y → F' y
 new : ∀ y,F' y → F y ∨ w0.heap.size ≤ y
 st : TSt F' w base pb pv' xv' s'
 chg : Chg (fun y => y = pb ∨ pv.ownBlock = some y ∨ xv.ownBlock = some y) w0 w
 op : ∀ k,pv'.ownBlock = some k → pv.ownBlock = some k ∨ w0.heap.size ≤ k
 ox : ∀ k,xv'.ownBlock = some k → xv.ownBlock = some k ∨ w0.heap.size ≤ k
theorem GrT.start (h : TSt F w0 base pb pv xv s) : GrT F w0 base pb pv xv F pv xv s w0 := ⟨fun _ h => h,fun _ h => .inl h,h,Chg.refl _ _,fun _ h => .inl h,fun _ h => .inl h⟩
theorem GrT.ext (h : GrT F w0 base pb pv xv F' pv' xv' s' w) (e : Ext w w2) : GrT F w0 base pb pv xv F' pv' xv' s' w2 := ⟨h.sub,h.new,h.st.ext e,h.chg.ext e,h.op,h.ox⟩
/-- A block that is made now, and never written again. -/
theorem GrT.frz (h : GrT F w0 base pb pv xv F' pv' xv' s' w) (e : Ext w w2) {b : Nat} (hb : w.heap.size ≤ b) (hb2 : b < w2.heap.size) : GrT F w0 base pb pv xv (fun y => F' y ∨ y = b) pv' xv' s' w2 := by
 have hs := h.st
 have hpl := hs.blk.lt
 obtain ⟨rows,h3,h4⟩ := hs.edg
 refine ⟨fun y hy => .inl (h.sub y hy),fun y hy => ?_,⟨e.keep hs.blk,own_ext hs.eps e,⟨rows,own_ext h3 e,(h4.chg e (fun _ _ f => f)).mono fun y hy => ⟨.inl hy.1,hy.2⟩⟩,fun q hq hf => ?_,fun q hq hf => ?_,hs.apt,fun hf => ?_,hs.pb,Nat.le_trans hs.bs e.size,fun y hy => ?_⟩,h.chg.ext e,h.op,h.ox⟩
 ·rcases hy with hy | hy
  ·exact h.new y hy
  ·have := h.chg.size; exact .inr (by omega)
 ·have := (hs.eps.lt q hq).2
  rcases hf with hf | hf
  ·exact hs.hpF q hq hf
  ·omega
 ·have := (h3.lt q hq).2
  rcases hf with hf | hf
  ·exact hs.hxF q hq hf
  ·omega
 ·rcases hf with hf | hf
  ·exact hs.hp hf
  ·omega
 ·rcases hy with hy | hy
  ·have := hs.fl y hy; have := e.size; omega
  ·omega
theorem GrT.comp (h : GrT F w0 base pb pv xv F' pv' xv' s' w) (b : GrT F' w base pb pv' xv' F2 pv2 xv2 s2 w2) : GrT F w0 base pb pv xv F2 pv2 xv2 s2 w2 := by
 have hs := h.chg.size
 refine ⟨fun y hy => b.sub y (h.sub y hy),fun y hy => ?_,b.st,h.chg.step b.chg fun x hx hm => ?_,fun k hk => ?_,fun k hk => ?_⟩
 ·rcases b.new y hy with h1 | h1
  ·exact h.new y h1
  ·exact .inr (by omega)
 ·rcases hm with h1 | h1 | h1
  ·exact .inl h1
  ·rcases h.op x h1 with h3 | h3
   ·exact .inr (.inl h3)
   ·omega
  ·rcases h.ox x h1 with h3 | h3
   ·exact .inr (.inr h3)
   ·omega
 ·rcases b.op k hk with h1 | h1
  ·exact h.op k h1
  ·exact .inr (by omega)
 ·rcases b.ox k hk with h1 | h1
  ·exact h.ox k h1
  ·exact .inr (by omega)
theorem GrT.base' (h : GrT F w0 base pb pv xv F' pv' xv' s' w) (h0 : TSt F w0 base pb pv xv s) (hF : ∀ y,y < wb.heap.size → F y) (hE : Ext wb w0) : Ext wb w :=
 hE.step h.chg fun x hx hm => h0.kept (hF x hx) hm
/-- What a panic leaves. -/
theorem GrT.pan (h : GrT F w0 base pb pv xv F' pv' xv' s' w) (c : Chg (fun y => y = pb ∨ pv'.ownBlock = some y ∨ xv'.ownBlock = some y) w w2) : Chg (fun y => y = pb ∨ pv.ownBlock = some y ∨ xv.ownBlock = some y) w0 w2 :=
 h.chg.step c fun x hx hm => by
  rcases hm with h1 | h1 | h1
  ·exact .inl h1
  ·rcases h.op x h1 with h3 | h3
   ·exact .inr (.inl h3)
   ·omega
  ·rcases h.ox x h1 with h3 | h3
   ·exact .inr (.inr h3)
   ·omega
/-- The number of states changes. -/
theorem GrT.num (h : GrT F w0 base pb pv xv F' pv' xv' s' w) {n' : Nat} (p : Put w w2 pb #[nI n',.int .i64 0,.slice none 0 0,pv',xv'] TTh) : GrT F w0 base pb pv xv F' pv' xv' ⟨n',s'.eps,s'.edges⟩ w2 := by
 have hs := h.st
 obtain ⟨rows,h3,h4⟩ := hs.edg
 refine ⟨h.sub,h.new,⟨p.blk,own_chg hs.eps p.chg (fun k hk e => ?_),⟨rows,own_chg h3 p.chg (fun k hk e => ?_),h4.chg p.chg (fun y hy e => hs.hp (e ▸ hy.1))⟩,hs.hpF,hs.hxF,hs.apt,hs.hp,hs.pb,Nat.le_trans hs.bs p.chg.size,fun y hy => Nat.lt_of_lt_of_le (hs.fl y hy) p.chg.size⟩,h.chg.step p.chg (fun x hx e => .inl e),h.op,h.ox⟩
 ·have := (hs.eps.lt k hk).1; have := hs.pb; omega
 ·have := (h3.lt k hk).1; have := hs.pb; omega
/-- Steps for nothing have been appended elsewhere, and are now the automaton's. -/
theorem GrT.epsPut (h : TSt F w0 base pb pv xv s) {es : List (Int × Int)} (c : Chg (fun y => pv.ownBlock = some y) w0 w) (ho : w.ownsRow base TPr 2 pv' es.length (es.map spanV).flatten) (hd : ∀ k,pv'.ownBlock = some k → pv.ownBlock = some k ∨ w0.heap.size ≤ k) (p : Put w w2 pb #[nI s.n,.int .i64 0,.slice none 0 0,pv',xv] TTh) :
  GrT F w0 base pb pv xv F pv' xv ⟨s.n,es,s.edges⟩ w2 := by
 obtain ⟨rows,h3,h4⟩ := h.edg
 have hx : ∀ k,xv.ownBlock = some k → ¬ pv.ownBlock = some k := fun k hk e => h.apt k e hk
 refine ⟨fun _ h => h,fun _ h => .inl h,⟨p.blk,own_chg ho p.chg (fun k hk e => ?_),⟨rows,own_chg (own_chg h3 c hx) p.chg (fun k hk e => ?_),(h4.chg c (fun y hy e => h.hpF y e hy.1)).chg p.chg (fun y hy e => h.hp (e ▸ hy.1))⟩,fun k hk hf => ?_,h.hxF,fun k hk e => ?_,h.hp,h.pb,Nat.le_trans h.bs (Nat.le_trans c.size p.chg.size),fun y hy => Nat.lt_of_lt_of_le (h.fl y hy) (Nat.le_trans c.size p.chg.size)⟩,(c.mono fun y _ hy => .inr (.inl hy)).step p.chg (fun x hx e => .inl e),hd,fun _ h => .inl h⟩
 ·have := (ho.lt k hk).1; have := h.pb; omega
 ·have := (h3.lt k hk).1; have := h.pb; omega
 ·rcases hd k hk with h1 | h1
  ·exact h.hpF k h1 hf
  ·have := h.fl k hf; omega
 ·rcases hd k hk with h1 | h1
  ·exact h.apt k h1 e
  ·have := (h3.lt k e).2; omega
/-- Edges have been appended elsewhere, and are now the automaton's. -/
theorem GrT.edgPut (h : TSt F w0 base pb pv xv s) {es : List Ed} {rows : List (List Value)} (c : Chg (fun y => xv.ownBlock = some y) w0 w) (ho : w.ownsRow base TEd 3 xv' es.length rows.flatten) (hr : EdsF (fun y => F' y ∧ base ≤ y) w es rows) (hsub : ∀ y,F y → F' y) (hnew : ∀ y,F' y → F y ∨ (w0.heap.size ≤ y ∧ y < w.heap.size ∧ xv'.ownBlock ≠ some y)) (hd : ∀ k,xv'.ownBlock = some k → xv.ownBlock = some k ∨ w0.heap.size ≤ k) (p : Put w w2 pb #[nI s.n,.int .i64 0,.slice none 0 0,pv,xv'] TTh) :
  GrT F w0 base pb pv xv F' pv xv' ⟨s.n,s.eps,es⟩ w2 := by
 have hx : ∀ k,pv.ownBlock = some k → ¬ xv.ownBlock = some k := h.apt
 have hpl := h.blk.lt
 have hF' : ¬ F' pb := fun hf => by
  rcases hnew pb hf with h1 | h1
  ·exact h.hp h1
  ·omega
 refine ⟨hsub,fun y hy => (hnew y hy).imp id fun h => h.1,⟨p.blk,own_chg (own_chg h.eps c hx) p.chg (fun k hk e => ?_),⟨rows,own_chg ho p.chg (fun k hk e => ?_),hr.chg p.chg (fun y hy e => hF' (e ▸ hy.1))⟩,fun k hk hf => ?_,fun k hk hf => ?_,fun k hk e => ?_,hF',h.pb,Nat.le_trans h.bs (Nat.le_trans c.size p.chg.size),fun y hy => ?_⟩,(c.mono fun y _ hy => .inr (.inr hy)).step p.chg (fun x hx e => .inl e),fun _ h => .inl h,hd⟩
 ·have := (h.eps.lt k hk).1; have := h.pb; omega
 ·have := (ho.lt k hk).1; have := h.pb; omega
 ·rcases hnew k hf with h1 | h1
  ·exact h.hpF k hk h1
  ·have := (h.eps.lt k hk).2; omega
 ·rcases hnew k hf with h1 | h1
  ·rcases hd k hk with h2 | h2
   ·exact h.hxF k h2 h1
   ·have := h.fl k h1; omega
  ·exact h1.2.2 hk
 ·rcases hd k e with h1 | h1
  ·exact h.apt k hk h1
  ·have := (h.eps.lt k hk).2; omega
 ·have h2 := p.chg.size
  rcases hnew y hy with h1 | h1
  ·have := h.fl y h1; have := c.size; omega
  ·omega
/-- What is built stays, whatever older blocks become. -/
theorem TSt.done (h : TSt F w base pb pv xv s) (c : Chg M w w') (hM : ∀ y,M y → y < base) : SpansAt w' pv s.eps ∧ EdgesAt w' xv s.edges := by
 obtain ⟨rows,h3,h4⟩ := h.edg
 have k1 := own_chg h.eps c fun k hk hm => by have := (h.eps.lt k hk).1; have := hM k hm; omega
 have k2 := own_chg h3 c fun k hk hm => by have := (h3.lt k hk).1; have := hM k hm; omega
 have k3 := h4.chg c fun y hy hm => by have := hM y hm; omega
 have h8 : ∀ r ∈ rows,r.length = 3 := fun r hr => by
  obtain ⟨i,hi⟩ := List.getElem?_of_mem hr
  obtain ⟨e,he⟩ := get_of_lt (l := s.edges) (i := i) (by have := h4.1; have := lt_of_get hi; omega)
  obtain ⟨u,rfl,_⟩ := h4.2 i e r he hi
  rfl
 refine ⟨own_slat k1 (by intro r hr; obtain ⟨p,_,rfl⟩ := List.mem_map.1 hr; rfl) (by simp) (by decide),rows,own_slat k2 h8 h4.1 (by decide),h4.1,fun i e row h5 h6 => ?_⟩
 obtain ⟨u,h7,h9,_⟩ := k3.2 i e row h5 h6
 exact ⟨u,h7,h9⟩
end
--BEGIN
theorem set_true {M : List Bool} {i j : Nat} (h : M[j]? = some true) : (M.set i true)[j]? = some true := by
 rw [List.getElem?_set]
 split
 ·rename_i he
  subst he
  rw [if_pos (lt_of_get h)]
 ·exact h
end Go.Proofs
namespace Go.Proofs
open Go Go.Eng
def IntssAt (w : World) (v : Value) (ll : List (List Int)) : Prop := ∃ vs : List Value,SlAt w 1 v (vs.map fun x => [x]) ∧ vs.length = ll.length ∧ ∀ (i : Nat) (u : Value) (l : List Int),vs[i]? = some u → ll[i]? = some l → IntsAt w u l
theorem IntssAt.form {w : World} {v : Value} {ll : List (List Int)} (h : IntssAt w v ll) : ∃ a c,v = .slice a ll.length c ∧ ll.length ≤ c ∧ ll.length ≤ 9223372036854775807 := by
 obtain ⟨vs,h1,h2,_⟩ := h
 obtain ⟨a,c,rfl⟩ := h1.form
 have := h1.cap
 have := h1.le
 simp only [List.length_map] at *
 rw [h2] at *
 exact ⟨a,c,rfl,by omega,by omega⟩
theorem intss_cells {w : World} {a : Option Addr} {n c : Nat} {ll : List (List Int)} (h : IntssAt w (.slice a n c) ll) (hn : 0 < n) :
  ∃ b o,a = some ⟨b,o,none⟩ ∧ ∀ i l,ll[i]? = some l → ∃ ra rc,w.cell? ⟨b,o + i,none⟩ = some (.slice ra l.length rc) ∧ IntsAt w (.slice ra l.length rc) l := by
 obtain ⟨vs,h1,h2,h3⟩ := h
 obtain ⟨b,o,ha,hc⟩ := SlAt.at h1 hn
 refine ⟨b,o,ha,fun i l hl => ?_⟩
 have hi : i < vs.length := by have := lt_of_get hl; omega
 have hu : vs[i]? = some vs[i] := List.getElem?_eq_getElem hi
 have h4 := h3 i vs[i] l hu hl
 obtain ⟨ra,rc,hf⟩ := SlAt.form h4
 simp only [List.length_map] at hf
 have h5 := hc i [vs[i]] (by simp [hu]) 0 _ rfl
 rw [Nat.mul_one,Nat.add_zero,hf] at h5
 rw [hf] at h4
 exact ⟨ra,rc,h5,h4⟩
end Go.Proofs
namespace Go.Proofs
open Go Go.Eng Go.Sort
abbrev TDI : Nat := 3
abbrev TDIs : Nat := 22
def iRow (l : List Int) : Nat × List Value := (l.length,l.map (Value.int .i64))
theorem iRow_rep (n : Nat) : (List.replicate n ([] : List Int)).map iRow = List.replicate n (0,[]) := by simp [iRow]
theorem ints_flatD (l : List Int) : (l.map intV).flatten = l.map (Value.int .i64) := by
  induction l with
  | nil => rfl
  | cons x l ih => simp [intV]; simpa [intV] using ih
theorem own_intsD {w : World} {base n : Nat} {v : Value} {l : List Int} (h : w.ownsRow base TDI 1 v n (l.map (Value.int .i64))) (hn : n = l.length) : IntsAt w v l := by
 rw [← ints_flatD] at h
 exact own_slat h (by intro x hx; simp only [List.mem_map] at hx; obtain ⟨p,_,rfl⟩ := hx; rfl) (by simp [hn]) (by decide)
theorem bools_set {M : List Bool} {k : Nat} (b : Bool) : ((M.map Value.bool).toArray).setIfInBounds (0 + k) (.bool b) = ((M.set k b).map Value.bool).toArray := by
 apply Array.ext'
 rw [Array.toList_setIfInBounds,Nat.zero_add,← List.map_set]
theorem snocs {α : Type} {l : List α} (h : 0 < l.length) : ∃ o c,l = o ++ [c] := ⟨l.dropLast,l.getLast (List.ne_nil_of_length_pos h),(List.dropLast_concat_getLast _).symm⟩
end Go.Proofs
