/- Contracts: the maker of expressions and of texts. -/
import Derived.Test.YtiepeobnpmoghaaDoorW12
namespace Go.Proofs
open Go Go.Eng
set_option maxRecDepth 100000

mutual
def allRe (p : Re → Prop) : Re → Prop
  | .mk k set args mn mx ng => p (.mk k set args mn mx ng) ∧ allRes p args
def allRes (p : Re → Prop) : List Re → Prop
  | [] => True
  | t :: ts => allRe p t ∧ allRes p ts
end
def genP (kinds : Int) (t : Re) : Prop := nodeE t = 0 ∧ t.kind ≤ kinds ∧ (t.kind = 2 → ∃ lo hi, t.set = [(lo, hi)] ∧ 97 ≤ lo ∧ lo ≤ hi ∧ hi ≤ 100)
mutual
theorem gen_ok {kinds : Int} : ∀ (t : Re), allRe (genP kinds) t → okRe t
  | .mk k set args mn mx ng, h => by simp only [allRe] at h; simp only [okRe]; exact ⟨h.1.1, gen_oks args h.2⟩
theorem gen_oks {kinds : Int} : ∀ (ts : List Re), allRes (genP kinds) ts → okRes ts
  | [], _ => by simp only [okRes]
  | t :: ts, h => by simp only [allRes] at h; simp only [okRes]; exact ⟨gen_ok t h.1, gen_oks ts h.2⟩
end
theorem StrAt.put {wb w w' : World} {bs b : Nat} {l : List Int} {c : Array Value} {t : TypeId} (h : StrAt wb w bs l) (s : Put w w' b c t) (hne : bs ≠ b) : StrAt wb w' bs l :=
  let ⟨a, c, h1, h2⟩ := h; ⟨a, c, s.keep hne h1, h2⟩
theorem node_leaf {k : Int} (h : k = 0 ∨ k = 1) : nodeE (.mk k [] [] 0 0 false) = 0 := by
  rcases h with rfl | rfl <;> decide
theorem node_set {lo hi : Int} (h1 : 0 ≤ lo) (h2 : lo ≤ hi) (h3 : hi ≤ 1114111) : nodeE (.mk 2 [(lo, hi)] [] 0 0 false) = 0 := by
  simp [nodeE, formB, okB, checkE, checkL, validB, Re.kind, Re.set, Re.args, Re.mn, Re.mx, Re.neg, h1, h2, h3]
theorem node_two {k : Int} (h : k = 3 ∨ k = 4 ∨ k = 7) (t u : Re) : nodeE (.mk k [] [t, u] 0 0 false) = 0 := by
  rcases h with rfl | rfl | rfl <;> simp [nodeE, formB, okB, Re.kind, Re.set, Re.args, Re.mn, Re.mx, Re.neg]
theorem node_rep {mn mx : Int} (h0 : 0 ≤ mn) (h1 : mn ≤ mx) (h2 : mx ≤ 8) (t : Re) : nodeE (.mk 6 [] [t] mn mx false) = 0 := by
  simp [nodeE, formB, okB, Re.kind, Re.set, Re.args, Re.mn, Re.mx, Re.neg]; omega
theorem node_group {mn : Int} (h0 : 0 ≤ mn) (h1 : mn ≤ 9) (t : Re) : nodeE (.mk 9 [] [t] mn 0 false) = 0 := by
  simp [nodeE, formB, okB, Re.kind, Re.set, Re.args, Re.mn, Re.mx, Re.neg]; omega
theorem node_look (ng : Bool) (t : Re) : nodeE (.mk 10 [] [t] 0 0 ng) = 0 := by
  simp [nodeE, formB, okB, Re.kind, Re.set, Re.args, Re.mn, Re.mx, Re.neg]
theorem node_one {k : Int} (h : k = 5 ∨ k = 8) (t : Re) : nodeE (.mk k [] [t] 0 0 false) = 0 := by
  rcases h with rfl | rfl <;> simp [nodeE, formB, okB, Re.kind, Re.set, Re.args, Re.mn, Re.mx, Re.neg]
theorem gen_mk {kinds k mn mx : Int} {ng : Bool} {ts : List Re} (hk : k ≤ kinds) (h2 : k ≠ 2) (hn : nodeE (.mk k [] ts mn mx ng) = 0) (ht : allRes (genP kinds) ts) : allRe (genP kinds) (.mk k [] ts mn mx ng) := by
  simp only [allRe]; exact ⟨⟨hn, hk, fun h => absurd h h2⟩, ht⟩

theorem gen_pow {d : Nat} (h : 1 ≤ d) : 2 ^ (d - 1 + 1) = 2 ^ d := by rw [Nat.sub_add_cancel h]
theorem gen_size1 {d : Nat} (h : 1 ≤ d) {t : Re} (hs : t.size + 1 ≤ 2 ^ (d - 1 + 1)) {k mn mx : Int} {set : List (Int × Int)} {ng : Bool} : (Re.mk k set [t] mn mx ng).size + 1 ≤ 2 ^ (d + 1) := by
  rw [gen_pow h] at hs
  simp only [Re.size, Re.sizes, Nat.pow_succ]; have := t.size_pos; omega
theorem gen_size2 {d : Nat} (h : 1 ≤ d) {t u : Re} (hs : t.size + 1 ≤ 2 ^ (d - 1 + 1)) (hu : u.size + 1 ≤ 2 ^ (d - 1 + 1)) {k mn mx : Int} {set : List (Int × Int)} {ng : Bool} : (Re.mk k set [t, u] mn mx ng).size + 1 ≤ 2 ^ (d + 1) := by
  rw [gen_pow h] at hs hu
  simp only [Re.size, Re.sizes, Nat.pow_succ]; omega
set_option maxHeartbeats 4000000 in
theorem gen_c (wb : World) (bs : Nat) (kinds : Int) (hk : kinds = 8 ∨ kinds = 10) (hb : wb.heap.size ≤ bs) : ∀ (d : Nat), d ≤ 4 → ∀ (w0 : World) (l : List Int), Ext wb w0 → StrAt wb w0 bs l →
    Ret Tryd.prog 35 #[.pointer (some ⟨bs, 0, none⟩), .int .i64 ((d : Nat) : Int), .int .i64 kinds] w0 fun v w => ∃ t vs l', v = .agg vs.toArray ∧ allRe (genP kinds) t ∧ t.size + 1 ≤ 2 ^ (d + 1) ∧ ReIn (fun b => w0.heap.size ≤ b) w t vs ∧ StrAt wb w bs l' ∧ Chg (fun x => x = bs) w0 w := by
  intro d
  induction d using Nat.strongRecOn with
  | _ d ih =>
  intro hd4 w0 l hE hS
  have hbs0 := hS.lt
  have toE : ∀ {w : World}, Chg (fun x => x = bs) w0 w → Ext wb w := fun c => Chg.step hE c fun x hx hm => by have hm' : x = bs := hm; omega
  refine Ret_of Tryd.func35 rfl Tryd.ntmps35 (Nat.le_of_ble_eq_true rfl) ?_
  have E : Chg (fun x => x = bs) w0 w0 := Chg.refl _ _
  refine Wp_seq_region ?_
  refine s_alloc (c := #[(.int .i64 0), (.slice none 0 0), (.slice none 0 0), (.int .i64 0), (.int .i64 0), (.bool false)]) (by decide) zer27 rfl ?_
  intro b1 w1 N1
  have F1 := N1.ge E
  replace hS := hS.ext N1.ext
  replace E := E.ext N1.ext
  have B1 := N1.blk
  refine WpL_nil ?_
  refine Wp_seq_region ?_
  refine WpL_val rfl rfl (by decide) (r_move (v := (.pointer (some ⟨bs, 0, none⟩))) rfl) ?_
  refine WpL_val rfl rfl (by decide) (r_move (v := (.int .i64 kinds)) rfl) ?_
  refine WpL_val rfl rfl (by decide) (r_add (k := .i64) (a := kinds) (b := 1) (c := kinds + 1) rfl rfl (wI64 (by omega))) ?_
  have hne1 : b1 ≠ bs := by omega
  refine WpL_enter rfl rfl (by decide) (r_callF (vs := [(.pointer (some ⟨bs, 0, none⟩)), (.int .i64 (kinds + 1))]) Tryd.func63 nm63 bd63 rfl) (next_c wb _ bs _ _ (by omega) (by omega) (toE E) hb hS) ?_
  rintro _ w2 ⟨k0, l1, rfl, hk0, hk1, hS, C2⟩
  replace B1 := C2.keep (hne1) B1
  replace E := E.trans C2
  refine WpL_val rfl rfl (by decide) (r_assign (v := (.int .i64 k0)) rfl) ?_
  refine WpL_nil ?_
  refine Wp_cut (fun σ W2 => ∃ (k : Int) (l1 : List Int), (∃ jj_, σ = upds jj_ [(0, (.pointer (some ⟨bs, 0, none⟩))), (1, (.int .i64 ((d : Nat) : Int))), (2, (.int .i64 kinds)), (6, (.pointer (some ⟨b1, 0, none⟩))), (7, (.int .i64 k))]) ∧ Chg (fun x => x = bs) w0 W2 ∧ Blk W2 b1 #[(.int .i64 0), (.slice none 0 0), (.slice none 0 0), (.int .i64 0), (.int .i64 0), (.bool false)] 27 ∧ (StrAt wb W2 bs l1) ∧ (0 ≤ k ∧ k ≤ kinds ∧ (d = 0 → k < 3))) ?_ ?_
  · skip
    refine Wp_seq_region ?_
    refine WpL_val rfl rfl (by decide) (r_move (v := (.int .i64 ((d : Nat) : Int))) rfl) ?_
    refine WpL_val rfl rfl (by decide) (r_eql (k := .i64) (a := ((d : Nat) : Int)) (b := 0) rfl rfl) ?_
    refine WpL_nil ?_
    refine Wp_cond (b := decide ((((d : Nat) : Int) : Int) = 0)) rfl (fun hd => ?_) (fun hd => ?_)
    · have khd := hd
      replace hd := of_decide_eq_true hd
      refine Wp_region ?_
      refine WpL_val rfl rfl (by decide) (r_move (v := (.pointer (some ⟨bs, 0, none⟩))) rfl) ?_
      refine WpL_enter rfl rfl (by decide) (r_callF (vs := [(.pointer (some ⟨bs, 0, none⟩)), (.int .i64 3)]) Tryd.func63 nm63 bd63 rfl) (next_c wb _ bs _ _ (by omega) (by omega) (toE E) hb hS) ?_
      rintro _ w3 ⟨k2, l2, rfl, hk2, hk3, hS, C3⟩
      replace B1 := C3.keep (hne1) B1
      replace E := E.trans C3
      refine WpL_val rfl rfl (by decide) (r_assign (v := (.int .i64 k2)) rfl) ?_
      refine WpL_nil ?_
      refine thn_normal ?_
      exact ⟨k2, l2, Fits.out ⟨rfl, rfl, rfl, rfl, rfl, trivial⟩, E, B1, hS, (by omega)⟩
    · have khd := hd
      replace hd := of_decide_eq_false hd
      refine Wp_skip ?_
      refine thn_normal ?_
      exact ⟨k0, l1, Fits.out ⟨rfl, rfl, rfl, rfl, rfl, trivial⟩, E, B1, hS, (by omega)⟩
  · clear E B1
    rintro _ W2 ⟨k, l1, ⟨j2, rfl⟩, E, B1, hS, hkk⟩
    refine Wp_seq ?_
    refine Wp_seq_region ?_
    refine WpL_val rfl rfl (by decide) (r_move (v := (.int .i64 k)) rfl) ?_
    refine WpL_nil ?_
    refine Wp_block ?_
    refine Wp_seq ?_
    refine Wp_seq_region ?_
    refine WpL_val rfl rfl (by decide) (r_eql (k := .i64) (a := k) (b := 0) rfl rfl) ?_
    refine WpL_val rfl rfl (by decide) (r_assign (v := (.bool (decide ((k : Int) = 0)))) rfl) ?_
    refine WpL_nil ?_
    refine Wp_cond (b := decide ((k : Int) = 0)) rfl (fun h0 => ?_) (fun h0 => ?_)
    · have kh0 := h0
      replace h0 := of_decide_eq_true h0
      refine Wp_skip ?_
      refine thn_normal ?_
      refine Wp_cond_true (congrArg Value.bool kh0) ?_
      refine Wp_seq_region ?_
      refine WpL_val rfl rfl (by decide) (r_move (v := (.int .i64 k)) rfl) ?_
      refine WpL_val rfl rfl (by decide) (r_build (ps := [(0, (.int .i64 k))]) (v := (.agg #[(.int .i64 k), (.slice none 0 0), (.slice none 0 0), (.int .i64 0), (.int .i64 0), (.bool false)])) rfl (by kernel_rfl)) ?_
      refine s_storeAgg (b := b1) (o := 0) (c' := #[(.int .i64 k), (.slice none 0 0), (.slice none 0 0), (.int .i64 0), (.int .i64 0), (.bool false)]) rfl rfl (by simp [Value.oneCell']) siz27 rfl B1 (by simp) rfl ?_
      intro w5 S5
      replace hS := hS.put S5 (Ne.symm hne1)
      replace E := S5.step E (by first | exact Or.inl (by omega) | exact Or.inr rfl | exact Or.inr (by assumption) | exact Or.inr (by simp) | exact Or.inr (by omega) | exact Or.inr (by dsimp only; omega))
      replace B1 := S5.blk
      refine WpL_nil ?_
      refine Wp_ret ?_
      refine inB_ret ?_
      refine thn_ret ?_
      refine fin_agg Tryd.results35 (vs := [(.int .i64 k), (.slice none 0 0), (.slice none 0 0), (.int .i64 0), (.int .i64 0), (.bool false)]) (b := b1) rfl agg27 siz27 rfl (B1.cells rfl) ?_
      exact ⟨.mk k [] [] 0 0 false, _, l1, rfl, gen_mk hkk.2.1 (by omega) (node_leaf (by omega)) (by simp only [allRes]), by simp only [Re.size, Re.sizes]; have := Nat.two_pow_pos d; rw [Nat.pow_succ]; omega, ReIn.of (set := []) (SlIn.nil _ _ _ _ _) (by simp) (.inl rfl), hS, E⟩
    · have kh0 := h0
      replace h0 := of_decide_eq_false h0
      refine Wp_region ?_
      refine WpL_val rfl rfl (by decide) (r_eql (k := .i64) (a := k) (b := 1) rfl rfl) ?_
      refine WpL_val rfl rfl (by decide) (r_assign (v := (.bool (decide ((k : Int) = 1)))) rfl) ?_
      refine WpL_nil ?_
      refine thn_normal ?_
      refine Wp_cond (b := decide ((k : Int) = 1)) rfl (fun h1 => ?_) (fun h1 => ?_)
      · have kh1 := h1
        replace h1 := of_decide_eq_true h1
        refine Wp_seq_region ?_
        refine WpL_val rfl rfl (by decide) (r_move (v := (.int .i64 k)) rfl) ?_
        refine WpL_val rfl rfl (by decide) (r_build (ps := [(0, (.int .i64 k))]) (v := (.agg #[(.int .i64 k), (.slice none 0 0), (.slice none 0 0), (.int .i64 0), (.int .i64 0), (.bool false)])) rfl (by kernel_rfl)) ?_
        refine s_storeAgg (b := b1) (o := 0) (c' := #[(.int .i64 k), (.slice none 0 0), (.slice none 0 0), (.int .i64 0), (.int .i64 0), (.bool false)]) rfl rfl (by simp [Value.oneCell']) siz27 rfl B1 (by simp) rfl ?_
        intro w7 S7
        replace hS := hS.put S7 (Ne.symm hne1)
        replace E := S7.step E (by first | exact Or.inl (by omega) | exact Or.inr rfl | exact Or.inr (by assumption) | exact Or.inr (by simp) | exact Or.inr (by omega) | exact Or.inr (by dsimp only; omega))
        replace B1 := S7.blk
        refine WpL_nil ?_
        refine Wp_ret ?_
        refine inB_ret ?_
        refine thn_ret ?_
        refine fin_agg Tryd.results35 (vs := [(.int .i64 k), (.slice none 0 0), (.slice none 0 0), (.int .i64 0), (.int .i64 0), (.bool false)]) (b := b1) rfl agg27 siz27 rfl (B1.cells rfl) ?_
        exact ⟨.mk k [] [] 0 0 false, _, l1, rfl, gen_mk hkk.2.1 (by omega) (node_leaf (by omega)) (by simp only [allRes]), by simp only [Re.size, Re.sizes]; have := Nat.two_pow_pos d; rw [Nat.pow_succ]; omega, ReIn.of (set := []) (SlIn.nil _ _ _ _ _) (by simp) (.inl rfl), hS, E⟩
      · have kh1 := h1
        replace h1 := of_decide_eq_false h1
        refine Wp_seq_region ?_
        refine WpL_val rfl rfl (by decide) (r_eql (k := .i64) (a := k) (b := 2) rfl rfl) ?_
        refine WpL_val rfl rfl (by decide) (r_assign (v := (.bool (decide ((k : Int) = 2)))) rfl) ?_
        refine WpL_nil ?_
        refine Wp_cond (b := decide ((k : Int) = 2)) rfl (fun h2 => ?_) (fun h2 => ?_)
        · have kh2 := h2
          replace h2 := of_decide_eq_true h2
          refine Wp_seq_region ?_
          refine WpL_val rfl rfl (by decide) (r_move (v := (.pointer (some ⟨bs, 0, none⟩))) rfl) ?_
          refine WpL_enter rfl rfl (by decide) (r_callF (vs := [(.pointer (some ⟨bs, 0, none⟩)), (.int .i64 3)]) Tryd.func63 nm63 bd63 rfl) (next_c wb _ bs _ _ (by omega) (by omega) (toE E) hb hS) ?_
          rintro _ w5 ⟨x, l2, rfl, hx0, hx1, hS, C5⟩
          replace B1 := C5.keep (hne1) B1
          replace E := E.trans C5
          refine WpL_val rfl rfl (by decide) (r_add (k := .i64) (a := 97) (b := x) (c := 97 + x) rfl rfl (wI64 (by omega))) ?_
          refine WpL_val rfl rfl (by decide) (r_assign (v := (.int .i64 (97 + x))) rfl) ?_
          refine WpL_nil ?_
          refine Wp_seq_region ?_
          refine WpL_val rfl rfl (by decide) (r_move (v := (.int .i64 k)) rfl) ?_
          refine WpL_val rfl rfl (by decide) (r_move (v := (.int .i64 (97 + x))) rfl) ?_
          refine WpL_val rfl rfl (by decide) (r_move (v := (.int .i64 (97 + x))) rfl) ?_
          refine WpL_val rfl rfl (by decide) (r_move (v := (.pointer (some ⟨bs, 0, none⟩))) rfl) ?_
          refine WpL_enter rfl rfl (by decide) (r_callF (vs := [(.pointer (some ⟨bs, 0, none⟩)), (.int .i64 2)]) Tryd.func63 nm63 bd63 rfl) (next_c wb _ bs _ _ (by omega) (by omega) (toE E) hb hS) ?_
          rintro _ w6 ⟨y, l3, rfl, hy0, hy1, hS, C6⟩
          replace B1 := C6.keep (hne1) B1
          replace E := E.trans C6
          refine WpL_val rfl rfl (by decide) (r_add (k := .i64) (a := 97 + x) (b := y) (c := (97 + x) + y) rfl rfl (wI64 (by omega))) ?_
          refine WpL_val rfl rfl (by decide) (r_build (ps := [(0, (.int .i64 (97 + x))), (1, (.int .i64 ((97 + x) + y)))]) (v := (.agg #[(.int .i64 (97 + x)), (.int .i64 ((97 + x) + y))])) rfl (by kernel_rfl)) ?_
          refine s_buildSlice (ps := [(0, (.agg #[(.int .i64 (97 + x)), (.int .i64 ((97 + x) + y))]))]) (c := #[(.int .i64 (97 + x)), (.int .i64 ((97 + x) + y))]) (by decide) rfl Tryd.underlying24 siz82 zer82 (by decide) (by decide) (by kernel_rfl) ?_
          intro bq wq Nq
          have Fq := Nq.ge E
          have Oq_b1 := Nq.lt B1
          replace B1 := Nq.keep B1
          replace hS := hS.ext Nq.ext
          replace E := E.ext Nq.ext
          have Bq := Nq.blk
          refine WpL_val rfl rfl (by decide) (r_build (ps := [(0, (.int .i64 k)), (1, (.slice (some ⟨bq, 0, none⟩) 1 1))]) (v := (.agg #[(.int .i64 k), (.slice (some ⟨bq, 0, none⟩) 1 1), (.slice none 0 0), (.int .i64 0), (.int .i64 0), (.bool false)])) rfl (by kernel_rfl)) ?_
          refine s_storeAgg (b := b1) (o := 0) (c' := #[(.int .i64 k), (.slice (some ⟨bq, 0, none⟩) 1 1), (.slice none 0 0), (.int .i64 0), (.int .i64 0), (.bool false)]) rfl rfl (by simp [Value.oneCell']) siz27 rfl B1 (by simp) rfl ?_
          intro w9 S9
          replace hS := hS.put S9 (Ne.symm hne1)
          replace Bq := S9.keep (by omega) Bq
          replace E := S9.step E (by first | exact Or.inl (by omega) | exact Or.inr rfl | exact Or.inr (by assumption) | exact Or.inr (by simp) | exact Or.inr (by omega) | exact Or.inr (by dsimp only; omega))
          replace B1 := S9.blk
          refine WpL_nil ?_
          refine Wp_ret ?_
          refine inB_ret ?_
          refine thn_ret ?_
          refine fin_agg Tryd.results35 (vs := [(.int .i64 k), (.slice (some ⟨bq, 0, none⟩) 1 1), (.slice none 0 0), (.int .i64 0), (.int .i64 0), (.bool false)]) (b := b1) rfl agg27 siz27 rfl (B1.cells rfl) ?_
          exact ⟨.mk k [(97 + x, 97 + x + y)] [] 0 0 false, _, l3, rfl, by subst h2; simp only [allRe, allRes]; exact ⟨⟨node_set (by omega) (by omega) (by omega), hkk.2.1, fun _ => ⟨_, _, rfl, by omega, by omega, by omega⟩⟩, trivial⟩, by simp only [Re.size, Re.sizes]; have := Nat.two_pow_pos d; rw [Nat.pow_succ]; omega, ReIn.of (set := [(97 + x, 97 + x + y)]) (SlIn.mk (spans_of_blk [(97 + x, 97 + x + y)] Bq (by simp) (by simp)) (by omega)) (by simp) (.inl rfl), hS, E⟩
        · have kh2 := h2
          replace h2 := of_decide_eq_false h2
          refine Wp_seq ?_
          refine Wp_seq_region ?_
          refine WpL_val rfl rfl (by decide) (r_eql (k := .i64) (a := k) (b := 3) rfl rfl) ?_
          refine WpL_val rfl rfl (by decide) (r_assign (v := (.bool (decide ((k : Int) = 3)))) rfl) ?_
          refine WpL_nil ?_
          refine Wp_cond (b := decide ((k : Int) = 3)) rfl (fun h3 => ?_) (fun h3 => ?_)
          · have kh3 := h3
            replace h3 := of_decide_eq_true h3
            have hd1 : 1 ≤ d := by omega
            have hlt1 := B1.lt
            have hz1 := E.size
            refine Wp_skip ?_
            refine thn_normal ?_
            refine Wp_cond_true (congrArg Value.bool kh3) ?_
            refine Wp_seq_region ?_
            refine WpL_val rfl rfl (by decide) (r_move (v := (.int .i64 k)) rfl) ?_
            refine WpL_val rfl rfl (by decide) (r_move (v := (.pointer (some ⟨bs, 0, none⟩))) rfl) ?_
            refine WpL_val rfl rfl (by decide) (r_move (v := (.int .i64 ((d : Nat) : Int))) rfl) ?_
            refine WpL_val rfl rfl (by decide) (r_sub (k := .i64) (a := ((d : Nat) : Int)) (b := 1) (c := ((d - 1 : Nat) : Int)) rfl rfl (by rw [wI64 (by omega)]; omega)) ?_
            refine WpL_val rfl rfl (by decide) (r_move (v := (.int .i64 kinds)) rfl) ?_
            refine WpL_enter rfl rfl (by decide) (r_callF (vs := [(.pointer (some ⟨bs, 0, none⟩)), (.int .i64 ((d - 1 : Nat) : Int)), (.int .i64 kinds)]) Tryd.func35 nm35 bd35 rfl) (ih (d - 1) (by omega) (by omega) _ _ (toE E) hS) ?_
            rintro _ w5 ⟨t1, us1, l5, rfl, hg1, hs1, ht1, hS, C5⟩
            replace B1 := C5.keep (hne1) B1
            replace E := E.trans C5
            obtain ⟨sa1, sc1, aa1, ac1, rfl, _, _, _⟩ := ht1.form
            have hlt2 := B1.lt
            have hz2 := E.size
            refine WpL_val rfl rfl (by decide) (r_move (v := (.pointer (some ⟨bs, 0, none⟩))) rfl) ?_
            refine WpL_val rfl rfl (by decide) (r_move (v := (.int .i64 ((d : Nat) : Int))) rfl) ?_
            refine WpL_val rfl rfl (by decide) (r_sub (k := .i64) (a := ((d : Nat) : Int)) (b := 1) (c := ((d - 1 : Nat) : Int)) rfl rfl (by rw [wI64 (by omega)]; omega)) ?_
            refine WpL_val rfl rfl (by decide) (r_move (v := (.int .i64 kinds)) rfl) ?_
            refine WpL_enter rfl rfl (by decide) (r_callF (vs := [(.pointer (some ⟨bs, 0, none⟩)), (.int .i64 ((d - 1 : Nat) : Int)), (.int .i64 kinds)]) Tryd.func35 nm35 bd35 rfl) (ih (d - 1) (by omega) (by omega) _ _ (toE E) hS) ?_
            rintro _ w6 ⟨t2, us2, l6, rfl, hg2, hs2, ht2, hS, C6⟩
            replace B1 := C6.keep (hne1) B1
            replace E := E.trans C6
            obtain ⟨sa2, sc2, aa2, ac2, rfl, _, _, _⟩ := ht2.form
            replace ht1 := ReIn.chg C6 (fun x hx hm => by have hx' := hx; have hm' : x = bs := hm; have := E.size; omega) t1 ht1
            refine s_buildSlice (ps := [(0, (.agg #[(.int .i64 t1.kind), (.slice sa1 t1.set.length sc1), (.slice aa1 t1.args.length ac1), (.int .i64 t1.mn), (.int .i64 t1.mx), (.bool t1.neg)])), (1, (.agg #[(.int .i64 t2.kind), (.slice sa2 t2.set.length sc2), (.slice aa2 t2.args.length ac2), (.int .i64 t2.mn), (.int .i64 t2.mx), (.bool t2.neg)]))]) (c := #[(.int .i64 t1.kind), (.slice sa1 t1.set.length sc1), (.slice aa1 t1.args.length ac1), (.int .i64 t1.mn), (.int .i64 t1.mx), (.bool t1.neg), (.int .i64 t2.kind), (.slice sa2 t2.set.length sc2), (.slice aa2 t2.args.length ac2), (.int .i64 t2.mn), (.int .i64 t2.mx), (.bool t2.neg)]) (by decide) rfl Tryd.underlying25 siz27 zer27 (by decide) (by decide) (by kernel_rfl) ?_
            intro bq wq Nq
            have Fq := Nq.ge E
            have Oq_b1 := Nq.lt B1
            replace B1 := Nq.keep B1
            replace hS := hS.ext Nq.ext
            replace ht1 := ReIn.ext Nq.ext t1 ht1
            replace ht2 := ReIn.ext Nq.ext t2 ht2
            replace E := E.ext Nq.ext
            have Bq := Nq.blk
            refine WpL_val rfl rfl (by decide) (r_build (ps := [(0, (.int .i64 k)), (2, (.slice (some ⟨bq, 0, none⟩) 2 2))]) (v := (.agg #[(.int .i64 k), (.slice none 0 0), (.slice (some ⟨bq, 0, none⟩) 2 2), (.int .i64 0), (.int .i64 0), (.bool false)])) rfl (by kernel_rfl)) ?_
            refine s_storeAgg (b := b1) (o := 0) (c' := #[(.int .i64 k), (.slice none 0 0), (.slice (some ⟨bq, 0, none⟩) 2 2), (.int .i64 0), (.int .i64 0), (.bool false)]) rfl rfl (by simp [Value.oneCell']) siz27 rfl B1 (by simp) rfl ?_
            intro w11 S11
            replace hS := hS.put S11 (Ne.symm hne1)
            replace ht1 := ReIn.chg S11.chg (fun x hx hm => by have hx' := hx; have hm' : x = b1 := hm; omega) t1 ht1
            replace ht2 := ReIn.chg S11.chg (fun x hx hm => by have hx' := hx; have hm' : x = b1 := hm; omega) t2 ht2
            replace Bq := S11.keep (by omega) Bq
            replace E := S11.step E (by first | exact Or.inl (by omega) | exact Or.inr rfl | exact Or.inr (by assumption) | exact Or.inr (by simp) | exact Or.inr (by omega) | exact Or.inr (by dsimp only; omega))
            replace B1 := S11.blk
            refine WpL_nil ?_
            refine Wp_ret ?_
            refine inB_ret ?_
            refine thn_ret ?_
            refine fin_agg Tryd.results35 (vs := [(.int .i64 k), (.slice none 0 0), (.slice (some ⟨bq, 0, none⟩) 2 2), (.int .i64 0), (.int .i64 0), (.bool false)]) (b := b1) rfl agg27 siz27 rfl (B1.cells rfl) ?_
            exact ⟨.mk k [] [t1, t2] 0 0 false, _, l6, rfl, gen_mk hkk.2.1 (by omega) (node_two (by omega) t1 t2) (by simp only [allRes]; exact ⟨hg1, hg2, trivial⟩), gen_size2 hd1 hs1 hs2, ReIn.of (set := []) (SlIn.nil _ _ _ _ _) (by simp) (.inr ⟨bq, 0, by omega, rfl, ResIn.two (Bq.cells rfl) (ReIn.mono (fun b (h : _ ≤ b) => by omega) t1 ht1) (Bq.cells rfl) (ReIn.mono (fun b (h : _ ≤ b) => by omega) t2 ht2)⟩), hS, E⟩
          · have kh3 := h3
            replace h3 := of_decide_eq_false h3
            refine Wp_seq_region ?_
            refine WpL_val rfl rfl (by decide) (r_eql (k := .i64) (a := k) (b := 4) rfl rfl) ?_
            refine WpL_val rfl rfl (by decide) (r_assign (v := (.bool (decide ((k : Int) = 4)))) rfl) ?_
            refine WpL_nil ?_
            refine Wp_cond (b := decide ((k : Int) = 4)) rfl (fun h4 => ?_) (fun h4 => ?_)
            · have kh4 := h4
              replace h4 := of_decide_eq_true h4
              have hd1 : 1 ≤ d := by omega
              have hlt1 := B1.lt
              have hz1 := E.size
              refine Wp_skip ?_
              refine thn_normal ?_
              refine Wp_cond_true (congrArg Value.bool kh4) ?_
              refine Wp_seq_region ?_
              refine WpL_val rfl rfl (by decide) (r_move (v := (.int .i64 k)) rfl) ?_
              refine WpL_val rfl rfl (by decide) (r_move (v := (.pointer (some ⟨bs, 0, none⟩))) rfl) ?_
              refine WpL_val rfl rfl (by decide) (r_move (v := (.int .i64 ((d : Nat) : Int))) rfl) ?_
              refine WpL_val rfl rfl (by decide) (r_sub (k := .i64) (a := ((d : Nat) : Int)) (b := 1) (c := ((d - 1 : Nat) : Int)) rfl rfl (by rw [wI64 (by omega)]; omega)) ?_
              refine WpL_val rfl rfl (by decide) (r_move (v := (.int .i64 kinds)) rfl) ?_
              refine WpL_enter rfl rfl (by decide) (r_callF (vs := [(.pointer (some ⟨bs, 0, none⟩)), (.int .i64 ((d - 1 : Nat) : Int)), (.int .i64 kinds)]) Tryd.func35 nm35 bd35 rfl) (ih (d - 1) (by omega) (by omega) _ _ (toE E) hS) ?_
              rintro _ w5 ⟨t1, us1, l5, rfl, hg1, hs1, ht1, hS, C5⟩
              replace B1 := C5.keep (hne1) B1
              replace E := E.trans C5
              obtain ⟨sa1, sc1, aa1, ac1, rfl, _, _, _⟩ := ht1.form
              have hlt2 := B1.lt
              have hz2 := E.size
              refine WpL_val rfl rfl (by decide) (r_move (v := (.pointer (some ⟨bs, 0, none⟩))) rfl) ?_
              refine WpL_val rfl rfl (by decide) (r_move (v := (.int .i64 ((d : Nat) : Int))) rfl) ?_
              refine WpL_val rfl rfl (by decide) (r_sub (k := .i64) (a := ((d : Nat) : Int)) (b := 1) (c := ((d - 1 : Nat) : Int)) rfl rfl (by rw [wI64 (by omega)]; omega)) ?_
              refine WpL_val rfl rfl (by decide) (r_move (v := (.int .i64 kinds)) rfl) ?_
              refine WpL_enter rfl rfl (by decide) (r_callF (vs := [(.pointer (some ⟨bs, 0, none⟩)), (.int .i64 ((d - 1 : Nat) : Int)), (.int .i64 kinds)]) Tryd.func35 nm35 bd35 rfl) (ih (d - 1) (by omega) (by omega) _ _ (toE E) hS) ?_
              rintro _ w6 ⟨t2, us2, l6, rfl, hg2, hs2, ht2, hS, C6⟩
              replace B1 := C6.keep (hne1) B1
              replace E := E.trans C6
              obtain ⟨sa2, sc2, aa2, ac2, rfl, _, _, _⟩ := ht2.form
              replace ht1 := ReIn.chg C6 (fun x hx hm => by have hx' := hx; have hm' : x = bs := hm; have := E.size; omega) t1 ht1
              refine s_buildSlice (ps := [(0, (.agg #[(.int .i64 t1.kind), (.slice sa1 t1.set.length sc1), (.slice aa1 t1.args.length ac1), (.int .i64 t1.mn), (.int .i64 t1.mx), (.bool t1.neg)])), (1, (.agg #[(.int .i64 t2.kind), (.slice sa2 t2.set.length sc2), (.slice aa2 t2.args.length ac2), (.int .i64 t2.mn), (.int .i64 t2.mx), (.bool t2.neg)]))]) (c := #[(.int .i64 t1.kind), (.slice sa1 t1.set.length sc1), (.slice aa1 t1.args.length ac1), (.int .i64 t1.mn), (.int .i64 t1.mx), (.bool t1.neg), (.int .i64 t2.kind), (.slice sa2 t2.set.length sc2), (.slice aa2 t2.args.length ac2), (.int .i64 t2.mn), (.int .i64 t2.mx), (.bool t2.neg)]) (by decide) rfl Tryd.underlying25 siz27 zer27 (by decide) (by decide) (by kernel_rfl) ?_
              intro bq wq Nq
              have Fq := Nq.ge E
              have Oq_b1 := Nq.lt B1
              replace B1 := Nq.keep B1
              replace hS := hS.ext Nq.ext
              replace ht1 := ReIn.ext Nq.ext t1 ht1
              replace ht2 := ReIn.ext Nq.ext t2 ht2
              replace E := E.ext Nq.ext
              have Bq := Nq.blk
              refine WpL_val rfl rfl (by decide) (r_build (ps := [(0, (.int .i64 k)), (2, (.slice (some ⟨bq, 0, none⟩) 2 2))]) (v := (.agg #[(.int .i64 k), (.slice none 0 0), (.slice (some ⟨bq, 0, none⟩) 2 2), (.int .i64 0), (.int .i64 0), (.bool false)])) rfl (by kernel_rfl)) ?_
              refine s_storeAgg (b := b1) (o := 0) (c' := #[(.int .i64 k), (.slice none 0 0), (.slice (some ⟨bq, 0, none⟩) 2 2), (.int .i64 0), (.int .i64 0), (.bool false)]) rfl rfl (by simp [Value.oneCell']) siz27 rfl B1 (by simp) rfl ?_
              intro w13 S13
              replace hS := hS.put S13 (Ne.symm hne1)
              replace ht1 := ReIn.chg S13.chg (fun x hx hm => by have hx' := hx; have hm' : x = b1 := hm; omega) t1 ht1
              replace ht2 := ReIn.chg S13.chg (fun x hx hm => by have hx' := hx; have hm' : x = b1 := hm; omega) t2 ht2
              replace Bq := S13.keep (by omega) Bq
              replace E := S13.step E (by first | exact Or.inl (by omega) | exact Or.inr rfl | exact Or.inr (by assumption) | exact Or.inr (by simp) | exact Or.inr (by omega) | exact Or.inr (by dsimp only; omega))
              replace B1 := S13.blk
              refine WpL_nil ?_
              refine Wp_ret ?_
              refine inB_ret ?_
              refine thn_ret ?_
              refine fin_agg Tryd.results35 (vs := [(.int .i64 k), (.slice none 0 0), (.slice (some ⟨bq, 0, none⟩) 2 2), (.int .i64 0), (.int .i64 0), (.bool false)]) (b := b1) rfl agg27 siz27 rfl (B1.cells rfl) ?_
              exact ⟨.mk k [] [t1, t2] 0 0 false, _, l6, rfl, gen_mk hkk.2.1 (by omega) (node_two (by omega) t1 t2) (by simp only [allRes]; exact ⟨hg1, hg2, trivial⟩), gen_size2 hd1 hs1 hs2, ReIn.of (set := []) (SlIn.nil _ _ _ _ _) (by simp) (.inr ⟨bq, 0, by omega, rfl, ResIn.two (Bq.cells rfl) (ReIn.mono (fun b (h : _ ≤ b) => by omega) t1 ht1) (Bq.cells rfl) (ReIn.mono (fun b (h : _ ≤ b) => by omega) t2 ht2)⟩), hS, E⟩
            · have kh4 := h4
              replace h4 := of_decide_eq_false h4
              refine Wp_region ?_
              refine WpL_val rfl rfl (by decide) (r_eql (k := .i64) (a := k) (b := 7) rfl rfl) ?_
              refine WpL_val rfl rfl (by decide) (r_assign (v := (.bool (decide ((k : Int) = 7)))) rfl) ?_
              refine WpL_nil ?_
              refine thn_normal ?_
              refine Wp_cond (b := decide ((k : Int) = 7)) rfl (fun h7 => ?_) (fun h7 => ?_)
              · have kh7 := h7
                replace h7 := of_decide_eq_true h7
                have hd1 : 1 ≤ d := by omega
                have hlt1 := B1.lt
                have hz1 := E.size
                refine Wp_seq_region ?_
                refine WpL_val rfl rfl (by decide) (r_move (v := (.int .i64 k)) rfl) ?_
                refine WpL_val rfl rfl (by decide) (r_move (v := (.pointer (some ⟨bs, 0, none⟩))) rfl) ?_
                refine WpL_val rfl rfl (by decide) (r_move (v := (.int .i64 ((d : Nat) : Int))) rfl) ?_
                refine WpL_val rfl rfl (by decide) (r_sub (k := .i64) (a := ((d : Nat) : Int)) (b := 1) (c := ((d - 1 : Nat) : Int)) rfl rfl (by rw [wI64 (by omega)]; omega)) ?_
                refine WpL_val rfl rfl (by decide) (r_move (v := (.int .i64 kinds)) rfl) ?_
                refine WpL_enter rfl rfl (by decide) (r_callF (vs := [(.pointer (some ⟨bs, 0, none⟩)), (.int .i64 ((d - 1 : Nat) : Int)), (.int .i64 kinds)]) Tryd.func35 nm35 bd35 rfl) (ih (d - 1) (by omega) (by omega) _ _ (toE E) hS) ?_
                rintro _ w5 ⟨t1, us1, l5, rfl, hg1, hs1, ht1, hS, C5⟩
                replace B1 := C5.keep (hne1) B1
                replace E := E.trans C5
                obtain ⟨sa1, sc1, aa1, ac1, rfl, _, _, _⟩ := ht1.form
                have hlt2 := B1.lt
                have hz2 := E.size
                refine WpL_val rfl rfl (by decide) (r_move (v := (.pointer (some ⟨bs, 0, none⟩))) rfl) ?_
                refine WpL_val rfl rfl (by decide) (r_move (v := (.int .i64 ((d : Nat) : Int))) rfl) ?_
                refine WpL_val rfl rfl (by decide) (r_sub (k := .i64) (a := ((d : Nat) : Int)) (b := 1) (c := ((d - 1 : Nat) : Int)) rfl rfl (by rw [wI64 (by omega)]; omega)) ?_
                refine WpL_val rfl rfl (by decide) (r_move (v := (.int .i64 kinds)) rfl) ?_
                refine WpL_enter rfl rfl (by decide) (r_callF (vs := [(.pointer (some ⟨bs, 0, none⟩)), (.int .i64 ((d - 1 : Nat) : Int)), (.int .i64 kinds)]) Tryd.func35 nm35 bd35 rfl) (ih (d - 1) (by omega) (by omega) _ _ (toE E) hS) ?_
                rintro _ w6 ⟨t2, us2, l6, rfl, hg2, hs2, ht2, hS, C6⟩
                replace B1 := C6.keep (hne1) B1
                replace E := E.trans C6
                obtain ⟨sa2, sc2, aa2, ac2, rfl, _, _, _⟩ := ht2.form
                replace ht1 := ReIn.chg C6 (fun x hx hm => by have hx' := hx; have hm' : x = bs := hm; have := E.size; omega) t1 ht1
                refine s_buildSlice (ps := [(0, (.agg #[(.int .i64 t1.kind), (.slice sa1 t1.set.length sc1), (.slice aa1 t1.args.length ac1), (.int .i64 t1.mn), (.int .i64 t1.mx), (.bool t1.neg)])), (1, (.agg #[(.int .i64 t2.kind), (.slice sa2 t2.set.length sc2), (.slice aa2 t2.args.length ac2), (.int .i64 t2.mn), (.int .i64 t2.mx), (.bool t2.neg)]))]) (c := #[(.int .i64 t1.kind), (.slice sa1 t1.set.length sc1), (.slice aa1 t1.args.length ac1), (.int .i64 t1.mn), (.int .i64 t1.mx), (.bool t1.neg), (.int .i64 t2.kind), (.slice sa2 t2.set.length sc2), (.slice aa2 t2.args.length ac2), (.int .i64 t2.mn), (.int .i64 t2.mx), (.bool t2.neg)]) (by decide) rfl Tryd.underlying25 siz27 zer27 (by decide) (by decide) (by kernel_rfl) ?_
                intro bq wq Nq
                have Fq := Nq.ge E
                have Oq_b1 := Nq.lt B1
                replace B1 := Nq.keep B1
                replace hS := hS.ext Nq.ext
                replace ht1 := ReIn.ext Nq.ext t1 ht1
                replace ht2 := ReIn.ext Nq.ext t2 ht2
                replace E := E.ext Nq.ext
                have Bq := Nq.blk
                refine WpL_val rfl rfl (by decide) (r_build (ps := [(0, (.int .i64 k)), (2, (.slice (some ⟨bq, 0, none⟩) 2 2))]) (v := (.agg #[(.int .i64 k), (.slice none 0 0), (.slice (some ⟨bq, 0, none⟩) 2 2), (.int .i64 0), (.int .i64 0), (.bool false)])) rfl (by kernel_rfl)) ?_
                refine s_storeAgg (b := b1) (o := 0) (c' := #[(.int .i64 k), (.slice none 0 0), (.slice (some ⟨bq, 0, none⟩) 2 2), (.int .i64 0), (.int .i64 0), (.bool false)]) rfl rfl (by simp [Value.oneCell']) siz27 rfl B1 (by simp) rfl ?_
                intro w15 S15
                replace hS := hS.put S15 (Ne.symm hne1)
                replace ht1 := ReIn.chg S15.chg (fun x hx hm => by have hx' := hx; have hm' : x = b1 := hm; omega) t1 ht1
                replace ht2 := ReIn.chg S15.chg (fun x hx hm => by have hx' := hx; have hm' : x = b1 := hm; omega) t2 ht2
                replace Bq := S15.keep (by omega) Bq
                replace E := S15.step E (by first | exact Or.inl (by omega) | exact Or.inr rfl | exact Or.inr (by assumption) | exact Or.inr (by simp) | exact Or.inr (by omega) | exact Or.inr (by dsimp only; omega))
                replace B1 := S15.blk
                refine WpL_nil ?_
                refine Wp_ret ?_
                refine inB_ret ?_
                refine thn_ret ?_
                refine fin_agg Tryd.results35 (vs := [(.int .i64 k), (.slice none 0 0), (.slice (some ⟨bq, 0, none⟩) 2 2), (.int .i64 0), (.int .i64 0), (.bool false)]) (b := b1) rfl agg27 siz27 rfl (B1.cells rfl) ?_
                exact ⟨.mk k [] [t1, t2] 0 0 false, _, l6, rfl, gen_mk hkk.2.1 (by omega) (node_two (by omega) t1 t2) (by simp only [allRes]; exact ⟨hg1, hg2, trivial⟩), gen_size2 hd1 hs1 hs2, ReIn.of (set := []) (SlIn.nil _ _ _ _ _) (by simp) (.inr ⟨bq, 0, by omega, rfl, ResIn.two (Bq.cells rfl) (ReIn.mono (fun b (h : _ ≤ b) => by omega) t1 ht1) (Bq.cells rfl) (ReIn.mono (fun b (h : _ ≤ b) => by omega) t2 ht2)⟩), hS, E⟩
              · have kh7 := h7
                replace h7 := of_decide_eq_false h7
                refine Wp_seq_region ?_
                refine WpL_val rfl rfl (by decide) (r_eql (k := .i64) (a := k) (b := 6) rfl rfl) ?_
                refine WpL_val rfl rfl (by decide) (r_assign (v := (.bool (decide ((k : Int) = 6)))) rfl) ?_
                refine WpL_nil ?_
                refine Wp_cond (b := decide ((k : Int) = 6)) rfl (fun h6 => ?_) (fun h6 => ?_)
                · have kh6 := h6
                  replace h6 := of_decide_eq_true h6
                  refine Wp_seq_region ?_
                  refine WpL_val rfl rfl (by decide) (r_move (v := (.pointer (some ⟨bs, 0, none⟩))) rfl) ?_
                  refine WpL_enter rfl rfl (by decide) (r_callF (vs := [(.pointer (some ⟨bs, 0, none⟩)), (.int .i64 3)]) Tryd.func63 nm63 bd63 rfl) (next_c wb _ bs _ _ (by omega) (by omega) (toE E) hb hS) ?_
                  rintro _ w3 ⟨x, l2, rfl, hx0, hx1, hS, C3⟩
                  replace B1 := C3.keep (hne1) B1
                  replace E := E.trans C3
                  refine WpL_val rfl rfl (by decide) (r_assign (v := (.int .i64 x)) rfl) ?_
                  refine WpL_nil ?_
                  refine Wp_seq_region ?_
                  refine WpL_val rfl rfl (by decide) (r_move (v := (.int .i64 k)) rfl) ?_
                  refine WpL_val rfl rfl (by decide) (r_move (v := (.int .i64 x)) rfl) ?_
                  refine WpL_val rfl rfl (by decide) (r_move (v := (.int .i64 x)) rfl) ?_
                  refine WpL_val rfl rfl (by decide) (r_move (v := (.pointer (some ⟨bs, 0, none⟩))) rfl) ?_
                  refine WpL_enter rfl rfl (by decide) (r_callF (vs := [(.pointer (some ⟨bs, 0, none⟩)), (.int .i64 3)]) Tryd.func63 nm63 bd63 rfl) (next_c wb _ bs _ _ (by omega) (by omega) (toE E) hb hS) ?_
                  rintro _ w4 ⟨y, l3, rfl, hy0, hy1, hS, C4⟩
                  replace B1 := C4.keep (hne1) B1
                  replace E := E.trans C4
                  refine WpL_val rfl rfl (by decide) (r_add (k := .i64) (a := x) (b := y) (c := x + y) rfl rfl (wI64 (by omega))) ?_
                  refine WpL_val rfl rfl (by decide) (r_move (v := (.pointer (some ⟨bs, 0, none⟩))) rfl) ?_
                  refine WpL_val rfl rfl (by decide) (r_move (v := (.int .i64 ((d : Nat) : Int))) rfl) ?_
                  have hd1 : 1 ≤ d := by omega
                  have hlt1 := B1.lt
                  have hz1 := E.size
                  refine WpL_val rfl rfl (by decide) (r_sub (k := .i64) (a := ((d : Nat) : Int)) (b := 1) (c := ((d - 1 : Nat) : Int)) rfl rfl (by rw [wI64 (by omega)]; omega)) ?_
                  refine WpL_val rfl rfl (by decide) (r_move (v := (.int .i64 kinds)) rfl) ?_
                  refine WpL_enter rfl rfl (by decide) (r_callF (vs := [(.pointer (some ⟨bs, 0, none⟩)), (.int .i64 ((d - 1 : Nat) : Int)), (.int .i64 kinds)]) Tryd.func35 nm35 bd35 rfl) (ih (d - 1) (by omega) (by omega) _ _ (toE E) hS) ?_
                  rintro _ w5 ⟨t1, us1, l5, rfl, hg1, hs1, ht1, hS, C5⟩
                  replace B1 := C5.keep (hne1) B1
                  replace E := E.trans C5
                  obtain ⟨sa1, sc1, aa1, ac1, rfl, _, _, _⟩ := ht1.form
                  refine s_buildSlice (ps := [(0, (.agg #[(.int .i64 t1.kind), (.slice sa1 t1.set.length sc1), (.slice aa1 t1.args.length ac1), (.int .i64 t1.mn), (.int .i64 t1.mx), (.bool t1.neg)]))]) (c := #[(.int .i64 t1.kind), (.slice sa1 t1.set.length sc1), (.slice aa1 t1.args.length ac1), (.int .i64 t1.mn), (.int .i64 t1.mx), (.bool t1.neg)]) (by decide) rfl Tryd.underlying25 siz27 zer27 (by decide) (by decide) (by kernel_rfl) ?_
                  intro bq wq Nq
                  have Fq := Nq.ge E
                  have Oq_b1 := Nq.lt B1
                  replace B1 := Nq.keep B1
                  replace hS := hS.ext Nq.ext
                  replace ht1 := ReIn.ext Nq.ext t1 ht1
                  replace E := E.ext Nq.ext
                  have Bq := Nq.blk
                  refine WpL_val rfl rfl (by decide) (r_build (ps := [(0, (.int .i64 k)), (3, (.int .i64 x)), (4, (.int .i64 (x + y))), (2, (.slice (some ⟨bq, 0, none⟩) 1 1))]) (v := (.agg #[(.int .i64 k), (.slice none 0 0), (.slice (some ⟨bq, 0, none⟩) 1 1), (.int .i64 x), (.int .i64 (x + y)), (.bool false)])) rfl (by kernel_rfl)) ?_
                  refine s_storeAgg (b := b1) (o := 0) (c' := #[(.int .i64 k), (.slice none 0 0), (.slice (some ⟨bq, 0, none⟩) 1 1), (.int .i64 x), (.int .i64 (x + y)), (.bool false)]) rfl rfl (by simp [Value.oneCell']) siz27 rfl B1 (by simp) rfl ?_
                  intro w17 S17
                  replace hS := hS.put S17 (Ne.symm hne1)
                  replace ht1 := ReIn.chg S17.chg (fun x hx hm => by have hx' := hx; have hm' : x = b1 := hm; omega) t1 ht1
                  replace Bq := S17.keep (by omega) Bq
                  replace E := S17.step E (by first | exact Or.inl (by omega) | exact Or.inr rfl | exact Or.inr (by assumption) | exact Or.inr (by simp) | exact Or.inr (by omega) | exact Or.inr (by dsimp only; omega))
                  replace B1 := S17.blk
                  refine WpL_nil ?_
                  refine Wp_ret ?_
                  refine inB_ret ?_
                  refine thn_ret ?_
                  refine fin_agg Tryd.results35 (vs := [(.int .i64 k), (.slice none 0 0), (.slice (some ⟨bq, 0, none⟩) 1 1), (.int .i64 x), (.int .i64 (x + y)), (.bool false)]) (b := b1) rfl agg27 siz27 rfl (B1.cells rfl) ?_
                  exact ⟨.mk k [] [t1] x (x + y) false, _, l5, rfl, gen_mk (by omega) (by omega) (by subst h6; exact node_rep (by omega) (by omega) (by omega) t1) (by simp only [allRes]; exact ⟨hg1, trivial⟩), gen_size1 hd1 hs1, ReIn.of (set := []) (SlIn.nil _ _ _ _ _) (by simp) (.inr ⟨bq, 0, by omega, rfl, ResIn.one (Bq.cells rfl) (ReIn.mono (fun b (h : _ ≤ b) => by omega) t1 ht1)⟩), hS, E⟩
                · have kh6 := h6
                  replace h6 := of_decide_eq_false h6
                  refine Wp_seq_region ?_
                  refine WpL_val rfl rfl (by decide) (r_eql (k := .i64) (a := k) (b := 9) rfl rfl) ?_
                  refine WpL_val rfl rfl (by decide) (r_assign (v := (.bool (decide ((k : Int) = 9)))) rfl) ?_
                  refine WpL_nil ?_
                  refine Wp_cond (b := decide ((k : Int) = 9)) rfl (fun h9 => ?_) (fun h9 => ?_)
                  · have kh9 := h9
                    replace h9 := of_decide_eq_true h9
                    refine Wp_seq_region ?_
                    refine WpL_val rfl rfl (by decide) (r_move (v := (.int .i64 k)) rfl) ?_
                    refine WpL_val rfl rfl (by decide) (r_move (v := (.pointer (some ⟨bs, 0, none⟩))) rfl) ?_
                    refine WpL_enter rfl rfl (by decide) (r_callF (vs := [(.pointer (some ⟨bs, 0, none⟩)), (.int .i64 4)]) Tryd.func63 nm63 bd63 rfl) (next_c wb _ bs _ _ (by omega) (by omega) (toE E) hb hS) ?_
                    rintro _ w3 ⟨x, l2, rfl, hx0, hx1, hS, C3⟩
                    replace B1 := C3.keep (hne1) B1
                    replace E := E.trans C3
                    have hd1 : 1 ≤ d := by omega
                    have hlt1 := B1.lt
                    have hz1 := E.size
                    refine WpL_val rfl rfl (by decide) (r_move (v := (.pointer (some ⟨bs, 0, none⟩))) rfl) ?_
                    refine WpL_val rfl rfl (by decide) (r_move (v := (.int .i64 ((d : Nat) : Int))) rfl) ?_
                    refine WpL_val rfl rfl (by decide) (r_sub (k := .i64) (a := ((d : Nat) : Int)) (b := 1) (c := ((d - 1 : Nat) : Int)) rfl rfl (by rw [wI64 (by omega)]; omega)) ?_
                    refine WpL_val rfl rfl (by decide) (r_move (v := (.int .i64 kinds)) rfl) ?_
                    refine WpL_enter rfl rfl (by decide) (r_callF (vs := [(.pointer (some ⟨bs, 0, none⟩)), (.int .i64 ((d - 1 : Nat) : Int)), (.int .i64 kinds)]) Tryd.func35 nm35 bd35 rfl) (ih (d - 1) (by omega) (by omega) _ _ (toE E) hS) ?_
                    rintro _ w5 ⟨t1, us1, l5, rfl, hg1, hs1, ht1, hS, C5⟩
                    replace B1 := C5.keep (hne1) B1
                    replace E := E.trans C5
                    obtain ⟨sa1, sc1, aa1, ac1, rfl, _, _, _⟩ := ht1.form
                    refine s_buildSlice (ps := [(0, (.agg #[(.int .i64 t1.kind), (.slice sa1 t1.set.length sc1), (.slice aa1 t1.args.length ac1), (.int .i64 t1.mn), (.int .i64 t1.mx), (.bool t1.neg)]))]) (c := #[(.int .i64 t1.kind), (.slice sa1 t1.set.length sc1), (.slice aa1 t1.args.length ac1), (.int .i64 t1.mn), (.int .i64 t1.mx), (.bool t1.neg)]) (by decide) rfl Tryd.underlying25 siz27 zer27 (by decide) (by decide) (by kernel_rfl) ?_
                    intro bq wq Nq
                    have Fq := Nq.ge E
                    have Oq_b1 := Nq.lt B1
                    replace B1 := Nq.keep B1
                    replace hS := hS.ext Nq.ext
                    replace ht1 := ReIn.ext Nq.ext t1 ht1
                    replace E := E.ext Nq.ext
                    have Bq := Nq.blk
                    refine WpL_val rfl rfl (by decide) (r_build (ps := [(0, (.int .i64 k)), (3, (.int .i64 x)), (2, (.slice (some ⟨bq, 0, none⟩) 1 1))]) (v := (.agg #[(.int .i64 k), (.slice none 0 0), (.slice (some ⟨bq, 0, none⟩) 1 1), (.int .i64 x), (.int .i64 0), (.bool false)])) rfl (by kernel_rfl)) ?_
                    refine s_storeAgg (b := b1) (o := 0) (c' := #[(.int .i64 k), (.slice none 0 0), (.slice (some ⟨bq, 0, none⟩) 1 1), (.int .i64 x), (.int .i64 0), (.bool false)]) rfl rfl (by simp [Value.oneCell']) siz27 rfl B1 (by simp) rfl ?_
                    intro w19 S19
                    replace hS := hS.put S19 (Ne.symm hne1)
                    replace ht1 := ReIn.chg S19.chg (fun x hx hm => by have hx' := hx; have hm' : x = b1 := hm; omega) t1 ht1
                    replace Bq := S19.keep (by omega) Bq
                    replace E := S19.step E (by first | exact Or.inl (by omega) | exact Or.inr rfl | exact Or.inr (by assumption) | exact Or.inr (by simp) | exact Or.inr (by omega) | exact Or.inr (by dsimp only; omega))
                    replace B1 := S19.blk
                    refine WpL_nil ?_
                    refine Wp_ret ?_
                    refine inB_ret ?_
                    refine thn_ret ?_
                    refine fin_agg Tryd.results35 (vs := [(.int .i64 k), (.slice none 0 0), (.slice (some ⟨bq, 0, none⟩) 1 1), (.int .i64 x), (.int .i64 0), (.bool false)]) (b := b1) rfl agg27 siz27 rfl (B1.cells rfl) ?_
                    exact ⟨.mk k [] [t1] x 0 false, _, l5, rfl, gen_mk (by omega) (by omega) (by subst h9; exact node_group (by omega) (by omega) t1) (by simp only [allRes]; exact ⟨hg1, trivial⟩), gen_size1 hd1 hs1, ReIn.of (set := []) (SlIn.nil _ _ _ _ _) (by simp) (.inr ⟨bq, 0, by omega, rfl, ResIn.one (Bq.cells rfl) (ReIn.mono (fun b (h : _ ≤ b) => by omega) t1 ht1)⟩), hS, E⟩
                  · have kh9 := h9
                    replace h9 := of_decide_eq_false h9
                    refine Wp_seq_region ?_
                    refine WpL_val rfl rfl (by decide) (r_eql (k := .i64) (a := k) (b := 10) rfl rfl) ?_
                    refine WpL_val rfl rfl (by decide) (r_assign (v := (.bool (decide ((k : Int) = 10)))) rfl) ?_
                    refine WpL_nil ?_
                    refine Wp_cond (b := decide ((k : Int) = 10)) rfl (fun h10 => ?_) (fun h10 => ?_)
                    · have kh10 := h10
                      replace h10 := of_decide_eq_true h10
                      refine Wp_seq_region ?_
                      refine WpL_val rfl rfl (by decide) (r_move (v := (.int .i64 k)) rfl) ?_
                      refine WpL_val rfl rfl (by decide) (r_move (v := (.pointer (some ⟨bs, 0, none⟩))) rfl) ?_
                      refine WpL_enter rfl rfl (by decide) (r_callF (vs := [(.pointer (some ⟨bs, 0, none⟩)), (.int .i64 2)]) Tryd.func63 nm63 bd63 rfl) (next_c wb _ bs _ _ (by omega) (by omega) (toE E) hb hS) ?_
                      rintro _ w3 ⟨x, l2, rfl, hx0, hx1, hS, C3⟩
                      replace B1 := C3.keep (hne1) B1
                      replace E := E.trans C3
                      have hd1 : 1 ≤ d := by omega
                      have hlt1 := B1.lt
                      have hz1 := E.size
                      refine WpL_val rfl rfl (by decide) (r_eql (k := .i64) (a := x) (b := 1) rfl rfl) ?_
                      refine WpL_val rfl rfl (by decide) (r_move (v := (.pointer (some ⟨bs, 0, none⟩))) rfl) ?_
                      refine WpL_val rfl rfl (by decide) (r_move (v := (.int .i64 ((d : Nat) : Int))) rfl) ?_
                      refine WpL_val rfl rfl (by decide) (r_sub (k := .i64) (a := ((d : Nat) : Int)) (b := 1) (c := ((d - 1 : Nat) : Int)) rfl rfl (by rw [wI64 (by omega)]; omega)) ?_
                      refine WpL_val rfl rfl (by decide) (r_move (v := (.int .i64 kinds)) rfl) ?_
                      refine WpL_enter rfl rfl (by decide) (r_callF (vs := [(.pointer (some ⟨bs, 0, none⟩)), (.int .i64 ((d - 1 : Nat) : Int)), (.int .i64 kinds)]) Tryd.func35 nm35 bd35 rfl) (ih (d - 1) (by omega) (by omega) _ _ (toE E) hS) ?_
                      rintro _ w5 ⟨t1, us1, l5, rfl, hg1, hs1, ht1, hS, C5⟩
                      replace B1 := C5.keep (hne1) B1
                      replace E := E.trans C5
                      obtain ⟨sa1, sc1, aa1, ac1, rfl, _, _, _⟩ := ht1.form
                      refine s_buildSlice (ps := [(0, (.agg #[(.int .i64 t1.kind), (.slice sa1 t1.set.length sc1), (.slice aa1 t1.args.length ac1), (.int .i64 t1.mn), (.int .i64 t1.mx), (.bool t1.neg)]))]) (c := #[(.int .i64 t1.kind), (.slice sa1 t1.set.length sc1), (.slice aa1 t1.args.length ac1), (.int .i64 t1.mn), (.int .i64 t1.mx), (.bool t1.neg)]) (by decide) rfl Tryd.underlying25 siz27 zer27 (by decide) (by decide) (by kernel_rfl) ?_
                      intro bq wq Nq
                      have Fq := Nq.ge E
                      have Oq_b1 := Nq.lt B1
                      replace B1 := Nq.keep B1
                      replace hS := hS.ext Nq.ext
                      replace ht1 := ReIn.ext Nq.ext t1 ht1
                      replace E := E.ext Nq.ext
                      have Bq := Nq.blk
                      refine WpL_val rfl rfl (by decide) (r_build (ps := [(0, (.int .i64 k)), (5, (.bool (decide ((x : Int) = 1)))), (2, (.slice (some ⟨bq, 0, none⟩) 1 1))]) (v := (.agg #[(.int .i64 k), (.slice none 0 0), (.slice (some ⟨bq, 0, none⟩) 1 1), (.int .i64 0), (.int .i64 0), (.bool (decide ((x : Int) = 1)))])) rfl (by kernel_rfl)) ?_
                      refine s_storeAgg (b := b1) (o := 0) (c' := #[(.int .i64 k), (.slice none 0 0), (.slice (some ⟨bq, 0, none⟩) 1 1), (.int .i64 0), (.int .i64 0), (.bool (decide ((x : Int) = 1)))]) rfl rfl (by simp [Value.oneCell']) siz27 rfl B1 (by simp) rfl ?_
                      intro w21 S21
                      replace hS := hS.put S21 (Ne.symm hne1)
                      replace ht1 := ReIn.chg S21.chg (fun x hx hm => by have hx' := hx; have hm' : x = b1 := hm; omega) t1 ht1
                      replace Bq := S21.keep (by omega) Bq
                      replace E := S21.step E (by first | exact Or.inl (by omega) | exact Or.inr rfl | exact Or.inr (by assumption) | exact Or.inr (by simp) | exact Or.inr (by omega) | exact Or.inr (by dsimp only; omega))
                      replace B1 := S21.blk
                      refine WpL_nil ?_
                      refine Wp_ret ?_
                      refine inB_ret ?_
                      refine thn_ret ?_
                      refine fin_agg Tryd.results35 (vs := [(.int .i64 k), (.slice none 0 0), (.slice (some ⟨bq, 0, none⟩) 1 1), (.int .i64 0), (.int .i64 0), (.bool (decide ((x : Int) = 1)))]) (b := b1) rfl agg27 siz27 rfl (B1.cells rfl) ?_
                      exact ⟨.mk k [] [t1] 0 0 (decide (x = 1)), _, l5, rfl, gen_mk (by omega) (by omega) (by subst h10; exact node_look _ t1) (by simp only [allRes]; exact ⟨hg1, trivial⟩), gen_size1 hd1 hs1, ReIn.of (set := []) (SlIn.nil _ _ _ _ _) (by simp) (.inr ⟨bq, 0, by omega, rfl, ResIn.one (Bq.cells rfl) (ReIn.mono (fun b (h : _ ≤ b) => by omega) t1 ht1)⟩), hS, E⟩
                    · have kh10 := h10
                      replace h10 := of_decide_eq_false h10
                      have hd1 : 1 ≤ d := by omega
                      have hlt1 := B1.lt
                      have hz1 := E.size
                      refine Wp_skip ?_
                      refine inB_normal ?_
                      refine thn_normal ?_
                      refine Wp_seq_region ?_
                      refine WpL_val rfl rfl (by decide) (r_move (v := (.int .i64 k)) rfl) ?_
                      refine WpL_val rfl rfl (by decide) (r_move (v := (.pointer (some ⟨bs, 0, none⟩))) rfl) ?_
                      refine WpL_val rfl rfl (by decide) (r_move (v := (.int .i64 ((d : Nat) : Int))) rfl) ?_
                      refine WpL_val rfl rfl (by decide) (r_sub (k := .i64) (a := ((d : Nat) : Int)) (b := 1) (c := ((d - 1 : Nat) : Int)) rfl rfl (by rw [wI64 (by omega)]; omega)) ?_
                      refine WpL_val rfl rfl (by decide) (r_move (v := (.int .i64 kinds)) rfl) ?_
                      refine WpL_enter rfl rfl (by decide) (r_callF (vs := [(.pointer (some ⟨bs, 0, none⟩)), (.int .i64 ((d - 1 : Nat) : Int)), (.int .i64 kinds)]) Tryd.func35 nm35 bd35 rfl) (ih (d - 1) (by omega) (by omega) _ _ (toE E) hS) ?_
                      rintro _ w5 ⟨t1, us1, l5, rfl, hg1, hs1, ht1, hS, C5⟩
                      replace B1 := C5.keep (hne1) B1
                      replace E := E.trans C5
                      obtain ⟨sa1, sc1, aa1, ac1, rfl, _, _, _⟩ := ht1.form
                      refine s_buildSlice (ps := [(0, (.agg #[(.int .i64 t1.kind), (.slice sa1 t1.set.length sc1), (.slice aa1 t1.args.length ac1), (.int .i64 t1.mn), (.int .i64 t1.mx), (.bool t1.neg)]))]) (c := #[(.int .i64 t1.kind), (.slice sa1 t1.set.length sc1), (.slice aa1 t1.args.length ac1), (.int .i64 t1.mn), (.int .i64 t1.mx), (.bool t1.neg)]) (by decide) rfl Tryd.underlying25 siz27 zer27 (by decide) (by decide) (by kernel_rfl) ?_
                      intro bq wq Nq
                      have Fq := Nq.ge E
                      have Oq_b1 := Nq.lt B1
                      replace B1 := Nq.keep B1
                      replace hS := hS.ext Nq.ext
                      replace ht1 := ReIn.ext Nq.ext t1 ht1
                      replace E := E.ext Nq.ext
                      have Bq := Nq.blk
                      refine WpL_val rfl rfl (by decide) (r_build (ps := [(0, (.int .i64 k)), (2, (.slice (some ⟨bq, 0, none⟩) 1 1))]) (v := (.agg #[(.int .i64 k), (.slice none 0 0), (.slice (some ⟨bq, 0, none⟩) 1 1), (.int .i64 0), (.int .i64 0), (.bool false)])) rfl (by kernel_rfl)) ?_
                      refine s_storeAgg (b := b1) (o := 0) (c' := #[(.int .i64 k), (.slice none 0 0), (.slice (some ⟨bq, 0, none⟩) 1 1), (.int .i64 0), (.int .i64 0), (.bool false)]) rfl rfl (by simp [Value.oneCell']) siz27 rfl B1 (by simp) rfl ?_
                      intro w22 S22
                      replace hS := hS.put S22 (Ne.symm hne1)
                      replace ht1 := ReIn.chg S22.chg (fun x hx hm => by have hx' := hx; have hm' : x = b1 := hm; omega) t1 ht1
                      replace Bq := S22.keep (by omega) Bq
                      replace E := S22.step E (by first | exact Or.inl (by omega) | exact Or.inr rfl | exact Or.inr (by assumption) | exact Or.inr (by simp) | exact Or.inr (by omega) | exact Or.inr (by dsimp only; omega))
                      replace B1 := S22.blk
                      refine WpL_nil ?_
                      refine Wp_ret ?_
                      refine fin_agg Tryd.results35 (vs := [(.int .i64 k), (.slice none 0 0), (.slice (some ⟨bq, 0, none⟩) 1 1), (.int .i64 0), (.int .i64 0), (.bool false)]) (b := b1) rfl agg27 siz27 rfl (B1.cells rfl) ?_
                      exact ⟨.mk k [] [t1] 0 0 false, _, l5, rfl, gen_mk (by omega) (by omega) (node_one (by omega) t1) (by simp only [allRes]; exact ⟨hg1, trivial⟩), gen_size1 hd1 hs1, ReIn.of (set := []) (SlIn.nil _ _ _ _ _) (by simp) (.inr ⟨bq, 0, by omega, rfl, ResIn.one (Bq.cells rfl) (ReIn.mono (fun b (h : _ ≤ b) => by omega) t1 ht1)⟩), hS, E⟩
end Go.Proofs
