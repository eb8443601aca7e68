/- Contracts: the reference's check of expressions and texts; how large they are. -/
import Derived.Test.YtiepeobnpmoghaaW18
import Derived.Test.YtiepeobnpmoghaaW14
namespace Go.Proofs
open Go Go.Eng
set_option maxRecDepth 100000

section
variable {S : Type} (F : S → Re → Bool × S)
def walkL : List Re → S → Bool × S
  | [], s => (true, s)
  | t :: ts, s => if (F s t).1 then walkL ts (F s t).2 else (false, (F s t).2)
theorem walkL_append : ∀ (a b : List Re) (s : S), walkL F (a ++ b) s = if (walkL F a s).1 then walkL F b (walkL F a s).2 else (false, (walkL F a s).2)
  | [], b, s => by simp [walkL]
  | x :: a, b, s => by
    simp only [List.cons_append, walkL]
    split
    · exact walkL_append a b _
    · simp
mutual
theorem walkF_list : ∀ (t : Re) (s : S), walkF F t s = walkL F (preL t) s
  | .mk k set args mn mx ng, s => by
    rw [walkF_eq, preL_eq]
    simp only [walkL, Re.args]
    rw [walkFs_list args]
theorem walkFs_list : ∀ (ts : List Re) (s : S), walkFs F ts s = walkL F (preLs ts) s
  | [], s => by simp only [walkFs, preLs, walkL]
  | t :: ts, s => by
    rw [walkFs_cons]
    simp only [preLs]
    rw [walkL_append, ← walkF_list t, ← walkFs_list ts]
end
end
def chkL (m : Nat) : Nat → List Re → Int
  | _, [] => 0
  | i, x :: xs => if i = m then 2 else if nodeE x ≠ 0 then nodeE x else chkL m (i + 1) xs
theorem chk_walk (m : Nat) (hm : m ≤ 1000000) : ∀ (l : List Re) (n : Nat), n ≤ m → (walkL (fitF (m : Int)) l ((n : Int), 0)).2.2 = chkL m n (l.take (m + 1 - n))
  | [], n, _ => by simp [walkL, chkL]
  | x :: xs, n, hn => by
    simp only [walkL]
    rw [fitF_eq x (by omega) (by omega)]
    rw [show m + 1 - n = (m - n) + 1 from by omega, List.take_succ_cons]
    simp only [chkL]
    by_cases h : n = m
    · rw [if_pos h, if_pos (by omega : (m : Int) < (n : Int) + 1)]; simp
    · rw [if_neg h, if_neg (by omega : ¬ (m : Int) < (n : Int) + 1)]
      by_cases h2 : nodeE x = 0
      · have := chk_walk m hm xs (n + 1) (by omega)
        rw [show m + 1 - (n + 1) = m - n from by omega] at this
        simp only [h2, decide_true, if_true, ne_eq, not_true, if_false]
        rw [← this]; rfl
      · rw [if_pos h2]; simp [h2]
theorem fits_chk {t : Re} {m : Nat} (hm : m ≤ 1000000) : fitsE t (m : Int) = chkL m 0 ((preL t).take (m + 1)) := by
  unfold fitsE
  rw [walkF_list]
  exact chk_walk m hm (preL t) 0 (Nat.zero_le _)

set_option maxHeartbeats 1000000 in
theorem refck_c (w0 : World) (t : Re) (vs : List Value) (m : Nat) (hm : m ≤ 1000000) (ht : ReAt w0 t vs) (hs : t.size ≤ 2097152) :
    Ret Try.prog 6 #[.agg vs.toArray, .int .i64 (m : Int)] w0 fun v w => v = .int .i64 (fitsE t (m : Int)) ∧ Ext w0 w := by
  have ht0 := ht
  obtain ⟨sa, sc, aa, ac, rfl, hset, hlen, hargs⟩ := ht.form
  rw [fits_chk hm]
  refine Ret_of Try.func6 rfl Try.ntmps6 (Nat.le_of_ble_eq_true rfl) ?_
  have E : Chg none1 w0 w0 := Chg.refl _ _
  refine Wp_seq_region ?_
  refine s_box (v := (.agg #[(.int .i64 t.kind), (.slice sa t.set.length sc), (.slice aa t.args.length ac), (.int .i64 t.mn), (.int .i64 t.mx), (.bool t.neg)])) (c := #[(.int .i64 t.kind), (.slice sa t.set.length sc), (.slice aa t.args.length ac), (.int .i64 t.mn), (.int .i64 t.mx), (.bool t.neg)]) (by decide) rfl rfl ?_
  intro b1 w1 N1
  have F1 := N1.ge E
  replace E := E.ext N1.ext
  have B1 := N1.blk
  refine WpL_val rfl rfl (by decide) (r_assign (v := (.int .i64 0)) rfl) ?_
  refine WpL_nil ?_
  refine Wp_seq ?_
  refine Wp_seq_region ?_
  refine WpL_val rfl rfl (by decide) (r_loadAgg (vs := [(.int .i64 t.kind), (.slice sa t.set.length sc), (.slice aa t.args.length ac), (.int .i64 t.mn), (.int .i64 t.mx), (.bool t.neg)]) rfl agg25 siz25 rfl (B1.cells rfl)) ?_
  refine WpL_val rfl rfl (by decide) (r_move (v := (.int .i64 ((m : Nat) : Int))) rfl) ?_
  refine WpL_val rfl rfl (by decide) (r_add (k := .i64) (a := ((m : Nat) : Int)) (b := 1) (c := ((m + 1 : Nat) : Int)) rfl rfl (by rw [wI64 (by omega)]; omega)) ?_
  refine WpL_enter rfl rfl (by decide) (r_callF (vs := [(.agg #[(.int .i64 t.kind), (.slice sa t.set.length sc), (.slice aa t.args.length ac), (.int .i64 t.mn), (.int .i64 t.mx), (.bool t.neg)]), (.int .i64 ((m + 1 : Nat) : Int))]) Try.func16 nm16 bd16 rfl) (pre_c _ t _ _ (ReAt.ext E t ht0) hs) ?_
  rintro _ w9 ⟨la, lc, rows, rfl, hsl, hrows, X9⟩
  replace B1 := X9.keep B1
  replace E := E.ext X9
  have hll : ((preL t).take (m + 1)).length ≤ m + 1 := by simp; omega
  obtain ⟨L, hL⟩ : ∃ L, L = (preL t).take (m + 1) := ⟨_, rfl⟩
  have hrows' : RowsOf w9 L rows := by rw [hL]; exact RowsOf.ext X9 hrows
  clear hrows
  rw [show ((m + 1 : Nat) : Int).toNat = m + 1 from rfl] at hsl
  rw [show ((m + 1 : Nat) : Int).toNat = m + 1 from rfl]
  rw [← hL] at hsl hll ⊢
  clear hL
  have wq0 : Ext w9 w9 := Ext.refl _
  have EQ : Chg none1 w9 w9 := Chg.refl _ _
  refine WpL_val rfl rfl (by decide) (r_lenSlice (ad := la) (n := L.length) (cap := lc) Try.underlying23 rfl) ?_
  refine WpL_val rfl rfl (by decide) (r_move (v := (.int .i64 0)) rfl) ?_
  refine WpL_nil ?_
  refine Wp_block ?_
  refine Wp_loop (fun nn_ σ W2 => ∃ (k : Nat), (∃ jj_, σ = upds jj_ [(1, (.int .i64 ((m : Nat) : Int))), (11, (.slice la L.length lc)), (12, (.int .i64 ((L.length : Nat) : Int))), (13, (.int .i64 ((k : Nat) : Int)))]) ∧ Chg none1 w0 W2 ∧ Chg none1 w9 W2 ∧ Blk W2 b1 #[(.int .i64 t.kind), (.slice sa t.set.length sc), (.slice aa t.args.length ac), (.int .i64 t.mn), (.int .i64 t.mx), (.bool t.neg)] 25 ∧ (k ≤ L.length) ∧ (chkL m 0 L = chkL m k (L.drop k)) ∧ nn_ = L.length - k) (n := L.length - 0) ?_ ?_
  · exact ⟨0, Fits.out ⟨rfl, rfl, rfl, rfl, trivial⟩, E, EQ, B1, Nat.zero_le _, rfl, rfl⟩
  · clear E EQ B1
    rintro _ _ W2 ⟨k, ⟨j2, rfl⟩, E, EQ, B1, hk, hp, rfl⟩
    refine Wp_seq_region ?_
    refine WpL_val rfl rfl (by decide) (r_lss (k := .i64) (a := ((k : Nat) : Int)) (b := ((L.length : Nat) : Int)) rfl rfl) ?_
    refine WpL_nil ?_
    refine Wp_seq ?_
    refine Wp_cond (b := decide ((((k : Nat) : Int) : Int) < ((L.length : Nat) : Int))) rfl (fun hlt => ?_) (fun hlt => ?_)
    · have khlt := hlt
      replace hlt := of_decide_eq_true hlt
      obtain ⟨x, hx⟩ := get_of_lt (l := L) (i := k) (by omega)
      obtain ⟨r, hr, hxr⟩ := hrows'.get hx
      obtain ⟨b, o, rfl, hcl⟩ := SlAt.at hsl (by omega)
      have hd := drop_cons hx
      have hcr := (hcl k r hr).ext EQ
      obtain ⟨xa, xc, ya, yc, rfl, hxset, hxlen, hxargs⟩ := hxr.form
      refine Wp_skip ?_
      refine thn_normal ?_
      refine Wp_seq ?_
      refine Wp_block ?_
      refine Wp_seq_region ?_
      refine WpL_val rfl rfl (by decide) (r_move (v := (.int .i64 ((k : Nat) : Int))) rfl) ?_
      refine WpL_val rfl rfl (by decide) (r_indexSlice (b := b) (o := o) (len := L.length) (cap := lc) (i := k) (o' := o + k * 6) rfl rfl rfl Try.underlying23 siz25 (by omega) (by omega)) ?_
      refine WpL_val rfl rfl (by decide) (r_loadAgg (vs := [(.int .i64 x.kind), (.slice xa x.set.length xc), (.slice ya x.args.length yc), (.int .i64 x.mn), (.int .i64 x.mx), (.bool x.neg)]) rfl agg25 siz25 rfl (hcr)) ?_
      refine s_alloc (c := #[(.int .i64 0), (.slice none 0 0), (.slice none 0 0), (.int .i64 0), (.int .i64 0), (.bool false)]) (by decide) zer25 rfl ?_
      intro b4 w4 N4
      have F4 := N4.ge E
      have F4_EQ := N4.ge EQ
      have O4_b1 := N4.lt B1
      replace B1 := N4.keep B1
      replace E := E.ext N4.ext
      have B4 := N4.blk
      replace EQ := EQ.ext N4.ext
      refine WpL_val rfl rfl (by decide) (r_assign (v := (.int .i64 ((k : Nat) : Int))) rfl) ?_
      refine s_storeAgg (b := b4) (o := 0) (c' := #[(.int .i64 x.kind), (.slice xa x.set.length xc), (.slice ya x.args.length yc), (.int .i64 x.mn), (.int .i64 x.mx), (.bool x.neg)]) rfl rfl (by simp [Value.oneCell']) siz25 rfl B4 (by simp) rfl ?_
      intro w5 S5
      replace B1 := S5.keep (by omega) B1
      replace E := S5.step E (by first | exact Or.inl (by omega) | exact Or.inr rfl | exact Or.inr (by assumption) | exact Or.inr (by simp) | exact Or.inr (by omega) | exact Or.inr (by dsimp only; omega))
      replace EQ := S5.step EQ (Or.inl (by omega))
      replace B4 := S5.blk
      refine WpL_nil ?_
      refine Wp_seq ?_
      refine Wp_seq_region ?_
      refine WpL_val rfl rfl (by decide) (r_move (v := (.int .i64 ((k : Nat) : Int))) rfl) ?_
      refine WpL_val rfl rfl (by decide) (r_move (v := (.int .i64 ((m : Nat) : Int))) rfl) ?_
      refine WpL_val rfl rfl (by decide) (r_eql (k := .i64) (a := ((k : Nat) : Int)) (b := ((m : Nat) : Int)) rfl rfl) ?_
      refine WpL_nil ?_
      refine Wp_cond (b := decide ((((k : Nat) : Int) : Int) = ((m : Nat) : Int))) rfl (fun he => ?_) (fun he => ?_)
      · have khe := he
        replace he := of_decide_eq_true he
        refine Wp_seq_region ?_
        refine WpL_val rfl rfl (by decide) (r_assign (v := (.int .i64 2)) rfl) ?_
        refine WpL_nil ?_
        refine Wp_ret ?_
        refine thn_ret ?_
        refine inB_ret ?_
        refine thn_ret ?_
        refine thn_ret ?_
        refine inB_ret ?_
        refine thn_ret ?_
        refine fin_tmp Try.results6 (v := (.int .i64 2)) rfl ?_
        exact ⟨int_eq (by rw [hp, hd]; simp only [chkL]; rw [if_pos (by omega)]), E⟩
      · have khe := he
        replace he := of_decide_eq_false he
        refine Wp_skip ?_
        refine thn_normal ?_
        refine Wp_seq_region ?_
        refine WpL_val rfl rfl (by decide) (r_loadAgg (vs := [(.int .i64 x.kind), (.slice xa x.set.length xc), (.slice ya x.args.length yc), (.int .i64 x.mn), (.int .i64 x.mx), (.bool x.neg)]) rfl agg25 siz25 rfl (B4.cells rfl)) ?_
        refine WpL_enter rfl rfl (by decide) (r_callF (vs := [(.agg #[(.int .i64 x.kind), (.slice xa x.set.length xc), (.slice ya x.args.length yc), (.int .i64 x.mn), (.int .i64 x.mx), (.bool x.neg)])]) Try.func17 nm17 bd17 rfl) (cnode_c _ _ x _ hxr EQ) ?_
        rintro _ w19 ⟨rfl, X19⟩
        replace B1 := X19.keep B1
        replace B4 := X19.keep B4
        replace E := E.ext X19
        replace EQ := EQ.ext X19
        refine WpL_val rfl rfl (by decide) (r_assign (v := (.int .i64 (nodeE x))) rfl) ?_
        refine WpL_nil ?_
        refine Wp_seq_region ?_
        refine WpL_val rfl rfl (by decide) (r_move (v := (.int .i64 (nodeE x))) rfl) ?_
        refine WpL_val rfl rfl (by decide) (r_neq (k := .i64) (a := nodeE x) (b := 0) rfl rfl) ?_
        refine WpL_nil ?_
        refine Wp_cond (b := decide ((nodeE x : Int) ≠ 0)) rfl (fun hne => ?_) (fun hne => ?_)
        · have khne := hne
          replace hne := of_decide_eq_true hne
          refine Wp_seq_region ?_
          refine WpL_val rfl rfl (by decide) (r_move (v := (.int .i64 (nodeE x))) rfl) ?_
          refine WpL_val rfl rfl (by decide) (r_assign (v := (.int .i64 (nodeE x))) rfl) ?_
          refine WpL_nil ?_
          refine Wp_ret ?_
          refine inB_ret ?_
          refine thn_ret ?_
          refine thn_ret ?_
          refine inB_ret ?_
          refine thn_ret ?_
          refine fin_tmp Try.results6 (v := (.int .i64 (nodeE x))) rfl ?_
          exact ⟨int_eq (by rw [hp, hd]; simp only [chkL]; rw [if_neg (by omega), if_pos hne]), E⟩
        · have khne := hne
          replace hne := of_decide_eq_false hne
          refine Wp_skip ?_
          refine inB_normal ?_
          refine thn_normal ?_
          refine Wp_region ?_
          refine WpL_val rfl rfl (by decide) (r_add (k := .i64) (a := ((k : Nat) : Int)) (b := 1) (c := ((k : Nat) : Int) + 1) rfl rfl (wI64 (by omega))) ?_
          refine WpL_val rfl rfl (by decide) (r_move (v := (.int .i64 (((k : Nat) : Int) + 1))) rfl) ?_
          refine WpL_nil ?_
          refine thn_normal ?_
          exact ⟨L.length - (k + 1), by omega, k + 1, Fits.out ⟨rfl, rfl, rfl, rfl, trivial⟩, E, EQ, B1, (by omega), (by rw [hp, hd]; simp only [chkL]; rw [if_neg (by omega), if_neg hne]), rfl⟩
    · have khlt := hlt
      replace hlt := of_decide_eq_false hlt
      have hkl : L.drop k = [] := List.drop_eq_nil_of_le (by omega)
      refine Wp_exit ?_
      refine thn_exit ?_
      refine thn_exit ?_
      refine inB_here ?_
      refine thn_normal ?_
      refine Wp_seq_region ?_
      refine WpL_val rfl rfl (by decide) (r_assign (v := (.int .i64 0)) rfl) ?_
      refine WpL_nil ?_
      refine Wp_ret ?_
      refine fin_tmp Try.results6 (v := (.int .i64 0)) rfl ?_
      exact ⟨int_eq (by rw [hp, hkl]; rfl), E⟩
def checkT (t : Re) (text : List Int) (most : Int) : Int := if fitsE t 40 ≠ 0 then fitsE t 40 else runesE text most
theorem checkT_eq (t : Re) (text : List Int) : checkT t text 24 = checkP t text := by
  unfold checkT checkP runesE
  by_cases h : 24 < text.length
  · rw [if_pos (by omega : (24 : Int) < text.length), if_pos h]
  · rw [if_neg (by omega : ¬ (24 : Int) < text.length), if_neg h]
theorem r_max2 {P : Program} {σ : Env} {w : World} {dst : Option Tmp} {ty : TypeId} {pos : String} {af : Array Edge} {g : Option (Nat × Bool)} {tys : Array TypeId} {x y : Operand} {k : IntKind} {a b c : Int} (hx : ev σ x = .int k a) (hy : ev σ y = .int k b) (hc : max a b = c) :
    (execOp (ev σ) ⟨dst, .call ⟨.builtin .max, #[x, y], tys⟩, ty, pos, af, g⟩).run P w = .ok (.value (.int k c)) w := by
  subst hc
  have : (if a < b then b else a) = max a b := by split <;> omega
  simp [execOp, resolve, invoke, builtin, Builtin.max_, Builtin.max2, hx, hy, this]

end Go.Proofs
