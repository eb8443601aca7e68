/- Contracts: the normal form of a list of expressions. -/
import Derived.Test.YtiepeobnpmoghaaW27
namespace Go.Proofs
open Go Go.Eng
set_option maxRecDepth 100000

theorem RsIn.ext {S : Nat → Prop} {w w' : World} {v : Value} {ts : List Re} (h : RsIn S w v ts) (e : Ext w w') : RsIn S w' v ts := by
  obtain ⟨aa, ac, h1, h2, h3⟩ := h
  refine ⟨aa, ac, h1, h2, ?_⟩
  rcases h3 with h | ⟨b, o, hb, h4, h5⟩
  · exact .inl h
  · exact .inr ⟨b, o, hb, h4, ResIn.chg e (fun _ _ f => f) ts hb h5⟩

/-- What is left of the arguments. -/
def restT (k : Int) (l : List Re) : List Re := if k = 3 then (flatT k l).filter fun x => !decide (x.kind = 1) else if k = 4 then (flatT k l).filter fun x => !decide (x.kind = 0) else flatT k l
def outT (k : Int) (l : List Re) : List Re := if k = 3 then restT k l else onceT [] (restT k l)
theorem listT_def (k : Int) (l : List Re) : listT k l = if k ≠ 4 ∧ ((restT k l).any fun x => decide (x.kind = 0)) = true then noneT else match outT k l with
    | [x] => x
    | [] => if k = 3 then emptyT else noneT
    | out => .mk k [] out 0 0 false := rfl
theorem listT_none {k : Int} {l : List Re} (h : k ≠ 4) (h2 : ((restT k l).any fun x => decide (x.kind = 0)) = true) : listT k l = noneT := by
  rw [listT_def, if_pos ⟨h, h2⟩]
theorem listT_one {k : Int} {l : List Re} {x : Re} (h : ¬ (k ≠ 4 ∧ ((restT k l).any fun x => decide (x.kind = 0)) = true)) (ho : outT k l = [x]) : listT k l = x := by
  rw [listT_def, if_neg h, ho]
theorem listT_nil3 {l : List Re} (h : ¬ ((3 : Int) ≠ 4 ∧ ((restT 3 l).any fun x => decide (x.kind = 0)) = true)) (ho : outT 3 l = []) : listT 3 l = emptyT := by
  rw [listT_def, if_neg h, ho]; rfl
theorem listT_nil {k : Int} {l : List Re} (h : ¬ (k ≠ 4 ∧ ((restT k l).any fun x => decide (x.kind = 0)) = true)) (ho : outT k l = []) (h3 : k ≠ 3) : listT k l = noneT := by
  rw [listT_def, if_neg h, ho]; exact if_neg h3
theorem listT_many {k : Int} {l : List Re} (h : ¬ (k ≠ 4 ∧ ((restT k l).any fun x => decide (x.kind = 0)) = true)) (ho : 1 < (outT k l).length) : listT k l = .mk k [] (outT k l) 0 0 false := by
  rw [listT_def, if_neg h]
  match outT k l, ho with
  | _ :: _ :: _, _ => rfl
theorem once_snoc : ∀ (l out : List Re) (x : Re), onceT out (l ++ [x]) = if ((onceT out l).any fun y => sameT x y) = true then onceT out l else onceT out l ++ [x]
  | [], out, x => by simp only [List.nil_append, onceT]; rfl
  | y :: l, out, x => by
    simp only [List.cons_append, onceT]
    split
    · exact once_snoc l out x
    · exact once_snoc l _ x
theorem once_take {l : List Re} {j : Nat} {x : Re} (hx : l[j]? = some x) : onceT [] (l.take (j + 1)) = if ((onceT [] (l.take j)).any fun y => sameT x y) = true then onceT [] (l.take j) else onceT [] (l.take j) ++ [x] := by
  rw [List.take_add_one, hx]; exact once_snoc _ _ _
theorem rest_le (k : Int) (l : List Re) : (restT k l).length ≤ Re.sizes l := by
  have h := flat_le k l l.length
  rw [List.take_length] at h
  unfold restT
  split
  · exact Nat.le_trans (List.length_filter_le _ _) h
  · split
    · exact Nat.le_trans (List.length_filter_le _ _) h
    · exact h
def outP (k : Int) (l : List Re) : List Re := if k = 3 then l else onceT [] l
theorem re_empty (S : Nat → Prop) (w : World) (k : Int) : ReIn S w (.mk k [] [] 0 0 false) [.int .i64 k, .slice none 0 0, .slice none 0 0, .int .i64 0, .int .i64 0, .bool false] :=
  ReIn.of (SlIn.nil _ _ _ _ _) (by simp) (.inl rfl)
theorem getD_one {α : Type} {l : List α} (h : l.length = 1) {x : α} (hx : l[0]? = some x) : l = [x] := by
  match l, h with
  | [y], _ => simp at hx; rw [hx]


set_option maxHeartbeats 4000000 in
theorem list_c (w0 : World) (S : Nat → Prop) (k : Int) (v : Value) (ts : List Re) (h : RsIn S w0 v ts) (hS : ∀ x, S x → x < w0.heap.size) (hne : ∀ x ∈ ts, x.kind = k → x.args ≠ []) (hsz : Re.sizes ts ≤ 1000000) :
    Ret Try.prog 22 #[.int .i64 k, v] w0 fun r w => ∃ vs, r = .agg vs.toArray ∧ ReIn (fun b => S b ∨ w0.heap.size ≤ b) w (listT k ts) vs ∧ Ext w0 w := by
  have h0 := h
  obtain ⟨aa0, ac0, rfl, hac0, _⟩ := h
  have hls := len_sizes ts
  have hfle := flat_le k ts ts.length
  rw [List.take_length] at hfle
  refine Ret_of Try.func22 rfl Try.ntmps22 (Nat.le_of_ble_eq_true rfl) ?_
  have E : Chg none1 w0 w0 := Chg.refl _ _
  refine Wp_seq_region ?_
  refine s_alloc (c := #[(.int .i64 0), (.slice none 0 0), (.slice none 0 0), (.int .i64 0), (.int .i64 0), (.bool false)]) (by decide) zer25 rfl ?_
  intro bo wo No
  have Fo := No.ge E
  replace E := E.ext No.ext
  have Bo := No.blk
  refine WpL_nil ?_
  refine Wp_seq_region ?_
  refine WpL_val rfl rfl (by decide) (r_move (v := (.int .i64 k)) rfl) ?_
  refine WpL_val rfl rfl (by decide) (r_move (v := (.slice aa0 ts.length ac0)) rfl) ?_
  obtain ⟨base, hbase⟩ : ∃ base, base = wo.heap.size := ⟨_, rfl⟩
  have hob : bo < base := by rw [hbase]; exact Bo.lt
  have hwb : w0.heap.size ≤ base := by omega
  have E2 : Chg none1 wo wo := Chg.refl _ _
  refine WpL_enter rfl rfl (by decide) (r_callF (vs := [(.int .i64 k), (.slice aa0 ts.length ac0)]) Try.func37 nm37 bd37 rfl) (flat_c _ S k _ ts (h0.ext E) hne hsz) ?_
  rintro _ wf ⟨la, lc, rows, rfl, hown, hrs, Xf⟩
  replace Bo := Xf.keep Bo
  replace E := E.ext Xf
  rw [← hbase] at hown
  replace E2 : Chg none1 wo wf := Xf
  have hbs : base ≤ wf.heap.size := by rw [hbase]; exact Xf.size
  refine WpL_val rfl rfl (by decide) (r_assign (v := (.slice la ((flatT k ts).length) lc)) rfl) ?_
  refine WpL_nil ?_
  refine Wp_cut (fun σ W1 => ∃ (la : Option Addr) (lc : Nat) (l2 : List Re) (rows : List (List Value)), (∃ jj_, σ = upds jj_ [(0, (.int .i64 k)), (4, (.pointer (some ⟨bo, 0, none⟩))), (1, (.slice la l2.length lc))]) ∧ Chg none1 w0 W1 ∧ Blk W1 bo #[(.int .i64 0), (.slice none 0 0), (.slice none 0 0), (.int .i64 0), (.int .i64 0), (.bool false)] 25 ∧ (Chg none1 wo W1) ∧ (l2 = (if k = 3 then (flatT k ts).filter (fun x => !decide (x.kind = 1)) else flatT k ts)) ∧ (W1.ownsRow base TRe 6 (.slice la l2.length lc) l2.length rows.flatten) ∧ (RowsIn S wo l2 rows) ∧ (base ≤ W1.heap.size)) ?_ ?_
  · skip
    refine Wp_seq_region ?_
    refine WpL_val rfl rfl (by decide) (r_move (v := (.int .i64 k)) rfl) ?_
    refine WpL_val rfl rfl (by decide) (r_eql (k := .i64) (a := k) (b := 3) rfl rfl) ?_
    refine WpL_nil ?_
    refine Wp_cond (b := decide ((k : Int) = 3)) rfl (fun hk3 => ?_) (fun hk3 => ?_)
    · have khk3 := hk3
      replace hk3 := of_decide_eq_true hk3
      refine Wp_region ?_
      refine WpL_val rfl rfl (by decide) (r_move (v := (.slice la ((flatT k ts).length) lc)) rfl) ?_
      refine WpL_enter rfl rfl (by decide) (r_callF (vs := [(.slice la ((flatT k ts).length) lc), (.func (.func 39) #[] #[])]) Try.func38 nm38 bd38 rfl) (del_c wo _ base S _ _ (flatT k ts) rows (fun x => decide (x.kind = 1)) E2 hown hrs (fun x hx => by have := hS x hx; omega) (by omega) (fun w x vs hx => CallV.mk (first := #[]) (cap := #[]) Try.func39 nm39 bd39 rfl (list1_c w x vs hx))) ?_
      rintro _ wd ⟨la2, lc2, rows2, rfl, hown2, hrs2, Cd⟩
      replace Bo := Cd.keep (by omega) Bo
      replace E := E.step Cd (by intro x hx hm; omega)
      replace E2 := E2.step Cd (by intro x hx hm; omega)
      refine WpL_val rfl rfl (by decide) (r_assign (v := (.slice la2 (((flatT k ts).filter fun x => !decide (x.kind = 1)).length) lc2)) rfl) ?_
      refine WpL_nil ?_
      refine thn_normal ?_
      exact ⟨la2, lc2, ((flatT k ts).filter fun x => !decide (x.kind = 1)), rows2, Fits.out ⟨rfl, rfl, rfl, trivial⟩, E, Bo, E2, (by rw [if_pos hk3]), hown2, hrs2, Nat.le_trans hbs Cd.size⟩
    · have khk3 := hk3
      replace hk3 := of_decide_eq_false hk3
      refine Wp_skip ?_
      refine thn_normal ?_
      exact ⟨la, lc, flatT k ts, rows, Fits.out ⟨rfl, rfl, rfl, trivial⟩, E, Bo, E2, (by rw [if_neg hk3]), hown, hrs, hbs⟩
  · clear E Bo
    rintro _ W1 ⟨la, lc, l2, rows, ⟨j1, rfl⟩, E, Bo, E2, hl2, hown, hrs, hbs⟩
    have hl2l : l2.length ≤ (flatT k ts).length := by rw [hl2]; split; exact List.length_filter_le _ _; exact Nat.le_refl _
    refine Wp_cut (fun σ W3 => ∃ (la : Option Addr) (lc : Nat) (rows : List (List Value)), (∃ jj_, σ = upds jj_ [(0, (.int .i64 k)), (4, (.pointer (some ⟨bo, 0, none⟩))), (1, (.slice la ((restT k ts).length) lc))]) ∧ Chg none1 w0 W3 ∧ Blk W3 bo #[(.int .i64 0), (.slice none 0 0), (.slice none 0 0), (.int .i64 0), (.int .i64 0), (.bool false)] 25 ∧ (Chg none1 wo W3) ∧ (W3.ownsRow base TRe 6 (.slice la (restT k ts).length lc) (restT k ts).length rows.flatten) ∧ (RowsIn S wo (restT k ts) rows) ∧ (base ≤ W3.heap.size)) ?_ ?_
    · skip
      refine Wp_seq_region ?_
      refine WpL_val rfl rfl (by decide) (r_move (v := (.int .i64 k)) rfl) ?_
      refine WpL_val rfl rfl (by decide) (r_eql (k := .i64) (a := k) (b := 4) rfl rfl) ?_
      refine WpL_nil ?_
      refine Wp_cond (b := decide ((k : Int) = 4)) rfl (fun hk4 => ?_) (fun hk4 => ?_)
      · have khk4 := hk4
        replace hk4 := of_decide_eq_true hk4
        have hrt : restT k ts = l2.filter (fun x => !decide (x.kind = 0)) := by rw [hl2]; unfold restT; simp [hk4]
        refine Wp_region ?_
        refine WpL_val rfl rfl (by decide) (r_move (v := (.slice la l2.length lc)) rfl) ?_
        refine WpL_enter rfl rfl (by decide) (r_callF (vs := [(.slice la l2.length lc), (.func (.func 40) #[] #[])]) Try.func38 nm38 bd38 rfl) (del_c wo _ base S _ _ l2 rows (fun x => decide (x.kind = 0)) E2 hown hrs (fun x hx => by have := hS x hx; omega) (by omega) (fun w x vs hx => CallV.mk (first := #[]) (cap := #[]) Try.func40 nm40 bd40 rfl (list2_c w x vs hx))) ?_
        rintro _ wd ⟨la2, lc2, rows2, rfl, hown2, hrs2, Cd⟩
        replace Bo := Cd.keep (by omega) Bo
        replace E := E.step Cd (by intro x hx hm; omega)
        replace E2 := E2.step Cd (by intro x hx hm; omega)
        rw [← hrt] at hown2 hrs2
        rw [← hrt]
        refine WpL_val rfl rfl (by decide) (r_assign (v := (.slice la2 ((restT k ts).length) lc2)) rfl) ?_
        refine WpL_nil ?_
        refine thn_normal ?_
        exact ⟨la2, lc2, rows2, Fits.out ⟨rfl, rfl, rfl, trivial⟩, E, Bo, E2, hown2, hrs2, Nat.le_trans hbs Cd.size⟩
      · have khk4 := hk4
        replace hk4 := of_decide_eq_false hk4
        have hrt : restT k ts = l2 := by rw [hl2]; unfold restT; simp [hk4]
        subst hrt
        refine Wp_skip ?_
        refine thn_normal ?_
        exact ⟨la, lc, rows, Fits.out ⟨rfl, rfl, rfl, trivial⟩, E, Bo, E2, hown, hrs, hbs⟩
    · clear E Bo
      rintro _ W3 ⟨la, lc, rows, ⟨j3, rfl⟩, E, Bo, E2, hown, hrs, hbs⟩
      obtain ⟨wy, hwy⟩ : ∃ wy, wy = (W3) := ⟨_, rfl⟩
      refine Wp_seq ?_
      refine Wp_seq_region ?_
      refine WpL_val rfl rfl (by decide) (r_move (v := (.int .i64 k)) rfl) ?_
      refine WpL_val rfl rfl (by decide) (r_neq (k := .i64) (a := k) (b := 4) rfl rfl) ?_
      refine WpL_val rfl rfl (by decide) (r_move (v := (.bool (decide ((k : Int) ≠ 4)))) rfl) ?_
      rcases Bool.eq_false_or_eq_true (decide ((k : Int) ≠ 4)) with g1 | g1
      · have kg1 := g1
        replace kg1 := of_decide_eq_true kg1
        have hk4 : k ≠ 4 := of_decide_eq_true g1
        refine WpL_guard_yes (oj := _) rfl rfl (by decide) (congrArg Value.bool g1) ?_
        refine WpL_val rfl rfl (by decide) (r_move (v := (.slice la ((restT k ts).length) lc)) rfl) ?_
        refine WpL_guard_yes (oj := _) rfl rfl (by decide) (congrArg Value.bool g1) ?_
        refine WpL_enter rfl rfl (by decide) (r_callF (vs := [(.slice la ((restT k ts).length) lc), (.func (.func 42) #[] #[])]) Try.func41 nm41 bd41 rfl) (res_has_c _ _ _ (restT k ts) (fun x => decide (x.kind = 0)) (own_rs hown (hrs.ext E2) rfl) (fun w x vs _ _ hx => CallV.mk (first := #[]) (cap := #[]) Try.func42 nm42 bd42 rfl (list3_c w x vs hx))) ?_
        rintro _ w19 ⟨rfl, X19⟩
        replace Bo := X19.keep Bo
        replace E := E.ext X19
        replace E2 := E2.ext X19
        replace hown := own_ext hown X19
        replace hbs := Nat.le_trans hbs X19.size
        refine WpL_val rfl rfl (by decide) (r_pick (b := decide ((k : Int) ≠ 4)) (v := (.bool ((restT k ts).any fun x => decide (x.kind = 0)))) rfl (by rw [g1]; rfl)) ?_
        refine WpL_nil ?_
        refine Wp_cond (b := (restT k ts).any fun x => decide (x.kind = 0)) rfl (fun hn => ?_) (fun hn => ?_)
        · have khn := hn
          refine Wp_seq_region ?_
          refine WpL_val rfl rfl (by decide) (r_build (ps := [(0, (.int .i64 0))]) (v := (.agg #[(.int .i64 0), (.slice none 0 0), (.slice none 0 0), (.int .i64 0), (.int .i64 0), (.bool false)])) rfl (by kernel_rfl)) ?_
          refine s_storeAgg (b := bo) (o := 0) (c' := #[(.int .i64 0), (.slice none 0 0), (.slice none 0 0), (.int .i64 0), (.int .i64 0), (.bool false)]) rfl rfl (by simp [Value.oneCell']) siz25 rfl Bo (by simp) rfl ?_
          intro w7 S7
          replace E := S7.step E (by first | exact Or.inl (by omega) | exact Or.inr rfl | exact Or.inr (by assumption) | exact Or.inr (by simp) | exact Or.inr (by omega) | exact Or.inr (by dsimp only; omega))
          replace Bo := S7.blk
          refine WpL_nil ?_
          refine Wp_ret ?_
          refine thn_ret ?_
          refine fin_agg Try.results22 (vs := [(.int .i64 0), (.slice none 0 0), (.slice none 0 0), (.int .i64 0), (.int .i64 0), (.bool false)]) (b := bo) rfl agg25 siz25 rfl (Bo.cells rfl) ?_
          refine ⟨_, rfl, ?_, E⟩
          rw [listT_none hk4 hn]
          exact re_empty _ _ _
        · have khn := hn
          have hnn : ¬ (k ≠ 4 ∧ ((restT k ts).any fun x => decide (x.kind = 0)) = true) := fun h => by rw [h.2] at hn; cases hn
          have E3 : Chg none1 w19 w19 := Chg.refl _ _
          obtain ⟨base2, hbase2⟩ : ∃ base2, base2 = (w19).heap.size := ⟨_, rfl⟩
          have hrl3 := hrs.len
          have hle3 := rest_le k ts
          have hrs3 : RowsIn S (w19) (restT k ts) rows := RowsIn.ext E2 hrs
          obtain ⟨hlc3, hcell3⟩ := own_res hown hrs3 rfl
          refine Wp_skip ?_
          refine thn_normal ?_
          refine Wp_seq_region ?_
          refine WpL_val rfl rfl (by decide) (r_assign (v := (.slice none 0 0)) rfl) ?_
          refine WpL_nil ?_
          refine Wp_seq ?_
          refine Wp_seq_region ?_
          refine WpL_val rfl rfl (by decide) (r_move (v := (.slice la ((restT k ts).length) lc)) rfl) ?_
          refine WpL_val rfl rfl (by decide) (r_lenSlice (ad := la) (n := (restT k ts).length) (cap := lc) Try.underlying23 rfl) ?_
          refine WpL_val rfl rfl (by decide) (r_move (v := (.int .i64 0)) rfl) ?_
          refine WpL_nil ?_
          refine Wp_block ?_
          refine Wp_loop (fun nn_ σ W8 => ∃ (j : Nat) (oa : Option Addr) (oc : Nat) (m : Nat) (out : List Re) (ro : List (List Value)), (∃ jj_, σ = upds jj_ [(0, (.int .i64 k)), (4, (.pointer (some ⟨bo, 0, none⟩))), (26, (.slice la ((restT k ts).length) lc)), (27, (.int .i64 (((restT k ts).length : Nat) : Int))), (28, (.int .i64 ((j : Nat) : Int))), (5, (.slice oa m oc))]) ∧ Chg none1 w0 W8 ∧ Chg none1 w19 W8 ∧ Blk W8 bo #[(.int .i64 0), (.slice none 0 0), (.slice none 0 0), (.int .i64 0), (.int .i64 0), (.bool false)] 25 ∧ (j ≤ (restT k ts).length) ∧ (m = out.length) ∧ (W8.ownsRow base2 TRe 6 (.slice oa m oc) m ro.flatten) ∧ (RowsIn S w19 out ro) ∧ (out = outP k ((restT k ts).take j)) ∧ (out.length ≤ j) ∧ (base2 ≤ W8.heap.size) ∧ nn_ = (restT k ts).length - j) (n := (restT k ts).length - 0) ?_ ?_
          · exact ⟨0, none, 0, 0, [], [], Fits.out ⟨rfl, rfl, rfl, rfl, rfl, rfl, trivial⟩, E, E3, Bo, Nat.zero_le _, rfl, World.ownsRow_nil _ _ _ _, rfl, (by unfold outP; split <;> rfl), Nat.le_refl _, (by omega), rfl⟩
          · clear E E3 Bo
            rintro _ _ W8 ⟨j, oa, oc, m, out, ro, ⟨j8, rfl⟩, E, E3, Bo, hj, hm, hO, hro, hout, hol, hbs2, rfl⟩
            refine Wp_seq_region ?_
            refine WpL_val rfl rfl (by decide) (r_lss (k := .i64) (a := ((j : Nat) : Int)) (b := (((restT k ts).length : Nat) : Int)) rfl rfl) ?_
            refine WpL_nil ?_
            refine Wp_seq ?_
            refine Wp_cond (b := decide ((((j : Nat) : Int) : Int) < (((restT k ts).length : Nat) : Int))) rfl (fun hlt => ?_) (fun hlt => ?_)
            · have khlt := hlt
              replace hlt := of_decide_eq_true hlt
              obtain ⟨x, hx⟩ := get_of_lt (l := restT k ts) (i := j) (by omega)
              obtain ⟨lb, hlb1, hlb2, hlb3, hcl3⟩ := hcell3.resolve_left (fun h => by rw [h] at hx; simp at hx)
              subst hlb3
              obtain ⟨xs, hcx, hrx⟩ := hcl3 j x hx
              have hrx0 := hrx
              obtain ⟨sa, sc, aa, ac, rfl, _, _, _⟩ := hrx.form
              refine Wp_skip ?_
              refine thn_normal ?_
              refine Wp_seq ?_
              refine Wp_block ?_
              refine Wp_seq_region ?_
              refine WpL_val rfl rfl (by decide) (r_indexSlice (b := lb) (o := 0) (len := (restT k ts).length) (cap := lc) (i := j) (o' := 0 + j * 6) rfl rfl rfl Try.underlying23 siz25 (by omega) (by omega)) ?_
              refine WpL_val rfl rfl (by decide) (r_loadAgg (vs := [(.int .i64 x.kind), (.slice sa x.set.length sc), (.slice aa x.args.length ac), (.int .i64 x.mn), (.int .i64 x.mx), (.bool x.neg)]) rfl agg25 siz25 rfl (hcx.ext E3)) ?_
              refine s_allocStore (v := (.agg #[(.int .i64 x.kind), (.slice sa x.set.length sc), (.slice aa x.args.length ac), (.int .i64 x.mn), (.int .i64 x.mx), (.bool x.neg)])) (c := #[(.int .i64 x.kind), (.slice sa x.set.length sc), (.slice aa x.args.length ac), (.int .i64 x.mn), (.int .i64 x.mx), (.bool x.neg)]) (n := 6) (by decide) zer25 rfl siz25 rfl rfl rfl (by simp [Value.oneCell']) ?_
              intro bs ws Ns
              have Fs := Ns.ge E
              have Fs_E3 := Ns.ge E3
              have Os_bo := Ns.lt Bo
              replace Bo := Ns.keep Bo
              replace hO := own_ext hO Ns.ext
              replace hbs2 := Nat.le_trans hbs2 Ns.ext.size
              replace E := E.ext Ns.ext
              have Bs := Ns.blk
              replace E3 := E3.ext Ns.ext
              refine WpL_nil ?_
              refine Wp_seq_region ?_
              refine WpL_val rfl rfl (by decide) (r_move (v := (.int .i64 k)) rfl) ?_
              refine WpL_val rfl rfl (by decide) (r_eql (k := .i64) (a := k) (b := 3) rfl rfl) ?_
              refine WpL_val rfl rfl (by decide) (r_move (v := (.bool (decide ((k : Int) = 3)))) rfl) ?_
              rcases Bool.eq_false_or_eq_true (decide ((k : Int) = 3)) with g3 | g3
              · have kg3 := g3
                replace kg3 := of_decide_eq_true kg3
                refine WpL_guard_no (oj := _) rfl rfl (by decide) (v := .bool true) (congrArg Value.bool g3) (Or.inl rfl) ?_
                refine WpL_guard_no (oj := _) rfl rfl (by decide) (v := .bool true) (congrArg Value.bool g3) (Or.inl rfl) ?_
                refine WpL_guard_no (oj := _) rfl rfl (by decide) (v := .bool true) (congrArg Value.bool g3) (Or.inl rfl) ?_
                refine WpL_guard_no (oj := _) rfl rfl (by decide) (v := .bool true) (congrArg Value.bool g3) (Or.inl rfl) ?_
                refine WpL_val rfl rfl (by decide) (r_pick (b := decide ((k : Int) = 3)) (v := (.bool true)) rfl (by rw [g3]; rfl)) ?_
                refine WpL_nil ?_
                refine Wp_cond_true rfl ?_
                refine Wp_region ?_
                refine WpL_val rfl rfl (by decide) (r_move (v := (.slice oa m oc)) rfl) ?_
                refine WpL_val rfl rfl (by decide) (r_loadAgg (vs := [(.int .i64 x.kind), (.slice sa x.set.length sc), (.slice aa x.args.length ac), (.int .i64 x.mn), (.int .i64 x.mx), (.bool x.neg)]) rfl agg25 siz25 rfl (Bs.cells rfl)) ?_
                refine s_buildSlice (ps := [(0, (.agg #[(.int .i64 x.kind), (.slice sa x.set.length sc), (.slice aa x.args.length ac), (.int .i64 x.mn), (.int .i64 x.mx), (.bool x.neg)]))]) (c := #[(.int .i64 x.kind), (.slice sa x.set.length sc), (.slice aa x.args.length ac), (.int .i64 x.mn), (.int .i64 x.mx), (.bool x.neg)]) (by decide) rfl Try.underlying23 siz25 zer25 (by decide) (by decide) (by kernel_rfl) ?_
                intro bn wn Nn
                have Fn := Nn.ge E
                have Fn_E3 := Nn.ge E3
                have On_bo := Nn.lt Bo
                have On_bs := Nn.lt Bs
                replace Bo := Nn.keep Bo
                replace Bs := Nn.keep Bs
                replace hO := own_ext hO Nn.ext
                replace hbs2 := Nat.le_trans hbs2 Nn.ext.size
                replace E := E.ext Nn.ext
                have Bn := Nn.blk
                replace E3 := E3.ext Nn.ext
                refine s_append (base := base2) (n := m) (m := 1) (xs := ro.flatten) (news := [(.int .i64 x.kind), (.slice sa x.set.length sc), (.slice aa x.args.length ac), (.int .i64 x.mn), (.int .i64 x.mx), (.bool x.neg)]) (size := 6) (bytes := 80) (v := (.slice oa m oc)) (by decide) Try.underlying23 siz25 byt25 zer25 rfl (by decide) rfl hO rfl (rfl) (Bn.cells rfl) (by simp [Value.oneCell']) (by unfold maxLen; omega) (by omega) (hbs2) ?_
                intro v9 w29 Ov9 Cv9 Dv9
                replace Bo := Cv9.keep (fun h => by have := (hO.lt _ h).1; omega) Bo
                replace E := E.step Cv9 (fun x hx h => absurd (hO.lt x h).1 (by omega))
                replace E3 := E3.step Cv9 (fun x hx h => absurd (hO.lt x h).1 (by omega))
                obtain ⟨oa2, oc2, rfl⟩ := own_form Ov9
                have hk3 : k = 3 := of_decide_eq_true g3
                refine WpL_val rfl rfl (by decide) (r_assign (v := (.slice oa2 (m + 1) oc2)) rfl) ?_
                refine WpL_nil ?_
                refine inB_normal ?_
                refine thn_normal ?_
                refine Wp_region ?_
                refine WpL_val rfl rfl (by decide) (r_add (k := .i64) (a := ((j : Nat) : Int)) (b := 1) (c := ((j : Nat) : Int) + 1) rfl rfl (wI64 (by omega))) ?_
                refine WpL_val rfl rfl (by decide) (r_move (v := (.int .i64 (((j : Nat) : Int) + 1))) rfl) ?_
                refine WpL_nil ?_
                refine thn_normal ?_
                exact ⟨(restT k ts).length - (j + 1), by omega, j + 1, oa2, oc2, m + 1, out ++ [x], ro ++ [[.int .i64 x.kind, .slice sa x.set.length sc, .slice aa x.args.length ac, .int .i64 x.mn, .int .i64 x.mx, .bool x.neg]], Fits.out ⟨rfl, rfl, rfl, rfl, rfl, rfl, trivial⟩, E, E3, Bo, (by omega), (by simp [hm]), (by simpa using Ov9), RowsIn.append (RowsIn.single hrx0) hro, (by rw [hout]; unfold outP; rw [if_pos hk3, if_pos hk3, List.take_add_one, hx]; rfl), (by simp; omega), Nat.le_trans hbs2 Cv9.size, rfl⟩
              · have kg3 := g3
                replace kg3 := of_decide_eq_false kg3
                refine WpL_guard_yes (oj := _) rfl rfl (by decide) (congrArg Value.bool g3) ?_
                refine WpL_val rfl rfl (by decide) (r_move (v := (.slice oa m oc)) rfl) ?_
                refine WpL_guard_yes (oj := _) rfl rfl (by decide) (congrArg Value.bool g3) ?_
                refine WpL_val rfl rfl (by decide) (r_makeFunc (vs := []) (us := [(.pointer (some ⟨bs, 0, none⟩))]) rfl rfl) ?_
                refine WpL_guard_yes (oj := _) rfl rfl (by decide) (congrArg Value.bool g3) ?_
                have hk3 : k ≠ 3 := of_decide_eq_false g3
                have hrx9 : ReAt (ws) x _ := ReIn.at x (ReIn.ext E3 x hrx0)
                refine WpL_enter rfl rfl (by decide) (r_callF (vs := [(.slice oa m oc), (.func (.func 43) #[] #[(.pointer (some ⟨bs, 0, none⟩))])]) Try.func41 nm41 bd41 rfl) (res_has_c _ _ _ out (fun u => sameT x u) (own_rs hO (hro.ext E3) hm.symm) (fun w u us hE _ hu => CallV.mk (first := #[]) (cap := #[.pointer (some ⟨bs, 0, none⟩)]) Try.func43 nm43 bd43 rfl (list4_c w u x us _ bs hu (ReAt.ext hE x hrx9) (Ext.keep hE Bs)))) ?_
                rintro _ w39 ⟨rfl, X39⟩
                replace Bo := X39.keep Bo
                replace Bs := X39.keep Bs
                replace hO := own_ext hO X39
                replace hbs2 := Nat.le_trans hbs2 X39.size
                replace E := E.ext X39
                replace E3 := E3.ext X39
                have hot := once_take (l := restT k ts) hx
                have hout' : out = onceT [] ((restT k ts).take j) := by rw [hout]; exact if_neg hk3
                rw [← hout'] at hot
                refine WpL_guard_yes (oj := _) rfl rfl (by decide) (congrArg Value.bool g3) ?_
                refine WpL_val rfl rfl (by decide) (r_not (b := out.any fun u => sameT x u) rfl) ?_
                refine WpL_val rfl rfl (by decide) (r_pick (b := decide ((k : Int) = 3)) (v := (.bool (!(out.any fun u => sameT x u)))) rfl (by rw [g3]; rfl)) ?_
                refine WpL_nil ?_
                refine Wp_cond (b := !(out.any fun u => sameT x u)) rfl (fun hin => ?_) (fun hin => ?_)
                · have khin := hin
                  replace hin := by simpa using hin
                  refine Wp_region ?_
                  refine WpL_val rfl rfl (by decide) (r_move (v := (.slice oa m oc)) rfl) ?_
                  refine WpL_val rfl rfl (by decide) (r_loadAgg (vs := [(.int .i64 x.kind), (.slice sa x.set.length sc), (.slice aa x.args.length ac), (.int .i64 x.mn), (.int .i64 x.mx), (.bool x.neg)]) rfl agg25 siz25 rfl (Bs.cells rfl)) ?_
                  refine s_buildSlice (ps := [(0, (.agg #[(.int .i64 x.kind), (.slice sa x.set.length sc), (.slice aa x.args.length ac), (.int .i64 x.mn), (.int .i64 x.mx), (.bool x.neg)]))]) (c := #[(.int .i64 x.kind), (.slice sa x.set.length sc), (.slice aa x.args.length ac), (.int .i64 x.mn), (.int .i64 x.mx), (.bool x.neg)]) (by decide) rfl Try.underlying23 siz25 zer25 (by decide) (by decide) (by kernel_rfl) ?_
                  intro bn wn Nn
                  have Fn := Nn.ge E
                  have Fn_E3 := Nn.ge E3
                  have On_bo := Nn.lt Bo
                  have On_bs := Nn.lt Bs
                  replace Bo := Nn.keep Bo
                  replace Bs := Nn.keep Bs
                  replace hO := own_ext hO Nn.ext
                  replace hbs2 := Nat.le_trans hbs2 Nn.ext.size
                  replace E := E.ext Nn.ext
                  have Bn := Nn.blk
                  replace E3 := E3.ext Nn.ext
                  refine s_append (base := base2) (n := m) (m := 1) (xs := ro.flatten) (news := [(.int .i64 x.kind), (.slice sa x.set.length sc), (.slice aa x.args.length ac), (.int .i64 x.mn), (.int .i64 x.mx), (.bool x.neg)]) (size := 6) (bytes := 80) (v := (.slice oa m oc)) (by decide) Try.underlying23 siz25 byt25 zer25 rfl (by decide) rfl hO rfl (rfl) (Bn.cells rfl) (by simp [Value.oneCell']) (by unfold maxLen; omega) (by omega) (hbs2) ?_
                  intro v9 w49 Ov9 Cv9 Dv9
                  replace Bo := Cv9.keep (fun h => by have := (hO.lt _ h).1; omega) Bo
                  replace E := E.step Cv9 (fun x hx h => absurd (hO.lt x h).1 (by omega))
                  replace E3 := E3.step Cv9 (fun x hx h => absurd (hO.lt x h).1 (by omega))
                  obtain ⟨oa2, oc2, rfl⟩ := own_form Ov9
                  refine WpL_val rfl rfl (by decide) (r_assign (v := (.slice oa2 (m + 1) oc2)) rfl) ?_
                  refine WpL_nil ?_
                  refine inB_normal ?_
                  refine thn_normal ?_
                  refine Wp_region ?_
                  refine WpL_val rfl rfl (by decide) (r_add (k := .i64) (a := ((j : Nat) : Int)) (b := 1) (c := ((j : Nat) : Int) + 1) rfl rfl (wI64 (by omega))) ?_
                  refine WpL_val rfl rfl (by decide) (r_move (v := (.int .i64 (((j : Nat) : Int) + 1))) rfl) ?_
                  refine WpL_nil ?_
                  refine thn_normal ?_
                  exact ⟨(restT k ts).length - (j + 1), by omega, j + 1, oa2, oc2, m + 1, out ++ [x], ro ++ [[.int .i64 x.kind, .slice sa x.set.length sc, .slice aa x.args.length ac, .int .i64 x.mn, .int .i64 x.mx, .bool x.neg]], Fits.out ⟨rfl, rfl, rfl, rfl, rfl, rfl, trivial⟩, E, E3, Bo, (by omega), (by simp [hm]), (by simpa using Ov9), RowsIn.append (RowsIn.single hrx0) hro, (by unfold outP; rw [if_neg hk3, hot, if_neg (by simpa using hin)]), (by simp; omega), Nat.le_trans hbs2 Cv9.size, rfl⟩
                · have khin := hin
                  replace hin := by simpa using hin
                  refine Wp_skip ?_
                  refine inB_normal ?_
                  refine thn_normal ?_
                  refine Wp_region ?_
                  refine WpL_val rfl rfl (by decide) (r_add (k := .i64) (a := ((j : Nat) : Int)) (b := 1) (c := ((j : Nat) : Int) + 1) rfl rfl (wI64 (by omega))) ?_
                  refine WpL_val rfl rfl (by decide) (r_move (v := (.int .i64 (((j : Nat) : Int) + 1))) rfl) ?_
                  refine WpL_nil ?_
                  refine thn_normal ?_
                  exact ⟨(restT k ts).length - (j + 1), by omega, j + 1, oa, oc, m, out, ro, Fits.out ⟨rfl, rfl, rfl, rfl, rfl, rfl, trivial⟩, E, E3, Bo, (by omega), hm, hO, hro, (by unfold outP; rw [if_neg hk3, hot, if_pos (by simpa using hin)]), (by omega), hbs2, rfl⟩
            · have khlt := hlt
              replace hlt := of_decide_eq_false hlt
              have hjj : j = (restT k ts).length := by omega
              rw [hjj, List.take_length] at hout
              replace hout : out = outT k ts := hout
              obtain ⟨hoc, hocl⟩ := own_res hO (hro.ext E3) hm.symm
              refine Wp_exit ?_
              refine thn_exit ?_
              refine thn_exit ?_
              refine inB_here ?_
              refine thn_normal ?_
              refine Wp_seq ?_
              refine Wp_block ?_
              refine Wp_seq_region ?_
              refine WpL_val rfl rfl (by decide) (r_move (v := (.slice oa m oc)) rfl) ?_
              refine WpL_val rfl rfl (by decide) (r_lenSlice (ad := oa) (n := m) (cap := oc) Try.underlying23 rfl) ?_
              refine WpL_val rfl rfl (by decide) (r_eql (k := .i64) (a := ((m : Nat) : Int)) (b := 1) rfl rfl) ?_
              refine WpL_val rfl rfl (by decide) (r_assign (v := (.bool (decide ((((m : Nat) : Int) : Int) = 1)))) rfl) ?_
              refine WpL_nil ?_
              refine Wp_cond (b := decide ((((m : Nat) : Int) : Int) = 1)) rfl (fun h1 => ?_) (fun h1 => ?_)
              · have kh1 := h1
                replace h1 := of_decide_eq_true h1
                obtain ⟨x, hx⟩ := get_of_lt (l := out) (i := 0) (by omega)
                obtain ⟨ob, hob1, hob2, hob3, hclo⟩ := hocl.resolve_left (fun h => by rw [h] at hx; simp at hx)
                subst hob3
                obtain ⟨xs, hcx, hrx⟩ := hclo 0 x hx
                have hrx0 := hrx
                obtain ⟨sa, sc, aa, ac, rfl, _, _, _⟩ := hrx.form
                refine Wp_seq_region ?_
                refine WpL_val rfl rfl (by decide) (r_move (v := (.slice (some ⟨ob, 0, none⟩) m oc)) rfl) ?_
                refine WpL_val rfl rfl (by decide) (r_indexSlice (b := ob) (o := 0) (len := m) (cap := oc) (i := 0) (o' := 0) rfl rfl rfl Try.underlying23 siz25 (by omega) (by omega)) ?_
                refine WpL_val rfl rfl (by decide) (r_loadAgg (vs := [(.int .i64 x.kind), (.slice sa x.set.length sc), (.slice aa x.args.length ac), (.int .i64 x.mn), (.int .i64 x.mx), (.bool x.neg)]) rfl agg25 siz25 rfl (hcx)) ?_
                have hS5 : Chg (fun y => y = bo) (W8) (W8) := Chg.refl _ _
                refine s_storeAgg (b := bo) (o := 0) (c' := #[(.int .i64 x.kind), (.slice sa x.set.length sc), (.slice aa x.args.length ac), (.int .i64 x.mn), (.int .i64 x.mx), (.bool x.neg)]) rfl rfl (by simp [Value.oneCell']) siz25 rfl Bo (by simp) rfl ?_
                intro w13 S13
                replace hS5 := S13.chg
                replace E := S13.step E (by first | exact Or.inl (by omega) | exact Or.inr rfl | exact Or.inr (by assumption) | exact Or.inr (by simp) | exact Or.inr (by omega) | exact Or.inr (by dsimp only; omega))
                replace Bo := S13.blk
                refine WpL_nil ?_
                refine Wp_ret ?_
                refine inB_ret ?_
                refine thn_ret ?_
                refine fin_agg Try.results22 (vs := [(.int .i64 x.kind), (.slice sa x.set.length sc), (.slice aa x.args.length ac), (.int .i64 x.mn), (.int .i64 x.mx), (.bool x.neg)]) (b := bo) rfl agg25 siz25 rfl (Bo.cells rfl) ?_
                refine ⟨_, rfl, ?_, E⟩
                rw [listT_one hnn (x := x) (by rw [← hout]; exact getD_one (by omega) hx)]
                exact ReIn.mono (fun y hy => .inl hy) x (ReIn.chg hS5 (fun y hy h => by have := hS y hy; have h' : y = bo := h; omega) x hrx0)
              · have kh1 := h1
                replace h1 := of_decide_eq_false h1
                refine Wp_seq_region ?_
                refine WpL_val rfl rfl (by decide) (r_move (v := (.slice oa m oc)) rfl) ?_
                refine WpL_val rfl rfl (by decide) (r_lenSlice (ad := oa) (n := m) (cap := oc) Try.underlying23 rfl) ?_
                refine WpL_val rfl rfl (by decide) (r_gtr (k := .i64) (a := ((m : Nat) : Int)) (b := 1) rfl rfl) ?_
                refine WpL_val rfl rfl (by decide) (r_assign (v := (.bool (decide ((1 : Int) < ((m : Nat) : Int))))) rfl) ?_
                refine WpL_nil ?_
                refine Wp_cond (b := decide ((1 : Int) < ((m : Nat) : Int))) rfl (fun h2 => ?_) (fun h2 => ?_)
                · have kh2 := h2
                  replace h2 := of_decide_eq_true h2
                  have hS5 : Chg (fun y => y = bo) (W8) (W8) := Chg.refl _ _
                  refine Wp_seq_region ?_
                  refine WpL_val rfl rfl (by decide) (r_move (v := (.int .i64 k)) rfl) ?_
                  refine WpL_val rfl rfl (by decide) (r_move (v := (.slice oa m oc)) rfl) ?_
                  refine WpL_val rfl rfl (by decide) (r_build (ps := [(0, (.int .i64 k)), (2, (.slice oa m oc))]) (v := (.agg #[(.int .i64 k), (.slice none 0 0), (.slice oa m oc), (.int .i64 0), (.int .i64 0), (.bool false)])) rfl (by kernel_rfl)) ?_
                  refine s_storeAgg (b := bo) (o := 0) (c' := #[(.int .i64 k), (.slice none 0 0), (.slice oa m oc), (.int .i64 0), (.int .i64 0), (.bool false)]) rfl rfl (by simp [Value.oneCell']) siz25 rfl Bo (by simp) rfl ?_
                  intro w15 S15
                  replace hS5 := S15.chg
                  replace E := S15.step E (by first | exact Or.inl (by omega) | exact Or.inr rfl | exact Or.inr (by assumption) | exact Or.inr (by simp) | exact Or.inr (by omega) | exact Or.inr (by dsimp only; omega))
                  replace Bo := S15.blk
                  refine WpL_nil ?_
                  refine Wp_ret ?_
                  refine inB_ret ?_
                  refine thn_ret ?_
                  refine fin_agg Try.results22 (vs := [(.int .i64 k), (.slice none 0 0), (.slice oa m oc), (.int .i64 0), (.int .i64 0), (.bool false)]) (b := bo) rfl agg25 siz25 rfl (Bo.cells rfl) ?_
                  refine ⟨_, rfl, ?_, E⟩
                  rw [listT_many hnn (by rw [← hout]; omega), ← hout]
                  subst hm
                  refine ReIn.of (set := []) (SlIn.nil _ _ _ _ _) hoc ?_
                  rcases hocl with h | ⟨ob, hob1, hob2, hob3, hclo⟩
                  · exact .inl h
                  · refine .inr ⟨ob, 0, .inr (by omega), hob3, resin_of fun i t ht => ?_⟩
                    obtain ⟨vs, h6, h7⟩ := hclo i t ht
                    exact ⟨vs, h6.chg hS5 (fun h => by have h' : ob = bo := h; omega), ReIn.mono (fun y hy => .inl hy) t (ReIn.chg hS5 (fun y hy h => by have := hS y hy; have h' : y = bo := h; omega) t h7)⟩
                · have kh2 := h2
                  replace h2 := of_decide_eq_false h2
                  refine Wp_seq_region ?_
                  refine WpL_val rfl rfl (by decide) (r_move (v := (.int .i64 k)) rfl) ?_
                  refine WpL_val rfl rfl (by decide) (r_eql (k := .i64) (a := k) (b := 3) rfl rfl) ?_
                  refine WpL_val rfl rfl (by decide) (r_assign (v := (.bool (decide ((k : Int) = 3)))) rfl) ?_
                  refine WpL_nil ?_
                  refine Wp_cond (b := decide ((k : Int) = 3)) rfl (fun h3 => ?_) (fun h3 => ?_)
                  · have kh3 := h3
                    replace h3 := of_decide_eq_true h3
                    refine Wp_seq_region ?_
                    refine WpL_val rfl rfl (by decide) (r_build (ps := [(0, (.int .i64 1))]) (v := (.agg #[(.int .i64 1), (.slice none 0 0), (.slice none 0 0), (.int .i64 0), (.int .i64 0), (.bool false)])) rfl (by kernel_rfl)) ?_
                    refine s_storeAgg (b := bo) (o := 0) (c' := #[(.int .i64 1), (.slice none 0 0), (.slice none 0 0), (.int .i64 0), (.int .i64 0), (.bool false)]) rfl rfl (by simp [Value.oneCell']) siz25 rfl Bo (by simp) rfl ?_
                    intro w17 S17
                    replace E := S17.step E (by first | exact Or.inl (by omega) | exact Or.inr rfl | exact Or.inr (by assumption) | exact Or.inr (by simp) | exact Or.inr (by omega) | exact Or.inr (by dsimp only; omega))
                    replace Bo := S17.blk
                    refine WpL_nil ?_
                    refine Wp_ret ?_
                    refine inB_ret ?_
                    refine thn_ret ?_
                    refine fin_agg Try.results22 (vs := [(.int .i64 1), (.slice none 0 0), (.slice none 0 0), (.int .i64 0), (.int .i64 0), (.bool false)]) (b := bo) rfl agg25 siz25 rfl (Bo.cells rfl) ?_
                    have hk3 : k = 3 := h3
                    subst hk3
                    refine ⟨_, rfl, ?_, E⟩
                    rw [listT_nil3 hnn (by rw [← hout]; exact List.eq_nil_of_length_eq_zero (by omega))]
                    exact re_empty _ _ _
                  · have kh3 := h3
                    replace h3 := of_decide_eq_false h3
                    refine Wp_skip ?_
                    refine inB_normal ?_
                    refine thn_normal ?_
                    refine Wp_seq_region ?_
                    refine WpL_val rfl rfl (by decide) (r_build (ps := [(0, (.int .i64 0))]) (v := (.agg #[(.int .i64 0), (.slice none 0 0), (.slice none 0 0), (.int .i64 0), (.int .i64 0), (.bool false)])) rfl (by kernel_rfl)) ?_
                    refine s_storeAgg (b := bo) (o := 0) (c' := #[(.int .i64 0), (.slice none 0 0), (.slice none 0 0), (.int .i64 0), (.int .i64 0), (.bool false)]) rfl rfl (by simp [Value.oneCell']) siz25 rfl Bo (by simp) rfl ?_
                    intro w18 S18
                    replace E := S18.step E (by first | exact Or.inl (by omega) | exact Or.inr rfl | exact Or.inr (by assumption) | exact Or.inr (by simp) | exact Or.inr (by omega) | exact Or.inr (by dsimp only; omega))
                    replace Bo := S18.blk
                    refine WpL_nil ?_
                    refine Wp_ret ?_
                    refine fin_agg Try.results22 (vs := [(.int .i64 0), (.slice none 0 0), (.slice none 0 0), (.int .i64 0), (.int .i64 0), (.bool false)]) (b := bo) rfl agg25 siz25 rfl (Bo.cells rfl) ?_
                    refine ⟨_, rfl, ?_, E⟩
                    rw [listT_nil hnn (by rw [← hout]; exact List.eq_nil_of_length_eq_zero (by omega)) h3]
                    exact re_empty _ _ _
      · have kg1 := g1
        replace kg1 := of_decide_eq_false kg1
        have hnn : ¬ (k ≠ 4 ∧ ((restT k ts).any fun x => decide (x.kind = 0)) = true) := fun h => by have := of_decide_eq_false g1; exact this h.1
        have E3 : Chg none1 W3 W3 := Chg.refl _ _
        obtain ⟨base2, hbase2⟩ : ∃ base2, base2 = (W3).heap.size := ⟨_, rfl⟩
        have hrl3 := hrs.len
        have hle3 := rest_le k ts
        have hrs3 : RowsIn S (W3) (restT k ts) rows := RowsIn.ext E2 hrs
        obtain ⟨hlc3, hcell3⟩ := own_res hown hrs3 rfl
        refine WpL_guard_no (oj := _) rfl rfl (by decide) (v := .bool false) (congrArg Value.bool g1) (Or.inl rfl) ?_
        refine WpL_guard_no (oj := _) rfl rfl (by decide) (v := .bool false) (congrArg Value.bool g1) (Or.inl rfl) ?_
        refine WpL_val rfl rfl (by decide) (r_pick (b := decide ((k : Int) ≠ 4)) (v := (.bool false)) rfl (by rw [g1]; rfl)) ?_
        refine WpL_nil ?_
        refine Wp_cond_false rfl ?_
        refine Wp_skip ?_
        refine thn_normal ?_
        refine Wp_seq_region ?_
        refine WpL_val rfl rfl (by decide) (r_assign (v := (.slice none 0 0)) rfl) ?_
        refine WpL_nil ?_
        refine Wp_seq ?_
        refine Wp_seq_region ?_
        refine WpL_val rfl rfl (by decide) (r_move (v := (.slice la ((restT k ts).length) lc)) rfl) ?_
        refine WpL_val rfl rfl (by decide) (r_lenSlice (ad := la) (n := (restT k ts).length) (cap := lc) Try.underlying23 rfl) ?_
        refine WpL_val rfl rfl (by decide) (r_move (v := (.int .i64 0)) rfl) ?_
        refine WpL_nil ?_
        refine Wp_block ?_
        refine Wp_loop (fun nn_ σ W19 => ∃ (j : Nat) (oa : Option Addr) (oc : Nat) (m : Nat) (out : List Re) (ro : List (List Value)), (∃ jj_, σ = upds jj_ [(0, (.int .i64 k)), (4, (.pointer (some ⟨bo, 0, none⟩))), (26, (.slice la ((restT k ts).length) lc)), (27, (.int .i64 (((restT k ts).length : Nat) : Int))), (28, (.int .i64 ((j : Nat) : Int))), (5, (.slice oa m oc))]) ∧ Chg none1 w0 W19 ∧ Chg none1 W3 W19 ∧ Blk W19 bo #[(.int .i64 0), (.slice none 0 0), (.slice none 0 0), (.int .i64 0), (.int .i64 0), (.bool false)] 25 ∧ (j ≤ (restT k ts).length) ∧ (m = out.length) ∧ (W19.ownsRow base2 TRe 6 (.slice oa m oc) m ro.flatten) ∧ (RowsIn S W3 out ro) ∧ (out = outP k ((restT k ts).take j)) ∧ (out.length ≤ j) ∧ (base2 ≤ W19.heap.size) ∧ nn_ = (restT k ts).length - j) (n := (restT k ts).length - 0) ?_ ?_
        · exact ⟨0, none, 0, 0, [], [], Fits.out ⟨rfl, rfl, rfl, rfl, rfl, rfl, trivial⟩, E, E3, Bo, Nat.zero_le _, rfl, World.ownsRow_nil _ _ _ _, rfl, (by unfold outP; split <;> rfl), Nat.le_refl _, (by omega), rfl⟩
        · clear E E3 Bo
          rintro _ _ W19 ⟨j, oa, oc, m, out, ro, ⟨j19, rfl⟩, E, E3, Bo, hj, hm, hO, hro, hout, hol, hbs2, rfl⟩
          refine Wp_seq_region ?_
          refine WpL_val rfl rfl (by decide) (r_lss (k := .i64) (a := ((j : Nat) : Int)) (b := (((restT k ts).length : Nat) : Int)) rfl rfl) ?_
          refine WpL_nil ?_
          refine Wp_seq ?_
          refine Wp_cond (b := decide ((((j : Nat) : Int) : Int) < (((restT k ts).length : Nat) : Int))) rfl (fun hlt => ?_) (fun hlt => ?_)
          · have khlt := hlt
            replace hlt := of_decide_eq_true hlt
            obtain ⟨x, hx⟩ := get_of_lt (l := restT k ts) (i := j) (by omega)
            obtain ⟨lb, hlb1, hlb2, hlb3, hcl3⟩ := hcell3.resolve_left (fun h => by rw [h] at hx; simp at hx)
            subst hlb3
            obtain ⟨xs, hcx, hrx⟩ := hcl3 j x hx
            have hrx0 := hrx
            obtain ⟨sa, sc, aa, ac, rfl, _, _, _⟩ := hrx.form
            refine Wp_skip ?_
            refine thn_normal ?_
            refine Wp_seq ?_
            refine Wp_block ?_
            refine Wp_seq_region ?_
            refine WpL_val rfl rfl (by decide) (r_indexSlice (b := lb) (o := 0) (len := (restT k ts).length) (cap := lc) (i := j) (o' := 0 + j * 6) rfl rfl rfl Try.underlying23 siz25 (by omega) (by omega)) ?_
            refine WpL_val rfl rfl (by decide) (r_loadAgg (vs := [(.int .i64 x.kind), (.slice sa x.set.length sc), (.slice aa x.args.length ac), (.int .i64 x.mn), (.int .i64 x.mx), (.bool x.neg)]) rfl agg25 siz25 rfl (hcx.ext E3)) ?_
            refine s_allocStore (v := (.agg #[(.int .i64 x.kind), (.slice sa x.set.length sc), (.slice aa x.args.length ac), (.int .i64 x.mn), (.int .i64 x.mx), (.bool x.neg)])) (c := #[(.int .i64 x.kind), (.slice sa x.set.length sc), (.slice aa x.args.length ac), (.int .i64 x.mn), (.int .i64 x.mx), (.bool x.neg)]) (n := 6) (by decide) zer25 rfl siz25 rfl rfl rfl (by simp [Value.oneCell']) ?_
            intro bs ws Ns
            have Fs := Ns.ge E
            have Fs_E3 := Ns.ge E3
            have Os_bo := Ns.lt Bo
            replace Bo := Ns.keep Bo
            replace hO := own_ext hO Ns.ext
            replace hbs2 := Nat.le_trans hbs2 Ns.ext.size
            replace E := E.ext Ns.ext
            have Bs := Ns.blk
            replace E3 := E3.ext Ns.ext
            refine WpL_nil ?_
            refine Wp_seq_region ?_
            refine WpL_val rfl rfl (by decide) (r_move (v := (.int .i64 k)) rfl) ?_
            refine WpL_val rfl rfl (by decide) (r_eql (k := .i64) (a := k) (b := 3) rfl rfl) ?_
            refine WpL_val rfl rfl (by decide) (r_move (v := (.bool (decide ((k : Int) = 3)))) rfl) ?_
            rcases Bool.eq_false_or_eq_true (decide ((k : Int) = 3)) with g3 | g3
            · have kg3 := g3
              replace kg3 := of_decide_eq_true kg3
              refine WpL_guard_no (oj := _) rfl rfl (by decide) (v := .bool true) (congrArg Value.bool g3) (Or.inl rfl) ?_
              refine WpL_guard_no (oj := _) rfl rfl (by decide) (v := .bool true) (congrArg Value.bool g3) (Or.inl rfl) ?_
              refine WpL_guard_no (oj := _) rfl rfl (by decide) (v := .bool true) (congrArg Value.bool g3) (Or.inl rfl) ?_
              refine WpL_guard_no (oj := _) rfl rfl (by decide) (v := .bool true) (congrArg Value.bool g3) (Or.inl rfl) ?_
              refine WpL_val rfl rfl (by decide) (r_pick (b := decide ((k : Int) = 3)) (v := (.bool true)) rfl (by rw [g3]; rfl)) ?_
              refine WpL_nil ?_
              refine Wp_cond_true rfl ?_
              refine Wp_region ?_
              refine WpL_val rfl rfl (by decide) (r_move (v := (.slice oa m oc)) rfl) ?_
              refine WpL_val rfl rfl (by decide) (r_loadAgg (vs := [(.int .i64 x.kind), (.slice sa x.set.length sc), (.slice aa x.args.length ac), (.int .i64 x.mn), (.int .i64 x.mx), (.bool x.neg)]) rfl agg25 siz25 rfl (Bs.cells rfl)) ?_
              refine s_buildSlice (ps := [(0, (.agg #[(.int .i64 x.kind), (.slice sa x.set.length sc), (.slice aa x.args.length ac), (.int .i64 x.mn), (.int .i64 x.mx), (.bool x.neg)]))]) (c := #[(.int .i64 x.kind), (.slice sa x.set.length sc), (.slice aa x.args.length ac), (.int .i64 x.mn), (.int .i64 x.mx), (.bool x.neg)]) (by decide) rfl Try.underlying23 siz25 zer25 (by decide) (by decide) (by kernel_rfl) ?_
              intro bn wn Nn
              have Fn := Nn.ge E
              have Fn_E3 := Nn.ge E3
              have On_bo := Nn.lt Bo
              have On_bs := Nn.lt Bs
              replace Bo := Nn.keep Bo
              replace Bs := Nn.keep Bs
              replace hO := own_ext hO Nn.ext
              replace hbs2 := Nat.le_trans hbs2 Nn.ext.size
              replace E := E.ext Nn.ext
              have Bn := Nn.blk
              replace E3 := E3.ext Nn.ext
              refine s_append (base := base2) (n := m) (m := 1) (xs := ro.flatten) (news := [(.int .i64 x.kind), (.slice sa x.set.length sc), (.slice aa x.args.length ac), (.int .i64 x.mn), (.int .i64 x.mx), (.bool x.neg)]) (size := 6) (bytes := 80) (v := (.slice oa m oc)) (by decide) Try.underlying23 siz25 byt25 zer25 rfl (by decide) rfl hO rfl (rfl) (Bn.cells rfl) (by simp [Value.oneCell']) (by unfold maxLen; omega) (by omega) (hbs2) ?_
              intro v9 w29 Ov9 Cv9 Dv9
              replace Bo := Cv9.keep (fun h => by have := (hO.lt _ h).1; omega) Bo
              replace E := E.step Cv9 (fun x hx h => absurd (hO.lt x h).1 (by omega))
              replace E3 := E3.step Cv9 (fun x hx h => absurd (hO.lt x h).1 (by omega))
              obtain ⟨oa2, oc2, rfl⟩ := own_form Ov9
              have hk3 : k = 3 := of_decide_eq_true g3
              refine WpL_val rfl rfl (by decide) (r_assign (v := (.slice oa2 (m + 1) oc2)) rfl) ?_
              refine WpL_nil ?_
              refine inB_normal ?_
              refine thn_normal ?_
              refine Wp_region ?_
              refine WpL_val rfl rfl (by decide) (r_add (k := .i64) (a := ((j : Nat) : Int)) (b := 1) (c := ((j : Nat) : Int) + 1) rfl rfl (wI64 (by omega))) ?_
              refine WpL_val rfl rfl (by decide) (r_move (v := (.int .i64 (((j : Nat) : Int) + 1))) rfl) ?_
              refine WpL_nil ?_
              refine thn_normal ?_
              exact ⟨(restT k ts).length - (j + 1), by omega, j + 1, oa2, oc2, m + 1, out ++ [x], ro ++ [[.int .i64 x.kind, .slice sa x.set.length sc, .slice aa x.args.length ac, .int .i64 x.mn, .int .i64 x.mx, .bool x.neg]], Fits.out ⟨rfl, rfl, rfl, rfl, rfl, rfl, trivial⟩, E, E3, Bo, (by omega), (by simp [hm]), (by simpa using Ov9), RowsIn.append (RowsIn.single hrx0) hro, (by rw [hout]; unfold outP; rw [if_pos hk3, if_pos hk3, List.take_add_one, hx]; rfl), (by simp; omega), Nat.le_trans hbs2 Cv9.size, rfl⟩
            · have kg3 := g3
              replace kg3 := of_decide_eq_false kg3
              refine WpL_guard_yes (oj := _) rfl rfl (by decide) (congrArg Value.bool g3) ?_
              refine WpL_val rfl rfl (by decide) (r_move (v := (.slice oa m oc)) rfl) ?_
              refine WpL_guard_yes (oj := _) rfl rfl (by decide) (congrArg Value.bool g3) ?_
              refine WpL_val rfl rfl (by decide) (r_makeFunc (vs := []) (us := [(.pointer (some ⟨bs, 0, none⟩))]) rfl rfl) ?_
              refine WpL_guard_yes (oj := _) rfl rfl (by decide) (congrArg Value.bool g3) ?_
              have hk3 : k ≠ 3 := of_decide_eq_false g3
              have hrx9 : ReAt (ws) x _ := ReIn.at x (ReIn.ext E3 x hrx0)
              refine WpL_enter rfl rfl (by decide) (r_callF (vs := [(.slice oa m oc), (.func (.func 43) #[] #[(.pointer (some ⟨bs, 0, none⟩))])]) Try.func41 nm41 bd41 rfl) (res_has_c _ _ _ out (fun u => sameT x u) (own_rs hO (hro.ext E3) hm.symm) (fun w u us hE _ hu => CallV.mk (first := #[]) (cap := #[.pointer (some ⟨bs, 0, none⟩)]) Try.func43 nm43 bd43 rfl (list4_c w u x us _ bs hu (ReAt.ext hE x hrx9) (Ext.keep hE Bs)))) ?_
              rintro _ w39 ⟨rfl, X39⟩
              replace Bo := X39.keep Bo
              replace Bs := X39.keep Bs
              replace hO := own_ext hO X39
              replace hbs2 := Nat.le_trans hbs2 X39.size
              replace E := E.ext X39
              replace E3 := E3.ext X39
              have hot := once_take (l := restT k ts) hx
              have hout' : out = onceT [] ((restT k ts).take j) := by rw [hout]; exact if_neg hk3
              rw [← hout'] at hot
              refine WpL_guard_yes (oj := _) rfl rfl (by decide) (congrArg Value.bool g3) ?_
              refine WpL_val rfl rfl (by decide) (r_not (b := out.any fun u => sameT x u) rfl) ?_
              refine WpL_val rfl rfl (by decide) (r_pick (b := decide ((k : Int) = 3)) (v := (.bool (!(out.any fun u => sameT x u)))) rfl (by rw [g3]; rfl)) ?_
              refine WpL_nil ?_
              refine Wp_cond (b := !(out.any fun u => sameT x u)) rfl (fun hin => ?_) (fun hin => ?_)
              · have khin := hin
                replace hin := by simpa using hin
                refine Wp_region ?_
                refine WpL_val rfl rfl (by decide) (r_move (v := (.slice oa m oc)) rfl) ?_
                refine WpL_val rfl rfl (by decide) (r_loadAgg (vs := [(.int .i64 x.kind), (.slice sa x.set.length sc), (.slice aa x.args.length ac), (.int .i64 x.mn), (.int .i64 x.mx), (.bool x.neg)]) rfl agg25 siz25 rfl (Bs.cells rfl)) ?_
                refine s_buildSlice (ps := [(0, (.agg #[(.int .i64 x.kind), (.slice sa x.set.length sc), (.slice aa x.args.length ac), (.int .i64 x.mn), (.int .i64 x.mx), (.bool x.neg)]))]) (c := #[(.int .i64 x.kind), (.slice sa x.set.length sc), (.slice aa x.args.length ac), (.int .i64 x.mn), (.int .i64 x.mx), (.bool x.neg)]) (by decide) rfl Try.underlying23 siz25 zer25 (by decide) (by decide) (by kernel_rfl) ?_
                intro bn wn Nn
                have Fn := Nn.ge E
                have Fn_E3 := Nn.ge E3
                have On_bo := Nn.lt Bo
                have On_bs := Nn.lt Bs
                replace Bo := Nn.keep Bo
                replace Bs := Nn.keep Bs
                replace hO := own_ext hO Nn.ext
                replace hbs2 := Nat.le_trans hbs2 Nn.ext.size
                replace E := E.ext Nn.ext
                have Bn := Nn.blk
                replace E3 := E3.ext Nn.ext
                refine s_append (base := base2) (n := m) (m := 1) (xs := ro.flatten) (news := [(.int .i64 x.kind), (.slice sa x.set.length sc), (.slice aa x.args.length ac), (.int .i64 x.mn), (.int .i64 x.mx), (.bool x.neg)]) (size := 6) (bytes := 80) (v := (.slice oa m oc)) (by decide) Try.underlying23 siz25 byt25 zer25 rfl (by decide) rfl hO rfl (rfl) (Bn.cells rfl) (by simp [Value.oneCell']) (by unfold maxLen; omega) (by omega) (hbs2) ?_
                intro v9 w49 Ov9 Cv9 Dv9
                replace Bo := Cv9.keep (fun h => by have := (hO.lt _ h).1; omega) Bo
                replace E := E.step Cv9 (fun x hx h => absurd (hO.lt x h).1 (by omega))
                replace E3 := E3.step Cv9 (fun x hx h => absurd (hO.lt x h).1 (by omega))
                obtain ⟨oa2, oc2, rfl⟩ := own_form Ov9
                refine WpL_val rfl rfl (by decide) (r_assign (v := (.slice oa2 (m + 1) oc2)) rfl) ?_
                refine WpL_nil ?_
                refine inB_normal ?_
                refine thn_normal ?_
                refine Wp_region ?_
                refine WpL_val rfl rfl (by decide) (r_add (k := .i64) (a := ((j : Nat) : Int)) (b := 1) (c := ((j : Nat) : Int) + 1) rfl rfl (wI64 (by omega))) ?_
                refine WpL_val rfl rfl (by decide) (r_move (v := (.int .i64 (((j : Nat) : Int) + 1))) rfl) ?_
                refine WpL_nil ?_
                refine thn_normal ?_
                exact ⟨(restT k ts).length - (j + 1), by omega, j + 1, oa2, oc2, m + 1, out ++ [x], ro ++ [[.int .i64 x.kind, .slice sa x.set.length sc, .slice aa x.args.length ac, .int .i64 x.mn, .int .i64 x.mx, .bool x.neg]], Fits.out ⟨rfl, rfl, rfl, rfl, rfl, rfl, trivial⟩, E, E3, Bo, (by omega), (by simp [hm]), (by simpa using Ov9), RowsIn.append (RowsIn.single hrx0) hro, (by unfold outP; rw [if_neg hk3, hot, if_neg (by simpa using hin)]), (by simp; omega), Nat.le_trans hbs2 Cv9.size, rfl⟩
              · have khin := hin
                replace hin := by simpa using hin
                refine Wp_skip ?_
                refine inB_normal ?_
                refine thn_normal ?_
                refine Wp_region ?_
                refine WpL_val rfl rfl (by decide) (r_add (k := .i64) (a := ((j : Nat) : Int)) (b := 1) (c := ((j : Nat) : Int) + 1) rfl rfl (wI64 (by omega))) ?_
                refine WpL_val rfl rfl (by decide) (r_move (v := (.int .i64 (((j : Nat) : Int) + 1))) rfl) ?_
                refine WpL_nil ?_
                refine thn_normal ?_
                exact ⟨(restT k ts).length - (j + 1), by omega, j + 1, oa, oc, m, out, ro, Fits.out ⟨rfl, rfl, rfl, rfl, rfl, rfl, trivial⟩, E, E3, Bo, (by omega), hm, hO, hro, (by unfold outP; rw [if_neg hk3, hot, if_pos (by simpa using hin)]), (by omega), hbs2, rfl⟩
          · have khlt := hlt
            replace hlt := of_decide_eq_false hlt
            have hjj : j = (restT k ts).length := by omega
            rw [hjj, List.take_length] at hout
            replace hout : out = outT k ts := hout
            obtain ⟨hoc, hocl⟩ := own_res hO (hro.ext E3) hm.symm
            refine Wp_exit ?_
            refine thn_exit ?_
            refine thn_exit ?_
            refine inB_here ?_
            refine thn_normal ?_
            refine Wp_seq ?_
            refine Wp_block ?_
            refine Wp_seq_region ?_
            refine WpL_val rfl rfl (by decide) (r_move (v := (.slice oa m oc)) rfl) ?_
            refine WpL_val rfl rfl (by decide) (r_lenSlice (ad := oa) (n := m) (cap := oc) Try.underlying23 rfl) ?_
            refine WpL_val rfl rfl (by decide) (r_eql (k := .i64) (a := ((m : Nat) : Int)) (b := 1) rfl rfl) ?_
            refine WpL_val rfl rfl (by decide) (r_assign (v := (.bool (decide ((((m : Nat) : Int) : Int) = 1)))) rfl) ?_
            refine WpL_nil ?_
            refine Wp_cond (b := decide ((((m : Nat) : Int) : Int) = 1)) rfl (fun h1 => ?_) (fun h1 => ?_)
            · have kh1 := h1
              replace h1 := of_decide_eq_true h1
              obtain ⟨x, hx⟩ := get_of_lt (l := out) (i := 0) (by omega)
              obtain ⟨ob, hob1, hob2, hob3, hclo⟩ := hocl.resolve_left (fun h => by rw [h] at hx; simp at hx)
              subst hob3
              obtain ⟨xs, hcx, hrx⟩ := hclo 0 x hx
              have hrx0 := hrx
              obtain ⟨sa, sc, aa, ac, rfl, _, _, _⟩ := hrx.form
              refine Wp_seq_region ?_
              refine WpL_val rfl rfl (by decide) (r_move (v := (.slice (some ⟨ob, 0, none⟩) m oc)) rfl) ?_
              refine WpL_val rfl rfl (by decide) (r_indexSlice (b := ob) (o := 0) (len := m) (cap := oc) (i := 0) (o' := 0) rfl rfl rfl Try.underlying23 siz25 (by omega) (by omega)) ?_
              refine WpL_val rfl rfl (by decide) (r_loadAgg (vs := [(.int .i64 x.kind), (.slice sa x.set.length sc), (.slice aa x.args.length ac), (.int .i64 x.mn), (.int .i64 x.mx), (.bool x.neg)]) rfl agg25 siz25 rfl (hcx)) ?_
              have hS5 : Chg (fun y => y = bo) (W19) (W19) := Chg.refl _ _
              refine s_storeAgg (b := bo) (o := 0) (c' := #[(.int .i64 x.kind), (.slice sa x.set.length sc), (.slice aa x.args.length ac), (.int .i64 x.mn), (.int .i64 x.mx), (.bool x.neg)]) rfl rfl (by simp [Value.oneCell']) siz25 rfl Bo (by simp) rfl ?_
              intro w24 S24
              replace hS5 := S24.chg
              replace E := S24.step E (by first | exact Or.inl (by omega) | exact Or.inr rfl | exact Or.inr (by assumption) | exact Or.inr (by simp) | exact Or.inr (by omega) | exact Or.inr (by dsimp only; omega))
              replace Bo := S24.blk
              refine WpL_nil ?_
              refine Wp_ret ?_
              refine inB_ret ?_
              refine thn_ret ?_
              refine fin_agg Try.results22 (vs := [(.int .i64 x.kind), (.slice sa x.set.length sc), (.slice aa x.args.length ac), (.int .i64 x.mn), (.int .i64 x.mx), (.bool x.neg)]) (b := bo) rfl agg25 siz25 rfl (Bo.cells rfl) ?_
              refine ⟨_, rfl, ?_, E⟩
              rw [listT_one hnn (x := x) (by rw [← hout]; exact getD_one (by omega) hx)]
              exact ReIn.mono (fun y hy => .inl hy) x (ReIn.chg hS5 (fun y hy h => by have := hS y hy; have h' : y = bo := h; omega) x hrx0)
            · have kh1 := h1
              replace h1 := of_decide_eq_false h1
              refine Wp_seq_region ?_
              refine WpL_val rfl rfl (by decide) (r_move (v := (.slice oa m oc)) rfl) ?_
              refine WpL_val rfl rfl (by decide) (r_lenSlice (ad := oa) (n := m) (cap := oc) Try.underlying23 rfl) ?_
              refine WpL_val rfl rfl (by decide) (r_gtr (k := .i64) (a := ((m : Nat) : Int)) (b := 1) rfl rfl) ?_
              refine WpL_val rfl rfl (by decide) (r_assign (v := (.bool (decide ((1 : Int) < ((m : Nat) : Int))))) rfl) ?_
              refine WpL_nil ?_
              refine Wp_cond (b := decide ((1 : Int) < ((m : Nat) : Int))) rfl (fun h2 => ?_) (fun h2 => ?_)
              · have kh2 := h2
                replace h2 := of_decide_eq_true h2
                have hS5 : Chg (fun y => y = bo) (W19) (W19) := Chg.refl _ _
                refine Wp_seq_region ?_
                refine WpL_val rfl rfl (by decide) (r_move (v := (.int .i64 k)) rfl) ?_
                refine WpL_val rfl rfl (by decide) (r_move (v := (.slice oa m oc)) rfl) ?_
                refine WpL_val rfl rfl (by decide) (r_build (ps := [(0, (.int .i64 k)), (2, (.slice oa m oc))]) (v := (.agg #[(.int .i64 k), (.slice none 0 0), (.slice oa m oc), (.int .i64 0), (.int .i64 0), (.bool false)])) rfl (by kernel_rfl)) ?_
                refine s_storeAgg (b := bo) (o := 0) (c' := #[(.int .i64 k), (.slice none 0 0), (.slice oa m oc), (.int .i64 0), (.int .i64 0), (.bool false)]) rfl rfl (by simp [Value.oneCell']) siz25 rfl Bo (by simp) rfl ?_
                intro w26 S26
                replace hS5 := S26.chg
                replace E := S26.step E (by first | exact Or.inl (by omega) | exact Or.inr rfl | exact Or.inr (by assumption) | exact Or.inr (by simp) | exact Or.inr (by omega) | exact Or.inr (by dsimp only; omega))
                replace Bo := S26.blk
                refine WpL_nil ?_
                refine Wp_ret ?_
                refine inB_ret ?_
                refine thn_ret ?_
                refine fin_agg Try.results22 (vs := [(.int .i64 k), (.slice none 0 0), (.slice oa m oc), (.int .i64 0), (.int .i64 0), (.bool false)]) (b := bo) rfl agg25 siz25 rfl (Bo.cells rfl) ?_
                refine ⟨_, rfl, ?_, E⟩
                rw [listT_many hnn (by rw [← hout]; omega), ← hout]
                subst hm
                refine ReIn.of (set := []) (SlIn.nil _ _ _ _ _) hoc ?_
                rcases hocl with h | ⟨ob, hob1, hob2, hob3, hclo⟩
                · exact .inl h
                · refine .inr ⟨ob, 0, .inr (by omega), hob3, resin_of fun i t ht => ?_⟩
                  obtain ⟨vs, h6, h7⟩ := hclo i t ht
                  exact ⟨vs, h6.chg hS5 (fun h => by have h' : ob = bo := h; omega), ReIn.mono (fun y hy => .inl hy) t (ReIn.chg hS5 (fun y hy h => by have := hS y hy; have h' : y = bo := h; omega) t h7)⟩
              · have kh2 := h2
                replace h2 := of_decide_eq_false h2
                refine Wp_seq_region ?_
                refine WpL_val rfl rfl (by decide) (r_move (v := (.int .i64 k)) rfl) ?_
                refine WpL_val rfl rfl (by decide) (r_eql (k := .i64) (a := k) (b := 3) rfl rfl) ?_
                refine WpL_val rfl rfl (by decide) (r_assign (v := (.bool (decide ((k : Int) = 3)))) rfl) ?_
                refine WpL_nil ?_
                refine Wp_cond (b := decide ((k : Int) = 3)) rfl (fun h3 => ?_) (fun h3 => ?_)
                · have kh3 := h3
                  replace h3 := of_decide_eq_true h3
                  refine Wp_seq_region ?_
                  refine WpL_val rfl rfl (by decide) (r_build (ps := [(0, (.int .i64 1))]) (v := (.agg #[(.int .i64 1), (.slice none 0 0), (.slice none 0 0), (.int .i64 0), (.int .i64 0), (.bool false)])) rfl (by kernel_rfl)) ?_
                  refine s_storeAgg (b := bo) (o := 0) (c' := #[(.int .i64 1), (.slice none 0 0), (.slice none 0 0), (.int .i64 0), (.int .i64 0), (.bool false)]) rfl rfl (by simp [Value.oneCell']) siz25 rfl Bo (by simp) rfl ?_
                  intro w28 S28
                  replace E := S28.step E (by first | exact Or.inl (by omega) | exact Or.inr rfl | exact Or.inr (by assumption) | exact Or.inr (by simp) | exact Or.inr (by omega) | exact Or.inr (by dsimp only; omega))
                  replace Bo := S28.blk
                  refine WpL_nil ?_
                  refine Wp_ret ?_
                  refine inB_ret ?_
                  refine thn_ret ?_
                  refine fin_agg Try.results22 (vs := [(.int .i64 1), (.slice none 0 0), (.slice none 0 0), (.int .i64 0), (.int .i64 0), (.bool false)]) (b := bo) rfl agg25 siz25 rfl (Bo.cells rfl) ?_
                  have hk3 : k = 3 := h3
                  subst hk3
                  refine ⟨_, rfl, ?_, E⟩
                  rw [listT_nil3 hnn (by rw [← hout]; exact List.eq_nil_of_length_eq_zero (by omega))]
                  exact re_empty _ _ _
                · have kh3 := h3
                  replace h3 := of_decide_eq_false h3
                  refine Wp_skip ?_
                  refine inB_normal ?_
                  refine thn_normal ?_
                  refine Wp_seq_region ?_
                  refine WpL_val rfl rfl (by decide) (r_build (ps := [(0, (.int .i64 0))]) (v := (.agg #[(.int .i64 0), (.slice none 0 0), (.slice none 0 0), (.int .i64 0), (.int .i64 0), (.bool false)])) rfl (by kernel_rfl)) ?_
                  refine s_storeAgg (b := bo) (o := 0) (c' := #[(.int .i64 0), (.slice none 0 0), (.slice none 0 0), (.int .i64 0), (.int .i64 0), (.bool false)]) rfl rfl (by simp [Value.oneCell']) siz25 rfl Bo (by simp) rfl ?_
                  intro w29 S29
                  replace E := S29.step E (by first | exact Or.inl (by omega) | exact Or.inr rfl | exact Or.inr (by assumption) | exact Or.inr (by simp) | exact Or.inr (by omega) | exact Or.inr (by dsimp only; omega))
                  replace Bo := S29.blk
                  refine WpL_nil ?_
                  refine Wp_ret ?_
                  refine fin_agg Try.results22 (vs := [(.int .i64 0), (.slice none 0 0), (.slice none 0 0), (.int .i64 0), (.int .i64 0), (.bool false)]) (b := bo) rfl agg25 siz25 rfl (Bo.cells rfl) ?_
                  refine ⟨_, rfl, ?_, E⟩
                  rw [listT_nil hnn (by rw [← hout]; exact List.eq_nil_of_length_eq_zero (by omega)) h3]
                  exact re_empty _ _ _
end Go.Proofs
