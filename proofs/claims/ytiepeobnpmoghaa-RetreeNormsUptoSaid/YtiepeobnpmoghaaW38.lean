/- Walk: the law RetreeNorms. -/
import Derived.Test.YtiepeobnpmoghaaW37
import Derived.Test.YtiepeobnpmoghaaW32
namespace Go.Proofs
open Go Go.Eng
set_option maxRecDepth 100000

/-- Whether the empty text matches. -/
def emptyK (k mn : Int) (ng al so : Bool) : Bool := if k = 1 ∨ k = 5 then true else if k = 3 ∨ k = 7 ∨ k = 9 then al else if k = 4 then so else if k = 6 then decide (mn = 0) || al else if k = 8 then !al else if k = 10 then al != ng else false
mutual
def emptyB : Re → Bool
  | .mk k _ args mn _ ng => emptyK k mn ng (emptyAll args) (emptySome args)
def emptyAll : List Re → Bool
  | [] => true
  | t :: ts => emptyB t && emptyAll ts
def emptySome : List Re → Bool
  | [] => false
  | t :: ts => emptyB t || emptySome ts
end
theorem emptyAll_all (ts : List Re) : emptyAll ts = ts.all emptyB := by
  induction ts with
  | nil => rfl
  | cons t ts ih => simp [emptyAll, ih]
theorem emptySome_any (ts : List Re) : emptySome ts = ts.any emptyB := by
  induction ts with
  | nil => rfl
  | cons t ts ih => simp [emptySome, ih]
theorem emptyB_eq (t : Re) : emptyB t = emptyK t.kind t.mn t.neg (t.args.all emptyB) (t.args.any emptyB) := by
  cases t; simp only [emptyB, emptyAll_all, emptySome_any]; rfl

set_option maxHeartbeats 2000000 in
theorem empty_c : ∀ (n : Nat) (t : Re) (w0 : World) (vs : List Value), t.size ≤ n → ReAt w0 t vs → Ret Try.prog 24 #[.agg vs.toArray] w0 fun v w => v = .bool (emptyB t) ∧ Ext w0 w := by
  intro n
  induction n with
  | zero => intro t w0 vs hn; have := t.size_pos; omega
  | succ n ih =>
  intro t w0 vs hn ht
  have ht0 := ht
  obtain ⟨sa, sc, aa, ac, rfl, _, hac, _⟩ := ht.form
  have hE := emptyB_eq t
  refine Ret_of Try.func24 rfl Try.ntmps24 (Nat.le_of_ble_eq_true rfl) ?_
  have E : Chg none1 w0 w0 := Chg.refl _ _
  refine Wp_seq_region ?_
  refine s_box (v := (.agg #[(.int .i64 t.kind), (.slice sa t.set.length sc), (.slice aa t.args.length ac), (.int .i64 t.mn), (.int .i64 t.mx), (.bool t.neg)])) (c := #[(.int .i64 t.kind), (.slice sa t.set.length sc), (.slice aa t.args.length ac), (.int .i64 t.mn), (.int .i64 t.mx), (.bool t.neg)]) (by decide) rfl rfl ?_
  intro br wr Nr
  have Fr := Nr.ge E
  replace E := E.ext Nr.ext
  have Br := Nr.blk
  refine WpL_val rfl rfl (by decide) (r_assign (v := (.bool false)) rfl) ?_
  refine WpL_nil ?_
  refine Wp_seq_region ?_
  refine WpL_val rfl rfl (by decide) (r_assign (v := (.bool true)) rfl) ?_
  refine WpL_val rfl rfl (by decide) (r_assign (v := (.bool false)) rfl) ?_
  refine WpL_nil ?_
  refine Wp_seq ?_
  refine Wp_seq_region ?_
  refine WpL_val rfl rfl (by decide) (r_fieldAddr (b := br) (o := 0) (o' := 2) rfl Try.underlying25 rfl siz23 rfl) ?_
  refine WpL_val rfl rfl (by decide) (r_load (v := (.slice aa t.args.length ac)) rfl flat23 (Br.cell rfl)) ?_
  refine WpL_val rfl rfl (by decide) (r_lenSlice (ad := aa) (n := t.args.length) (cap := ac) Try.underlying23 rfl) ?_
  refine WpL_val rfl rfl (by decide) (r_move (v := (.int .i64 0)) rfl) ?_
  refine WpL_nil ?_
  refine Wp_block ?_
  refine Wp_loop (fun nn_ σ W1 => ∃ (k : Nat) (al : Bool) (so : Bool), (∃ jj_, σ = upds jj_ [(1, (.pointer (some ⟨br, 0, none⟩))), (9, (.slice aa t.args.length ac)), (10, (.int .i64 ((t.args.length : Nat) : Int))), (11, (.int .i64 ((k : Nat) : Int))), (3, (.bool al)), (4, (.bool so))]) ∧ Chg none1 w0 W1 ∧ Blk W1 br #[(.int .i64 t.kind), (.slice sa t.set.length sc), (.slice aa t.args.length ac), (.int .i64 t.mn), (.int .i64 t.mx), (.bool t.neg)] 25 ∧ (k ≤ t.args.length) ∧ (al = (t.args.take k).all emptyB) ∧ (so = (t.args.take k).any emptyB) ∧ nn_ = t.args.length - k) (n := t.args.length - 0) ?_ ?_
  · exact ⟨0, true, false, Fits.out ⟨rfl, rfl, rfl, rfl, rfl, rfl, trivial⟩, E, Br, Nat.zero_le _, rfl, rfl, rfl⟩
  · clear E Br
    rintro _ _ W1 ⟨k, al, so, ⟨j1, rfl⟩, E, Br, hk, hal, hso, rfl⟩
    refine Wp_seq_region ?_
    refine WpL_val rfl rfl (by decide) (r_lss (k := .i64) (a := ((k : Nat) : Int)) (b := ((t.args.length : Nat) : Int)) rfl rfl) ?_
    refine WpL_nil ?_
    refine Wp_seq ?_
    refine Wp_cond (b := decide ((((k : Nat) : Int) : Int) < ((t.args.length : Nat) : Int))) rfl (fun hlt => ?_) (fun hlt => ?_)
    · have khlt := hlt
      replace hlt := of_decide_eq_true hlt
      obtain ⟨x, hx⟩ := get_of_lt (l := t.args) (i := k) (by omega)
      obtain ⟨b, o, rfl, hcl⟩ := (ReAt.rs ht0).cells (by omega)
      obtain ⟨xs, hcx, hrx⟩ := hcl k x hx
      have hrx0 := hrx
      obtain ⟨xsa, xsc, xaa, xac, rfl, _, _, _⟩ := hrx.form
      have ha2 : (t.args.take (k + 1)).all emptyB = (al && emptyB x) := by rw [List.take_add_one, hx, List.all_append, ← hal]; simp
      have hs2 : (t.args.take (k + 1)).any emptyB = (so || emptyB x) := by rw [List.take_add_one, hx, List.any_append, ← hso]; simp
      refine Wp_skip ?_
      refine thn_normal ?_
      refine Wp_seq ?_
      refine Wp_block ?_
      refine Wp_seq_region ?_
      refine WpL_val rfl rfl (by decide) (r_indexSlice (b := b) (o := o) (len := t.args.length) (cap := ac) (i := k) (o' := o + k * 6) rfl rfl rfl Try.underlying23 siz25 (by omega) (by omega)) ?_
      refine WpL_val rfl rfl (by decide) (r_loadAgg (vs := [(.int .i64 x.kind), (.slice xsa x.set.length xsc), (.slice xaa x.args.length xac), (.int .i64 x.mn), (.int .i64 x.mx), (.bool x.neg)]) rfl agg25 siz25 rfl (hcx.ext E)) ?_
      refine s_allocStore (v := (.agg #[(.int .i64 x.kind), (.slice xsa x.set.length xsc), (.slice xaa x.args.length xac), (.int .i64 x.mn), (.int .i64 x.mx), (.bool x.neg)])) (c := #[(.int .i64 x.kind), (.slice xsa x.set.length xsc), (.slice xaa x.args.length xac), (.int .i64 x.mn), (.int .i64 x.mx), (.bool x.neg)]) (n := 6) (by decide) zer25 rfl siz25 rfl rfl rfl (by simp [Value.oneCell']) ?_
      intro bs ws Ns
      have Fs := Ns.ge E
      have Os_br := Ns.lt Br
      replace Br := Ns.keep Br
      replace E := E.ext Ns.ext
      have Bs := Ns.blk
      refine WpL_nil ?_
      refine Wp_seq_region ?_
      refine WpL_val rfl rfl (by decide) (r_loadAgg (vs := [(.int .i64 x.kind), (.slice xsa x.set.length xsc), (.slice xaa x.args.length xac), (.int .i64 x.mn), (.int .i64 x.mx), (.bool x.neg)]) rfl agg25 siz25 rfl (Bs.cells rfl)) ?_
      refine WpL_enter rfl rfl (by decide) (r_callF (vs := [(.agg #[(.int .i64 x.kind), (.slice xsa x.set.length xsc), (.slice xaa x.args.length xac), (.int .i64 x.mn), (.int .i64 x.mx), (.bool x.neg)])]) Try.func24 nm24 bd24 rfl) (ih x _ _ (by have := Re.size_arg hx; omega) (ReAt.ext E x hrx0)) ?_
      rintro _ w9 ⟨rfl, X9⟩
      replace Br := X9.keep Br
      replace Bs := X9.keep Bs
      replace E := E.ext X9
      refine WpL_val rfl rfl (by decide) (r_assign (v := (.bool (emptyB x))) rfl) ?_
      refine WpL_nil ?_
      refine Wp_region ?_
      refine WpL_val rfl rfl (by decide) (r_move (v := (.bool al)) rfl) ?_
      refine WpL_val rfl rfl (by decide) (r_move (v := (.bool al)) rfl) ?_
      obtain ⟨e3, he3⟩ : ∃ e, (emptyB x) = e := ⟨_, rfl⟩
      refine WpL_guard_any (oj := _) (gv := (.bool al)) (u := (bif al then (.bool e3) else undef)) rfl rfl (by decide) (by decide) rfl (by cases al <;> first | exact Or.inr ⟨Or.inl rfl, rfl⟩ | exact Or.inr ⟨Or.inr rfl, rfl⟩ | exact Or.inl ⟨rfl, r_move (v := .bool e3) (congrArg Value.bool he3)⟩) ?_
      obtain ⟨e4, he4⟩ : ∃ e, (al && e3) = e := ⟨_, rfl⟩
      refine WpL_val rfl rfl (by decide) (r_pick (b := al) (v := .bool e4) rfl (by rw [← he4]; cases al <;> rfl)) ?_
      refine WpL_val rfl rfl (by decide) (r_move (v := (.bool so)) rfl) ?_
      refine WpL_val rfl rfl (by decide) (r_move (v := (.bool so)) rfl) ?_
      obtain ⟨e5, he5⟩ : ∃ e, (emptyB x) = e := ⟨_, rfl⟩
      refine WpL_guard_any (oj := _) (gv := (.bool so)) (u := (bif so then undef else (.bool e5))) rfl rfl (by decide) (by decide) rfl (by cases so <;> first | exact Or.inr ⟨Or.inl rfl, rfl⟩ | exact Or.inr ⟨Or.inr rfl, rfl⟩ | exact Or.inl ⟨rfl, r_move (v := .bool e5) (congrArg Value.bool he5)⟩) ?_
      obtain ⟨e6, he6⟩ : ∃ e, (so || e5) = e := ⟨_, rfl⟩
      refine WpL_val rfl rfl (by decide) (r_pick (b := so) (v := .bool e6) rfl (by rw [← he6]; cases so <;> rfl)) ?_
      refine WpL_val rfl rfl (by decide) (r_assign (v := (.bool e4)) rfl) ?_
      refine WpL_val rfl rfl (by decide) (r_assign (v := (.bool e6)) rfl) ?_
      refine WpL_nil ?_
      subst he6
      subst he5
      subst he4
      subst he3
      refine inB_normal ?_
      refine thn_normal ?_
      refine Wp_region ?_
      refine WpL_val rfl rfl (by decide) (r_add (k := .i64) (a := ((k : Nat) : Int)) (b := 1) (c := ((k : Nat) : Int) + 1) rfl rfl (wI64 (by omega))) ?_
      refine WpL_val rfl rfl (by decide) (r_move (v := (.int .i64 (((k : Nat) : Int) + 1))) rfl) ?_
      refine WpL_nil ?_
      refine thn_normal ?_
      exact ⟨t.args.length - (k + 1), by omega, k + 1, (al && emptyB x), (so || emptyB x), Fits.out ⟨rfl, rfl, rfl, rfl, rfl, rfl, trivial⟩, E, Br, (by omega), ha2.symm, hs2.symm, rfl⟩
    · have khlt := hlt
      replace hlt := of_decide_eq_false hlt
      have hkk : k = t.args.length := by omega
      rw [hkk, List.take_length] at hal hso
      rw [← hal, ← hso] at hE
      refine Wp_exit ?_
      refine thn_exit ?_
      refine thn_exit ?_
      refine inB_here ?_
      refine thn_normal ?_
      refine Wp_seq ?_
      refine Wp_seq_region ?_
      refine WpL_val rfl rfl (by decide) (r_fieldAddr (b := br) (o := 0) (o' := 0) rfl Try.underlying25 rfl siz3 rfl) ?_
      refine WpL_val rfl rfl (by decide) (r_load (v := (.int .i64 t.kind)) rfl flat3 (Br.cell rfl)) ?_
      refine WpL_nil ?_
      refine Wp_block ?_
      refine Wp_seq ?_
      refine Wp_seq_region ?_
      refine WpL_val rfl rfl (by decide) (r_eql (k := .i64) (a := t.kind) (b := 1) rfl rfl) ?_
      refine WpL_val rfl rfl (by decide) (r_assign (v := (.bool (decide ((t.kind : Int) = 1)))) rfl) ?_
      refine WpL_nil ?_
      refine Wp_cond (b := decide ((t.kind : Int) = 1)) rfl (fun h1 => ?_) (fun h1 => ?_)
      · have kh1 := h1
        replace h1 := of_decide_eq_true h1
        refine Wp_skip ?_
        refine thn_normal ?_
        refine Wp_cond_true (congrArg Value.bool kh1) ?_
        refine Wp_seq_region ?_
        refine WpL_val rfl rfl (by decide) (r_assign (v := (.bool true)) rfl) ?_
        refine WpL_nil ?_
        refine Wp_ret ?_
        refine inB_ret ?_
        refine thn_ret ?_
        refine fin_tmp Try.results24 (v := (.bool true)) rfl ?_
        exact ⟨bool_eq (by rw [hE]; simp [emptyK, h1]), E⟩
      · have kh1 := h1
        replace h1 := of_decide_eq_false h1
        refine Wp_region ?_
        refine WpL_val rfl rfl (by decide) (r_eql (k := .i64) (a := t.kind) (b := 5) rfl rfl) ?_
        refine WpL_val rfl rfl (by decide) (r_assign (v := (.bool (decide ((t.kind : Int) = 5)))) rfl) ?_
        refine WpL_nil ?_
        refine thn_normal ?_
        refine Wp_cond (b := decide ((t.kind : Int) = 5)) rfl (fun h5 => ?_) (fun h5 => ?_)
        · have kh5 := h5
          replace h5 := of_decide_eq_true h5
          refine Wp_seq_region ?_
          refine WpL_val rfl rfl (by decide) (r_assign (v := (.bool true)) rfl) ?_
          refine WpL_nil ?_
          refine Wp_ret ?_
          refine inB_ret ?_
          refine thn_ret ?_
          refine fin_tmp Try.results24 (v := (.bool true)) rfl ?_
          exact ⟨bool_eq (by rw [hE]; simp [emptyK, h5]), E⟩
        · have kh5 := h5
          replace h5 := of_decide_eq_false h5
          refine Wp_seq ?_
          refine Wp_seq_region ?_
          refine WpL_val rfl rfl (by decide) (r_eql (k := .i64) (a := t.kind) (b := 3) rfl rfl) ?_
          refine WpL_val rfl rfl (by decide) (r_assign (v := (.bool (decide ((t.kind : Int) = 3)))) rfl) ?_
          refine WpL_nil ?_
          refine Wp_cond (b := decide ((t.kind : Int) = 3)) rfl (fun h3 => ?_) (fun h3 => ?_)
          · have kh3 := h3
            replace h3 := of_decide_eq_true h3
            refine Wp_skip ?_
            refine thn_normal ?_
            refine Wp_cond_true (congrArg Value.bool kh3) ?_
            refine Wp_seq_region ?_
            refine WpL_val rfl rfl (by decide) (r_move (v := (.bool al)) rfl) ?_
            refine WpL_val rfl rfl (by decide) (r_assign (v := (.bool al)) rfl) ?_
            refine WpL_nil ?_
            refine Wp_ret ?_
            refine inB_ret ?_
            refine thn_ret ?_
            refine fin_tmp Try.results24 (v := (.bool al)) rfl ?_
            exact ⟨bool_eq (by rw [hE]; simp [emptyK, h3]), E⟩
          · have kh3 := h3
            replace h3 := of_decide_eq_false h3
            refine Wp_seq_region ?_
            refine WpL_val rfl rfl (by decide) (r_eql (k := .i64) (a := t.kind) (b := 7) rfl rfl) ?_
            refine WpL_val rfl rfl (by decide) (r_assign (v := (.bool (decide ((t.kind : Int) = 7)))) rfl) ?_
            refine WpL_nil ?_
            refine Wp_cond (b := decide ((t.kind : Int) = 7)) rfl (fun h7 => ?_) (fun h7 => ?_)
            · have kh7 := h7
              replace h7 := of_decide_eq_true h7
              refine Wp_skip ?_
              refine thn_normal ?_
              refine Wp_cond_true (congrArg Value.bool kh7) ?_
              refine Wp_seq_region ?_
              refine WpL_val rfl rfl (by decide) (r_move (v := (.bool al)) rfl) ?_
              refine WpL_val rfl rfl (by decide) (r_assign (v := (.bool al)) rfl) ?_
              refine WpL_nil ?_
              refine Wp_ret ?_
              refine inB_ret ?_
              refine thn_ret ?_
              refine fin_tmp Try.results24 (v := (.bool al)) rfl ?_
              exact ⟨bool_eq (by rw [hE]; simp [emptyK, h7]), E⟩
            · have kh7 := h7
              replace h7 := of_decide_eq_false h7
              refine Wp_region ?_
              refine WpL_val rfl rfl (by decide) (r_eql (k := .i64) (a := t.kind) (b := 9) rfl rfl) ?_
              refine WpL_val rfl rfl (by decide) (r_assign (v := (.bool (decide ((t.kind : Int) = 9)))) rfl) ?_
              refine WpL_nil ?_
              refine thn_normal ?_
              refine Wp_cond (b := decide ((t.kind : Int) = 9)) rfl (fun h9 => ?_) (fun h9 => ?_)
              · have kh9 := h9
                replace h9 := of_decide_eq_true h9
                refine Wp_seq_region ?_
                refine WpL_val rfl rfl (by decide) (r_move (v := (.bool al)) rfl) ?_
                refine WpL_val rfl rfl (by decide) (r_assign (v := (.bool al)) rfl) ?_
                refine WpL_nil ?_
                refine Wp_ret ?_
                refine inB_ret ?_
                refine thn_ret ?_
                refine fin_tmp Try.results24 (v := (.bool al)) rfl ?_
                exact ⟨bool_eq (by rw [hE]; simp [emptyK, h9]), E⟩
              · have kh9 := h9
                replace h9 := of_decide_eq_false h9
                refine Wp_seq_region ?_
                refine WpL_val rfl rfl (by decide) (r_eql (k := .i64) (a := t.kind) (b := 4) rfl rfl) ?_
                refine WpL_val rfl rfl (by decide) (r_assign (v := (.bool (decide ((t.kind : Int) = 4)))) rfl) ?_
                refine WpL_nil ?_
                refine Wp_cond (b := decide ((t.kind : Int) = 4)) rfl (fun h4 => ?_) (fun h4 => ?_)
                · have kh4 := h4
                  replace h4 := of_decide_eq_true h4
                  refine Wp_seq_region ?_
                  refine WpL_val rfl rfl (by decide) (r_move (v := (.bool so)) rfl) ?_
                  refine WpL_val rfl rfl (by decide) (r_assign (v := (.bool so)) rfl) ?_
                  refine WpL_nil ?_
                  refine Wp_ret ?_
                  refine inB_ret ?_
                  refine thn_ret ?_
                  refine fin_tmp Try.results24 (v := (.bool so)) rfl ?_
                  exact ⟨bool_eq (by rw [hE]; simp [emptyK, h4]), E⟩
                · have kh4 := h4
                  replace h4 := of_decide_eq_false h4
                  refine Wp_seq_region ?_
                  refine WpL_val rfl rfl (by decide) (r_eql (k := .i64) (a := t.kind) (b := 6) rfl rfl) ?_
                  refine WpL_val rfl rfl (by decide) (r_assign (v := (.bool (decide ((t.kind : Int) = 6)))) rfl) ?_
                  refine WpL_nil ?_
                  refine Wp_cond (b := decide ((t.kind : Int) = 6)) rfl (fun h6 => ?_) (fun h6 => ?_)
                  · have kh6 := h6
                    replace h6 := of_decide_eq_true h6
                    refine Wp_seq_region ?_
                    refine WpL_val rfl rfl (by decide) (r_fieldAddr (b := br) (o := 0) (o' := 3) rfl Try.underlying25 rfl siz3 rfl) ?_
                    refine WpL_val rfl rfl (by decide) (r_load (v := (.int .i64 t.mn)) rfl flat3 (Br.cell rfl)) ?_
                    obtain ⟨e14, he14⟩ : ∃ e, (decide ((t.mn : Int) = 0)) = e := ⟨_, rfl⟩
                    refine WpL_val rfl rfl (by decide) ((r_eql (k := .i64) (a := t.mn) (b := 0) rfl rfl).trans (by rw [he14]; try rfl)) ?_
                    refine WpL_val rfl rfl (by decide) (r_move (v := (.bool e14)) rfl) ?_
                    refine WpL_guard_any (oj := _) (gv := (.bool e14)) (u := (bif e14 then undef else (.bool al))) rfl rfl (by decide) (by decide) rfl (by cases e14 <;> first | exact Or.inr ⟨Or.inl rfl, rfl⟩ | exact Or.inr ⟨Or.inr rfl, rfl⟩ | exact Or.inl ⟨rfl, r_move (v := (.bool al)) rfl⟩) ?_
                    obtain ⟨e15, he15⟩ : ∃ e, (e14 || al) = e := ⟨_, rfl⟩
                    refine WpL_val rfl rfl (by decide) (r_pick (b := e14) (v := .bool e15) rfl (by rw [← he15]; cases e14 <;> rfl)) ?_
                    refine WpL_val rfl rfl (by decide) (r_assign (v := (.bool e15)) rfl) ?_
                    refine WpL_nil ?_
                    subst he15
                    subst he14
                    refine Wp_ret ?_
                    refine inB_ret ?_
                    refine thn_ret ?_
                    refine fin_tmp Try.results24 (v := (.bool ((decide ((t.mn : Int) = 0)) || al))) rfl ?_
                    exact ⟨bool_eq (by rw [hE]; simp [emptyK, h6]), E⟩
                  · have kh6 := h6
                    replace h6 := of_decide_eq_false h6
                    refine Wp_seq_region ?_
                    refine WpL_val rfl rfl (by decide) (r_eql (k := .i64) (a := t.kind) (b := 8) rfl rfl) ?_
                    refine WpL_val rfl rfl (by decide) (r_assign (v := (.bool (decide ((t.kind : Int) = 8)))) rfl) ?_
                    refine WpL_nil ?_
                    refine Wp_cond (b := decide ((t.kind : Int) = 8)) rfl (fun h8 => ?_) (fun h8 => ?_)
                    · have kh8 := h8
                      replace h8 := of_decide_eq_true h8
                      refine Wp_seq_region ?_
                      refine WpL_val rfl rfl (by decide) (r_move (v := (.bool al)) rfl) ?_
                      refine WpL_val rfl rfl (by decide) (r_not (b := al) rfl) ?_
                      refine WpL_val rfl rfl (by decide) (r_assign (v := (.bool (!al))) rfl) ?_
                      refine WpL_nil ?_
                      refine Wp_ret ?_
                      refine inB_ret ?_
                      refine thn_ret ?_
                      refine fin_tmp Try.results24 (v := (.bool (!al))) rfl ?_
                      exact ⟨bool_eq (by rw [hE]; simp [emptyK, h8]), E⟩
                    · have kh8 := h8
                      replace h8 := of_decide_eq_false h8
                      refine Wp_seq_region ?_
                      refine WpL_val rfl rfl (by decide) (r_eql (k := .i64) (a := t.kind) (b := 10) rfl rfl) ?_
                      refine WpL_val rfl rfl (by decide) (r_assign (v := (.bool (decide ((t.kind : Int) = 10)))) rfl) ?_
                      refine WpL_nil ?_
                      refine Wp_cond (b := decide ((t.kind : Int) = 10)) rfl (fun h10 => ?_) (fun h10 => ?_)
                      · have kh10 := h10
                        replace h10 := of_decide_eq_true h10
                        refine Wp_seq_region ?_
                        refine WpL_val rfl rfl (by decide) (r_move (v := (.bool al)) rfl) ?_
                        refine WpL_val rfl rfl (by decide) (r_fieldAddr (b := br) (o := 0) (o' := 5) rfl Try.underlying25 rfl siz4 rfl) ?_
                        refine WpL_val rfl rfl (by decide) (r_load (v := (.bool t.neg)) rfl flat4 (Br.cell rfl)) ?_
                        refine WpL_val rfl rfl (by decide) (r_neqB (p := al) (q := t.neg) Try.underlying4 rfl rfl) ?_
                        refine WpL_val rfl rfl (by decide) (r_assign (v := (.bool (al != t.neg))) rfl) ?_
                        refine WpL_nil ?_
                        refine Wp_ret ?_
                        refine inB_ret ?_
                        refine thn_ret ?_
                        refine fin_tmp Try.results24 (v := (.bool (al != t.neg))) rfl ?_
                        exact ⟨bool_eq (by rw [hE]; simp [emptyK, h10]), E⟩
                      · have kh10 := h10
                        replace h10 := of_decide_eq_false h10
                        refine Wp_skip ?_
                        refine inB_normal ?_
                        refine thn_normal ?_
                        refine Wp_seq_region ?_
                        refine WpL_val rfl rfl (by decide) (r_assign (v := (.bool false)) rfl) ?_
                        refine WpL_nil ?_
                        refine Wp_ret ?_
                        refine fin_tmp Try.results24 (v := (.bool false)) rfl ?_
                        exact ⟨bool_eq (by rw [hE]; simp [emptyK, h1, h5, h3, h7, h9, h4, h6, h8, h10]), E⟩
theorem null_c (w0 : World) (t : Re) (vs : List Value) (ht : ReAt w0 t vs) : Ret Try.prog 13 #[.agg vs.toArray] w0 fun v w => v = .tuple #[.bool (decide (fitsE t 40 = 0) && emptyB t), .int .i64 (fitsE t 40)] ∧ Ext w0 w := by
  have ht0 := ht
  obtain ⟨sa, sc, aa, ac, rfl, _, hac, _⟩ := ht.form
  refine Ret_of Try.func13 rfl Try.ntmps13 (Nat.le_of_ble_eq_true rfl) ?_
  have E : Chg none1 w0 w0 := Chg.refl _ _
  refine Wp_seq_region ?_
  refine s_box (v := (.agg #[(.int .i64 t.kind), (.slice sa t.set.length sc), (.slice aa t.args.length ac), (.int .i64 t.mn), (.int .i64 t.mx), (.bool t.neg)])) (c := #[(.int .i64 t.kind), (.slice sa t.set.length sc), (.slice aa t.args.length ac), (.int .i64 t.mn), (.int .i64 t.mx), (.bool t.neg)]) (by decide) rfl rfl ?_
  intro br wr Nr
  have Fr := Nr.ge E
  replace E := E.ext Nr.ext
  have Br := Nr.blk
  refine WpL_val rfl rfl (by decide) (r_assign (v := (.bool false)) rfl) ?_
  refine WpL_val rfl rfl (by decide) (r_assign (v := (.int .i64 0)) rfl) ?_
  refine WpL_nil ?_
  refine Wp_seq ?_
  refine Wp_seq_region ?_
  refine WpL_val rfl rfl (by decide) (r_loadAgg (vs := [(.int .i64 t.kind), (.slice sa t.set.length sc), (.slice aa t.args.length ac), (.int .i64 t.mn), (.int .i64 t.mx), (.bool t.neg)]) rfl agg25 siz25 rfl (Br.cells rfl)) ?_
  refine WpL_enter rfl rfl (by decide) (r_callF (vs := [(.agg #[(.int .i64 t.kind), (.slice sa t.set.length sc), (.slice aa t.args.length ac), (.int .i64 t.mn), (.int .i64 t.mx), (.bool t.neg)])]) Try.func9 nm9 bd9 rfl) (check_c _ t _ (ReAt.ext E t ht0)) ?_
  rintro _ w9 ⟨rfl, X9⟩
  replace Br := X9.keep Br
  replace E := E.ext X9
  refine WpL_val rfl rfl (by decide) (r_assign (v := (.int .i64 (fitsE t 40))) rfl) ?_
  refine WpL_nil ?_
  refine Wp_seq_region ?_
  refine WpL_val rfl rfl (by decide) (r_move (v := (.int .i64 (fitsE t 40))) rfl) ?_
  refine WpL_val rfl rfl (by decide) (r_neq (k := .i64) (a := fitsE t 40) (b := 0) rfl rfl) ?_
  refine WpL_nil ?_
  refine Wp_cond (b := decide ((fitsE t 40 : Int) ≠ 0)) rfl (fun hf => ?_) (fun hf => ?_)
  · have khf := hf
    replace hf := of_decide_eq_true hf
    refine Wp_seq_region ?_
    refine WpL_val rfl rfl (by decide) (r_move (v := (.int .i64 (fitsE t 40))) rfl) ?_
    refine WpL_val rfl rfl (by decide) (r_assign (v := (.bool false)) rfl) ?_
    refine WpL_val rfl rfl (by decide) (r_assign (v := (.int .i64 (fitsE t 40))) rfl) ?_
    refine WpL_nil ?_
    refine Wp_ret ?_
    refine thn_ret ?_
    refine fin_tmp2 Try.results13 (v := (.bool false)) (v' := (.int .i64 (fitsE t 40))) rfl rfl ?_
    exact ⟨by rw [decide_eq_false hf]; rfl, E⟩
  · have khf := hf
    replace hf := of_decide_eq_false hf
    have hf0 : fitsE t 40 = 0 := by omega
    refine Wp_skip ?_
    refine thn_normal ?_
    refine Wp_seq_region ?_
    refine WpL_val rfl rfl (by decide) (r_loadAgg (vs := [(.int .i64 t.kind), (.slice sa t.set.length sc), (.slice aa t.args.length ac), (.int .i64 t.mn), (.int .i64 t.mx), (.bool t.neg)]) rfl agg25 siz25 rfl (Br.cells rfl)) ?_
    refine WpL_enter rfl rfl (by decide) (r_callF (vs := [(.agg #[(.int .i64 t.kind), (.slice sa t.set.length sc), (.slice aa t.args.length ac), (.int .i64 t.mn), (.int .i64 t.mx), (.bool t.neg)])]) Try.func24 nm24 bd24 rfl) (empty_c t.size t _ _ (Nat.le_refl _) (ReAt.ext E t ht0)) ?_
    rintro _ w19 ⟨rfl, X19⟩
    replace Br := X19.keep Br
    replace E := E.ext X19
    refine WpL_val rfl rfl (by decide) (r_assign (v := (.bool (emptyB t))) rfl) ?_
    refine WpL_val rfl rfl (by decide) (r_assign (v := (.int .i64 0)) rfl) ?_
    refine WpL_nil ?_
    refine Wp_ret ?_
    refine fin_tmp2 Try.results13 (v := (.bool (emptyB t))) (v' := (.int .i64 0)) rfl rfl ?_
    exact ⟨by rw [hf0]; rfl, E⟩

theorem sp_c (w0 : World) (a b : Int) : Ret Try.prog 12 #[.int .i64 a, .int .i64 b] w0 fun v w => v = .agg #[.int .i64 a, .int .i64 b] ∧ Ext w0 w := by
  refine Ret_of Try.func12 rfl Try.ntmps12 (Nat.le_of_ble_eq_true rfl) ?_
  have E : Chg none1 w0 w0 := Chg.refl _ _
  refine Wp_seq_region ?_
  refine s_alloc (c := #[(.int .i64 0), (.int .i64 0)]) (by decide) zer36 rfl ?_
  intro b1 w1 N1
  have F1 := N1.ge E
  replace E := E.ext N1.ext
  have B1 := N1.blk
  refine WpL_nil ?_
  refine Wp_seq_region ?_
  refine WpL_val rfl rfl (by decide) (r_move (v := (.int .i64 a)) rfl) ?_
  refine WpL_val rfl rfl (by decide) (r_move (v := (.int .i64 b)) rfl) ?_
  refine WpL_val rfl rfl (by decide) (r_build (ps := [(0, (.int .i64 a)), (1, (.int .i64 b))]) (v := (.agg #[(.int .i64 a), (.int .i64 b)])) rfl (by kernel_rfl)) ?_
  refine s_storeAgg (b := b1) (o := 0) (c' := #[(.int .i64 a), (.int .i64 b)]) rfl rfl (by simp [Value.oneCell']) siz36 rfl B1 (by simp) rfl ?_
  intro w2 S2
  replace E := S2.step E (by first | exact Or.inl (by omega) | exact Or.inr rfl | exact Or.inr (by assumption) | exact Or.inr (by simp) | exact Or.inr (by omega) | exact Or.inr (by dsimp only; omega))
  replace B1 := S2.blk
  refine WpL_nil ?_
  refine Wp_ret ?_
  refine fin_agg Try.results12 (vs := [(.int .i64 a), (.int .i64 b)]) (b := b1) rfl agg36 siz36 rfl (B1.cells rfl) ?_
  exact ⟨rfl, E⟩
def begT : Re := .mk 3 [] [oneT 97, emptyT, .mk 5 [] [oneT 97] 0 0 false] 0 0 false
def begN : Re := .mk 3 [] [oneT 97, .mk 5 [] [oneT 97] 0 0 false] 0 0 false
theorem beg_norm : normT begT = begN := by rfl
theorem beg_fits : fitsE begT 40 = 0 := by decide +kernel
theorem beg_null : fitsE emptyT 40 = 0 ∧ emptyB emptyT = true := ⟨by decide +kernel, by rfl⟩
theorem beg_size : begT.size = 5 := by rfl
theorem beg_uses : usesB [5] begT = true := by rfl

set_option maxHeartbeats 4000000 in
theorem lbegun_c (w0 : World) : Ret Try.prog 5 #[] w0 fun v w => v = .bool true ∧ Ext w0 w := by
  refine Ret_of Try.func5 rfl Try.ntmps5 (Nat.le_of_ble_eq_true rfl) ?_
  have E : Chg none1 w0 w0 := Chg.refl _ _
  refine Wp_seq_region ?_
  refine WpL_val rfl rfl (by decide) (r_assign (v := (.bool false)) rfl) ?_
  refine WpL_nil ?_
  refine Wp_seq_region ?_
  refine WpL_enter rfl rfl (by decide) (r_callF (vs := [(.int .i64 97), (.int .i64 97)]) Try.func12 nm12 bd12 rfl) (sp_c _ 97 97) ?_
  rintro _ w9 ⟨rfl, X9⟩
  replace E := E.ext X9
  refine s_buildSlice (ps := [(0, (.agg #[(.int .i64 97), (.int .i64 97)]))]) (c := #[(.int .i64 97), (.int .i64 97)]) (by decide) rfl Try.underlying22 siz36 zer36 (by decide) (by decide) (by kernel_rfl) ?_
  intro bs ws Ns
  have Fs := Ns.ge E
  replace E := E.ext Ns.ext
  have Bs := Ns.blk
  refine WpL_val rfl rfl (by decide) (r_build (ps := [(0, (.int .i64 2)), (1, (.slice (some ⟨bs, 0, none⟩) 1 1))]) (v := (.agg #[(.int .i64 2), (.slice (some ⟨bs, 0, none⟩) 1 1), (.slice none 0 0), (.int .i64 0), (.int .i64 0), (.bool false)])) rfl (by kernel_rfl)) ?_
  refine s_allocStore (v := (.agg #[(.int .i64 2), (.slice (some ⟨bs, 0, none⟩) 1 1), (.slice none 0 0), (.int .i64 0), (.int .i64 0), (.bool false)])) (c := #[(.int .i64 2), (.slice (some ⟨bs, 0, none⟩) 1 1), (.slice none 0 0), (.int .i64 0), (.int .i64 0), (.bool false)]) (n := 6) (by decide) zer25 rfl siz25 rfl rfl rfl (by simp [Value.oneCell']) ?_
  intro ba wa Na
  have Fa := Na.ge E
  have Oa_bs := Na.lt Bs
  replace Bs := Na.keep Bs
  replace E := E.ext Na.ext
  have Ba := Na.blk
  refine WpL_nil ?_
  refine Wp_seq_region ?_
  refine WpL_val rfl rfl (by decide) (r_loadAgg (vs := [(.int .i64 2), (.slice (some ⟨bs, 0, none⟩) 1 1), (.slice none 0 0), (.int .i64 0), (.int .i64 0), (.bool false)]) rfl agg25 siz25 rfl (Ba.cells rfl)) ?_
  refine WpL_val rfl rfl (by decide) (r_build (ps := [(0, (.int .i64 1))]) (v := (.agg #[(.int .i64 1), (.slice none 0 0), (.slice none 0 0), (.int .i64 0), (.int .i64 0), (.bool false)])) rfl (by kernel_rfl)) ?_
  refine WpL_val rfl rfl (by decide) (r_loadAgg (vs := [(.int .i64 2), (.slice (some ⟨bs, 0, none⟩) 1 1), (.slice none 0 0), (.int .i64 0), (.int .i64 0), (.bool false)]) rfl agg25 siz25 rfl (Ba.cells rfl)) ?_
  refine s_buildSlice (ps := [(0, (.agg #[(.int .i64 2), (.slice (some ⟨bs, 0, none⟩) 1 1), (.slice none 0 0), (.int .i64 0), (.int .i64 0), (.bool false)]))]) (c := #[(.int .i64 2), (.slice (some ⟨bs, 0, none⟩) 1 1), (.slice none 0 0), (.int .i64 0), (.int .i64 0), (.bool false)]) (by decide) rfl Try.underlying23 siz25 zer25 (by decide) (by decide) (by kernel_rfl) ?_
  intro bk wk Nk
  have Fk := Nk.ge E
  have Ok_bs := Nk.lt Bs
  have Ok_ba := Nk.lt Ba
  replace Bs := Nk.keep Bs
  replace Ba := Nk.keep Ba
  replace E := E.ext Nk.ext
  have Bk := Nk.blk
  refine WpL_val rfl rfl (by decide) (r_build (ps := [(0, (.int .i64 5)), (2, (.slice (some ⟨bk, 0, none⟩) 1 1))]) (v := (.agg #[(.int .i64 5), (.slice none 0 0), (.slice (some ⟨bk, 0, none⟩) 1 1), (.int .i64 0), (.int .i64 0), (.bool false)])) rfl (by kernel_rfl)) ?_
  refine s_buildSlice (ps := [(0, (.agg #[(.int .i64 2), (.slice (some ⟨bs, 0, none⟩) 1 1), (.slice none 0 0), (.int .i64 0), (.int .i64 0), (.bool false)])), (1, (.agg #[(.int .i64 1), (.slice none 0 0), (.slice none 0 0), (.int .i64 0), (.int .i64 0), (.bool false)])), (2, (.agg #[(.int .i64 5), (.slice none 0 0), (.slice (some ⟨bk, 0, none⟩) 1 1), (.int .i64 0), (.int .i64 0), (.bool false)]))]) (c := #[(.int .i64 2), (.slice (some ⟨bs, 0, none⟩) 1 1), (.slice none 0 0), (.int .i64 0), (.int .i64 0), (.bool false), (.int .i64 1), (.slice none 0 0), (.slice none 0 0), (.int .i64 0), (.int .i64 0), (.bool false), (.int .i64 5), (.slice none 0 0), (.slice (some ⟨bk, 0, none⟩) 1 1), (.int .i64 0), (.int .i64 0), (.bool false)]) (by decide) rfl Try.underlying23 siz25 zer25 (by decide) (by decide) (by kernel_rfl) ?_
  intro bl wl Nl
  have Fl := Nl.ge E
  have Ol_bs := Nl.lt Bs
  have Ol_ba := Nl.lt Ba
  have Ol_bk := Nl.lt Bk
  replace Bs := Nl.keep Bs
  replace Ba := Nl.keep Ba
  replace Bk := Nl.keep Bk
  replace E := E.ext Nl.ext
  have Bl := Nl.blk
  refine WpL_val rfl rfl (by decide) (r_build (ps := [(0, (.int .i64 3)), (2, (.slice (some ⟨bl, 0, none⟩) 3 3))]) (v := (.agg #[(.int .i64 3), (.slice none 0 0), (.slice (some ⟨bl, 0, none⟩) 3 3), (.int .i64 0), (.int .i64 0), (.bool false)])) rfl (by kernel_rfl)) ?_
  refine s_allocStore (v := (.agg #[(.int .i64 3), (.slice none 0 0), (.slice (some ⟨bl, 0, none⟩) 3 3), (.int .i64 0), (.int .i64 0), (.bool false)])) (c := #[(.int .i64 3), (.slice none 0 0), (.slice (some ⟨bl, 0, none⟩) 3 3), (.int .i64 0), (.int .i64 0), (.bool false)]) (n := 6) (by decide) zer25 rfl siz25 rfl rfl rfl (by simp [Value.oneCell']) ?_
  intro bm wm Nm
  have Fm := Nm.ge E
  have Om_bs := Nm.lt Bs
  have Om_ba := Nm.lt Ba
  have Om_bk := Nm.lt Bk
  have Om_bl := Nm.lt Bl
  replace Bs := Nm.keep Bs
  replace Ba := Nm.keep Ba
  replace Bk := Nm.keep Bk
  replace Bl := Nm.keep Bl
  replace E := E.ext Nm.ext
  have Bm := Nm.blk
  refine WpL_nil ?_
  refine Wp_seq_region ?_
  refine WpL_val rfl rfl (by decide) (r_loadAgg (vs := [(.int .i64 3), (.slice none 0 0), (.slice (some ⟨bl, 0, none⟩) 3 3), (.int .i64 0), (.int .i64 0), (.bool false)]) rfl agg25 siz25 rfl (Bm.cells rfl)) ?_
  have hsp : SpansAt wm (.slice (some ⟨bs, 0, none⟩) 1 1) [(97, 97)] := spans_of_blk [(97, 97)] Bs (by simp) (by simp)
  have hone : ReAt wm (oneT 97) [.int .i64 2, .slice (some ⟨bs, 0, none⟩) 1 1, .slice none 0 0, .int .i64 0, .int .i64 0, .bool false] := one_at hsp
  have hstar : ReAt wm (.mk 5 [] [oneT 97] 0 0 false) [.int .i64 5, .slice none 0 0, .slice (some ⟨bk, 0, none⟩) 1 1, .int .i64 0, .int .i64 0, .bool false] := ReAt.of (set := []) (args := [oneT 97]) (SlAt.nil _ _ _ _) (by simp) (.inr ⟨bk, 0, rfl, by simp only [ResAt]; exact ⟨⟨_, Bk.cells rfl, hone⟩, trivial⟩⟩)
  have hbeg : ReAt wm begT [.int .i64 3, .slice none 0 0, .slice (some ⟨bl, 0, none⟩) 3 3, .int .i64 0, .int .i64 0, .bool false] := ReAt.of (set := []) (args := [oneT 97, emptyT, .mk 5 [] [oneT 97] 0 0 false]) (SlAt.nil _ _ _ _) (by simp) (.inr ⟨bl, 0, rfl, by simp only [ResAt]; exact ⟨⟨_, Bl.cells rfl, hone⟩, ⟨_, Bl.cells rfl, ReIn.at _ (re_empty (fun _ => True) _ 1)⟩, ⟨_, Bl.cells rfl, hstar⟩, trivial⟩⟩)
  have E2 : Chg none1 wm wm := Chg.refl _ _
  refine WpL_enter rfl rfl (by decide) (r_callF (vs := [(.agg #[(.int .i64 3), (.slice none 0 0), (.slice (some ⟨bl, 0, none⟩) 3 3), (.int .i64 0), (.int .i64 0), (.bool false)])]) Try.func4 nm4 bd4 rfl) ((normal_c _ begT _ hbeg).mono (R' := fun v w => ∃ us, v = .tuple #[.agg us.toArray, .int .i64 0] ∧ ReAt w begN us ∧ Ext wm w) (by rintro v w ⟨us, h1, h2, h3⟩; rw [beg_fits] at h1 h2; rw [if_pos rfl, beg_norm] at h2; exact ⟨us, h1, h2, h3⟩)) ?_
  rintro _ w19 ⟨us, rfl, hre, X19⟩
  replace Bs := X19.keep Bs
  replace Ba := X19.keep Ba
  replace Bk := X19.keep Bk
  replace Bl := X19.keep Bl
  replace Bm := X19.keep Bm
  replace E := E.ext X19
  replace E2 := E2.ext X19
  obtain ⟨zsa, zsc, zaa, zac, rfl, _, _, _⟩ := hre.form
  refine WpL_val rfl rfl (by decide) (r_move (v := (.tuple #[(.agg #[(.int .i64 3), (.slice zsa 0 zsc), (.slice zaa 2 zac), (.int .i64 0), (.int .i64 0), (.bool false)]), (.int .i64 0)])) rfl) ?_
  refine WpL_val rfl rfl (by decide) (r_extract (vs := #[(.agg #[(.int .i64 3), (.slice zsa 0 zsc), (.slice zaa 2 zac), (.int .i64 0), (.int .i64 0), (.bool false)]), (.int .i64 0)]) (v := (.agg #[(.int .i64 3), (.slice zsa 0 zsc), (.slice zaa 2 zac), (.int .i64 0), (.int .i64 0), (.bool false)])) rfl rfl) ?_
  refine WpL_val rfl rfl (by decide) (r_extract (vs := #[(.agg #[(.int .i64 3), (.slice zsa 0 zsc), (.slice zaa 2 zac), (.int .i64 0), (.int .i64 0), (.bool false)]), (.int .i64 0)]) (v := (.int .i64 0)) rfl rfl) ?_
  refine s_allocStore (v := (.agg #[(.int .i64 3), (.slice zsa 0 zsc), (.slice zaa 2 zac), (.int .i64 0), (.int .i64 0), (.bool false)])) (c := #[(.int .i64 3), (.slice zsa 0 zsc), (.slice zaa 2 zac), (.int .i64 0), (.int .i64 0), (.bool false)]) (n := 6) (by decide) zer25 rfl siz25 rfl rfl rfl (by simp [Value.oneCell']) ?_
  intro bn wn Nn
  have Fn := Nn.ge E
  have Fn_E2 := Nn.ge E2
  have On_bs := Nn.lt Bs
  have On_ba := Nn.lt Ba
  have On_bk := Nn.lt Bk
  have On_bl := Nn.lt Bl
  have On_bm := Nn.lt Bm
  replace Bs := Nn.keep Bs
  replace Ba := Nn.keep Ba
  replace Bk := Nn.keep Bk
  replace Bl := Nn.keep Bl
  replace Bm := Nn.keep Bm
  replace E := E.ext Nn.ext
  have Bn := Nn.blk
  replace E2 := E2.ext Nn.ext
  refine WpL_val rfl rfl (by decide) (r_assign (v := (.int .i64 0)) rfl) ?_
  refine WpL_nil ?_
  refine Wp_seq_region ?_
  refine WpL_val rfl rfl (by decide) (r_build (ps := [(0, (.int .i64 1))]) (v := (.agg #[(.int .i64 1), (.slice none 0 0), (.slice none 0 0), (.int .i64 0), (.int .i64 0), (.bool false)])) rfl (by kernel_rfl)) ?_
  refine WpL_enter rfl rfl (by decide) (r_callF (vs := [(.agg #[(.int .i64 1), (.slice none 0 0), (.slice none 0 0), (.int .i64 0), (.int .i64 0), (.bool false)])]) Try.func13 nm13 bd13 rfl) ((null_c _ emptyT _ (ReIn.at _ (re_empty (fun _ => True) _ 1))).mono (R' := fun v w => v = .tuple #[.bool true, .int .i64 0] ∧ Ext wn w) (fun v w h => ⟨by rw [h.1, beg_null.1, beg_null.2]; rfl, h.2⟩)) ?_
  rintro _ w29 ⟨rfl, X29⟩
  replace Bs := X29.keep Bs
  replace Ba := X29.keep Ba
  replace Bk := X29.keep Bk
  replace Bl := X29.keep Bl
  replace Bm := X29.keep Bm
  replace Bn := X29.keep Bn
  replace E := E.ext X29
  replace E2 := E2.ext X29
  refine WpL_val rfl rfl (by decide) (r_move (v := (.tuple #[(.bool true), (.int .i64 0)])) rfl) ?_
  refine WpL_val rfl rfl (by decide) (r_extract (vs := #[(.bool true), (.int .i64 0)]) (v := (.bool true)) rfl rfl) ?_
  refine WpL_val rfl rfl (by decide) (r_extract (vs := #[(.bool true), (.int .i64 0)]) (v := (.int .i64 0)) rfl rfl) ?_
  refine WpL_val rfl rfl (by decide) (r_assign (v := (.bool true)) rfl) ?_
  refine WpL_val rfl rfl (by decide) (r_assign (v := (.int .i64 0)) rfl) ?_
  refine WpL_nil ?_
  refine Wp_seq_region ?_
  refine WpL_val rfl rfl (by decide) (r_move (v := (.int .i64 0)) rfl) ?_
  refine WpL_val rfl rfl (by decide) (r_eql (k := .i64) (a := 0) (b := 0) rfl rfl) ?_
  refine WpL_val rfl rfl (by decide) (r_move (v := (.bool true)) rfl) ?_
  refine WpL_guard_yes (oj := _) rfl rfl (by decide) rfl ?_
  refine WpL_val rfl rfl (by decide) (r_move (v := (.int .i64 0)) rfl) ?_
  refine WpL_guard_yes (oj := _) rfl rfl (by decide) rfl ?_
  refine WpL_val rfl rfl (by decide) (r_eql (k := .i64) (a := 0) (b := 0) rfl rfl) ?_
  refine WpL_val rfl rfl (by decide) (r_pick (b := true) (v := (.bool true)) rfl rfl) ?_
  refine WpL_val rfl rfl (by decide) (r_move (v := (.bool true)) rfl) ?_
  refine WpL_guard_yes (oj := _) rfl rfl (by decide) rfl ?_
  refine WpL_val rfl rfl (by decide) (r_move (v := (.bool true)) rfl) ?_
  refine WpL_val rfl rfl (by decide) (r_pick (b := true) (v := (.bool true)) rfl rfl) ?_
  refine WpL_val rfl rfl (by decide) (r_move (v := (.bool true)) rfl) ?_
  refine WpL_guard_yes (oj := _) rfl rfl (by decide) rfl ?_
  refine WpL_val rfl rfl (by decide) (r_fieldAddr (b := bn) (o := 0) (o' := 2) rfl Try.underlying25 rfl siz23 rfl) ?_
  refine WpL_guard_yes (oj := _) rfl rfl (by decide) rfl ?_
  refine WpL_val rfl rfl (by decide) (r_load (v := (.slice zaa 2 zac)) rfl flat23 (Bn.cell rfl)) ?_
  refine WpL_guard_yes (oj := _) rfl rfl (by decide) rfl ?_
  refine WpL_val rfl rfl (by decide) (r_lenSlice (ad := zaa) (n := 2) (cap := zac) Try.underlying23 rfl) ?_
  refine WpL_guard_yes (oj := _) rfl rfl (by decide) rfl ?_
  refine WpL_val rfl rfl (by decide) (r_eql (k := .i64) (a := 2) (b := 2) rfl rfl) ?_
  refine WpL_val rfl rfl (by decide) (r_pick (b := true) (v := (.bool true)) rfl rfl) ?_
  refine WpL_val rfl rfl (by decide) (r_move (v := (.bool true)) rfl) ?_
  refine WpL_guard_yes (oj := _) rfl rfl (by decide) rfl ?_
  refine WpL_val rfl rfl (by decide) (r_loadAgg (vs := [(.int .i64 3), (.slice none 0 0), (.slice (some ⟨bl, 0, none⟩) 3 3), (.int .i64 0), (.int .i64 0), (.bool false)]) rfl agg25 siz25 rfl (Bm.cells rfl)) ?_
  refine WpL_guard_yes (oj := _) rfl rfl (by decide) rfl ?_
  refine WpL_enter rfl rfl (by decide) (r_callF (vs := [(.agg #[(.int .i64 3), (.slice none 0 0), (.slice (some ⟨bl, 0, none⟩) 3 3), (.int .i64 0), (.int .i64 0), (.bool false)])]) Try.func14 nm14 bd14 rfl) ((size_c _ begT _ (ReAt.ext E2 _ hbeg) (by rw [beg_size]; decide)).mono (R' := fun v w => v = .int .i64 5 ∧ Ext w29 w) (fun v w h => ⟨by rw [h.1, beg_size]; rfl, h.2⟩)) ?_
  rintro _ w39 ⟨rfl, X39⟩
  replace Bs := X39.keep Bs
  replace Ba := X39.keep Ba
  replace Bk := X39.keep Bk
  replace Bl := X39.keep Bl
  replace Bm := X39.keep Bm
  replace Bn := X39.keep Bn
  replace E := E.ext X39
  replace E2 := E2.ext X39
  refine WpL_guard_yes (oj := _) rfl rfl (by decide) rfl ?_
  refine WpL_val rfl rfl (by decide) (r_eql (k := .i64) (a := 5) (b := 5) rfl rfl) ?_
  refine WpL_val rfl rfl (by decide) (r_pick (b := true) (v := (.bool true)) rfl rfl) ?_
  refine WpL_val rfl rfl (by decide) (r_move (v := (.bool true)) rfl) ?_
  refine WpL_guard_yes (oj := _) rfl rfl (by decide) rfl ?_
  refine WpL_val rfl rfl (by decide) (r_loadAgg (vs := [(.int .i64 3), (.slice none 0 0), (.slice (some ⟨bl, 0, none⟩) 3 3), (.int .i64 0), (.int .i64 0), (.bool false)]) rfl agg25 siz25 rfl (Bm.cells rfl)) ?_
  refine WpL_guard_yes (oj := _) rfl rfl (by decide) rfl ?_
  refine s_buildSlice (ps := [(0, (.int .i64 5))]) (c := #[(.int .i64 5)]) (by decide) rfl Try.underlying50 siz3 zer3 (by decide) (by decide) (by kernel_rfl) ?_
  intro bu wu Nu
  have Fu := Nu.ge E
  have Fu_E2 := Nu.ge E2
  have Ou_bs := Nu.lt Bs
  have Ou_ba := Nu.lt Ba
  have Ou_bk := Nu.lt Bk
  have Ou_bl := Nu.lt Bl
  have Ou_bm := Nu.lt Bm
  have Ou_bn := Nu.lt Bn
  replace Bs := Nu.keep Bs
  replace Ba := Nu.keep Ba
  replace Bk := Nu.keep Bk
  replace Bl := Nu.keep Bl
  replace Bm := Nu.keep Bm
  replace Bn := Nu.keep Bn
  replace E := E.ext Nu.ext
  have Bu := Nu.blk
  replace E2 := E2.ext Nu.ext
  refine WpL_guard_yes (oj := _) rfl rfl (by decide) rfl ?_
  refine WpL_enter rfl rfl (by decide) (r_callF (vs := [(.agg #[(.int .i64 3), (.slice none 0 0), (.slice (some ⟨bl, 0, none⟩) 3 3), (.int .i64 0), (.int .i64 0), (.bool false)]), (.slice (some ⟨bu, 0, none⟩) 1 1)]) Try.func15 nm15 bd15 rfl) ((uses_c _ begT _ [5] _ (ReAt.ext E2 _ hbeg) (ints_of_blk [5] Bu (by simp) (by simp))).mono (R' := fun v w => v = .bool true ∧ Ext wu w) (fun v w h => ⟨by rw [h.1, beg_uses], h.2⟩)) ?_
  rintro _ w49 ⟨rfl, X49⟩
  replace Bs := X49.keep Bs
  replace Ba := X49.keep Ba
  replace Bk := X49.keep Bk
  replace Bl := X49.keep Bl
  replace Bm := X49.keep Bm
  replace Bn := X49.keep Bn
  replace Bu := X49.keep Bu
  replace E := E.ext X49
  replace E2 := E2.ext X49
  refine WpL_val rfl rfl (by decide) (r_pick (b := true) (v := (.bool true)) rfl rfl) ?_
  refine WpL_val rfl rfl (by decide) (r_assign (v := (.bool true)) rfl) ?_
  refine WpL_nil ?_
  refine Wp_ret ?_
  refine fin_tmp Try.results5 (v := (.bool true)) rfl ?_
  exact ⟨rfl, E⟩

theorem requal_d {w : World} {t u : Re} {us vs : List Value} (ht : ReAt w t us) (hu : ReAt w u vs) (h : t = u) :
    Ret Try.prog 7 #[.agg us.toArray, .agg vs.toArray] w fun v w' => (Fact.eq (.bool true)).In v w' ∧ Ext w w' :=
  (requal_c t.size t u w us vs (Nat.le_refl _) ht hu).mono fun v w' ⟨h1, h2⟩ => ⟨h1.trans (bool_eq ((sameT_iff t u).2 h)), h2⟩

set_option maxHeartbeats 4000000 in
theorem norms_c (w0 : World) (t : Re) (vs : List Value) (ht : ReAt w0 t vs) (hbig : t.size ≤ 2097152) :
    Ret Try.prog 3 #[.agg vs.toArray] w0 fun v w => v = .bool true ∧ Ext w0 w := by
  have ht0 := ht
  obtain ⟨sa, sc, aa, ac, rfl, _, hac, _⟩ := ht.form
  obtain ⟨nt, hnt⟩ : ∃ nt, nt = (if fitsE t 40 = 0 then normT t else noneT) := ⟨_, rfl⟩
  refine Ret_of Try.func3 rfl Try.ntmps3 (Nat.le_of_ble_eq_true rfl) ?_
  have E : Chg none1 w0 w0 := Chg.refl _ _
  refine Wp_seq_region ?_
  refine s_box (v := (.agg #[(.int .i64 t.kind), (.slice sa t.set.length sc), (.slice aa t.args.length ac), (.int .i64 t.mn), (.int .i64 t.mx), (.bool t.neg)])) (c := #[(.int .i64 t.kind), (.slice sa t.set.length sc), (.slice aa t.args.length ac), (.int .i64 t.mn), (.int .i64 t.mx), (.bool t.neg)]) (by decide) rfl rfl ?_
  intro br wr Nr
  have Fr := Nr.ge E
  replace E := E.ext Nr.ext
  have Br := Nr.blk
  refine WpL_val rfl rfl (by decide) (r_assign (v := (.bool false)) rfl) ?_
  refine WpL_nil ?_
  refine Wp_seq_region ?_
  refine WpL_val rfl rfl (by decide) (r_loadAgg (vs := [(.int .i64 t.kind), (.slice sa t.set.length sc), (.slice aa t.args.length ac), (.int .i64 t.mn), (.int .i64 t.mx), (.bool t.neg)]) rfl agg25 siz25 rfl (Br.cells rfl)) ?_
  refine WpL_enter rfl rfl (by decide) (r_callF (vs := [(.agg #[(.int .i64 t.kind), (.slice sa t.set.length sc), (.slice aa t.args.length ac), (.int .i64 t.mn), (.int .i64 t.mx), (.bool t.neg)])]) Try.func4 nm4 bd4 rfl) ((normal_c _ t _ (ReAt.ext E t ht0)).mono (R' := fun v w => ∃ us, v = .tuple #[.agg us.toArray, .int .i64 (fitsE t 40)] ∧ ReAt w nt us ∧ Ext wr w) (by rintro v w ⟨us, h1, h2, h3⟩; rw [← hnt] at h2; exact ⟨us, h1, h2, h3⟩)) ?_
  rintro _ w9 ⟨us, rfl, hre, X9⟩
  replace Br := X9.keep Br
  replace E := E.ext X9
  have hre0 := hre
  obtain ⟨zsa, zsc, zaa, zac, rfl, _, _, _⟩ := hre.form
  refine WpL_val rfl rfl (by decide) (r_move (v := (.tuple #[(.agg #[(.int .i64 nt.kind), (.slice zsa nt.set.length zsc), (.slice zaa nt.args.length zac), (.int .i64 nt.mn), (.int .i64 nt.mx), (.bool nt.neg)]), (.int .i64 (fitsE t 40))])) rfl) ?_
  refine WpL_val rfl rfl (by decide) (r_extract (vs := #[(.agg #[(.int .i64 nt.kind), (.slice zsa nt.set.length zsc), (.slice zaa nt.args.length zac), (.int .i64 nt.mn), (.int .i64 nt.mx), (.bool nt.neg)]), (.int .i64 (fitsE t 40))]) (v := (.agg #[(.int .i64 nt.kind), (.slice zsa nt.set.length zsc), (.slice zaa nt.args.length zac), (.int .i64 nt.mn), (.int .i64 nt.mx), (.bool nt.neg)])) rfl rfl) ?_
  refine WpL_val rfl rfl (by decide) (r_extract (vs := #[(.agg #[(.int .i64 nt.kind), (.slice zsa nt.set.length zsc), (.slice zaa nt.args.length zac), (.int .i64 nt.mn), (.int .i64 nt.mx), (.bool nt.neg)]), (.int .i64 (fitsE t 40))]) (v := (.int .i64 (fitsE t 40))) rfl rfl) ?_
  refine s_allocStore (v := (.agg #[(.int .i64 nt.kind), (.slice zsa nt.set.length zsc), (.slice zaa nt.args.length zac), (.int .i64 nt.mn), (.int .i64 nt.mx), (.bool nt.neg)])) (c := #[(.int .i64 nt.kind), (.slice zsa nt.set.length zsc), (.slice zaa nt.args.length zac), (.int .i64 nt.mn), (.int .i64 nt.mx), (.bool nt.neg)]) (n := 6) (by decide) zer25 rfl siz25 rfl rfl rfl (by simp [Value.oneCell']) ?_
  intro bn wn Nn
  have Fn := Nn.ge E
  have On_br := Nn.lt Br
  replace Br := Nn.keep Br
  replace hre0 := ReAt.ext Nn.ext _ hre0
  replace E := E.ext Nn.ext
  have Bn := Nn.blk
  refine WpL_val rfl rfl (by decide) (r_assign (v := (.int .i64 (fitsE t 40))) rfl) ?_
  refine WpL_nil ?_
  refine Wp_seq ?_
  refine Wp_seq_region ?_
  refine WpL_enter rfl rfl (by decide) (r_callF (vs := []) Try.func5 nm5 bd5 rfl) (lbegun_c _) ?_
  rintro _ w19 ⟨rfl, X19⟩
  replace Br := X19.keep Br
  replace Bn := X19.keep Bn
  replace hre0 := ReAt.ext X19 _ hre0
  replace E := E.ext X19
  refine WpL_val rfl rfl (by decide) (r_not (b := true) rfl) ?_
  refine WpL_nil ?_
  refine Wp_cond_false rfl ?_
  refine Wp_skip ?_
  refine thn_normal ?_
  refine Wp_seq ?_
  refine Wp_seq_region ?_
  refine WpL_val rfl rfl (by decide) (r_loadAgg (vs := [(.int .i64 t.kind), (.slice sa t.set.length sc), (.slice aa t.args.length ac), (.int .i64 t.mn), (.int .i64 t.mx), (.bool t.neg)]) rfl agg25 siz25 rfl (Br.cells rfl)) ?_
  refine WpL_enter rfl rfl (by decide) (r_callF (vs := [(.agg #[(.int .i64 t.kind), (.slice sa t.set.length sc), (.slice aa t.args.length ac), (.int .i64 t.mn), (.int .i64 t.mx), (.bool t.neg)]), (.int .i64 40)]) Try.func6 nm6 bd6 rfl) (refck_c _ t _ 40 (by decide) (ReAt.ext E t ht0) hbig) ?_
  rintro _ w29 ⟨rfl, X29⟩
  replace Br := X29.keep Br
  replace Bn := X29.keep Bn
  replace hre0 := ReAt.ext X29 _ hre0
  replace E := E.ext X29
  refine WpL_val rfl rfl (by decide) (r_assign (v := (.int .i64 (fitsE t 40))) rfl) ?_
  refine WpL_nil ?_
  refine Wp_seq_region ?_
  refine WpL_val rfl rfl (by decide) (r_move (v := (.int .i64 (fitsE t 40))) rfl) ?_
  refine WpL_val rfl rfl (by decide) (r_neq (k := .i64) (a := fitsE t 40) (b := 0) rfl rfl) ?_
  refine WpL_nil ?_
  refine Wp_cond (b := decide ((fitsE t 40 : Int) ≠ 0)) rfl (fun hf => ?_) (fun hf => ?_)
  · have khf := hf
    replace hf := of_decide_eq_true hf
    refine Wp_seq_region ?_
    refine WpL_val rfl rfl (by decide) (r_move (v := (.int .i64 (fitsE t 40))) rfl) ?_
    refine WpL_val rfl rfl (by decide) (r_move (v := (.int .i64 (fitsE t 40))) rfl) ?_
    refine WpL_val rfl rfl (by decide) (r_eql (k := .i64) (a := fitsE t 40) (b := fitsE t 40) rfl rfl) ?_
    refine WpL_val rfl rfl (by decide) (r_move (v := (.bool (decide ((fitsE t 40 : Int) = fitsE t 40)))) rfl) ?_
    have hg2 : (decide ((fitsE t 40 : Int) = fitsE t 40)) = true := by simp
    refine WpL_guard_yes (oj := _) rfl rfl (by decide) (congrArg Value.bool hg2) ?_
    refine WpL_val rfl rfl (by decide) (r_loadAgg (vs := [(.int .i64 nt.kind), (.slice zsa nt.set.length zsc), (.slice zaa nt.args.length zac), (.int .i64 nt.mn), (.int .i64 nt.mx), (.bool nt.neg)]) rfl agg25 siz25 rfl (Bn.cells rfl)) ?_
    refine WpL_guard_yes (oj := _) rfl rfl (by decide) (congrArg Value.bool hg2) ?_
    refine WpL_val rfl rfl (by decide) (r_build (ps := []) (v := (.agg #[(.int .i64 0), (.slice none 0 0), (.slice none 0 0), (.int .i64 0), (.int .i64 0), (.bool false)])) rfl (by kernel_rfl)) ?_
    refine WpL_guard_yes (oj := _) rfl rfl (by decide) (congrArg Value.bool hg2) ?_
    refine WpL_enter rfl rfl (by decide) (r_callF (vs := [(.agg #[(.int .i64 nt.kind), (.slice zsa nt.set.length zsc), (.slice zaa nt.args.length zac), (.int .i64 nt.mn), (.int .i64 nt.mx), (.bool nt.neg)]), (.agg #[(.int .i64 0), (.slice none 0 0), (.slice none 0 0), (.int .i64 0), (.int .i64 0), (.bool false)])]) Try.func7 nm7 bd7 rfl) ((requal_d (u := noneT) hre0 (ReIn.at _ (re_empty (fun _ => True) _ 0)) (by rw [hnt, if_neg hf]))) ?_
    rintro _ w39 ⟨rfl, X39⟩
    replace Br := X39.keep Br
    replace Bn := X39.keep Bn
    replace hre0 := ReAt.ext X39 _ hre0
    replace E := E.ext X39
    refine WpL_val rfl rfl (by decide) (r_pick (b := decide ((fitsE t 40 : Int) = fitsE t 40)) (v := (.bool true)) rfl (by rw [hg2]; rfl)) ?_
    refine WpL_val rfl rfl (by decide) (r_assign (v := (.bool true)) rfl) ?_
    refine WpL_nil ?_
    refine Wp_ret ?_
    refine thn_ret ?_
    refine fin_tmp Try.results3 (v := (.bool true)) rfl ?_
    exact ⟨rfl, E⟩
  · have khf := hf
    replace hf := of_decide_eq_false hf
    have hf0 : fitsE t 40 = 0 := by omega
    obtain ⟨hok, hsz⟩ := (fitsE_zero (by decide) (by decide)).1 hf0
    have hd0 : decide (fitsE t 40 = 0) = true := by simpa using hf0
    refine Wp_skip ?_
    refine thn_normal ?_
    refine Wp_seq ?_
    obtain ⟨Fs3, hFs3⟩ : ∃ Fs : List Fact, Fs = [.eq (.int .i64 (fitsE t 40)), .eq (.bool true), .eq (.bool true), .re nt, .re t, .re (normT t), .eq (.bool true), .eq (.bool true), .eq (.bool true)] := ⟨_, rfl⟩
    refine Wp_dag [25, 26, 27, 28, 29, 30, 31, 32, 2] [[], [0], [1], [2], [2], [2, 4], [2, 3, 5], [2, 6], [0, 1, 2, 3, 4, 5, 6, 7]] Fs3 hFs3 mixed (by kernel_rfl) (by kernel_rfl) ?_ ?_
    · intro wd X0
      refine DagSteps.cons (fun s' w' X U H => Or.inl ⟨?_, ?_⟩) ?_
      · exact Guarded_none rfl
      · exact Does_val (r_move (v := (.int .i64 (fitsE t 40))) (U 4 rfl)) (Ext.refl _) rfl
      refine DagSteps.cons (fun s' w' X U H => Or.inl ⟨?_, ?_⟩) ?_
      · exact Guarded_none rfl
      · have e25 : s' 25 = (.int .i64 (fitsE t 40)) := H 0 rfl 25 (.eq (.int .i64 (fitsE t 40))) rfl (by rw [hFs3]; rfl)
        exact Does_val (Eq.trans (r_eql (k := .i64) (a := fitsE t 40) (b := 0) e25 rfl) (by rw [hd0])) (Ext.refl _) rfl
      refine DagSteps.cons (fun s' w' X U H => Or.inl ⟨?_, ?_⟩) ?_
      · exact Guarded_none rfl
      · have e26 : s' 26 = (.bool true) := H 1 rfl 26 (.eq (.bool true)) rfl (by rw [hFs3]; rfl)
        exact Does_val (r_move (v := (.bool true)) e26) (Ext.refl _) rfl
      refine DagSteps.cons (fun s' w' X U H => Or.inl ⟨?_, ?_⟩) ?_
      · exact Guarded_some rfl rfl (d := 27) (H 2 rfl 27 (.eq (.bool true)) rfl (by rw [hFs3]; rfl))
      · exact Does_val (r_loadAgg (vs := [(.int .i64 nt.kind), (.slice zsa nt.set.length zsc), (.slice zaa nt.args.length zac), (.int .i64 nt.mn), (.int .i64 nt.mx), (.bool nt.neg)]) (U 3 rfl) agg25 siz25 rfl ((X0.trans X).keep Bn |>.cells rfl)) (Ext.refl _) ⟨_, rfl, ReAt.ext (X0.trans X) _ hre0⟩
      refine DagSteps.cons (fun s' w' X U H => Or.inl ⟨?_, ?_⟩) ?_
      · exact Guarded_some rfl rfl (d := 27) (H 2 rfl 27 (.eq (.bool true)) rfl (by rw [hFs3]; rfl))
      · exact Does_val (r_loadAgg (vs := [(.int .i64 t.kind), (.slice sa t.set.length sc), (.slice aa t.args.length ac), (.int .i64 t.mn), (.int .i64 t.mx), (.bool t.neg)]) (U 1 rfl) agg25 siz25 rfl ((X0.trans X).keep Br |>.cells rfl)) (Ext.refl _) ⟨_, rfl, ReAt.ext (X0.trans X) _ (ReAt.ext E t ht0)⟩
      refine DagSteps.cons (fun s' w' X U H => Or.inl ⟨?_, ?_⟩) ?_
      · exact Guarded_some rfl rfl (d := 27) (H 2 rfl 27 (.eq (.bool true)) rfl (by rw [hFs3]; rfl))
      · obtain ⟨v29, e29, r29⟩ : (Fact.re t).In (s' 29) w' := H 4 rfl 29 (.re t) rfl (by rw [hFs3]; rfl)
        exact Does_enter (r_callF (vs := [(.agg v29.toArray)]) Try.func8 nm8 bd8 (lst1 e29)) ((normre_c t.size t _ _ _ (Nat.le_refl _) (by omega) hok (ReIn.of_at t r29) (fun b hb => hb)).mono (fun v w ⟨us, h1, h2, h3⟩ => ⟨⟨us, h1, ReIn.at _ h2⟩, h3⟩))
      refine DagSteps.cons (fun s' w' X U H => Or.inl ⟨?_, ?_⟩) ?_
      · exact Guarded_some rfl rfl (d := 27) (H 2 rfl 27 (.eq (.bool true)) rfl (by rw [hFs3]; rfl))
      · obtain ⟨v28, e28, r28⟩ : (Fact.re nt).In (s' 28) w' := H 3 rfl 28 (.re nt) rfl (by rw [hFs3]; rfl)
        obtain ⟨v30, e30, r30⟩ : (Fact.re (normT t)).In (s' 30) w' := H 5 rfl 30 (.re (normT t)) rfl (by rw [hFs3]; rfl)
        exact Does_enter (r_callF (vs := [(.agg v28.toArray), (.agg v30.toArray)]) Try.func7 nm7 bd7 (lst2 e28 e30)) (requal_d r28 r30 (by rw [hnt, if_pos hf0]))
      refine DagSteps.cons (fun s' w' X U H => Or.inl ⟨?_, ?_⟩) ?_
      · exact Guarded_none rfl
      · have e27 : s' 27 = (.bool true) := H 2 rfl 27 (.eq (.bool true)) rfl (by rw [hFs3]; rfl)
        have e31 : s' 31 = (.bool true) := H 6 rfl 31 (.eq (.bool true)) rfl (by rw [hFs3]; rfl)
        exact Does_val (r_pick (b := true) (v := (.bool true)) e27 e31) (Ext.refl _) rfl
      refine DagSteps.cons (fun s' w' X U H => Or.inl ⟨?_, ?_⟩) ?_
      · exact Guarded_none rfl
      · have e32 : s' 32 = (.bool true) := H 7 rfl 32 (.eq (.bool true)) rfl (by rw [hFs3]; rfl)
        exact Does_val (r_assign (v := (.bool true)) e32) (Ext.refl _) rfl
      exact DagSteps.nil
    · intro s' w3 X3 U H
      obtain ⟨j3, rfl⟩ := Fits.out (σ := s') (l := [(2, (.bool true))]) ⟨(show s' 2 = (.bool true) from H 8 2 (.eq (.bool true)) rfl (by rw [hFs3]; rfl)), trivial⟩
      clear U H
      replace Br := X3.keep Br
      replace Bn := X3.keep Bn
      replace hre0 := ReAt.ext X3 _ hre0
      replace E := E.ext X3
      refine thn_normal ?_
      refine Wp_ret ?_
      refine fin_tmp Try.results3 (v := (.bool true)) rfl ?_
      exact ⟨rfl, E⟩
end Go.Proofs
