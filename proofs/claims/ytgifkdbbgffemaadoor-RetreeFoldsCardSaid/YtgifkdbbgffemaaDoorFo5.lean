/- Contracts and plain lemmas, part 5. -/
import Derived.Tactics
import Derived.Deep.Quiet
import Derived.Laws.AppendOwn
import Derived.KernelRfl
import Derived.Laws.Entries
import Derived.Laws.Build
import Derived.Below
import Derived.RowKit3
import Derived.StillTail
import Derived.Sort.Grow
import Derived.Deep.Draws
import Derived.Test.YtgifkdbbgffemaaDoorChecked
import Derived.Laws.StructEq
import Derived.MapKept
import Derived.Laws.BytesArg
import Derived.DeepKeys3
import Derived.Shelf.SlSortCmp.WholeK
import Derived.Test.YtgifkdbbgffemaaDoorProg
import Derived.Test.YtgifkdbbgffemaaDoorFo4
namespace Go.Proofs
open Go Go.Eng Go.Sort
set_option maxRecDepth 100000
def clF : Sps → Sps
  | [(lo, hi)] => [(lo - 32, hi - 32), (lo, hi)]
  | l => l
def lowP (t : Re) : Prop := t.kind = 2 → ∃ lo hi, t.set = [(lo, hi)] ∧ 97 ≤ lo ∧ lo ≤ hi ∧ hi ≤ 100
theorem canon_f {lo hi : Int} (h : 97 ≤ lo ∧ lo ≤ hi ∧ hi ≤ 100) : Canon [(lo - 32, hi - 32), (lo, hi)] :=
  Canon.cons (by unfold vSp; simp; omega) (fun t ht => by rw [List.mem_singleton] at ht; subst ht; simp; omega) (Canon.one (by unfold vSp; simp; omega))
theorem canon_1 {lo hi : Int} (h : 97 ≤ lo ∧ lo ≤ hi ∧ hi ≤ 100) : Canon [(lo, hi)] := Canon.one (by unfold vSp; simp; omega)
theorem inS_f {lo hi r : Int} (h : 97 ≤ lo ∧ lo ≤ hi ∧ hi ≤ 100) (h0 : 0 ≤ r) : inS [(lo - 32, hi - 32), (lo, hi)] r = (orbitL r).any (inS [(lo, hi)]) := by
  rw [Bool.eq_iff_iff]
  simp only [inS_cons, inS_nil, Bool.or_false, Bool.or_eq_true, Bool.and_eq_true, decide_eq_true_eq]
  unfold orbitL upperB
  split
  · simp only [List.any_cons, List.any_nil, inS_cons, inS_nil, Bool.or_false, Bool.or_eq_true, Bool.and_eq_true, decide_eq_true_eq]; omega
  split
  · simp only [List.any_cons, List.any_nil, inS_cons, inS_nil, Bool.or_false, Bool.or_eq_true, Bool.and_eq_true, decide_eq_true_eq]; omega
  split
  · rename_i h3
    have h3 := of_decide_eq_true h3
    simp only [List.any_cons, List.any_nil, inS_cons, inS_nil, Bool.or_false, Bool.or_eq_true, Bool.and_eq_true, decide_eq_true_eq]; omega
  split
  · rename_i h3 h4
    have h3 : ¬ _ := fun h9 => h3 (decide_eq_true h9)
    have h4 := of_decide_eq_true h4
    simp only [List.any_cons, List.any_nil, inS_cons, inS_nil, Bool.or_false, Bool.or_eq_true, Bool.and_eq_true, decide_eq_true_eq]; omega
  · rename_i h3 h4
    have h3 : ¬ _ := fun h9 => h3 (decide_eq_true h9)
    have h4 : ¬ _ := fun h9 => h4 (decide_eq_true h9)
    simp only [List.any_cons, List.any_nil, inS_cons, inS_nil, Bool.or_false, Bool.and_eq_true, decide_eq_true_eq]; omega
theorem close_f {lo hi : Int} (h : 97 ≤ lo ∧ lo ≤ hi ∧ hi ≤ 100) {out : List Sp} {e : Int} (hc : closeP [(lo, hi)] out e) : e = 0 ∧ out = clF [(lo, hi)] := by
  rcases hc with ⟨h1, _⟩ | ⟨_, j, hj, hf⟩
  · exact absurd (checkE_ok (canon_1 h) (by simp)) h1
  · have e2 : j = [(lo - 32, hi - 32), (lo, hi)] := canon_ext hj.1 (canon_f h) fun r r0 r1 => by
      rw [hj.2 r r0 r1, close_orb (canon_1 h) r0, inS_f h r0]
    subst e2
    exact fitsP_ok hf (show (2 : Nat) ≤ 16 by decide)
def SetRN (n0 : Nat) (w : World) (v : Value) (out : List Sp) (e : Int) : Prop := ∃ a c, v = .tuple #[.slice a out.length c, .int .i64 e] ∧ SlIn (fun y => n0 ≤ y) w 2 (.slice a out.length c) (out.map spanV)
theorem sin_nil (S : Nat → Prop) (w : World) : SlIn S w 2 (.slice none ([] : List Sp).length 0) (([] : List Sp).map spanV) := ⟨none, 0, rfl, by simp, by simp, .inl rfl⟩
theorem own_sin {w : World} {base : Nat} {v : Value} {l : List Sp} (h : OwnS w base v l) : SlIn (fun y => base ≤ y) w 2 v (l.map spanV) := by
  have hat : SpansAt w v l := h.at
  obtain ⟨⟨a, c, rfl⟩, ho⟩ := h
  obtain ⟨a', cap, e, h1, h2, h3⟩ := hat
  simp only [List.length_map, Value.slice.injEq, true_and] at e
  obtain ⟨rfl, rfl⟩ := e
  refine ⟨a, c, by rw [List.length_map], h1, h2, ?_⟩
  rcases h3 with h | ⟨b, o, rfl, hc⟩
  · exact .inl h
  · exact .inr ⟨b, o, (ho.lt b rfl).1, rfl, hc⟩
theorem sfits_n (S : Nat → Prop) (w0 : World) (a : Option Addr) (c : Nat) (j : List Sp) (h : SlIn S w0 2 (.slice a j.length c) (j.map spanV)) : Ret Tryd.prog 75 #[.slice a j.length c] w0 fun r w => (∃ out e, fitsP j out e ∧ ∃ a c, r = .tuple #[.slice a out.length c, .int .i64 e] ∧ SlIn S w 2 (.slice a out.length c) (out.map spanV)) ∧ Ext w0 w := by
  refine Ret_of Tryd.func75 rfl Tryd.ntmps75 (Nat.le_of_ble_eq_true rfl) ?_
  have E : Chg none1 w0 w0 := Chg.refl _ _
  refine Wp_seq_region ?_
  refine WpL_val rfl rfl (by decide) (r_assign (v := (.slice none 0 0)) rfl) ?_
  refine WpL_val rfl rfl (by decide) (r_assign (v := (.int .i64 0)) rfl) ?_
  refine WpL_nil ?_
  refine Wp_seq ?_
  refine Wp_seq_region ?_
  refine WpL_val rfl rfl (by decide) (r_move (v := (.slice a j.length c)) rfl) ?_
  refine WpL_val rfl rfl (by decide) (r_lenSlice (ad := a) (n := j.length) (cap := c) Tryd.underlying24 rfl) ?_
  refine WpL_val rfl rfl (by decide) (r_gtr (k := .i64) (a := ((j.length : Nat) : Int)) (b := 16) rfl rfl) ?_
  refine WpL_nil ?_
  refine Wp_cond (b := decide ((16 : Int) < ((j.length : Nat) : Int))) rfl (fun hl => ?_) (fun hl => ?_)
  · have khl := hl
    replace hl := of_decide_eq_true hl
    refine Wp_seq_region ?_
    refine WpL_val rfl rfl (by decide) (r_assign (v := (.slice none 0 0)) rfl) ?_
    refine WpL_val rfl rfl (by decide) (r_assign (v := (.int .i64 2)) rfl) ?_
    refine WpL_nil ?_
    refine Wp_ret ?_
    refine thn_ret ?_
    refine fin_tmp2 Tryd.results75 (v := (.slice none 0 0)) (v' := (.int .i64 2)) rfl rfl ?_
    exact ⟨⟨[], 2, by unfold fitsP; rw [if_pos (by omega)]; exact ⟨rfl, rfl⟩, none, 0, rfl, sin_nil _ _⟩, E⟩
  · have khl := hl
    replace hl := of_decide_eq_false hl
    refine Wp_skip ?_
    refine thn_normal ?_
    refine Wp_seq_region ?_
    refine WpL_val rfl rfl (by decide) (r_move (v := (.slice a j.length c)) rfl) ?_
    refine WpL_val rfl rfl (by decide) (r_assign (v := (.slice a j.length c)) rfl) ?_
    refine WpL_val rfl rfl (by decide) (r_assign (v := (.int .i64 0)) rfl) ?_
    refine WpL_nil ?_
    refine Wp_ret ?_
    refine fin_tmp2 Tryd.results75 (v := (.slice a j.length c)) (v' := (.int .i64 0)) rfl rfl ?_
    exact ⟨⟨j, 0, by unfold fitsP; rw [if_neg (by omega)]; exact ⟨rfl, rfl⟩, a, c, rfl, h⟩, E⟩
theorem norm_n (w0 : World) (u : Value) (a : List Sp) (ha : SpansAt w0 u a) (hl : a.length ≤ 8796093022208) : Ret Tryd.prog 68 #[u] w0 fun r w => (∃ out e, normP a out e ∧ SetRN w0.heap.size w r out e) ∧ Ext w0 w := by
  refine Ret_of Tryd.func68 rfl Tryd.ntmps68 (Nat.le_of_ble_eq_true rfl) ?_
  have E : Chg none1 w0 w0 := Chg.refl _ _
  refine Wp_seq_region ?_
  refine WpL_val rfl rfl (by decide) (r_assign (v := (.slice none 0 0)) rfl) ?_
  refine WpL_val rfl rfl (by decide) (r_assign (v := (.int .i64 0)) rfl) ?_
  refine WpL_nil ?_
  refine Wp_seq ?_
  refine Wp_seq_region ?_
  refine WpL_val rfl rfl (by decide) (r_move (v := u) rfl) ?_
  refine WpL_enter rfl rfl (by decide) (r_callF (vs := [u, (.func (.func 74) #[] #[])]) Tryd.func63 nm63 bd63 rfl) (spans_has_c _ u _ a (fun s => !validB s) ha (fun w x hE _ => CallV.mk (first := #[]) (cap := #[]) Tryd.func74 nm74 bd74 rfl (norm1_c x w))) ?_
  rintro _ w9 ⟨rfl, X9⟩
  replace E := E.ext X9
  refine WpL_nil ?_
  refine Wp_cond (b := (a.any fun s => !validB s)) rfl (fun h0 => ?_) (fun h0 => ?_)
  · have kh0 := h0
    obtain ⟨s, hs, hb⟩ := List.any_eq_true.1 h0
    refine Wp_seq_region ?_
    refine WpL_val rfl rfl (by decide) (r_assign (v := (.slice none 0 0)) rfl) ?_
    refine WpL_val rfl rfl (by decide) (r_assign (v := (.int .i64 1)) rfl) ?_
    refine WpL_nil ?_
    refine Wp_ret ?_
    refine thn_ret ?_
    refine fin_tmp2 Tryd.results68 (v := (.slice none 0 0)) (v' := (.int .i64 1)) rfl rfl ?_
    exact ⟨⟨[], 1, .inl ⟨⟨s, hs, fun h => by rw [validB_iff.2 h] at hb; cases hb⟩, rfl, rfl⟩, none, 0, rfl, sin_nil _ _⟩, E⟩
  · have kh0 := h0
    have hv : ∀ s ∈ a, vSp s := fun s hs => validB_iff.1 (by have := List.any_eq_false.1 h0 s hs; simpa using this)
    have hs9 : w0.heap.size ≤ w9.heap.size := E.size
    refine Wp_skip ?_
    refine thn_normal ?_
    refine Wp_seq_region ?_
    refine WpL_val rfl rfl (by decide) (r_move (v := u) rfl) ?_
    refine WpL_enter rfl rfl (by decide) (r_callF (vs := [u]) Tryd.func76 nm76 bd76 rfl) (join_c _ _ a (ha.ext E) hl hv) ?_
    rintro _ w7 ⟨⟨j, hj, ⟨⟨ka, kc, rfl⟩, O7⟩⟩, X7⟩
    replace E := E.ext X7
    have hK : OwnS w7 w9.heap.size (.slice ka j.length kc) j := ⟨⟨_, _, rfl⟩, O7⟩
    refine WpL_enter rfl rfl (by decide) (r_callF (vs := [(.slice ka j.length kc)]) Tryd.func75 nm75 bd75 rfl) (sfits_n _ _ _ _ j (own_sin hK)) ?_
    rintro _ w6 ⟨⟨out, e, hf, fa, fc, rfl, hsp⟩, X6⟩
    replace E := E.ext X6
    obtain ⟨hj1, hj2⟩ := IsSet.join hj hv
    refine WpL_val rfl rfl (by decide) (r_extract (vs := #[(.slice fa out.length fc), (.int .i64 e)]) (v := (.slice fa out.length fc)) rfl rfl) ?_
    refine WpL_val rfl rfl (by decide) (r_extract (vs := #[(.slice fa out.length fc), (.int .i64 e)]) (v := (.int .i64 e)) rfl rfl) ?_
    refine WpL_val rfl rfl (by decide) (r_assign (v := (.slice fa out.length fc)) rfl) ?_
    refine WpL_val rfl rfl (by decide) (r_assign (v := (.int .i64 e)) rfl) ?_
    refine WpL_nil ?_
    refine Wp_ret ?_
    refine fin_tmp2 Tryd.results68 (v := (.slice fa out.length fc)) (v' := (.int .i64 e)) rfl rfl ?_
    exact ⟨⟨out, e, .inr ⟨hv, j, hj1, hj2, hf⟩, fa, fc, rfl, hsp.mono fun y hy => by have h3 : _ ≤ y := hy; omega⟩, E⟩
set_option maxHeartbeats 2000000 in
theorem close_n (w0 : World) (u : Value) (a : List Sp) (ha : SpansAt w0 u a) : Ret Tryd.prog 53 #[u] w0 fun r w => (∃ out e, closeP a out e ∧ SetRN w0.heap.size w r out e) ∧ Ext w0 w := by
  obtain ⟨base, hbase⟩ : ∃ base, base = w0.heap.size := ⟨_, rfl⟩
  refine Ret_of Tryd.func53 rfl Tryd.ntmps53 (Nat.le_of_ble_eq_true rfl) ?_
  have E : Chg none1 w0 w0 := Chg.refl _ _
  refine Wp_seq_region ?_
  refine WpL_val rfl rfl (by decide) (r_assign (v := (.slice none 0 0)) rfl) ?_
  refine WpL_val rfl rfl (by decide) (r_assign (v := (.int .i64 0)) rfl) ?_
  refine WpL_nil ?_
  refine Wp_seq ?_
  refine Wp_seq_region ?_
  refine WpL_val rfl rfl (by decide) (r_move (v := u) rfl) ?_
  refine WpL_enter rfl rfl (by decide) (r_callF (vs := [u]) Tryd.func67 nm67 bd67 rfl) (rcheck_c _ _ a ha) ?_
  rintro _ w9 ⟨rfl, X9⟩
  replace E := E.ext X9
  refine WpL_val rfl rfl (by decide) (r_assign (v := (.int .i64 (checkE a))) rfl) ?_
  refine WpL_nil ?_
  refine Wp_seq_region ?_
  refine WpL_val rfl rfl (by decide) (r_move (v := (.int .i64 (checkE a))) rfl) ?_
  refine WpL_val rfl rfl (by decide) (r_neq (k := .i64) (a := checkE a) (b := 0) rfl rfl) ?_
  refine WpL_nil ?_
  refine Wp_cond (b := decide ((checkE a : Int) ≠ 0)) rfl (fun hc0 => ?_) (fun hc0 => ?_)
  · have khc0 := hc0
    replace hc0 := of_decide_eq_true hc0
    refine Wp_seq_region ?_
    refine WpL_val rfl rfl (by decide) (r_move (v := (.int .i64 (checkE a))) rfl) ?_
    refine WpL_val rfl rfl (by decide) (r_assign (v := (.slice none 0 0)) rfl) ?_
    refine WpL_val rfl rfl (by decide) (r_assign (v := (.int .i64 (checkE a))) rfl) ?_
    refine WpL_nil ?_
    refine Wp_ret ?_
    refine thn_ret ?_
    refine fin_tmp2 Tryd.results53 (v := (.slice none 0 0)) (v' := (.int .i64 (checkE a))) rfl rfl ?_
    exact ⟨⟨[], _, .inl ⟨hc0, rfl, rfl⟩, none, 0, rfl, sin_nil _ _⟩, E⟩
  · have khc0 := hc0
    replace hc0 := of_decide_eq_false hc0
    have hc1 : checkE a = 0 := by omega
    obtain ⟨ca, la⟩ := checkE_canon hc1
    have hs0 := E.size
    refine Wp_skip ?_
    refine thn_normal ?_
    refine Wp_seq_region ?_
    refine WpL_val rfl rfl (by decide) (r_move (v := u) rfl) ?_
    refine WpL_enter rfl rfl (by decide) (r_callF (vs := [u]) Tryd.func52 nm52 bd52 rfl) (clones_c _ _ a (ha.ext E) (by omega)) ?_
    rintro _ w8 ⟨⟨⟨xa, xc, rfl⟩, O8⟩, X8⟩
    replace E := E.ext X8
    have O8' := own_low (base' := base) O8 (by omega)
    refine WpL_val rfl rfl (by decide) (r_assign (v := (.slice xa a.length xc)) rfl) ?_
    refine WpL_nil ?_
    refine Wp_seq ?_
    refine Wp_seq_region ?_
    refine WpL_val rfl rfl (by decide) (r_move (v := (.int .i64 0)) rfl) ?_
    refine WpL_nil ?_
    refine Wp_block ?_
    refine Wp_loop (fun nn_ σ W2 => ∃ (k : Nat) (la1 : Option Addr) (lc1 : Nat) (m1 : Nat), (∃ jj_, σ = upds jj_ [(0, u), (16, (.int .i64 ((k : Nat) : Int))), (5, (.slice la1 m1 lc1))]) ∧ Chg none1 w0 W2 ∧ (k ≤ 1000) ∧ (m1 = (a ++ clo a k).length) ∧ (W2.ownsRow base TSp 2 (.slice la1 m1 lc1) m1 ((a ++ clo a k).map spanV).flatten) ∧ (base ≤ W2.heap.size) ∧ nn_ = 1000 - k) (n := 1000 - 0) ?_ ?_
    · exact ⟨0, xa, xc, a.length, Fits.out ⟨rfl, rfl, rfl, trivial⟩, E, (by omega), (by simp [clo]), (by simpa [clo] using O8'), (by have := E.size; omega), rfl⟩
    · clear E
      rintro _ _ W2 ⟨k, la1, lc1, m1, ⟨j2, rfl⟩, E, hk, hm1, hown, hbs, rfl⟩
      refine Wp_seq_region ?_
      refine WpL_val rfl rfl (by decide) (r_lss (k := .i64) (a := ((k : Nat) : Int)) (b := 1000) rfl rfl) ?_
      refine WpL_nil ?_
      refine Wp_seq ?_
      refine Wp_cond (b := decide ((((k : Nat) : Int) : Int) < 1000)) rfl (fun hlt => ?_) (fun hlt => ?_)
      · have khlt := hlt
        replace hlt := of_decide_eq_true hlt
        have hcs := clo_succ a k
        have hcl := clo_len a k
        rw [List.length_append] at hm1
        refine Wp_skip ?_
        refine thn_normal ?_
        refine Wp_seq ?_
        refine Wp_block ?_
        refine Wp_seq_region ?_
        refine WpL_val rfl rfl (by decide) (r_move (v := (.int .i64 ((k : Nat) : Int))) rfl) ?_
        refine WpL_val rfl rfl (by decide) (r_assign (v := (.int .i64 ((k : Nat) : Int))) rfl) ?_
        refine WpL_nil ?_
        refine Wp_seq ?_
        refine Wp_seq_region ?_
        refine WpL_val rfl rfl (by decide) (r_move (v := u) rfl) ?_
        refine WpL_val rfl rfl (by decide) (r_move (v := (.int .i64 ((k : Nat) : Int))) rfl) ?_
        refine WpL_enter rfl rfl (by decide) (r_callF (vs := [u, (.int .i64 ((k : Nat) : Int))]) Tryd.func48 nm48 bd48 rfl) (in_c _ u a ((k : Nat) : Int) (ha.ext E)) ?_
        rintro _ w7 ⟨rfl, X7⟩
        replace hown := own_ext hown X7
        replace hbs := Nat.le_trans hbs X7.size
        replace E := E.ext X7
        refine WpL_val rfl rfl (by decide) (r_not (b := inS a ((k : Nat) : Int)) rfl) ?_
        refine WpL_nil ?_
        refine Wp_cond (b := !(inS a ((k : Nat) : Int))) rfl (fun hin => ?_) (fun hin => ?_)
        · have khin := hin
          replace hin := by simpa using hin
          refine Wp_exit ?_
          refine thn_exit ?_
          refine inB_here ?_
          refine thn_normal ?_
          refine Wp_region ?_
          refine WpL_val rfl rfl (by decide) (r_add (k := .i64) (a := ((k : Nat) : Int)) (b := 1) (c := ((k : Nat) : Int) + 1) rfl rfl (wI64 (by omega))) ?_
          refine WpL_val rfl rfl (by decide) (r_move (v := (.int .i64 (((k : Nat) : Int) + 1))) rfl) ?_
          refine WpL_nil ?_
          refine thn_normal ?_
          exact ⟨1000 - (k + 1), by omega, k + 1, la1, lc1, m1, Fits.out ⟨rfl, rfl, rfl, trivial⟩, E, (by omega), (by rw [hcs, hin]; simpa using hm1), (by rw [hcs, hin]; simpa using hown), hbs, rfl⟩
        · have khin := hin
          replace hin := by simpa using hin
          have hown7 := hown
          refine Wp_skip ?_
          refine thn_normal ?_
          refine Wp_seq_region ?_
          refine WpL_val rfl rfl (by decide) (r_move (v := (.int .i64 ((k : Nat) : Int))) rfl) ?_
          refine WpL_enter rfl rfl (by decide) (r_callF (vs := [(.int .i64 ((k : Nat) : Int))]) Tryd.func37 nm37 bd37 rfl) (orbit_c _ ((k : Nat) : Int) (by omega)) ?_
          rintro _ w6 ⟨⟨⟨oa, oc, rfl⟩, hor⟩, X6⟩
          replace hown := own_ext hown X6
          replace hbs := Nat.le_trans hbs X6.size
          replace E := E.ext X6
          obtain ⟨ob, hob⟩ : ∃ ob, ob = orbitL ((k : Nat) : Int) := ⟨_, rfl⟩
          have hol := orb_len ((k : Nat) : Int)
          rw [← hob] at hor hol
          rw [← hob, hin, if_pos rfl] at hcs
          obtain ⟨n6, hn6⟩ : ∃ n, n = w7.heap.size := ⟨_, rfl⟩
          obtain ⟨n7, hn7⟩ : ∃ n, n = w6.heap.size := ⟨_, rfl⟩
          rw [← hn6, ← hn7] at hor
          rw [← hob]
          refine WpL_val rfl rfl (by decide) (r_lenSlice (ad := oa) (n := ob.length) (cap := oc) Tryd.underlying22 rfl) ?_
          refine WpL_val rfl rfl (by decide) (r_move (v := (.int .i64 0)) rfl) ?_
          refine WpL_nil ?_
          refine Wp_block ?_
          refine Wp_loop (fun nn_ σ W5 => ∃ (i : Nat) (la2 : Option Addr) (lc2 : Nat) (m2 : Nat), (∃ jj_, σ = upds jj_ [(0, u), (16, (.int .i64 ((k : Nat) : Int))), (24, (.slice oa ob.length oc)), (25, (.int .i64 ((ob.length : Nat) : Int))), (26, (.int .i64 ((i : Nat) : Int))), (5, (.slice la2 m2 lc2))]) ∧ Chg none1 w0 W5 ∧ (i ≤ ob.length) ∧ (m2 = (a ++ clo a k ++ pts (ob.take i)).length) ∧ (W5.ownsRow base TSp 2 (.slice la2 m2 lc2) m2 ((a ++ clo a k ++ pts (ob.take i)).map spanV).flatten) ∧ (base ≤ W5.heap.size) ∧ (SlIn (fun b => n6 ≤ b ∧ b < n7) W5 1 (.slice oa ob.length oc) (ob.map intV)) ∧ (∀ x, (Value.slice la2 m2 lc2).ownBlock = some x → x < n6 ∨ n7 ≤ x) ∧ (n7 ≤ W5.heap.size) ∧ nn_ = ob.length - i) (n := ob.length - 0) ?_ ?_
          · exact ⟨0, la1, lc1, m1, Fits.out ⟨rfl, rfl, rfl, rfl, rfl, rfl, trivial⟩, E, Nat.zero_le _, (by simpa [pts] using hm1), (by simpa [pts] using hown), hbs, hor, (fun x hx => .inl (by rw [hn6]; exact (hown7.lt x hx).2)), (by omega), rfl⟩
          · clear E
            rintro _ _ W5 ⟨i, la2, lc2, m2, ⟨j5, rfl⟩, E, hi, hm2, hown2, hbs2, hor2, hap, hn72, rfl⟩
            refine Wp_seq_region ?_
            refine WpL_val rfl rfl (by decide) (r_lss (k := .i64) (a := ((i : Nat) : Int)) (b := ((ob.length : Nat) : Int)) rfl rfl) ?_
            refine WpL_nil ?_
            refine Wp_seq ?_
            refine Wp_cond (b := decide ((((i : Nat) : Int) : Int) < ((ob.length : Nat) : Int))) rfl (fun hlt2 => ?_) (fun hlt2 => ?_)
            · have khlt2 := hlt2
              replace hlt2 := of_decide_eq_true hlt2
              rw [List.length_append, List.length_append] at hm2
              have hpl : (pts (ob.take i)).length = i := by unfold pts; simp; omega
              obtain ⟨x, hx⟩ := get_of_lt (l := ob) (i := i) (by omega)
              have hpt := pts_take hx
              have hatI : IntsAt _ (.slice oa ob.length oc) ob := SlIn.at hor2
              obtain ⟨b, o, hab, hcc⟩ := ints_cells hatI (by omega)
              subst hab
              refine Wp_skip ?_
              refine thn_normal ?_
              refine Wp_seq ?_
              refine Wp_block ?_
              refine Wp_seq_region ?_
              refine WpL_val rfl rfl (by decide) (r_indexSlice (b := b) (o := o) (len := ob.length) (cap := oc) (i := i) (o' := o + i) rfl rfl rfl Tryd.underlying22 siz3 (by omega) (by omega)) ?_
              refine WpL_val rfl rfl (by decide) (r_load (v := (.int .i64 x)) rfl flat3 (hcc i x hx)) ?_
              refine WpL_val rfl rfl (by decide) (r_assign (v := (.int .i64 x)) rfl) ?_
              refine WpL_nil ?_
              refine Wp_region ?_
              refine WpL_val rfl rfl (by decide) (r_move (v := (.slice la2 m2 lc2)) rfl) ?_
              refine WpL_val rfl rfl (by decide) (r_move (v := (.int .i64 x)) rfl) ?_
              refine WpL_val rfl rfl (by decide) (r_move (v := (.int .i64 x)) rfl) ?_
              refine WpL_val rfl rfl (by decide) (r_build (ps := [(0, (.int .i64 x)), (1, (.int .i64 x))]) (v := (.agg #[(.int .i64 x), (.int .i64 x)])) rfl (by kernel_rfl)) ?_
              refine s_buildSlice (ps := [(0, (.agg #[(.int .i64 x), (.int .i64 x)]))]) (c := #[(.int .i64 x), (.int .i64 x)]) (by decide) rfl Tryd.underlying24 siz82 zer82 (by decide) (by decide) (by kernel_rfl) ?_
              intro bq wq Nq
              have Fq := Nq.ge E
              replace hown2 := own_ext hown2 Nq.ext
              replace hbs2 := Nat.le_trans hbs2 Nq.ext.size
              replace hn72 := Nat.le_trans hn72 Nq.ext.size
              replace hor2 := hor2.chg Nq.ext (fun _ _ f => f)
              replace E := E.ext Nq.ext
              have Bq := Nq.blk
              refine s_append (base := base) (n := m2) (m := 1) (xs := ((a ++ clo a k ++ pts (ob.take i)).map spanV).flatten) (news := [(.int .i64 x), (.int .i64 x)]) (size := 2) (bytes := 16) (v := (.slice la2 m2 lc2)) (by decide) Tryd.underlying24 siz82 byt82 zer82 rfl (by decide) rfl hown2 rfl (rfl) (Bq.cells rfl) (by simp [Value.oneCell']) (by unfold maxLen; omega) (by omega) (hbs2) ?_
              intro v9 w29 Ov9 Cv9 Dv9
              replace E := E.step Cv9 (fun x hx h => absurd (hown2.lt x h).1 (by omega))
              obtain ⟨la3, lc3, rfl⟩ := own_form Ov9
              refine WpL_val rfl rfl (by decide) (r_assign (v := (.slice la3 (m2 + 1) lc3)) rfl) ?_
              refine WpL_nil ?_
              refine inB_normal ?_
              refine thn_normal ?_
              refine Wp_region ?_
              refine WpL_val rfl rfl (by decide) (r_add (k := .i64) (a := ((i : Nat) : Int)) (b := 1) (c := ((i : Nat) : Int) + 1) rfl rfl (wI64 (by omega))) ?_
              refine WpL_val rfl rfl (by decide) (r_move (v := (.int .i64 (((i : Nat) : Int) + 1))) rfl) ?_
              refine WpL_nil ?_
              refine thn_normal ?_
              exact ⟨ob.length - (i + 1), by omega, i + 1, la3, lc3, m2 + 1, Fits.out ⟨rfl, rfl, rfl, rfl, rfl, rfl, trivial⟩, E, (by omega), (by rw [hpt]; simp only [List.length_append, hpl, List.length_singleton]; omega), (by rw [hpt, ← List.append_assoc, spanV_snoc]; exact Ov9), Nat.le_trans hbs2 Cv9.size, hor2.chg Cv9 (fun b hb h => by have := hap b h; omega), (fun x hx => by rcases Dv9 x hx with h | h; exact hap x h; exact .inr (by omega)), Nat.le_trans hn72 Cv9.size, rfl⟩
            · have khlt2 := hlt2
              replace hlt2 := of_decide_eq_false hlt2
              have hii : i = ob.length := by omega
              rw [hii, List.take_length, List.append_assoc, ← hcs] at hm2 hown2
              refine Wp_exit ?_
              refine thn_exit ?_
              refine thn_exit ?_
              refine inB_here ?_
              refine inB_normal ?_
              refine thn_normal ?_
              refine Wp_region ?_
              refine WpL_val rfl rfl (by decide) (r_add (k := .i64) (a := ((k : Nat) : Int)) (b := 1) (c := ((k : Nat) : Int) + 1) rfl rfl (wI64 (by omega))) ?_
              refine WpL_val rfl rfl (by decide) (r_move (v := (.int .i64 (((k : Nat) : Int) + 1))) rfl) ?_
              refine WpL_nil ?_
              refine thn_normal ?_
              exact ⟨1000 - (k + 1), by omega, k + 1, la2, lc2, m2, Fits.out ⟨rfl, rfl, rfl, trivial⟩, E, (by omega), hm2, hown2, hbs2, rfl⟩
      · have khlt := hlt
        replace hlt := of_decide_eq_false hlt
        have hk2 : k = 1000 := by omega
        rw [hk2] at hm1 hown
        have hcl2 := clo_len a 1000
        have hS : OwnS W2 base (.slice la1 m1 lc1) (closeAll a) := ⟨⟨la1, lc1, by rw [hm1]; rfl⟩, by have h9 := hown; rw [hm1] at h9 ⊢; exact h9⟩
        have hlen : (closeAll a).length ≤ 4000 := by unfold closeAll; rw [List.length_append]; omega
        have hsz9 : w0.heap.size ≤ (W2).heap.size := E.size
        refine Wp_exit ?_
        refine thn_exit ?_
        refine thn_exit ?_
        refine inB_here ?_
        refine thn_normal ?_
        refine Wp_seq_region ?_
        refine WpL_val rfl rfl (by decide) (r_move (v := (.slice la1 m1 lc1)) rfl) ?_
        refine WpL_enter rfl rfl (by decide) (r_callF (vs := [(.slice la1 m1 lc1)]) Tryd.func68 nm68 bd68 rfl) (norm_n _ _ (closeAll a) hS.at (by omega)) ?_
        rintro _ w5 ⟨⟨out, e, hn, fa, fc, rfl, hsp⟩, X5⟩
        replace E := E.ext X5
        refine WpL_val rfl rfl (by decide) (r_extract (vs := #[(.slice fa out.length fc), (.int .i64 e)]) (v := (.slice fa out.length fc)) rfl rfl) ?_
        refine WpL_val rfl rfl (by decide) (r_extract (vs := #[(.slice fa out.length fc), (.int .i64 e)]) (v := (.int .i64 e)) rfl rfl) ?_
        refine WpL_val rfl rfl (by decide) (r_assign (v := (.slice fa out.length fc)) rfl) ?_
        refine WpL_val rfl rfl (by decide) (r_assign (v := (.int .i64 e)) rfl) ?_
        refine WpL_nil ?_
        refine Wp_ret ?_
        refine fin_tmp2 Tryd.results53 (v := (.slice fa out.length fc)) (v' := (.int .i64 e)) rfl rfl ?_
        refine ⟨⟨out, e, .inr ⟨hc1, ?_⟩, fa, fc, rfl, hsp.mono fun y hy => by have h3 : _ ≤ y := hy; have := hsz9; omega⟩, E⟩
        rcases hn with ⟨⟨s, hs, hv⟩, _⟩ | ⟨_, j, hj, _, hf⟩
        · exact absurd (close_ok ca s hs) hv
        · exact ⟨j, hj, hf⟩
theorem close_low : ClOk clF lowP := fun w u t hk hl hu =>
  (close_n w u t.set hu).mono fun r w' ⟨⟨out, e, h1, a, c, h2, h3⟩, h4⟩ => by
    obtain ⟨lo, hi, hs, hlh⟩ := hl hk
    rw [hs] at h1 ⊢
    obtain ⟨rfl, rfl⟩ := close_f hlh h1
    exact ⟨⟨a, c, h2, h3⟩, h4⟩
mutual
theorem uses_more : ∀ t : Re, usesB [7, 8] t = false → allRe (genP 8) t → usesB [7, 8, 10] t = false
  | .mk k set args mn mx ng, h, hg => by
    simp only [usesB, Bool.or_eq_false_iff] at h ⊢
    simp only [allRe] at hg
    have hk := hg.1.2.1
    simp only [Re.kind] at hk
    refine ⟨?_, usess_more args h.2 hg.2⟩
    have h7 := h.1
    simp at h7 ⊢
    omega
theorem usess_more : ∀ ts : List Re, usesBs [7, 8] ts = false → allRes (genP 8) ts → usesBs [7, 8, 10] ts = false
  | [], _, _ => rfl
  | t :: ts, h, hg => by
    simp only [usesBs, Bool.or_eq_false_iff] at h ⊢
    simp only [allRes] at hg
    exact ⟨uses_more t h.1 hg.1, usess_more ts h.2 hg.2⟩
end
theorem inS_orb {lo hi c c' : Int} (h : 97 ≤ lo ∧ lo ≤ hi ∧ hi ≤ 100) (hc : 0 ≤ c) (hm : c' ∈ orbitL c) : inS (clF [(lo, hi)]) c' = inS (clF [(lo, hi)]) c := by
  have h1 := orb_same hc hm
  show inS [(lo - 32, hi - 32), (lo, hi)] c' = inS [(lo - 32, hi - 32), (lo, hi)] c
  rw [inS_f h h1.2.1, inS_f h hc, h1.1]
theorem inS_sub {lo hi c : Int} (h : 97 ≤ lo ∧ lo ≤ hi ∧ hi ≤ 100) (hc : 0 ≤ c) (hs : inS [(lo, hi)] c = true) : inS (clF [(lo, hi)]) c = true := by
  show inS [(lo - 32, hi - 32), (lo, hi)] c = true
  rw [inS_f h hc, List.any_eq_true]
  exact ⟨c, orb_self hc, hs⟩
theorem low_gen {t : Re} (h : genP 8 t) : lowP t := h.2.2
theorem checkP_zero {t : Re} {text : List Int} (hok : okRe t) (hs : t.size ≤ 40) (hn : text.length ≤ 24) (hr : ∀ x ∈ text, runeB x = true) : checkP t text = 0 := by
  have hfit : fitsE t 40 = 0 := (fitsE_zero (by decide) (by decide)).2 ⟨hok, by omega⟩
  have hru : ¬ (text.any fun r => !runeB r) = true := by
    rw [List.any_eq_true]
    rintro ⟨x, hx, h⟩
    rw [hr x hx] at h; cases h
  unfold checkP
  rw [if_neg (by omega), if_neg (by omega), if_neg hru]
mutual
theorem uses_all : ∀ t : Re, usesB [7, 8] t = false → allRe (fun x => x.kind ≠ 7 ∧ x.kind ≠ 8) t
  | .mk k set args mn mx ng, h => by
    simp only [usesB, Bool.or_eq_false_iff] at h
    simp only [allRe, Re.kind]
    exact ⟨by have h7 := h.1; simp at h7; exact h7, usess_all args h.2⟩
theorem usess_all : ∀ ts : List Re, usesBs [7, 8] ts = false → allRes (fun x => x.kind ≠ 7 ∧ x.kind ≠ 8) ts
  | [], _ => by simp only [allRes]
  | t :: ts, h => by
    simp only [usesBs, Bool.or_eq_false_iff] at h
    simp only [allRes]
    exact ⟨uses_all t h.1, usess_all ts h.2⟩
end
mutual
theorem all_and {p q r : Re → Prop} (h : ∀ t, p t → q t → r t) : ∀ t : Re, allRe p t → allRe q t → allRe r t
  | .mk k set args mn mx ng, h1, h2 => by
    simp only [allRe] at h1 h2 ⊢
    exact ⟨h _ h1.1 h2.1, alls_and h args h1.2 h2.2⟩
theorem alls_and {p q r : Re → Prop} (h : ∀ t, p t → q t → r t) : ∀ ts : List Re, allRes p ts → allRes q ts → allRes r ts
  | [], _, _ => by simp only [allRes]
  | t :: ts, h1, h2 => by
    simp only [allRes] at h1 h2 ⊢
    exact ⟨all_and h t h1.1 h2.1, alls_and h ts h1.2 h2.2⟩
end
theorem folds_law {t : Re} {text other : List Int} (hg : allRe (genP 8) t) (hs : t.size ≤ 31) (hu : usesB [7, 8] t = false) (hn : text.length ≤ 10) (hr : ∀ x ∈ text, runeB x = true) (hl : other.length = text.length) (ho : ∀ (i : Nat) (c c' : Int), text[i]? = some c → other[i]? = some c' → c' ∈ orbitL c) :
    checkP t text = 0 ∧ checkP (foldT clF t) text = 0 ∧ checkP (foldT clF t) other = 0 ∧ relOf other (foldT clF t) = relOf text (foldT clF t) ∧ Le (relOf text t) (relOf text (foldT clF t)) := by
  have hok := gen_ok t hg
  have hpos : ∀ (i : Nat) (c : Int), text[i]? = some c → 0 ≤ c ∧ c ≤ 1114111 := fun i c hc => by
    have := hr c (List.mem_of_getElem? hc)
    unfold runeB at this
    simp only [Bool.and_eq_true, decide_eq_true_eq] at this
    exact this
  have hokF : okRe (foldT clF t) := ok_fold t hok (all_mono (fun x hx hk => by
    obtain ⟨lo, hi, e, h⟩ := hx.2.2 hk
    rw [e]
    exact ⟨checkE_ok (canon_f h) (show (2 : Nat) ≤ 16 by decide), by simp [clF]⟩) t hg)
  have hro : ∀ x ∈ other, runeB x = true := fun x hx => by
    obtain ⟨i, hi⟩ := List.getElem?_of_mem hx
    obtain ⟨c, hc⟩ := get_of_lt (l := text) (i := i) (by have := lt_of_get hi; omega)
    obtain ⟨h0, h1⟩ := hpos i c hc
    obtain ⟨_, h3, h4, h5⟩ := orb_same h0 (ho i c x hc hi)
    unfold runeB
    simp only [Bool.and_eq_true, decide_eq_true_eq]
    rcases ltLe c 1000 with h6 | h6
    · have := h4 h6; omega
    · have := h5 h6; omega
  refine ⟨checkP_zero hok (by omega) (by omega) hr, checkP_zero hokF (by rw [size_fold]; omega) (by omega) hr, checkP_zero hokF (by rw [size_fold]; omega) (by omega) hro, ?_, ?_⟩
  · refine rel_text hl _ (all_fold (p := genP 8) (fun k set args args' mn mx ng hx hk => ?_) t hg)
    simp only [Re.kind, Re.set] at hk ⊢
    obtain ⟨lo, hi, e, h⟩ := hx.2.2 hk
    simp only [Re.set] at e
    rw [if_pos hk, e]
    exact setR_text hl fun i c c' h1 h2 => inS_orb h (hpos i c h1).1 (ho i c c' h1 h2)
  · refine le_fold t ?_
    have h10 : allRe (fun x => x.kind ≠ 7 ∧ x.kind ≠ 8) t := uses_all t hu
    exact all_and (fun x h1 h2 => ⟨h1.1, h1.2, by have := h2.2.1; omega, fun hk => by
      obtain ⟨lo, hi, e, h⟩ := h2.2.2 hk
      rw [e]
      exact le_setR fun i c hc hin => inS_sub h (hpos i c hc).1 hin⟩) t h10 hg
end Go.Proofs
namespace Go.Proofs
open Go Go.Eng Go.Sort
set_option maxRecDepth 100000
mutual
theorem ok_setsF : ∀ (t : Re), okRe t → setsOk t
  | .mk k set args mn mx ng, h => by
    have h1 := okRe_node h
    have h2 := okRe_form h
    have h3 := okRe_args h
    simp only [setsOk]
    refine ⟨?_, oks_sets args h3⟩
    obtain ⟨ha, hb, hf⟩ := h2
    by_cases hk : k = 2
    · unfold nodeE at h1
      simp only [Re.kind] at ha hb
      rw [if_neg (by simp only [Re.kind]; omega), if_neg (by simp [hf]), if_pos (by simp only [Re.kind]; exact hk)] at h1
      split at h1
      · omega
      · rename_i hc
        simp only [Re.set] at hc
        unfold checkE at hc
        split at hc
        · omega
        · omega
    · simp only [formB, Bool.and_eq_true, Bool.or_eq_true, decide_eq_true_eq, Re.kind, Re.set] at hf
      have := hf.1.1.1.2.resolve_left (by simp [hk])
      simp at this
      rw [this]; simp
theorem oks_sets : ∀ (ts : List Re), okRes ts → setsOks ts
  | [], _ => by simp only [setsOks]
  | t :: ts, h => by simp only [okRes] at h; simp only [setsOks]; exact ⟨ok_setsF t h.1, oks_sets ts h.2⟩
end
set_option maxHeartbeats 2000000 in
theorem Fold_c {cl : Sps → Sps} {p : Re → Prop} (hcl : ClOk cl p) (w0 : World) (t : Re) (vs : List Value) (ht : ReAt w0 t vs) (hf0 : fitsE t 40 = 0) (hu : usesB [7, 8, 10] t = false) (hp : allRe p t) :
    Ret Tryd.prog 12 #[.agg vs.toArray] w0 fun v w => (∃ us, v = .tuple #[.agg us.toArray, .int .i64 0] ∧ ReAt w (foldT cl t) us) ∧ Ext w0 w := by
  have ht0 := ht
  obtain ⟨sa, sc, aa, ac, rfl, _, _, _⟩ := ht.form
  obtain ⟨hok, hsz⟩ := (fitsE_zero (by decide) (by decide)).1 hf0
  refine Ret_of Tryd.func12 rfl Tryd.ntmps12 (Nat.le_of_ble_eq_true rfl) ?_
  have E : Chg none1 w0 w0 := Chg.refl _ _
  refine Wp_seq_region ?_
  refine s_box (v := (.agg #[(.int .i64 t.kind), (.slice sa t.set.length sc), (.slice aa t.args.length ac), (.int .i64 t.mn), (.int .i64 t.mx), (.bool t.neg)])) (c := #[(.int .i64 t.kind), (.slice sa t.set.length sc), (.slice aa t.args.length ac), (.int .i64 t.mn), (.int .i64 t.mx), (.bool t.neg)]) (by decide) rfl rfl ?_
  intro br wr Nr
  have Fr := Nr.ge E
  replace E := E.ext Nr.ext
  have Br := Nr.blk
  refine s_alloc (c := #[(.int .i64 0), (.slice none 0 0), (.slice none 0 0), (.int .i64 0), (.int .i64 0), (.bool false)]) (by decide) zer27 rfl ?_
  intro bo wo No
  have Fo := No.ge E
  have Oo_br := No.lt Br
  replace Br := No.keep Br
  replace E := E.ext No.ext
  have Bo := No.blk
  refine WpL_val rfl rfl (by decide) (r_assign (v := (.int .i64 0)) rfl) ?_
  refine WpL_nil ?_
  refine Wp_seq ?_
  refine Wp_seq_region ?_
  refine WpL_val rfl rfl (by decide) (r_loadAgg (vs := [(.int .i64 t.kind), (.slice sa t.set.length sc), (.slice aa t.args.length ac), (.int .i64 t.mn), (.int .i64 t.mx), (.bool t.neg)]) rfl agg27 siz27 rfl (Br.cells rfl)) ?_
  refine WpL_enter rfl rfl (by decide) (r_callF (vs := [(.agg #[(.int .i64 t.kind), (.slice sa t.set.length sc), (.slice aa t.args.length ac), (.int .i64 t.mn), (.int .i64 t.mx), (.bool t.neg)])]) Tryd.func29 nm29 bd29 rfl) ((check_c _ t _ (ReAt.ext E t ht0)).mono (R' := fun v w => v = .int .i64 0 ∧ Ext wo w) (fun v w h => ⟨by rw [h.1, hf0], h.2⟩)) ?_
  rintro _ w9 ⟨rfl, X9⟩
  replace Br := X9.keep Br
  replace Bo := X9.keep Bo
  replace E := E.ext X9
  refine WpL_val rfl rfl (by decide) (r_assign (v := (.int .i64 0)) rfl) ?_
  refine WpL_nil ?_
  refine Wp_seq_region ?_
  refine WpL_val rfl rfl (by decide) (r_move (v := (.int .i64 0)) rfl) ?_
  refine WpL_val rfl rfl (by decide) (r_neq (k := .i64) (a := 0) (b := 0) rfl rfl) ?_
  refine WpL_nil ?_
  refine Wp_cond_false rfl ?_
  refine Wp_skip ?_
  refine thn_normal ?_
  refine Wp_seq ?_
  refine Wp_seq_region ?_
  refine WpL_val rfl rfl (by decide) (r_loadAgg (vs := [(.int .i64 t.kind), (.slice sa t.set.length sc), (.slice aa t.args.length ac), (.int .i64 t.mn), (.int .i64 t.mx), (.bool t.neg)]) rfl agg27 siz27 rfl (Br.cells rfl)) ?_
  refine s_buildSlice (ps := [(0, (.int .i64 7)), (1, (.int .i64 8)), (2, (.int .i64 10))]) (c := #[(.int .i64 7), (.int .i64 8), (.int .i64 10)]) (by decide) rfl Tryd.underlying22 siz3 zer3 (by decide) (by decide) (by kernel_rfl) ?_
  intro bk wk Nk
  have Fk := Nk.ge E
  have Ok_br := Nk.lt Br
  have Ok_bo := Nk.lt Bo
  replace Br := Nk.keep Br
  replace Bo := Nk.keep Bo
  replace E := E.ext Nk.ext
  have Bk := Nk.blk
  refine WpL_enter rfl rfl (by decide) (r_callF (vs := [(.agg #[(.int .i64 t.kind), (.slice sa t.set.length sc), (.slice aa t.args.length ac), (.int .i64 t.mn), (.int .i64 t.mx), (.bool t.neg)]), (.slice (some ⟨bk, 0, none⟩) 3 3)]) Tryd.func15 nm15 bd15 rfl) ((uses_c _ t _ [7, 8, 10] _ (ReAt.ext E t ht0) (ints_of_blk [7, 8, 10] Bk (by simp) (by simp))).mono (R' := fun v w => v = .bool false ∧ Ext wk w) (fun v w h => ⟨by rw [h.1, hu], h.2⟩)) ?_
  rintro _ w19 ⟨rfl, X19⟩
  replace Br := X19.keep Br
  replace Bo := X19.keep Bo
  replace Bk := X19.keep Bk
  replace E := E.ext X19
  refine WpL_nil ?_
  refine Wp_cond_false rfl ?_
  refine Wp_skip ?_
  refine thn_normal ?_
  refine Wp_seq_region ?_
  refine WpL_val rfl rfl (by decide) (r_loadAgg (vs := [(.int .i64 t.kind), (.slice sa t.set.length sc), (.slice aa t.args.length ac), (.int .i64 t.mn), (.int .i64 t.mx), (.bool t.neg)]) rfl agg27 siz27 rfl (Br.cells rfl)) ?_
  obtain ⟨n1, hn1⟩ : ∃ n1, n1 = w19.heap.size := ⟨_, rfl⟩
  have hbo := Bo.lt
  have hbk := Bk.lt
  have hbr := Br.lt
  have hE1 : w0.heap.size ≤ w19.heap.size := E.size
  refine WpL_enter rfl rfl (by decide) (r_callF (vs := [(.agg #[(.int .i64 t.kind), (.slice sa t.set.length sc), (.slice aa t.args.length ac), (.int .i64 t.mn), (.int .i64 t.mx), (.bool t.neg)])]) Tryd.func30 nm30 bd30 rfl) (copy_c t.size t _ _ (Nat.le_refl _) (by omega) (ok_setsF t hok) (ReAt.ext E t ht0)) ?_
  rintro _ w29 ⟨⟨us, Z, L, rfl, hTr, hZL, hnew⟩, X29⟩
  replace Br := X29.keep Br
  replace Bo := X29.keep Bo
  replace Bk := X29.keep Bk
  replace E := E.ext X29
  have hs29 := X29.size
  rw [← hn1] at hnew
  have hTr0 := hTr
  obtain ⟨sb, sd, ab, ad, rfl, _, _, _⟩ := hTr.form
  refine s_allocStore (v := (.agg #[(.int .i64 t.kind), (.slice sb t.set.length sd), (.slice ab t.args.length ad), (.int .i64 t.mn), (.int .i64 t.mx), (.bool t.neg)])) (c := #[(.int .i64 t.kind), (.slice sb t.set.length sd), (.slice ab t.args.length ad), (.int .i64 t.mn), (.int .i64 t.mx), (.bool t.neg)]) (n := 6) (by decide) zer27 rfl siz27 rfl rfl rfl (by simp [Value.oneCell']) ?_
  intro bf wf Nf
  have Ff := Nf.ge E
  have Of_br := Nf.lt Br
  have Of_bo := Nf.lt Bo
  have Of_bk := Nf.lt Bk
  replace Br := Nf.keep Br
  replace Bo := Nf.keep Bo
  replace Bk := Nf.keep Bk
  replace E := E.ext Nf.ext
  have Bf := Nf.blk
  refine WpL_nil ?_
  refine Wp_seq ?_
  refine Wp_seq_region ?_
  refine WpL_enter rfl rfl (by decide) (r_callF (vs := [(.pointer (some ⟨bf, 0, none⟩))]) Tryd.func31 nm31 bd31 rfl) (folded_c hcl t.size t _ _ [] [] Z L bf 0 _ (Nat.le_refl _) (by omega) hp (Tree.ext Nf.ext t hTr0) (by simpa using Bf) rfl (fun h => by have := (hnew bf (.inl h)).2; have := Nf.eq; omega) (fun h => by have := (hnew bf (.inr h)).2; have := Nf.eq; omega) hZL (fun y hy => by have := (hnew y hy).2; have := Nf.size; omega)) ?_
  rintro _ w39 ⟨⟨rfl, ws, hB9, hv9⟩, C39⟩
  replace Br := C39.keep (fun h => by rcases h with h | h; (have := Nf.eq; omega); (have := (hnew _ (.inr h)).1; omega)) Br
  replace Bo := C39.keep (fun h => by rcases h with h | h; (have := Nf.eq; omega); (have := (hnew _ (.inr h)).1; omega)) Bo
  replace Bk := C39.keep (fun h => by rcases h with h | h; (have := Nf.eq; omega); (have := (hnew _ (.inr h)).1; omega)) Bk
  replace E := E.step C39 (fun q hq h => by rcases h with h | h; (have := Nf.eq; omega); (have := (hnew q (.inr h)).1; omega))
  have hv8 := hv9
  obtain ⟨sx, sy, ax, ay, rfl, _, _, _⟩ := hv9.form
  rw [List.nil_append, List.append_nil] at hB9
  have hC8 : Chg (fun y => y = bo) (w39) (w39) := Chg.refl _ _
  refine WpL_val rfl rfl (by decide) (r_assign (v := (.int .i64 0)) rfl) ?_
  refine WpL_nil ?_
  refine Wp_seq_region ?_
  refine WpL_val rfl rfl (by decide) (r_move (v := (.int .i64 0)) rfl) ?_
  refine WpL_val rfl rfl (by decide) (r_neq (k := .i64) (a := 0) (b := 0) rfl rfl) ?_
  refine WpL_nil ?_
  refine Wp_cond_false rfl ?_
  refine Wp_skip ?_
  refine thn_normal ?_
  refine Wp_seq_region ?_
  refine WpL_val rfl rfl (by decide) (r_loadAgg (vs := [(.int .i64 ((foldT cl t).kind)), (.slice sx ((foldT cl t).set.length) sy), (.slice ax ((foldT cl t).args.length) ay), (.int .i64 ((foldT cl t).mn)), (.int .i64 ((foldT cl t).mx)), (.bool ((foldT cl t).neg))]) rfl agg27 siz27 rfl (hB9.cells rfl)) ?_
  refine s_storeAgg (b := bo) (o := 0) (c' := #[(.int .i64 ((foldT cl t).kind)), (.slice sx ((foldT cl t).set.length) sy), (.slice ax ((foldT cl t).args.length) ay), (.int .i64 ((foldT cl t).mn)), (.int .i64 ((foldT cl t).mx)), (.bool ((foldT cl t).neg))]) rfl rfl (by simp [Value.oneCell']) siz27 rfl Bo (by first | (simp; done) | exact Nat.le_of_ble_eq_true rfl) rfl ?_
  intro w1 S1
  replace hC8 := S1.chg
  replace Br := S1.keep (by omega) Br
  replace Bk := S1.keep (by omega) Bk
  replace hB9 := S1.keep (by omega) hB9
  replace E := S1.step E (by first | exact Or.inl (by omega) | exact Or.inr rfl | exact Or.inr (by assumption) | exact Or.inr (by simp) | exact Or.inr (by omega) | exact Or.inr (by dsimp only; omega))
  replace Bo := S1.blk
  refine WpL_val rfl rfl (by decide) (r_assign (v := (.int .i64 0)) rfl) ?_
  refine WpL_nil ?_
  refine Wp_ret ?_
  refine fin_agg_tmp Tryd.results12 (vs := [(.int .i64 ((foldT cl t).kind)), (.slice sx ((foldT cl t).set.length) sy), (.slice ax ((foldT cl t).args.length) ay), (.int .i64 ((foldT cl t).mn)), (.int .i64 ((foldT cl t).mx)), (.bool ((foldT cl t).neg))]) (b := bo) (v' := (.int .i64 0)) rfl agg27 siz27 rfl (Bo.cells rfl) rfl ?_
  refine ⟨⟨_, rfl, ReIn.at _ (ReIn.chg hC8 ?_ _ hv8)⟩, E⟩
  rintro y (h | h | h) he
  · have he' : y = bo := he
    have := hnew y (.inl h); omega
  · have he' : y = bo := he
    have := hnew y (.inr h); omega
  · have he' : y = bo := he
    have := Nf.size; omega
end Go.Proofs
namespace Go.Proofs
open Go Go.Eng Go.Sort
set_option maxRecDepth 100000
theorem fold_one : foldT clF (oneT 97) = .mk 2 [(65, 65), (97, 97)] [] 0 0 false := by
  unfold oneT
  simp only [foldT, foldTs, if_true, clF]
  rfl
theorem low_one : allRe lowP (oneT 97) := by
  unfold oneT
  simp only [allRe, allRes, lowP, Re.kind, Re.set, and_true]
  exact fun _ => ⟨97, 97, rfl, by decide, by decide, by decide⟩
theorem ints_rest {w : World} {b c : Nat} {l : List Int} {rest : List Value} {T : Nat} (h : Blk w b (l.map (Value.int .i64) ++ rest).toArray T) (hc : l.length ≤ c) (hl : l.length ≤ 1000) : IntsAt w (.slice (some ⟨b, 0, none⟩) l.length c) l := by
  refine ⟨some ⟨b, 0, none⟩, c, by rw [List.length_map], by rw [List.length_map]; omega, by rw [List.length_map]; exact hc, .inr ⟨b, 0, rfl, fun i r hr j u hu => ?_⟩⟩
  rw [List.getElem?_map, Option.map_eq_some_iff] at hr
  obtain ⟨x, hx, rfl⟩ := hr
  match j, hu with
  | 0, hu =>
    cases hu
    have := ints_get h hx
    simpa using this
theorem orb_pos (r : Int) : 0 < (orbitL r).length := by
  unfold orbitL; (repeat' split) <;> simp
set_option maxHeartbeats 4000000 in
theorem folds_c (w0 : World) (hT : TabOk w0) (v1 v2 : Value) (l t : List Int) (turn : Int) (h1 : IntsAt w0 v1 l) (h2 : IntsAt w0 v2 t) :
    Ret Tryd.prog 4 #[v1, v2, .int .i64 turn] w0 fun v w => v = .bool true ∧ Ext w0 w := by
  obtain ⟨a1, c1, rfl⟩ := SlAt.form h1
  obtain ⟨a2, c2, rfl⟩ := SlAt.form h2
  simp only [List.length_map] at h1 h2 ⊢
  refine Ret_of Tryd.func4 rfl Tryd.ntmps4 (Nat.le_of_ble_eq_true rfl) ?_
  have E : Chg none1 w0 w0 := Chg.refl _ _
  refine Wp_seq_region ?_
  refine WpL_val rfl rfl (by decide) (r_assign (v := (.bool false)) rfl) ?_
  refine WpL_nil ?_
  refine Wp_seq ?_
  refine Wp_seq_region ?_
  refine WpL_enter rfl rfl (by decide) (r_callF (vs := [(.int .i64 97)]) Tryd.func13 nm13 bd13 rfl) (one_c _ 97) ?_
  rintro _ w9 ⟨b, rfl, hsp, X9⟩
  replace E := E.ext X9
  refine WpL_enter rfl rfl (by decide) (r_callF (vs := [(.agg #[(.int .i64 2), (.slice (some ⟨b, 0, none⟩) 1 1), (.slice none 0 0), (.int .i64 0), (.int .i64 0), (.bool false)])]) Tryd.func12 nm12 bd12 rfl) (Fold_c close_low _ (oneT 97) _ (one_at hsp) (by decide) (by decide) low_one) ?_
  rintro _ w8 ⟨⟨us, rfl, hF⟩, X8⟩
  replace E := E.ext X8
  rw [fold_one] at hF
  obtain ⟨fa, fc, fb, fd, rfl, _, _, _⟩ := hF.form
  refine WpL_val rfl rfl (by decide) (r_move (v := (.tuple #[(.agg #[(.int .i64 2), (.slice fa 2 fc), (.slice fb 0 fd), (.int .i64 0), (.int .i64 0), (.bool false)]), (.int .i64 0)])) rfl) ?_
  refine WpL_val rfl rfl (by decide) (r_extract (vs := #[(.agg #[(.int .i64 2), (.slice fa 2 fc), (.slice fb 0 fd), (.int .i64 0), (.int .i64 0), (.bool false)]), (.int .i64 0)]) (v := (.agg #[(.int .i64 2), (.slice fa 2 fc), (.slice fb 0 fd), (.int .i64 0), (.int .i64 0), (.bool false)])) rfl rfl) ?_
  refine WpL_val rfl rfl (by decide) (r_extract (vs := #[(.agg #[(.int .i64 2), (.slice fa 2 fc), (.slice fb 0 fd), (.int .i64 0), (.int .i64 0), (.bool false)]), (.int .i64 0)]) (v := (.int .i64 0)) rfl rfl) ?_
  refine s_allocStore (v := (.agg #[(.int .i64 2), (.slice fa 2 fc), (.slice fb 0 fd), (.int .i64 0), (.int .i64 0), (.bool false)])) (c := #[(.int .i64 2), (.slice fa 2 fc), (.slice fb 0 fd), (.int .i64 0), (.int .i64 0), (.bool false)]) (n := 6) (by decide) zer27 rfl siz27 rfl rfl rfl (by simp [Value.oneCell']) ?_
  intro b1 w1 N1
  have F1 := N1.ge E
  replace E := E.ext N1.ext
  have B1 := N1.blk
  refine WpL_val rfl rfl (by decide) (r_assign (v := (.int .i64 0)) rfl) ?_
  refine WpL_nil ?_
  refine Wp_seq_region ?_
  refine WpL_val rfl rfl (by decide) (r_move (v := (.int .i64 0)) rfl) ?_
  refine WpL_val rfl rfl (by decide) (r_neq (k := .i64) (a := 0) (b := 0) rfl rfl) ?_
  refine WpL_val rfl rfl (by decide) (r_move (v := (.bool false)) rfl) ?_
  refine WpL_guard_yes (oj := _) rfl rfl (by decide) rfl ?_
  refine WpL_val rfl rfl (by decide) (r_fieldAddr (b := b1) (o := 0) (o' := 1) rfl Tryd.underlying27 rfl siz24 rfl) ?_
  refine WpL_guard_yes (oj := _) rfl rfl (by decide) rfl ?_
  refine WpL_val rfl rfl (by decide) (r_load (v := (.slice fa 2 fc)) rfl flat24 (B1.cell rfl)) ?_
  refine WpL_guard_yes (oj := _) rfl rfl (by decide) rfl ?_
  refine WpL_val rfl rfl (by decide) (r_lenSlice (ad := fa) (n := 2) (cap := fc) Tryd.underlying24 rfl) ?_
  refine WpL_guard_yes (oj := _) rfl rfl (by decide) rfl ?_
  refine WpL_val rfl rfl (by decide) (r_neq (k := .i64) (a := 2) (b := 2) rfl rfl) ?_
  refine WpL_val rfl rfl (by decide) (r_pick (b := false) (v := (.bool false)) rfl rfl) ?_
  refine WpL_val rfl rfl (by decide) (r_move (v := (.bool false)) rfl) ?_
  refine WpL_guard_yes (oj := _) rfl rfl (by decide) rfl ?_
  refine WpL_enter rfl rfl (by decide) (r_callF (vs := []) Tryd.func6 nm6 bd6 rfl) (begun_c _ (hT.ext E)) ?_
  rintro _ w7 ⟨rfl, X7⟩
  replace B1 := X7.keep B1
  replace E := E.ext X7
  refine WpL_guard_yes (oj := _) rfl rfl (by decide) rfl ?_
  refine WpL_val rfl rfl (by decide) (r_not (b := true) rfl) ?_
  refine WpL_val rfl rfl (by decide) (r_pick (b := false) (v := (.bool false)) rfl rfl) ?_
  refine WpL_nil ?_
  refine Wp_cond_false rfl ?_
  refine Wp_skip ?_
  refine thn_normal ?_
  refine Wp_seq_region ?_
  refine WpL_val rfl rfl (by decide) (r_move (v := (.slice a1 l.length c1)) rfl) ?_
  refine WpL_enter rfl rfl (by decide) (r_callF (vs := [(.slice a1 l.length c1)]) Tryd.func14 nm14 bd14 rfl) (mkRe_c _ _ l (h1.ext E)) ?_
  rintro _ wa ⟨a, us, rfl, ga, za, ha, Xa⟩
  replace B1 := Xa.keep B1
  replace E := E.ext Xa
  have hat := ReIn.at a ha
  obtain ⟨sa, sc, aa, ac, rfl, _, _, _⟩ := ha.form
  refine WpL_val rfl rfl (by decide) (r_move (v := (.slice a2 t.length c2)) rfl) ?_
  refine WpL_enter rfl rfl (by decide) (r_callF (vs := [(.slice a2 t.length c2)]) Tryd.func8 nm8 bd8 rfl) (text_c _ _ t (h2.ext E)) ?_
  rintro _ wt ⟨ta, tc, text, rfl, htx, htl, htr, Xt⟩
  replace B1 := Xt.keep B1
  replace E := E.ext Xt
  have E3 : Chg none1 wt wt := Chg.refl _ _
  refine s_allocStore (v := (.agg #[(.int .i64 a.kind), (.slice sa a.set.length sc), (.slice aa a.args.length ac), (.int .i64 a.mn), (.int .i64 a.mx), (.bool a.neg)])) (c := #[(.int .i64 a.kind), (.slice sa a.set.length sc), (.slice aa a.args.length ac), (.int .i64 a.mn), (.int .i64 a.mx), (.bool a.neg)]) (n := 6) (by decide) zer27 rfl siz27 rfl rfl rfl (by simp [Value.oneCell']) ?_
  intro bo wo No
  have Fo := No.ge E
  have Fo_E3 := No.ge E3
  have Oo_b1 := No.lt B1
  replace B1 := No.keep B1
  replace E := E.ext No.ext
  have Bo := No.blk
  replace E3 := E3.ext No.ext
  refine WpL_val rfl rfl (by decide) (r_assign (v := (.slice ta text.length tc)) rfl) ?_
  refine WpL_nil ?_
  refine Wp_seq ?_
  refine Wp_seq_region ?_
  refine WpL_val rfl rfl (by decide) (r_loadAgg (vs := [(.int .i64 a.kind), (.slice sa a.set.length sc), (.slice aa a.args.length ac), (.int .i64 a.mn), (.int .i64 a.mx), (.bool a.neg)]) rfl agg27 siz27 rfl (Bo.cells rfl)) ?_
  refine s_buildSlice (ps := [(0, (.int .i64 7)), (1, (.int .i64 8))]) (c := #[(.int .i64 7), (.int .i64 8)]) (by decide) rfl Tryd.underlying22 siz3 zer3 (by decide) (by decide) (by kernel_rfl) ?_
  intro bk wk Nk
  have Fk := Nk.ge E
  have Fk_E3 := Nk.ge E3
  have Ok_b1 := Nk.lt B1
  have Ok_bo := Nk.lt Bo
  replace B1 := Nk.keep B1
  replace Bo := Nk.keep Bo
  replace E := E.ext Nk.ext
  have Bk := Nk.blk
  replace E3 := E3.ext Nk.ext
  refine WpL_enter rfl rfl (by decide) (r_callF (vs := [(.agg #[(.int .i64 a.kind), (.slice sa a.set.length sc), (.slice aa a.args.length ac), (.int .i64 a.mn), (.int .i64 a.mx), (.bool a.neg)]), (.slice (some ⟨bk, 0, none⟩) 2 2)]) Tryd.func15 nm15 bd15 rfl) ((uses_c _ a _ [7, 8] _ (ReAt.ext (Xt.trans E3) a hat) (ints_of_blk [7, 8] Bk (by simp) (by simp)))) ?_
  rintro _ w6 ⟨rfl, X6⟩
  replace B1 := X6.keep B1
  replace Bo := X6.keep Bo
  replace Bk := X6.keep Bk
  replace E := E.ext X6
  replace E3 := E3.ext X6
  refine WpL_nil ?_
  refine Wp_cond (b := usesB [7, 8] a) rfl (fun hu => ?_) (fun hu => ?_)
  · have khu := hu
    refine Wp_seq_region ?_
    refine WpL_val rfl rfl (by decide) (r_assign (v := (.bool true)) rfl) ?_
    refine WpL_nil ?_
    refine Wp_ret ?_
    refine thn_ret ?_
    refine fin_tmp Tryd.results4 (v := (.bool true)) rfl ?_
    exact ⟨rfl, E⟩
  · have khu := hu
    have hu0 : usesB [7, 8] a = false := by simpa using hu
    obtain ⟨F, hFe⟩ : ∃ F, F = foldT clF a := ⟨_, rfl⟩
    refine Wp_skip ?_
    refine thn_normal ?_
    refine Wp_seq_region ?_
    refine WpL_val rfl rfl (by decide) (r_loadAgg (vs := [(.int .i64 a.kind), (.slice sa a.set.length sc), (.slice aa a.args.length ac), (.int .i64 a.mn), (.int .i64 a.mx), (.bool a.neg)]) rfl agg27 siz27 rfl (Bo.cells rfl)) ?_
    refine WpL_enter rfl rfl (by decide) (r_callF (vs := [(.agg #[(.int .i64 a.kind), (.slice sa a.set.length sc), (.slice aa a.args.length ac), (.int .i64 a.mn), (.int .i64 a.mx), (.bool a.neg)])]) Tryd.func12 nm12 bd12 rfl) (Fold_c close_low _ a _ (ReAt.ext (Xt.trans E3) a hat) ((fitsE_zero (by decide) (by decide)).2 ⟨gen_ok a ga, by omega⟩) (uses_more a hu0 ga) (all_mono (fun _ h => low_gen h) a ga)) ?_
    rintro _ w5 ⟨⟨fs, rfl, hFa⟩, X5⟩
    replace B1 := X5.keep B1
    replace Bo := X5.keep Bo
    replace Bk := X5.keep Bk
    replace E := E.ext X5
    replace E3 := E3.ext X5
    rw [← hFe] at hFa
    have hFat := hFa
    obtain ⟨ga2, gc2, gb2, gd2, rfl, _, _, _⟩ := hFa.form
    have E5 : Chg none1 w5 w5 := Chg.refl _ _
    refine WpL_val rfl rfl (by decide) (r_move (v := (.tuple #[(.agg #[(.int .i64 F.kind), (.slice ga2 F.set.length gc2), (.slice gb2 F.args.length gd2), (.int .i64 F.mn), (.int .i64 F.mx), (.bool F.neg)]), (.int .i64 0)])) rfl) ?_
    refine WpL_val rfl rfl (by decide) (r_extract (vs := #[(.agg #[(.int .i64 F.kind), (.slice ga2 F.set.length gc2), (.slice gb2 F.args.length gd2), (.int .i64 F.mn), (.int .i64 F.mx), (.bool F.neg)]), (.int .i64 0)]) (v := (.agg #[(.int .i64 F.kind), (.slice ga2 F.set.length gc2), (.slice gb2 F.args.length gd2), (.int .i64 F.mn), (.int .i64 F.mx), (.bool F.neg)])) rfl rfl) ?_
    refine WpL_val rfl rfl (by decide) (r_extract (vs := #[(.agg #[(.int .i64 F.kind), (.slice ga2 F.set.length gc2), (.slice gb2 F.args.length gd2), (.int .i64 F.mn), (.int .i64 F.mx), (.bool F.neg)]), (.int .i64 0)]) (v := (.int .i64 0)) rfl rfl) ?_
    refine s_allocStore (v := (.agg #[(.int .i64 F.kind), (.slice ga2 F.set.length gc2), (.slice gb2 F.args.length gd2), (.int .i64 F.mn), (.int .i64 F.mx), (.bool F.neg)])) (c := #[(.int .i64 F.kind), (.slice ga2 F.set.length gc2), (.slice gb2 F.args.length gd2), (.int .i64 F.mn), (.int .i64 F.mx), (.bool F.neg)]) (n := 6) (by decide) zer27 rfl siz27 rfl rfl rfl (by simp [Value.oneCell']) ?_
    intro bf wf Nf
    have Ff := Nf.ge E
    have Ff_E3 := Nf.ge E3
    have Ff_E5 := Nf.ge E5
    have Of_b1 := Nf.lt B1
    have Of_bo := Nf.lt Bo
    have Of_bk := Nf.lt Bk
    replace B1 := Nf.keep B1
    replace Bo := Nf.keep Bo
    replace Bk := Nf.keep Bk
    replace E := E.ext Nf.ext
    have Bf := Nf.blk
    replace E3 := E3.ext Nf.ext
    replace E5 := E5.ext Nf.ext
    refine WpL_val rfl rfl (by decide) (r_assign (v := (.int .i64 0)) rfl) ?_
    refine WpL_nil ?_
    refine Wp_seq_region ?_
    refine WpL_val rfl rfl (by decide) (r_move (v := (.slice ta text.length tc)) rfl) ?_
    have hlz : b1 < wf.heap.size ∧ bo < wf.heap.size ∧ bk < wf.heap.size ∧ bf < wf.heap.size := ⟨B1.lt, Bo.lt, Bk.lt, Bf.lt⟩
    have hz5 : w5.heap.size ≤ wf.heap.size ∧ wt.heap.size ≤ wf.heap.size ∧ w0.heap.size ≤ wf.heap.size := ⟨E5.size, E3.size, E.size⟩
    refine WpL_enter rfl rfl (by decide) (r_callF (vs := [(.slice ta text.length tc)]) Tryd.func16 nm16 bd16 rfl) (clonei_c _ _ text (htx.ext E3) (by omega)) ?_
    rintro _ w4 ⟨oa, oc, rfl, hoc, hob, X4⟩
    replace B1 := X4.keep B1
    replace Bo := X4.keep Bo
    replace Bk := X4.keep Bk
    replace Bf := X4.keep Bf
    replace E := E.ext X4
    replace E3 := E3.ext X4
    replace E5 := E5.ext X4
    obtain ⟨b2, rest2, hob⟩ : ∃ b2 rest2, text = [] ∨ (oa = some ⟨b2, 0, none⟩ ∧ wf.heap.size ≤ b2 ∧ Blk w4 b2 (text.map (Value.int .i64) ++ rest2).toArray 3) := by rcases hob with h | ⟨b2, r2, h, h', h''⟩; exact ⟨0, [], .inl h⟩; exact ⟨b2, r2, .inr ⟨h, h', h''⟩⟩
    refine WpL_val rfl rfl (by decide) (r_assign (v := (.slice oa text.length oc)) rfl) ?_
    refine WpL_nil ?_
    refine Wp_seq ?_
    refine Wp_seq_region ?_
    refine WpL_val rfl rfl (by decide) (r_move (v := (.slice ta text.length tc)) rfl) ?_
    refine WpL_val rfl rfl (by decide) (r_lenSlice (ad := ta) (n := text.length) (cap := tc) Tryd.underlying22 rfl) ?_
    refine WpL_val rfl rfl (by decide) (r_move (v := (.int .i64 0)) rfl) ?_
    refine WpL_nil ?_
    refine Wp_block ?_
    refine Wp_loop (fun nn_ σ W3 => ∃ (i : Nat) (cur : List Int), (∃ jj_, σ = upds jj_ [(2, (.int .i64 turn)), (9, (.pointer (some ⟨bo, 0, none⟩))), (10, (.slice ta text.length tc)), (11, (.pointer (some ⟨bf, 0, none⟩))), (12, (.int .i64 0)), (13, (.slice oa text.length oc)), (55, (.slice ta text.length tc)), (56, (.int .i64 ((text.length : Nat) : Int))), (57, (.int .i64 ((i : Nat) : Int)))]) ∧ Chg none1 w0 W3 ∧ Chg none1 wt W3 ∧ Chg none1 w5 W3 ∧ Blk W3 b1 #[(.int .i64 2), (.slice fa 2 fc), (.slice fb 0 fd), (.int .i64 0), (.int .i64 0), (.bool false)] 27 ∧ Blk W3 bo #[(.int .i64 a.kind), (.slice sa a.set.length sc), (.slice aa a.args.length ac), (.int .i64 a.mn), (.int .i64 a.mx), (.bool a.neg)] 27 ∧ Blk W3 bk #[(.int .i64 7), (.int .i64 8)] 3 ∧ Blk W3 bf #[(.int .i64 F.kind), (.slice ga2 F.set.length gc2), (.slice gb2 F.args.length gd2), (.int .i64 F.mn), (.int .i64 F.mx), (.bool F.neg)] 27 ∧ (i ≤ text.length) ∧ (cur.length = text.length) ∧ (∀ (j : Nat) (c c' : Int), j < i → text[j]? = some c → cur[j]? = some c' → c' ∈ orbitL c) ∧ (text = [] ∨ (oa = some ⟨b2, 0, none⟩ ∧ wf.heap.size ≤ b2 ∧ Blk W3 b2 (cur.map (Value.int .i64) ++ rest2).toArray 3)) ∧ nn_ = text.length - i) (n := text.length - 0) ?_ ?_
    · exact ⟨0, text, Fits.out ⟨rfl, rfl, rfl, rfl, rfl, rfl, rfl, rfl, rfl, trivial⟩, E, E3, E5, B1, Bo, Bk, Bf, Nat.zero_le _, rfl, (fun j c c' h => absurd h (Nat.not_lt_zero _)), hob, rfl⟩
    · clear E E3 E5 B1 Bo Bk Bf
      rintro _ _ W3 ⟨i, cur, ⟨j3, rfl⟩, E, E3, E5, B1, Bo, Bk, Bf, hi, hcl, hcu, hob, rfl⟩
      refine Wp_seq_region ?_
      refine WpL_val rfl rfl (by decide) (r_lss (k := .i64) (a := ((i : Nat) : Int)) (b := ((text.length : Nat) : Int)) rfl rfl) ?_
      refine WpL_nil ?_
      refine Wp_seq ?_
      refine Wp_cond (b := decide ((((i : Nat) : Int) : Int) < ((text.length : Nat) : Int))) rfl (fun hlt => ?_) (fun hlt => ?_)
      · have khlt := hlt
        replace hlt := of_decide_eq_true hlt
        obtain ⟨c, hc⟩ := get_of_lt (l := text) (i := i) (by omega)
        have hc01 : 0 ≤ c ∧ c ≤ 1114111 := by have := htr c (List.mem_of_getElem? hc); unfold runeB at this; simp only [Bool.and_eq_true, decide_eq_true_eq] at this; exact this
        obtain ⟨hoa, hb2, hB2⟩ := hob.resolve_left (fun h => by rw [h] at hc; simp at hc)
        subst hoa
        obtain ⟨tb, to, rfl, hcc⟩ := ints_cells htx (by omega)
        refine Wp_skip ?_
        refine thn_normal ?_
        refine Wp_seq ?_
        refine Wp_block ?_
        refine Wp_seq_region ?_
        refine WpL_val rfl rfl (by decide) (r_move (v := (.int .i64 ((i : Nat) : Int))) rfl) ?_
        refine WpL_val rfl rfl (by decide) (r_indexSlice (b := tb) (o := to) (len := text.length) (cap := tc) (i := i) (o' := to + i) rfl rfl rfl Tryd.underlying22 siz3 (by omega) (by omega)) ?_
        refine WpL_val rfl rfl (by decide) (r_load (v := (.int .i64 c)) rfl flat3 (E3.cell (fun f => f) (hcc i c hc))) ?_
        refine WpL_val rfl rfl (by decide) (r_assign (v := (.int .i64 ((i : Nat) : Int))) rfl) ?_
        refine WpL_val rfl rfl (by decide) (r_assign (v := (.int .i64 c)) rfl) ?_
        refine WpL_nil ?_
        refine Wp_seq_region ?_
        refine WpL_val rfl rfl (by decide) (r_move (v := (.int .i64 c)) rfl) ?_
        refine WpL_enter rfl rfl (by decide) (r_callF (vs := [(.int .i64 c)]) Tryd.func17 nm17 bd17 rfl) (Orbit_ok _ c hc01) ?_
        rintro _ w3 ⟨⟨ra, rc, rfl, hro⟩, X3⟩
        replace B1 := X3.keep B1
        replace Bo := X3.keep Bo
        replace Bk := X3.keep Bk
        replace Bf := X3.keep Bf
        replace hB2 := X3.keep hB2
        replace E := E.ext X3
        replace E3 := E3.ext X3
        replace E5 := E5.ext X3
        have hol := orb_len c
        have hop := orb_pos c
        refine WpL_val rfl rfl (by decide) (r_move (v := (.tuple #[(.slice ra ((orbitL c).length) rc), (.int .i64 0)])) rfl) ?_
        refine WpL_val rfl rfl (by decide) (r_extract (vs := #[(.slice ra ((orbitL c).length) rc), (.int .i64 0)]) (v := (.slice ra ((orbitL c).length) rc)) rfl rfl) ?_
        refine WpL_val rfl rfl (by decide) (r_extract (vs := #[(.slice ra ((orbitL c).length) rc), (.int .i64 0)]) (v := (.int .i64 0)) rfl rfl) ?_
        refine WpL_val rfl rfl (by decide) (r_assign (v := (.slice ra ((orbitL c).length) rc)) rfl) ?_
        refine WpL_val rfl rfl (by decide) (r_assign (v := (.int .i64 0)) rfl) ?_
        refine WpL_nil ?_
        refine Wp_seq ?_
        refine Wp_seq_region ?_
        refine WpL_val rfl rfl (by decide) (r_move (v := (.int .i64 0)) rfl) ?_
        refine WpL_val rfl rfl (by decide) (r_neq (k := .i64) (a := 0) (b := 0) rfl rfl) ?_
        refine WpL_val rfl rfl (by decide) (r_move (v := (.bool false)) rfl) ?_
        refine WpL_guard_yes (oj := _) rfl rfl (by decide) rfl ?_
        refine WpL_val rfl rfl (by decide) (r_move (v := (.slice ra ((orbitL c).length) rc)) rfl) ?_
        refine WpL_guard_yes (oj := _) rfl rfl (by decide) rfl ?_
        refine WpL_val rfl rfl (by decide) (r_lenSlice (ad := ra) (n := (orbitL c).length) (cap := rc) Tryd.underlying22 rfl) ?_
        refine WpL_guard_yes (oj := _) rfl rfl (by decide) rfl ?_
        obtain ⟨e5, he5⟩ : ∃ e, (decide (((((orbitL c).length : Nat) : Int) : Int) = 0)) = e := ⟨_, rfl⟩
        refine WpL_val rfl rfl (by decide) ((r_eql (k := .i64) (a := (((orbitL c).length : Nat) : Int)) (b := 0) rfl rfl).trans (by rw [he5]; try rfl)) ?_
        refine WpL_val rfl rfl (by decide) (r_pick (b := false) (v := (.bool e5)) rfl rfl) ?_
        refine WpL_nil ?_
        subst he5
        have hc6 : ((decide (((((orbitL c).length : Nat) : Int) : Int) = 0))) = false := decide_eq_false (by omega)
        refine Wp_cond_false (congrArg Value.bool hc6) ?_
        refine Wp_skip ?_
        refine thn_normal ?_
        refine Wp_region ?_
        refine WpL_val rfl rfl (by decide) (r_move (v := (.slice (some ⟨b2, 0, none⟩) text.length oc)) rfl) ?_
        refine WpL_val rfl rfl (by decide) (r_move (v := (.int .i64 ((i : Nat) : Int))) rfl) ?_
        refine WpL_val rfl rfl (by decide) (r_move (v := (.slice ra ((orbitL c).length) rc)) rfl) ?_
        refine WpL_val rfl rfl (by decide) (r_move (v := (.int .i64 turn)) rfl) ?_
        refine WpL_val rfl rfl (by decide) (r_move (v := (.int .i64 ((i : Nat) : Int))) rfl) ?_
        refine WpL_val rfl rfl (by decide) (r_add (k := .i64) (a := turn) (b := ((i : Nat) : Int)) (c := IntKind.i64.wrap (turn + ((i : Nat) : Int))) rfl rfl (rfl)) ?_
        refine WpL_val rfl rfl (by decide) (r_move (v := (.slice ra ((orbitL c).length) rc)) rfl) ?_
        refine WpL_val rfl rfl (by decide) (r_lenSlice (ad := ra) (n := (orbitL c).length) (cap := rc) Tryd.underlying22 rfl) ?_
        obtain ⟨j, hj, hjl⟩ : ∃ j : Nat, IntKind.i64.wrap (turn + ((i : Nat) : Int)) % (((orbitL c).length : Nat) : Int) = ((j : Nat) : Int) ∧ j < (orbitL c).length := ⟨(IntKind.i64.wrap (turn + ((i : Nat) : Int)) % (((orbitL c).length : Nat) : Int)).toNat, (Int.toNat_of_nonneg (Int.emod_nonneg _ (by omega))).symm, by have h9 := Int.emod_lt_of_pos (IntKind.i64.wrap (turn + ((i : Nat) : Int))) (show (0 : Int) < (((orbitL c).length : Nat) : Int) by omega); have h8 := Int.emod_nonneg (IntKind.i64.wrap (turn + ((i : Nat) : Int))) (show (((orbitL c).length : Nat) : Int) ≠ 0 by omega); omega⟩
        refine WpL_enter rfl rfl (by decide) (r_callF (vs := [(.int .i64 (IntKind.i64.wrap (turn + ((i : Nat) : Int)))), (.int .i64 (((orbitL c).length : Nat) : Int))]) Tryd.func18 nm18 bd18 rfl) ((below_c (IntKind.i64.wrap (turn + ((i : Nat) : Int))) (((orbitL c).length : Nat) : Int) (by omega) (by omega) _) |>.mono (R' := fun v w => v = .int .i64 ((j : Nat) : Int) ∧ w = w3) (fun v w h => ⟨by rw [h.1, hj], h.2⟩)) ?_
        rintro _ _ ⟨rfl, rfl⟩
        obtain ⟨cx, hcx⟩ := get_of_lt hjl
        obtain ⟨rb, ro, rfl, hrr⟩ := ints_cells hro (by omega)
        refine WpL_val rfl rfl (by decide) (r_indexSlice (b := rb) (o := ro) (len := (orbitL c).length) (cap := rc) (i := j) (o' := ro + j) rfl rfl (by omega) Tryd.underlying22 siz3 (by omega) (by omega)) ?_
        refine WpL_val rfl rfl (by decide) (r_load (v := (.int .i64 cx)) rfl flat3 (hrr j cx hcx)) ?_
        refine WpL_val rfl rfl (by decide) (r_indexSlice (b := b2) (o := 0) (len := text.length) (cap := oc) (i := i) (o' := 0 + i) rfl rfl (by omega) Tryd.underlying22 siz3 (by omega) (by omega)) ?_
        refine s_store (b := b2) (o := 0 + i) (c' := ((cur.set i cx).map (Value.int .i64) ++ rest2).toArray) (v := (.int .i64 cx)) rfl rfl rfl siz3 hB2 (by simp; omega) (by rw [Nat.zero_add]; exact ints_set (by omega) cx) ?_
        intro w7 S7
        replace B1 := S7.keep (by omega) B1
        replace Bo := S7.keep (by omega) Bo
        replace Bk := S7.keep (by omega) Bk
        replace Bf := S7.keep (by omega) Bf
        replace E := S7.step E (by first | exact Or.inl (by omega) | exact Or.inr rfl | exact Or.inr (by assumption) | exact Or.inr (by simp) | exact Or.inr (by omega) | exact Or.inr (by dsimp only; omega))
        replace E3 := S7.step E3 (Or.inl (by omega))
        replace E5 := S7.step E5 (Or.inl (by omega))
        replace hB2 := S7.blk
        refine WpL_nil ?_
        refine inB_normal ?_
        refine thn_normal ?_
        refine Wp_region ?_
        refine WpL_val rfl rfl (by decide) (r_add (k := .i64) (a := ((i : Nat) : Int)) (b := 1) (c := ((i : Nat) : Int) + 1) rfl rfl (wI64 (by omega))) ?_
        refine WpL_val rfl rfl (by decide) (r_move (v := (.int .i64 (((i : Nat) : Int) + 1))) rfl) ?_
        refine WpL_nil ?_
        refine thn_normal ?_
        exact ⟨text.length - (i + 1), by omega, i + 1, cur.set i cx, Fits.out ⟨rfl, rfl, rfl, rfl, rfl, rfl, rfl, rfl, rfl, trivial⟩, E, E3, E5, B1, Bo, Bk, Bf, (by omega), (by simpa using hcl), (fun q c9 c8 hq h9 h8 => by rcases Nat.lt_or_ge q i with h | h; (rw [List.getElem?_set_ne (by omega)] at h8; exact hcu q c9 c8 h h9 h8); (obtain rfl : q = i := (by omega); rw [List.getElem?_set_self (by omega)] at h8; rw [hc] at h9; cases h9; cases h8; exact List.mem_of_getElem? hcx)), .inr ⟨rfl, hb2, hB2⟩, rfl⟩
      · have khlt := hlt
        replace hlt := of_decide_eq_false hlt
        have hii : i = text.length := by omega
        have hoat : IntsAt (W3) (.slice oa text.length oc) cur := by rcases hob with h | ⟨rfl, h, h'⟩; (rw [h] at hcl; have h0 := List.eq_nil_of_length_eq_zero hcl; subst h; subst h0; exact SlAt.nil _ _ _ _); (rw [← hcl]; exact ints_rest h' (by omega) (by omega))
        obtain ⟨q1, q2, q3, q4, q5⟩ := folds_law ga za hu0 htl htr hcl (fun i' c c' e1 e2 => hcu i' c c' (by have := lt_of_get e1; omega) e1 e2)
        rw [← hFe] at q2 q3 q4 q5
        obtain ⟨p, hp⟩ : ∃ p, p = relOf text a 0 text.length := ⟨_, rfl⟩
        obtain ⟨q, hq⟩ : ∃ q, q = relOf text F 0 text.length := ⟨_, rfl⟩
        have hpq : p = true → q = true := fun h => by rw [hp] at h; rw [hq]; exact q5 _ _ h
        have hz4 : True := trivial
        refine Wp_exit ?_
        refine thn_exit ?_
        refine thn_exit ?_
        refine inB_here ?_
        refine thn_normal ?_
        refine Wp_seq_region ?_
        refine WpL_val rfl rfl (by decide) (r_loadAgg (vs := [(.int .i64 a.kind), (.slice sa a.set.length sc), (.slice aa a.args.length ac), (.int .i64 a.mn), (.int .i64 a.mx), (.bool a.neg)]) rfl agg27 siz27 rfl (Bo.cells rfl)) ?_
        refine WpL_val rfl rfl (by decide) (r_move (v := (.slice ta text.length tc)) rfl) ?_
        refine WpL_enter rfl rfl (by decide) (r_callF (vs := [(.agg #[(.int .i64 a.kind), (.slice sa a.set.length sc), (.slice aa a.args.length ac), (.int .i64 a.mn), (.int .i64 a.mx), (.bool a.neg)]), (.slice ta text.length tc)]) Tryd.func19 nm19 bd19 rfl) ((rmatch_c _ a _ _ text (ReAt.ext (Xt.trans E3) a hat) (htx.ext E3) (hT.ext E)).mono (R' := fun v w => v = .tuple #[.bool p, .int .i64 0] ∧ Ext _ w) (fun v w h => ⟨by rw [h.1, q1, if_pos rfl, hp], h.2⟩)) ?_
        rintro _ y9 ⟨rfl, Y9⟩
        replace B1 := Y9.keep B1
        replace Bo := Y9.keep Bo
        replace Bk := Y9.keep Bk
        replace Bf := Y9.keep Bf
        replace E := E.ext Y9
        replace E3 := E3.ext Y9
        replace E5 := E5.ext Y9
        refine WpL_val rfl rfl (by decide) (r_move (v := (.tuple #[(.bool p), (.int .i64 0)])) rfl) ?_
        refine WpL_val rfl rfl (by decide) (r_extract (vs := #[(.bool p), (.int .i64 0)]) (v := (.bool p)) rfl rfl) ?_
        refine WpL_val rfl rfl (by decide) (r_extract (vs := #[(.bool p), (.int .i64 0)]) (v := (.int .i64 0)) rfl rfl) ?_
        refine WpL_val rfl rfl (by decide) (r_assign (v := (.bool p)) rfl) ?_
        refine WpL_val rfl rfl (by decide) (r_assign (v := (.int .i64 0)) rfl) ?_
        refine WpL_nil ?_
        refine Wp_seq_region ?_
        refine WpL_val rfl rfl (by decide) (r_loadAgg (vs := [(.int .i64 F.kind), (.slice ga2 F.set.length gc2), (.slice gb2 F.args.length gd2), (.int .i64 F.mn), (.int .i64 F.mx), (.bool F.neg)]) rfl agg27 siz27 rfl (Bf.cells rfl)) ?_
        refine WpL_val rfl rfl (by decide) (r_move (v := (.slice ta text.length tc)) rfl) ?_
        refine WpL_enter rfl rfl (by decide) (r_callF (vs := [(.agg #[(.int .i64 F.kind), (.slice ga2 F.set.length gc2), (.slice gb2 F.args.length gd2), (.int .i64 F.mn), (.int .i64 F.mx), (.bool F.neg)]), (.slice ta text.length tc)]) Tryd.func19 nm19 bd19 rfl) ((rmatch_c _ F _ _ text (ReAt.ext E5 F hFat) (htx.ext E3) (hT.ext E)).mono (R' := fun v w => v = .tuple #[.bool q, .int .i64 0] ∧ Ext _ w) (fun v w h => ⟨by rw [h.1, q2, if_pos rfl, hq], h.2⟩)) ?_
        rintro _ y8 ⟨rfl, Y8⟩
        replace B1 := Y8.keep B1
        replace Bo := Y8.keep Bo
        replace Bk := Y8.keep Bk
        replace Bf := Y8.keep Bf
        replace E := E.ext Y8
        replace E3 := E3.ext Y8
        replace E5 := E5.ext Y8
        refine WpL_val rfl rfl (by decide) (r_move (v := (.tuple #[(.bool q), (.int .i64 0)])) rfl) ?_
        refine WpL_val rfl rfl (by decide) (r_extract (vs := #[(.bool q), (.int .i64 0)]) (v := (.bool q)) rfl rfl) ?_
        refine WpL_val rfl rfl (by decide) (r_extract (vs := #[(.bool q), (.int .i64 0)]) (v := (.int .i64 0)) rfl rfl) ?_
        refine WpL_val rfl rfl (by decide) (r_assign (v := (.bool q)) rfl) ?_
        refine WpL_val rfl rfl (by decide) (r_assign (v := (.int .i64 0)) rfl) ?_
        refine WpL_nil ?_
        refine Wp_seq_region ?_
        refine WpL_val rfl rfl (by decide) (r_loadAgg (vs := [(.int .i64 F.kind), (.slice ga2 F.set.length gc2), (.slice gb2 F.args.length gd2), (.int .i64 F.mn), (.int .i64 F.mx), (.bool F.neg)]) rfl agg27 siz27 rfl (Bf.cells rfl)) ?_
        refine WpL_val rfl rfl (by decide) (r_move (v := (.slice oa text.length oc)) rfl) ?_
        refine WpL_enter rfl rfl (by decide) (r_callF (vs := [(.agg #[(.int .i64 F.kind), (.slice ga2 F.set.length gc2), (.slice gb2 F.args.length gd2), (.int .i64 F.mn), (.int .i64 F.mx), (.bool F.neg)]), (.slice oa text.length oc)]) Tryd.func19 nm19 bd19 rfl) ((rmatch_c _ F _ _ cur (ReAt.ext E5 F hFat) (hoat.ext (Y9.trans Y8)) (hT.ext E)).mono (R' := fun v w => v = .tuple #[.bool q, .int .i64 0] ∧ Ext _ w) (fun v w h => ⟨by rw [h.1, q3, if_pos rfl, q4, hcl, hq], h.2⟩)) ?_
        rintro _ y7 ⟨rfl, Y7⟩
        replace B1 := Y7.keep B1
        replace Bo := Y7.keep Bo
        replace Bk := Y7.keep Bk
        replace Bf := Y7.keep Bf
        replace E := E.ext Y7
        replace E3 := E3.ext Y7
        replace E5 := E5.ext Y7
        refine WpL_val rfl rfl (by decide) (r_move (v := (.tuple #[(.bool q), (.int .i64 0)])) rfl) ?_
        refine WpL_val rfl rfl (by decide) (r_extract (vs := #[(.bool q), (.int .i64 0)]) (v := (.bool q)) rfl rfl) ?_
        refine WpL_val rfl rfl (by decide) (r_extract (vs := #[(.bool q), (.int .i64 0)]) (v := (.int .i64 0)) rfl rfl) ?_
        refine WpL_val rfl rfl (by decide) (r_assign (v := (.bool q)) rfl) ?_
        refine WpL_val rfl rfl (by decide) (r_assign (v := (.int .i64 0)) rfl) ?_
        refine WpL_nil ?_
        refine Wp_seq_region ?_
        refine WpL_val rfl rfl (by decide) (r_move (v := (.int .i64 0)) rfl) ?_
        refine WpL_val rfl rfl (by decide) (r_move (v := (.int .i64 0)) rfl) ?_
        refine WpL_val rfl rfl (by decide) (r_move (v := (.int .i64 0)) rfl) ?_
        refine WpL_val rfl rfl (by decide) (r_move (v := (.int .i64 0)) rfl) ?_
        refine s_buildSlice (ps := [(0, (.int .i64 0)), (1, (.int .i64 0)), (2, (.int .i64 0)), (3, (.int .i64 0))]) (c := #[(.int .i64 0), (.int .i64 0), (.int .i64 0), (.int .i64 0)]) (by decide) rfl Tryd.underlying77 siz34 zer34 (by decide) (by decide) (by kernel_rfl) ?_
        intro bg wg Ng
        have Fg := Ng.ge E
        have Fg_E3 := Ng.ge E3
        have Fg_E5 := Ng.ge E5
        have Og_b1 := Ng.lt B1
        have Og_bo := Ng.lt Bo
        have Og_bk := Ng.lt Bk
        have Og_bf := Ng.lt Bf
        replace B1 := Ng.keep B1
        replace Bo := Ng.keep Bo
        replace Bk := Ng.keep Bk
        replace Bf := Ng.keep Bf
        replace E := E.ext Ng.ext
        have Bg := Ng.blk
        replace E3 := E3.ext Ng.ext
        replace E5 := E5.ext Ng.ext
        refine WpL_enter rfl rfl (by decide) (r_callF (vs := [(.slice (some ⟨bg, 0, none⟩) 4 4)]) Tryd.func20 nm20 bd20 rfl) ((good_c _ _ [0, 0, 0, 0] (ints_of_blk [0, 0, 0, 0] Bg (by simp) (by simp))).mono (R' := fun v w => v = .bool true ∧ Ext wg w) (fun v w h => h)) ?_
        rintro _ y6 ⟨rfl, Y6⟩
        replace B1 := Y6.keep B1
        replace Bo := Y6.keep Bo
        replace Bk := Y6.keep Bk
        replace Bf := Y6.keep Bf
        replace Bg := Y6.keep Bg
        replace E := E.ext Y6
        replace E3 := E3.ext Y6
        replace E5 := E5.ext Y6
        refine WpL_val rfl rfl (by decide) (r_move (v := (.bool true)) rfl) ?_
        refine WpL_guard_yes (oj := _) rfl rfl (by decide) rfl ?_
        refine WpL_val rfl rfl (by decide) (r_move (v := (.bool q)) rfl) ?_
        refine WpL_guard_yes (oj := _) rfl rfl (by decide) rfl ?_
        refine WpL_val rfl rfl (by decide) (r_move (v := (.bool q)) rfl) ?_
        refine WpL_guard_yes (oj := _) rfl rfl (by decide) rfl ?_
        refine WpL_val rfl rfl (by decide) (r_eqlB (p := q) (q := q) Tryd.underlying4 rfl rfl) ?_
        refine WpL_val rfl rfl (by decide) (r_pick (b := true) (v := (.bool (q == q))) rfl rfl) ?_
        obtain ⟨e8, he8⟩ : ∃ e, (q == q) = e := ⟨_, rfl⟩
        refine WpL_val rfl rfl (by decide) (r_move (v := .bool e8) (congrArg Value.bool he8)) ?_
        refine WpL_guard_any (oj := _) (gv := (.bool e8)) (u := (bif e8 then (.bool p) else undef)) rfl rfl (by decide) (by decide) rfl (by cases e8 <;> first | exact Or.inr ⟨Or.inl rfl, rfl⟩ | exact Or.inr ⟨Or.inr rfl, rfl⟩ | exact Or.inl ⟨rfl, r_move (v := (.bool p)) rfl⟩) ?_
        obtain ⟨e9, he9⟩ : ∃ e, (!p) = e := ⟨_, rfl⟩
        refine WpL_guard_any (oj := _) (gv := (.bool e8)) (u := (bif e8 then (.bool e9) else undef)) rfl rfl (by decide) (by decide) rfl (by cases e8 <;> first | exact Or.inr ⟨Or.inl rfl, rfl⟩ | exact Or.inr ⟨Or.inr rfl, rfl⟩ | exact Or.inl ⟨rfl, (r_not (b := p) rfl).trans (by rw [he9]; try rfl)⟩) ?_
        refine WpL_guard_any (oj := _) (gv := (.bool e8)) (u := (bif e8 then (.bool e9) else undef)) rfl rfl (by decide) (by decide) rfl (by cases e8 <;> first | exact Or.inr ⟨Or.inl rfl, rfl⟩ | exact Or.inr ⟨Or.inr rfl, rfl⟩ | exact Or.inl ⟨rfl, r_move (v := (.bool e9)) rfl⟩) ?_
        refine WpL_guard_any (oj := _) (gv := (bif e8 then (.bool e9) else undef)) (u := (bif e8 then (bif e9 then undef else (.bool q)) else undef)) rfl rfl (by decide) (by decide) rfl (by cases e8 <;> cases e9 <;> first | exact Or.inr ⟨Or.inl rfl, rfl⟩ | exact Or.inr ⟨Or.inr rfl, rfl⟩ | exact Or.inl ⟨rfl, r_move (v := (.bool q)) rfl⟩) ?_
        obtain ⟨e10, he10⟩ : ∃ e, (e9 || q) = e := ⟨_, rfl⟩
        refine WpL_guard_any (oj := _) (gv := (.bool e8)) (u := (bif e8 then (.bool e10) else undef)) rfl rfl (by decide) (by decide) rfl (by cases e8 <;> first | exact Or.inr ⟨Or.inl rfl, rfl⟩ | exact Or.inr ⟨Or.inr rfl, rfl⟩ | exact Or.inl ⟨rfl, r_pick (b := e9) (v := .bool e10) rfl (by rw [← he10]; cases e9 <;> rfl)⟩) ?_
        obtain ⟨e11, he11⟩ : ∃ e, (e8 && e10) = e := ⟨_, rfl⟩
        refine WpL_val rfl rfl (by decide) (r_pick (b := e8) (v := .bool e11) rfl (by rw [← he11]; cases e8 <;> rfl)) ?_
        refine WpL_val rfl rfl (by decide) (r_assign (v := (.bool e11)) rfl) ?_
        refine WpL_nil ?_
        subst he11
        subst he10
        subst he9
        subst he8
        refine Wp_ret ?_
        refine fin_tmp Tryd.results4 (v := (.bool ((q == q) && ((!p) || q)))) rfl ?_
        exact ⟨bool_eq (by cases hp' : p <;> cases hq' : q <;> simp_all), E⟩
end Go.Proofs
