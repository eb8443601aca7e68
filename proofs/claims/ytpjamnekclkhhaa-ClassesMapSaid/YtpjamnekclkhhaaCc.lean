/- The law ClassesCoarsest, walked. -/
import Derived.Test.YtpjamnekclkhhaaCb
import Derived.Test.YtpjamnekclkhhaaLf
import Derived.Test.YtpjamnekclkhhaaSj
import Derived.Laws.StructEq
import Derived.ChangeKeysEq
namespace Go.Proofs
open Go Go.Eng Go.Sort
set_option maxRecDepth 100000

abbrev T3 : Nat := 65
theorem run_eq3 (d : Nat) (w : World) (a b c a' b' c' : Bool) : (Op.equalIn (d + 2) T3 (.agg #[.bool a, .bool b, .bool c]) (.agg #[.bool a', .bool b', .bool c'])).run Try.prog w = .ok ((a == a') && ((b == b') && (c == c'))) w := by
  obtain ⟨i, hi⟩ : ∃ i, (Try.prog).info? 4 = some i := by
    have h := siz4
    unfold Siz at h
    cases hh : (Try.prog).info? 4 with
    | none => rw [hh] at h; simp at h
    | some i => exact ⟨i, rfl⟩
  have hc : (Try.prog).cellsOf 4 = 1 := by kernel_rfl
  have hp : (Try.prog).plainKey 4 = true := by kernel_rfl
  have hr : List.range 3 = [0, 1, 2] := rfl
  have hq : ∀ (x y : Bool), (Op.equalIn (d + 1) 4 (.bool x) (.bool y)).run Try.prog w = .ok (x == y) w := fun x y => equalIn_bool d Try.underlying4
  have q0 : ∀ x y z : Bool, (part 4 #[.bool x, .bool y, .bool z] (0 * 1)).run Try.prog w = .ok (.bool x) w := fun x y z => run_part_plain w hp rfl
  have q1 : ∀ x y z : Bool, (part 4 #[.bool x, .bool y, .bool z] (1 * 1)).run Try.prog w = .ok (.bool y) w := fun x y z => run_part_plain w hp rfl
  have q2 : ∀ x y z : Bool, (part 4 #[.bool x, .bool y, .bool z] (2 * 1)).run Try.prog w = .ok (.bool z) w := fun x y z => run_part_plain w hp rfl
  rw [run_equalIn_array w (d + 1) _ _ Try.underlying65 hi, hc, hr]
  cases h1 : (a == a') <;> cases h2 : (b == b') <;> cases h3 : (c == c') <;> simp only [Op.eqItems, Sem.run_bind, q0, q1, q2, hq, h1, h2, h3, Result.andThen_ok, Bool.not_true, Bool.not_false, if_true, Bool.false_eq_true, if_false, Sem.run_pure, Bool.true_and, Bool.false_and]
theorem r_eq3 {σ : Env} {w : World} {dst : Option Tmp} {ty t' : TypeId} {pos : String} {af : Array Edge} {g : Option (Nat × Bool)} {x y : Operand} {a b c a' b' c' : Bool} (hx : ev σ x = .agg #[.bool a, .bool b, .bool c]) (hy : ev σ y = .agg #[.bool a', .bool b', .bool c']) :
    (execOp (ev σ) ⟨dst, .binOp .eql T3 x y t', ty, pos, af, g⟩).run Try.prog w = .ok (.value (.bool ((a == a') && ((b == b') && (c == c'))))) w := by
  have hm : (Try.prog).eqGuardType (Try.prog).depth T3 = false := by kernel_rfl
  simp only [execOp, hx, hy, Sem.run_bind, run_eqGuard_agg w .eql T3 x y _ _ hm, Result.andThen_ok, run_eql_struct, run_eq3 9998]
  rfl
theorem of_nil {out : List (List Sp)} {e : Int} (h : clsP [] out e) : e = 0 ∧ out = [[(0, 1114111)]] := by
  rcases h with ⟨h1, _⟩ | ⟨_, cs, hc, hf⟩
  · exact absurd rfl h1
  · obtain ⟨p, hp, hl, hm⟩ := hc
    have e1 : p = [0] := lt_unique hp.1 (List.pairwise_singleton _ _) fun x => by
      rw [hp.2 x, List.mem_singleton]
      constructor
      · rintro (h | ⟨s, hs, _⟩)
        · exact h
        · cases hs
      · exact .inl
    subst e1
    have e2 : firsts ([(0 : Int)].map (markL [])) = [[]] := by simp [firsts, addF, markL]
    rw [e2] at hl hm
    obtain ⟨c, rfl⟩ : ∃ c, cs = [c] := by
      cases cs with
      | nil => cases hl
      | cons c t => cases t with
        | nil => exact ⟨c, rfl⟩
        | cons d t => simp at hl
    have h3 := hm 0 [] c rfl rfl
    have h4 : c = [(0, 1114111)] := canon_ext h3.1 (Canon.one (by unfold vSp; simp)) fun r r0 r1 => by
      rw [h3.2 r r0 r1, inS_cons, inS_nil]
      show decide (markL [] r = []) = (decide ((0 : Int) ≤ r) && decide (r ≤ 1114111) || false)
      rw [decide_eq_true (show markL [] r = [] from rfl), decide_eq_true r0, decide_eq_true r1]; rfl
    subst h4
    rcases hf with ⟨h5, _⟩ | ⟨_, h5, h6⟩
    · rcases h5 with ⟨c, hc, h6⟩ | h6
      · rw [List.mem_singleton] at hc; subst hc; simp at h6
      · simp at h6
    · exact ⟨h5, h6⟩
theorem of0_c (w0 : World) : Ret Try.prog 40 #[.slice none 0 0] w0 fun r w => (∃ b o c ra rc, r = .tuple #[.slice (some ⟨b, o, none⟩) 1 c, .int .i64 0] ∧ w.cell? ⟨b, o + 0, none⟩ = some (.slice ra 1 rc) ∧ SpansAt w (.slice ra 1 rc) [(0, 1114111)]) ∧ Ext w0 w :=
  (of_c w0 (.slice none 0 0) [] (spss_nil _) (by simp) (by simp)).mono fun r w ⟨⟨out, e, hP, a, c, h1, h2⟩, hx⟩ => by
    obtain ⟨rfl, rfl⟩ := of_nil hP
    refine ⟨?_, hx⟩
    simp only [List.length_cons, List.length_nil, Nat.zero_add] at h1 h2
    obtain ⟨b, o, rfl, hcl⟩ := spss_cells (ll := [[(0, 1114111)]]) h2 (by decide)
    obtain ⟨ra, rc, h3, h4⟩ := hcl 0 _ rfl
    exact ⟨b, o, c, ra, rc, h1, h3, h4⟩
theorem mark_set {ll : List (List Sp)} {k : Nat} {l : List Sp} {x : Int} (h : ll[k]? = some l) (hk : k < 3) : ((((markL (ll.take k) x ++ List.replicate (3 - k) false).map Value.bool).toArray).setIfInBounds k (.bool (inS l x))) = ((markL (ll.take (k + 1)) x ++ List.replicate (3 - (k + 1)) false).map Value.bool).toArray := by
  have hl := lt_of_get h
  have h1 : (markL (ll.take k) x).length = k := by simp [markL]; omega
  rw [take_snoc h, show 3 - k = (3 - (k + 1)) + 1 by omega, List.replicate_succ]
  have e : markL (ll.take k ++ [l]) x = markL (ll.take k) x ++ [inS l x] := by simp [markL]
  rw [e, List.append_assoc]
  apply Array.ext'
  rw [Array.toList_setIfInBounds, List.map_append, List.map_append]
  rw [List.set_append_right _ _ (by simp [h1]), List.length_map, h1, Nat.sub_self]
  rfl
theorem clmark_c (w0 : World) (bs b3 o3 c3 : Nat) (A B C : List Sp) (x : Int) (hB : Blk w0 bs #[.slice (some ⟨b3, o3, none⟩) 3 c3] 53) (h : SpssAt w0 (.slice (some ⟨b3, o3, none⟩) 3 c3) [A, B, C]) (hcan : ∀ l ∈ [A, B, C], Canon l ∧ l.length ≤ 16) (hx : 0 ≤ x ∧ x ≤ 1114111) :
    Ret Try.prog 51 #[.int .i64 x, .pointer (some ⟨bs, 0, none⟩)] w0 fun r w => r = .agg #[.bool (inS A x), .bool (inS B x), .bool (inS C x)] ∧ Ext w0 w := by
  have hlen : [A, B, C].length = 3 := rfl
  obtain ⟨ll, hll⟩ : ∃ ll, ll = [A, B, C] := ⟨_, rfl⟩
  rw [← hll] at h hcan hlen
  refine Ret_of Try.func51 rfl Try.ntmps51 (Nat.le_of_ble_eq_true rfl) ?_
  have E : Chg none1 w0 w0 := Chg.refl _ _
  refine Wp_seq_region ?_
  refine s_alloc (c := #[(.bool false), (.bool false), (.bool false)]) (by decide) zer65 rfl ?_
  intro bq wq Nq
  have Fq := Nq.ge E
  have Oq_bs := Nq.lt hB
  replace hB := Nq.keep hB
  replace E := E.ext Nq.ext
  have Bq := Nq.blk
  refine WpL_nil ?_
  refine Wp_seq ?_
  refine Wp_seq_region ?_
  refine WpL_val rfl rfl (by decide) (r_load (v := (.slice (some ⟨b3, o3, none⟩) 3 c3)) rfl flat53 (hB.cell rfl)) ?_
  refine WpL_val rfl rfl (by decide) (r_lenSlice (ad := some ⟨b3, o3, none⟩) (n := 3) (cap := c3) Try.underlying53 rfl) ?_
  refine WpL_val rfl rfl (by decide) (r_move (v := (.int .i64 0)) rfl) ?_
  refine WpL_nil ?_
  refine Wp_block ?_
  refine Wp_loop (fun nn_ σ W1 => ∃ (k : Nat), (∃ jj_, σ = upds jj_ [(0, (.int .i64 x)), (3, (.pointer (some ⟨bq, 0, none⟩))), (6, (.slice (some ⟨b3, o3, none⟩) 3 c3)), (7, (.int .i64 3)), (8, (.int .i64 ((k : Nat) : Int)))]) ∧ Chg none1 w0 W1 ∧ Blk W1 bs #[(.slice (some ⟨b3, o3, none⟩) 3 c3)] 53 ∧ Blk W1 bq (((markL (ll.take k) x ++ List.replicate (3 - k) false).map Value.bool).toArray) 65 ∧ (k ≤ 3) ∧ nn_ = 3 - k) (n := 3 - 0) ?_ ?_
  · exact ⟨0, Fits.out ⟨rfl, rfl, rfl, rfl, rfl, trivial⟩, E, hB, Bq, Nat.zero_le _, rfl⟩
  · clear E hB Bq
    rintro _ _ W1 ⟨k, ⟨j1, rfl⟩, E, hB, Bq, hk, rfl⟩
    refine Wp_seq_region ?_
    refine WpL_val rfl rfl (by decide) (r_lss (k := .i64) (a := ((k : Nat) : Int)) (b := 3) rfl rfl) ?_
    refine WpL_nil ?_
    refine Wp_seq ?_
    refine Wp_cond (b := decide ((((k : Nat) : Int) : Int) < 3)) rfl (fun hlt => ?_) (fun hlt => ?_)
    · have khlt := hlt
      replace hlt := of_decide_eq_true hlt
      obtain ⟨l, hl⟩ := get_of_lt (l := ll) (i := k) (by omega)
      obtain ⟨b', o', hab, hcl⟩ := spss_cells h (by omega)
      simp only [Option.some.injEq, Addr.mk.injEq, and_true] at hab
      obtain ⟨rfl, rfl⟩ := hab
      obtain ⟨ra, rc, hcell, hsp⟩ := hcl k l hl
      have hlc := hcan l (List.mem_of_getElem? hl)
      refine Wp_skip ?_
      refine thn_normal ?_
      refine Wp_seq ?_
      refine Wp_block ?_
      refine Wp_seq_region ?_
      refine WpL_val rfl rfl (by decide) (r_move (v := (.int .i64 ((k : Nat) : Int))) rfl) ?_
      refine WpL_val rfl rfl (by decide) (r_indexSlice (b := b3) (o := o3) (len := 3) (cap := c3) (i := k) (o' := o3 + k) rfl rfl rfl Try.underlying53 siz23 (by omega) (by omega)) ?_
      refine WpL_val rfl rfl (by decide) (r_load (v := (.slice ra l.length rc)) rfl flat23 (E.cell (fun f => f) hcell)) ?_
      refine WpL_val rfl rfl (by decide) (r_assign (v := (.int .i64 ((k : Nat) : Int))) rfl) ?_
      refine WpL_val rfl rfl (by decide) (r_assign (v := (.slice ra l.length rc)) rfl) ?_
      refine WpL_nil ?_
      refine Wp_region ?_
      refine WpL_val rfl rfl (by decide) (r_move (v := (.int .i64 ((k : Nat) : Int))) rfl) ?_
      refine WpL_val rfl rfl (by decide) (r_move (v := (.slice ra l.length rc)) rfl) ?_
      refine WpL_val rfl rfl (by decide) (r_move (v := (.int .i64 x)) rfl) ?_
      refine WpL_enter rfl rfl (by decide) (r_callF (vs := [(.slice ra l.length rc), (.int .i64 x)]) Try.func14 nm14 bd14 rfl) (has_ok _ _ l x (hsp.ext E) hlc.1 hlc.2 hx) ?_
      rintro _ w9 ⟨rfl, X9⟩
      replace hB := X9.keep hB
      replace Bq := X9.keep Bq
      replace E := E.ext X9
      refine WpL_val rfl rfl (by decide) (r_move (v := (.tuple #[(.bool (inS l x)), (.int .i64 0)])) rfl) ?_
      refine WpL_val rfl rfl (by decide) (r_extract (vs := #[(.bool (inS l x)), (.int .i64 0)]) (v := (.bool (inS l x))) rfl rfl) ?_
      refine WpL_val rfl rfl (by decide) (r_extract (vs := #[(.bool (inS l x)), (.int .i64 0)]) (v := (.int .i64 0)) rfl rfl) ?_
      refine WpL_val rfl rfl (by decide) (r_indexArr (b := bq) (o := 0) (i := k) (o' := k) rfl rfl rfl Try.underlying65 siz4 (by omega) (by omega)) ?_
      refine s_store (b := bq) (o := k) (c' := ((markL (ll.take (k + 1)) x ++ List.replicate (3 - (k + 1)) false).map Value.bool).toArray) (v := (.bool (inS l x))) rfl rfl rfl siz4 Bq (by simp [markL]; omega) (mark_set hl (by omega)) ?_
      intro w3 S3
      replace hB := S3.keep (by omega) hB
      replace E := S3.step E (by first | exact Or.inl (by omega) | exact Or.inr rfl | exact Or.inr (by assumption) | exact Or.inr (by simp) | exact Or.inr (by omega) | exact Or.inr (by dsimp only; omega))
      replace Bq := S3.blk
      refine WpL_nil ?_
      refine inB_normal ?_
      refine thn_normal ?_
      refine Wp_region ?_
      refine WpL_val rfl rfl (by decide) (r_add (k := .i64) (a := ((k : Nat) : Int)) (b := 1) (c := ((k : Nat) : Int) + 1) rfl rfl (wI64 (by omega))) ?_
      refine WpL_val rfl rfl (by decide) (r_move (v := (.int .i64 (((k : Nat) : Int) + 1))) rfl) ?_
      refine WpL_nil ?_
      refine thn_normal ?_
      exact ⟨3 - (k + 1), by omega, k + 1, Fits.out ⟨rfl, rfl, rfl, rfl, rfl, trivial⟩, E, hB, Bq, (by omega), rfl⟩
    · have khlt := hlt
      replace hlt := of_decide_eq_false hlt
      have hk3 : k = 3 := by omega
      rw [hk3, hll] at Bq
      have Bq' : Blk W1 bq #[.bool (inS A x), .bool (inS B x), .bool (inS C x)] T3 := Bq
      clear Bq
      have Bq := Bq'
      refine Wp_exit ?_
      refine thn_exit ?_
      refine thn_exit ?_
      refine inB_here ?_
      refine thn_normal ?_
      refine Wp_seq_region ?_
      refine WpL_val rfl rfl (by decide) (r_loadAgg (vs := [(.bool (inS A x)), (.bool (inS B x)), (.bool (inS C x))]) rfl agg65 siz65 rfl (Bq.cells rfl)) ?_
      refine s_storeAgg (b := bq) (o := 0) (c' := #[(.bool (inS A x)), (.bool (inS B x)), (.bool (inS C x))]) rfl rfl (by simp [Value.oneCell']) siz65 rfl Bq (by simp) rfl ?_
      intro w4 S4
      replace hB := S4.keep (by omega) hB
      replace E := S4.step E (by first | exact Or.inl (by omega) | exact Or.inr rfl | exact Or.inr (by assumption) | exact Or.inr (by simp) | exact Or.inr (by omega) | exact Or.inr (by dsimp only; omega))
      replace Bq := S4.blk
      refine WpL_nil ?_
      refine Wp_ret ?_
      refine fin_agg Try.results51 (vs := [(.bool (inS A x)), (.bool (inS B x)), (.bool (inS C x))]) (b := bq) rfl agg65 siz65 rfl (Bq.cells rfl) ?_
      exact ⟨rfl, E⟩
theorem clAt_some {cs : List (List Sp)} {r : Int} (h : isPart cs) (r0 : 0 ≤ r) (r1 : r ≤ 1114111) : ∃ (k : Nat) (c : List Sp), clAt cs r = ((k : Nat) : Int) ∧ cs[k]? = some c ∧ inS c r = true := by
  have h1 : 0 < cs.countP (fun l => inS l r) := by rw [h r r0 r1]; decide
  have key : ∀ (cs : List (List Sp)), 0 < cs.countP (fun l => inS l r) → ∃ (k : Nat) (c : List Sp), cs[k]? = some c ∧ inS c r = true ∧ ∀ i y, i < k → cs[i]? = some y → inS y r = false := by
    intro cs
    induction cs with
    | nil => intro h; cases h
    | cons a cs ih =>
      intro h
      cases ha : inS a r with
      | true => exact ⟨0, a, rfl, ha, fun i y hi => absurd hi (Nat.not_lt_zero _)⟩
      | false =>
        rw [List.countP_cons, ha] at h
        obtain ⟨k, c, h2, h3, h4⟩ := ih (by simpa using h)
        refine ⟨k + 1, c, h2, h3, fun i y hi hy => ?_⟩
        cases i with
        | zero => simp at hy; subst hy; exact ha
        | succ i => exact h4 i y (by omega) (by simpa using hy)
  obtain ⟨k, c, h2, h3, h4⟩ := key cs h1
  exact ⟨k, c, idx_hit h2 h3 h4, h2, h3⟩
theorem bool3_eq (A B C : List Sp) (x y : Int) : ((inS A x == inS A y) && ((inS B x == inS B y) && (inS C x == inS C y))) = true ↔ markL [A, B, C] x = markL [A, B, C] y := by
  simp [markL]
theorem clsP.ok3 {A B C : List Sp} {out : List (List Sp)} {e : Int} (h : clsP [A, B, C] out e) (hc : ∀ l ∈ [A, B, C], Canon l ∧ l.length ≤ 4) : e = 0 ∧ clsL [A, B, C] out ∧ (∀ c ∈ out, c.length ≤ 16) ∧ out.length ≤ 16 := by
  rcases h with ⟨h1, _⟩ | ⟨_, cs, hcs, hf⟩
  · exact absurd (badE_zero fun l hl => checkE_ok (hc l hl).1 (by have := (hc l hl).2; omega)) h1
  · have a1 := (hc A (by simp)).2
    have a2 := (hc B (by simp)).2
    have a3 := (hc C (by simp)).2
    have hs : ∀ c ∈ cs, c.length ≤ 16 := fun c h => by
      have := hcs.short c h
      simp only [List.flatten_cons, List.flatten_nil, List.length_append, List.length_nil] at this
      omega
    have hn : cs.length ≤ 16 := Nat.le_trans hcs.few (show (allMarks 3).length ≤ 16 by decide)
    rcases hf with ⟨h5, _⟩ | ⟨_, h5, h6⟩
    · rcases h5 with ⟨c, h6, h7⟩ | h6
      · have := hs c h6; omega
      · omega
    · subst h6; exact ⟨h5, hcs, hs, hn⟩
theorem cc_no {cs : List (List Sp)} {A B C ck cr : List Sp} {k kr : Nat} {rr : Int} (hpt : Parted [A, B, C] cs) (hck : cs[k]? = some ck) (hcr : cs[kr]? = some cr) (x1 : 0 ≤ rr) (x2 : rr ≤ 1114111) (hin : inS cr rr = true) :
    (((inS A (headLo ck) == inS A rr) && ((inS B (headLo ck) == inS B rr) && (inS C (headLo ck) == inS C rr))) != decide (((k : Nat) : Int) = ((kr : Nat) : Int))) = false := by
  have hmr := (hpt.mark kr cr rr hcr x1 x2).1 hin
  have h5 := bool3_eq A B C (headLo ck) rr
  cases he : ((inS A (headLo ck) == inS A rr) && ((inS B (headLo ck) == inS B rr) && (inS C (headLo ck) == inS C rr))) with
  | true =>
    have h7 := hpt.inj k kr ck cr hck hcr ((h5.1 he).trans hmr)
    rw [decide_eq_true (show ((k : Nat) : Int) = ((kr : Nat) : Int) by omega)]; rfl
  | false =>
    have hne : k ≠ kr := fun e => by
      rw [e, hcr] at hck
      cases hck
      rw [h5.2 hmr.symm] at he; cases he
    rw [decide_eq_false (show ¬ ((k : Nat) : Int) = ((kr : Nat) : Int) by omega)]; rfl
def fullF : Fct := fun v w => ∃ b, v = .slice (some ⟨b, 0, none⟩) 1 1 ∧ SpansAt w v [(0, 1114111)]
theorem fullF_ext : ∀ v w w', Ext w w' → fullF v w → fullF v w' := by
  rintro v w w' e ⟨b, h1, h2⟩
  exact ⟨b, h1, h2.ext e⟩
theorem part_zero {cs : List (List Sp)} {A B C : List Sp} (h : clsL [A, B, C] cs) (hok : ∀ s ∈ [A, B, C].flatten, vSp s) (hs : ∀ c ∈ cs, c.length ≤ 16) (hn : cs.length ≤ 16) : partE cs = 0 := by
  have hp := h.parted hok
  exact partE_ok (by omega) (badE_zero fun c hc => checkE_ok (hp.can c hc) (hs c hc)) ⟨hp.heads, hp.part⟩
theorem SpssAt.three {w : World} {b : Nat} {x y z : Value} {A B C : List Sp} {T : Nat} (hB : Blk w b #[x, y, z] T) (hx : SpansAt w x A) (hy : SpansAt w y B) (hz : SpansAt w z C) : SpssAt w (.slice (some ⟨b, 0, none⟩) 3 3) [A, B, C] := by
  refine ⟨[x, y, z], ⟨some ⟨b, 0, none⟩, 3, rfl, show (3 : Nat) ≤ 9223372036854775807 by decide, Nat.le_refl 3, .inr ⟨b, 0, rfl, ?_⟩⟩, rfl, ?_⟩
  · intro i r hr j u hu
    rcases i with _ | _ | _ | i <;> simp at hr <;> subst hr <;> (cases j with
      | zero => simp at hu; subst hu; exact hB.cell rfl
      | succ j => simp at hu)
  · intro i u l hu hl
    rcases i with _ | _ | _ | i <;> simp at hu hl <;> subst hu <;> subst hl <;> assumption
theorem of3_c (w0 : World) (v : Value) (A B C : List Sp) (h : SpssAt w0 v [A, B, C]) (hcan : ∀ l ∈ [A, B, C], Canon l ∧ l.length ≤ 4) :
    Ret Try.prog 40 #[v] w0 fun r w => (∃ cs a c, (clsL [A, B, C] cs ∧ (∀ c ∈ cs, c.length ≤ 16) ∧ cs.length ≤ 16) ∧ r = .tuple #[.slice a cs.length c, .int .i64 0] ∧ SpssAt w (.slice a cs.length c) cs) ∧ Ext w0 w := by
  have a1 := (hcan A (by simp)).2
  have a2 := (hcan B (by simp)).2
  have a3 := (hcan C (by simp)).2
  refine (of_c w0 v [A, B, C] h (by simp only [List.flatten_cons, List.flatten_nil, List.length_append, List.length_nil]; omega) (show (3 : Nat) ≤ 1048576 by decide)).mono fun r w ⟨⟨out, e, hP, a, c, h1, h2⟩, hx⟩ => ?_
  obtain ⟨rfl, h3⟩ := hP.ok3 hcan
  exact ⟨⟨out, a, c, h3, h1, h2⟩, hx⟩
set_option maxHeartbeats 4000000 in
theorem coarsest_c (w0 : World) (v1 v2 v3 : Value) (l1 l2 l3 : List Int) (r0 : Int) (h1 : IntsAt w0 v1 l1) (h2 : IntsAt w0 v2 l2) (h3 : IntsAt w0 v3 l3) :
    Ret Try.prog 9 #[v1, v2, v3, .int .i64 r0] w0 fun v w => v = .bool true ∧ Ext w0 w := by
  refine Ret_of Try.func9 rfl Try.ntmps9 (Nat.le_of_ble_eq_true rfl) ?_
  have E : Chg none1 w0 w0 := Chg.refl _ _
  refine Wp_seq_region ?_
  refine WpL_val rfl rfl (by decide) (r_assign (v := (.bool false)) rfl) ?_
  refine WpL_nil ?_
  refine Wp_seq ?_
  refine Wp_seq_region ?_
  refine WpL_enter rfl rfl (by decide) (r_callF (vs := [(.slice none 0 0)]) Try.func40 nm40 bd40 rfl) (of0_c _) ?_
  rintro _ w1 ⟨⟨b, o, c, ra, rc, rfl, hcell, hsp⟩, X1⟩
  replace E := E.ext X1
  refine WpL_val rfl rfl (by decide) (r_move (v := (.tuple #[(.slice (some ⟨b, o, none⟩) 1 c), (.int .i64 0)])) rfl) ?_
  refine WpL_val rfl rfl (by decide) (r_extract (vs := #[(.slice (some ⟨b, o, none⟩) 1 c), (.int .i64 0)]) (v := (.slice (some ⟨b, o, none⟩) 1 c)) rfl rfl) ?_
  refine WpL_val rfl rfl (by decide) (r_extract (vs := #[(.slice (some ⟨b, o, none⟩) 1 c), (.int .i64 0)]) (v := (.int .i64 0)) rfl rfl) ?_
  refine WpL_val rfl rfl (by decide) (r_assign (v := (.slice (some ⟨b, o, none⟩) 1 c)) rfl) ?_
  refine WpL_val rfl rfl (by decide) (r_assign (v := (.int .i64 0)) rfl) ?_
  refine WpL_nil ?_
  refine Wp_seq ?_
  obtain ⟨Fs1, hFs1⟩ : ∃ Fs : List Fact, Fs = [.eq (.int .i64 0), .eq (.bool false), .eq (.bool false), .eq (.slice (some ⟨b, o, none⟩) 1 c), .eq (.int .i64 1), .eq (.bool false), .eq (.bool false), .eq (.bool false), .eq (.slice (some ⟨b, o, none⟩) 1 c), .eq (.pointer (some ⟨b, o + 0, none⟩)), .eq (.slice ra 1 rc), .gen fullF fullF_ext, .eq (.bool true), .eq (.bool false), .eq (.bool false)] := ⟨_, rfl⟩
  refine Wp_dag [24, 25, 26, 27, 28, 29, 30, 31, 32, 33, 34, 35, 36, 37, 38] [[], [0], [1], [2], [2, 3], [2, 4], [2, 5], [2, 6], [7], [7, 8], [7, 9], [7], [7, 10, 11], [7, 12], [7, 13]] Fs1 hFs1 mixed (by kernel_rfl) (by kernel_rfl) ?_ ?_
  · intro wd X0
    refine DagSteps.cons (fun s' w' X U H => Or.inl ⟨?_, ?_⟩) ?_
    · exact Guarded_none rfl
    · exact Does_val (r_move (v := (.int .i64 0)) (U 10 rfl)) (Ext.refl _) rfl
    refine DagSteps.cons (fun s' w' X U H => Or.inl ⟨?_, ?_⟩) ?_
    · exact Guarded_none rfl
    · have e24 : s' 24 = (.int .i64 0) := H 0 rfl 24 (.eq (.int .i64 0)) rfl (by rw [hFs1]; rfl)
      exact Does_val (r_neq (k := .i64) (a := 0) (b := 0) e24 rfl) (Ext.refl _) rfl
    refine DagSteps.cons (fun s' w' X U H => Or.inl ⟨?_, ?_⟩) ?_
    · exact Guarded_none rfl
    · have e25 : s' 25 = (.bool false) := H 1 rfl 25 (.eq (.bool false)) rfl (by rw [hFs1]; rfl)
      exact Does_val (r_move (v := (.bool false)) e25) (Ext.refl _) rfl
    refine DagSteps.cons (fun s' w' X U H => Or.inl ⟨?_, ?_⟩) ?_
    · exact Guarded_some rfl rfl (d := 26) (H 2 rfl 26 (.eq (.bool false)) rfl (by rw [hFs1]; rfl))
    · exact Does_val (r_move (v := (.slice (some ⟨b, o, none⟩) 1 c)) (U 9 rfl)) (Ext.refl _) rfl
    refine DagSteps.cons (fun s' w' X U H => Or.inl ⟨?_, ?_⟩) ?_
    · exact Guarded_some rfl rfl (d := 26) (H 2 rfl 26 (.eq (.bool false)) rfl (by rw [hFs1]; rfl))
    · have e27 : s' 27 = (.slice (some ⟨b, o, none⟩) 1 c) := H 3 rfl 27 (.eq (.slice (some ⟨b, o, none⟩) 1 c)) rfl (by rw [hFs1]; rfl)
      exact Does_val (r_lenSlice (ad := some ⟨b, o, none⟩) (n := 1) (cap := c) Try.underlying53 e27) (Ext.refl _) rfl
    refine DagSteps.cons (fun s' w' X U H => Or.inl ⟨?_, ?_⟩) ?_
    · exact Guarded_some rfl rfl (d := 26) (H 2 rfl 26 (.eq (.bool false)) rfl (by rw [hFs1]; rfl))
    · have e28 : s' 28 = (.int .i64 1) := H 4 rfl 28 (.eq (.int .i64 1)) rfl (by rw [hFs1]; rfl)
      exact Does_val (r_neq (k := .i64) (a := 1) (b := 1) e28 rfl) (Ext.refl _) rfl
    refine DagSteps.cons (fun s' w' X U H => Or.inl ⟨?_, ?_⟩) ?_
    · exact Guarded_none rfl
    · have e26 : s' 26 = (.bool false) := H 2 rfl 26 (.eq (.bool false)) rfl (by rw [hFs1]; rfl)
      have e29 : s' 29 = (.bool false) := H 5 rfl 29 (.eq (.bool false)) rfl (by rw [hFs1]; rfl)
      exact Does_val (r_pick (b := false) (v := (.bool false)) e26 e29) (Ext.refl _) rfl
    refine DagSteps.cons (fun s' w' X U H => Or.inl ⟨?_, ?_⟩) ?_
    · exact Guarded_none rfl
    · have e30 : s' 30 = (.bool false) := H 6 rfl 30 (.eq (.bool false)) rfl (by rw [hFs1]; rfl)
      exact Does_val (r_move (v := (.bool false)) e30) (Ext.refl _) rfl
    refine DagSteps.cons (fun s' w' X U H => Or.inl ⟨?_, ?_⟩) ?_
    · exact Guarded_some rfl rfl (d := 31) (H 7 rfl 31 (.eq (.bool false)) rfl (by rw [hFs1]; rfl))
    · exact Does_val (r_move (v := (.slice (some ⟨b, o, none⟩) 1 c)) (U 9 rfl)) (Ext.refl _) rfl
    refine DagSteps.cons (fun s' w' X U H => Or.inl ⟨?_, ?_⟩) ?_
    · exact Guarded_some rfl rfl (d := 31) (H 7 rfl 31 (.eq (.bool false)) rfl (by rw [hFs1]; rfl))
    · have e32 : s' 32 = (.slice (some ⟨b, o, none⟩) 1 c) := H 8 rfl 32 (.eq (.slice (some ⟨b, o, none⟩) 1 c)) rfl (by rw [hFs1]; rfl)
      exact Does_val (r_indexSlice (b := b) (o := o) (len := 1) (cap := c) (i := 0) (o' := o + 0) e32 rfl rfl Try.underlying53 siz23 (by omega) (by omega)) (Ext.refl _) rfl
    refine DagSteps.cons (fun s' w' X U H => Or.inl ⟨?_, ?_⟩) ?_
    · exact Guarded_some rfl rfl (d := 31) (H 7 rfl 31 (.eq (.bool false)) rfl (by rw [hFs1]; rfl))
    · have e33 : s' 33 = (.pointer (some ⟨b, o + 0, none⟩)) := H 9 rfl 33 (.eq (.pointer (some ⟨b, o + 0, none⟩))) rfl (by rw [hFs1]; rfl)
      exact Does_val (r_load (v := (.slice ra 1 rc)) e33 flat23 ((X0.trans X).cell hcell)) (Ext.refl _) rfl
    refine DagSteps.cons (fun s' w' X U H => Or.inl ⟨?_, ?_⟩) ?_
    · exact Guarded_some rfl rfl (d := 31) (H 7 rfl 31 (.eq (.bool false)) rfl (by rw [hFs1]; rfl))
    · exact Does_enter (r_callF (vs := [(.int .i64 0), (.int .i64 1114111)]) Try.func11 nm11 bd11 (lst2 rfl rfl)) (span_c _ 0 1114111)
    refine DagSteps.cons (fun s' w' X U H => Or.inl ⟨?_, ?_⟩) ?_
    · exact Guarded_some rfl rfl (d := 31) (H 7 rfl 31 (.eq (.bool false)) rfl (by rw [hFs1]; rfl))
    · have e34 : s' 34 = (.slice ra 1 rc) := H 10 rfl 34 (.eq (.slice ra 1 rc)) rfl (by rw [hFs1]; rfl)
      obtain ⟨b35, e35, h35⟩ := H 11 rfl 35 (.gen fullF fullF_ext) rfl (by rw [hFs1]; rfl)
      exact Does_enter (r_callF (vs := [(.slice ra 1 rc), (.slice (some ⟨b35, 0, none⟩) 1 1)]) Try.func17 nm17 bd17 (lst2 e34 e35)) (speq_c _ _ _ [(0, 1114111)] [(0, 1114111)] (hsp.ext (X0.trans X)) (e35 ▸ h35))
    refine DagSteps.cons (fun s' w' X U H => Or.inl ⟨?_, ?_⟩) ?_
    · exact Guarded_some rfl rfl (d := 31) (H 7 rfl 31 (.eq (.bool false)) rfl (by rw [hFs1]; rfl))
    · have e36 : s' 36 = (.bool true) := H 12 rfl 36 (.eq (.bool true)) rfl (by rw [hFs1]; rfl)
      exact Does_val (r_not (b := true) e36) (Ext.refl _) rfl
    refine DagSteps.cons (fun s' w' X U H => Or.inl ⟨?_, ?_⟩) ?_
    · exact Guarded_none rfl
    · have e31 : s' 31 = (.bool false) := H 7 rfl 31 (.eq (.bool false)) rfl (by rw [hFs1]; rfl)
      have e37 : s' 37 = (.bool false) := H 13 rfl 37 (.eq (.bool false)) rfl (by rw [hFs1]; rfl)
      exact Does_val (r_pick (b := false) (v := (.bool false)) e31 e37) (Ext.refl _) rfl
    exact DagSteps.nil
  · intro s' w1 X1 U H
    obtain ⟨j1, rfl⟩ := Fits.out (σ := s') (l := [(0, v1), (1, v2), (2, v3), (3, (.int .i64 r0)), (8, (.bool false)), (38, (.bool false))]) ⟨U 0 rfl, U 1 rfl, U 2 rfl, U 3 rfl, U 8 rfl, (show s' 38 = (.bool false) from H 14 38 (.eq (.bool false)) rfl (by rw [hFs1]; rfl)), trivial⟩
    clear U H
    replace E := E.ext X1
    refine thn_normal ?_
    refine Wp_cond_false rfl ?_
    refine Wp_skip ?_
    refine thn_normal ?_
    refine Wp_seq_region ?_
    refine WpL_val rfl rfl (by decide) (r_move (v := v1) rfl) ?_
    refine WpL_enter rfl rfl (by decide) (r_callF (vs := [v1]) Try.func12 nm12 bd12 rfl) (set_c _ _ l1 (h1.ext E)) ?_
    rintro _ w14 ⟨⟨A, CA, LA, _, ⟨⟨aA, cA, rfl⟩, hA⟩⟩, X14⟩
    replace E := E.ext X14
    refine WpL_val rfl rfl (by decide) (r_move (v := v2) rfl) ?_
    refine WpL_enter rfl rfl (by decide) (r_callF (vs := [v2]) Try.func12 nm12 bd12 rfl) (set_c _ _ l2 (h2.ext E)) ?_
    rintro _ w15 ⟨⟨B, CB, LB, _, ⟨⟨aB, cB, rfl⟩, hB⟩⟩, X15⟩
    replace E := E.ext X15
    refine WpL_val rfl rfl (by decide) (r_move (v := v3) rfl) ?_
    refine WpL_enter rfl rfl (by decide) (r_callF (vs := [v3]) Try.func12 nm12 bd12 rfl) (set_c _ _ l3 (h3.ext E)) ?_
    rintro _ w16 ⟨⟨C, CC, LC, _, ⟨⟨aC, cC, rfl⟩, hC⟩⟩, X16⟩
    replace E := E.ext X16
    replace hA := (hA.ext X15).ext X16
    replace hB := hB.ext X16
    refine s_buildSlice (ps := [(0, (.slice aA A.length cA)), (1, (.slice aB B.length cB)), (2, (.slice aC C.length cC))]) (c := #[(.slice aA A.length cA), (.slice aB B.length cB), (.slice aC C.length cC)]) (by decide) rfl Try.underlying53 siz23 zer23 (by decide) (by decide) (by kernel_rfl) ?_
    intro bq wq Nq
    have Fq := Nq.ge E
    replace E := E.ext Nq.ext
    have Bq := Nq.blk
    refine s_allocStore (v := (.slice (some ⟨bq, 0, none⟩) 3 3)) (c := #[(.slice (some ⟨bq, 0, none⟩) 3 3)]) (n := 1) (by decide) zer53 rfl siz53 rfl rfl rfl (by simp [Value.oneCell']) ?_
    intro bs ws Ns
    have Fs := Ns.ge E
    have Os_bq := Ns.lt Bq
    replace Bq := Ns.keep Bq
    replace E := E.ext Ns.ext
    have Bs := Ns.blk
    refine WpL_nil ?_
    refine Wp_seq_region ?_
    refine WpL_val rfl rfl (by decide) (r_load (v := (.slice (some ⟨bq, 0, none⟩) 3 3)) rfl flat53 (Bs.cell rfl)) ?_
    have hS := SpssAt.three Bq (hA.ext (Nq.ext.trans Ns.ext)) (hB.ext (Nq.ext.trans Ns.ext)) (hC.ext (Nq.ext.trans Ns.ext))
    have hcan : ∀ l ∈ [A, B, C], Canon l ∧ l.length ≤ 4 := by intro l hl; simp at hl; rcases hl with rfl | rfl | rfl; exact ⟨CA, LA⟩; exact ⟨CB, LB⟩; exact ⟨CC, LC⟩
    have hcan16 : ∀ l ∈ [A, B, C], Canon l ∧ l.length ≤ 16 := fun l hl => ⟨(hcan l hl).1, by have := (hcan l hl).2; omega⟩
    have hok : ∀ s ∈ [A, B, C].flatten, vSp s := fun s hs => by obtain ⟨l, hl, hs⟩ := List.mem_flatten.1 hs; exact (hcan l hl).1.ok s hs
    refine WpL_enter rfl rfl (by decide) (r_callF (vs := [(.slice (some ⟨bq, 0, none⟩) 3 3)]) Try.func40 nm40 bd40 rfl) (of3_c _ _ A B C hS hcan) ?_
    rintro _ w17 ⟨⟨cs, a9, c9, ⟨hcls, hsh, hfew⟩, rfl, h9⟩, X17⟩
    replace Bq := X17.keep Bq
    replace Bs := X17.keep Bs
    replace E := E.ext X17
    have hp0 := part_zero hcls hok hsh hfew
    have hpt := hcls.parted hok
    replace hS := hS.ext X17
    refine WpL_val rfl rfl (by decide) (r_move (v := (.tuple #[(.slice a9 cs.length c9), (.int .i64 0)])) rfl) ?_
    refine WpL_val rfl rfl (by decide) (r_extract (vs := #[(.slice a9 cs.length c9), (.int .i64 0)]) (v := (.slice a9 cs.length c9)) rfl rfl) ?_
    refine WpL_val rfl rfl (by decide) (r_extract (vs := #[(.slice a9 cs.length c9), (.int .i64 0)]) (v := (.int .i64 0)) rfl rfl) ?_
    refine WpL_val rfl rfl (by decide) (r_assign (v := (.slice a9 cs.length c9)) rfl) ?_
    refine WpL_val rfl rfl (by decide) (r_assign (v := (.int .i64 0)) rfl) ?_
    refine WpL_nil ?_
    refine Wp_seq ?_
    refine Wp_seq_region ?_
    refine WpL_val rfl rfl (by decide) (r_move (v := (.int .i64 0)) rfl) ?_
    refine WpL_val rfl rfl (by decide) (r_neq (k := .i64) (a := 0) (b := 0) rfl rfl) ?_
    refine WpL_val rfl rfl (by decide) (r_move (v := (.bool false)) rfl) ?_
    refine WpL_guard_yes (oj := _) rfl rfl (by decide) rfl ?_
    refine WpL_val rfl rfl (by decide) (r_move (v := (.slice a9 cs.length c9)) rfl) ?_
    refine WpL_guard_yes (oj := _) rfl rfl (by decide) rfl ?_
    refine WpL_enter rfl rfl (by decide) (r_callF (vs := [(.slice a9 cs.length c9)]) Try.func49 nm49 bd49 rfl) (part_c _ _ cs h9) ?_
    rintro _ w18 ⟨rfl, X18⟩
    replace Bq := X18.keep Bq
    replace Bs := X18.keep Bs
    replace E := E.ext X18
    refine WpL_guard_yes (oj := _) rfl rfl (by decide) rfl ?_
    refine WpL_val rfl rfl (by decide) (r_neq (k := .i64) (a := partE cs) (b := 0) rfl rfl) ?_
    refine WpL_val rfl rfl (by decide) (r_pick (b := false) (v := (.bool (decide ((partE cs : Int) ≠ 0)))) rfl rfl) ?_
    refine WpL_nil ?_
    have hc2 : (decide ((partE cs : Int) ≠ 0)) = false := by rw [hp0]; rfl
    refine Wp_cond_false (congrArg Value.bool hc2) ?_
    refine Wp_skip ?_
    refine thn_normal ?_
    refine Wp_seq_region ?_
    refine WpL_val rfl rfl (by decide) (r_move (v := (.slice a9 cs.length c9)) rfl) ?_
    replace hS := hS.ext X18
    replace h9 := h9.ext X18
    refine WpL_enter rfl rfl (by decide) (r_callF (vs := [(.slice a9 cs.length c9)]) Try.func46 nm46 bd46 rfl) (least_c _ _ cs h9) ?_
    rintro _ w19 ⟨⟨aL, cL, rfl, hL⟩, X19⟩
    replace Bq := X19.keep Bq
    replace Bs := X19.keep Bs
    replace E := E.ext X19
    have hlp : leastP cs = leastL cs := by unfold leastP; rw [if_pos hp0]
    have hll : (leastP cs).length = cs.length := by rw [hlp]; simp [leastL]
    replace hS := hS.ext X19
    replace h9 := h9.ext X19
    have x1 := Int.emod_nonneg r0 (b := 1200) (by decide)
    have x2 := Int.emod_lt_of_pos r0 (b := 1200) (by decide)
    refine WpL_val rfl rfl (by decide) (r_move (v := (.tuple #[(.slice aL ((leastP cs).length) cL), (.int .i64 (partE cs))])) rfl) ?_
    refine WpL_val rfl rfl (by decide) (r_extract (vs := #[(.slice aL ((leastP cs).length) cL), (.int .i64 (partE cs))]) (v := (.slice aL ((leastP cs).length) cL)) rfl rfl) ?_
    refine WpL_val rfl rfl (by decide) (r_extract (vs := #[(.slice aL ((leastP cs).length) cL), (.int .i64 (partE cs))]) (v := (.int .i64 (partE cs))) rfl rfl) ?_
    refine WpL_val rfl rfl (by decide) (r_assign (v := (.slice aL ((leastP cs).length) cL)) rfl) ?_
    refine WpL_val rfl rfl (by decide) (r_assign (v := (.int .i64 (partE cs))) rfl) ?_
    refine WpL_nil ?_
    refine Wp_seq_region ?_
    refine WpL_val rfl rfl (by decide) (r_move (v := (.int .i64 r0)) rfl) ?_
    refine WpL_enter rfl rfl (by decide) (r_callF (vs := [(.int .i64 r0), (.int .i64 1200)]) Try.func13 nm13 bd13 rfl) (below_c r0 1200 (by decide) (by decide) _) ?_
    rintro _ w20 ⟨rfl, rfl⟩
    obtain ⟨rr, hrr⟩ : ∃ rr, rr = r0 % 1200 := ⟨_, rfl⟩
    rw [← hrr] at x1 x2 ⊢
    obtain ⟨kr, cr, hkr, hcr, hinr⟩ := clAt_some hpt.part (r := rr) x1 (by omega)
    have hix : idxE cs rr = 0 := by unfold idxE; rw [if_neg (by simp [hp0]), show runeB rr = true by unfold runeB; simp; omega]; rfl
    refine WpL_val rfl rfl (by decide) (r_assign (v := (.int .i64 rr)) rfl) ?_
    refine WpL_nil ?_
    refine Wp_seq_region ?_
    refine WpL_val rfl rfl (by decide) (r_move (v := (.slice a9 cs.length c9)) rfl) ?_
    refine WpL_val rfl rfl (by decide) (r_move (v := (.int .i64 rr)) rfl) ?_
    refine WpL_enter rfl rfl (by decide) (r_callF (vs := [(.slice a9 cs.length c9), (.int .i64 rr)]) Try.func48 nm48 bd48 rfl) ((index_c _ _ cs rr h9).mono (fun v w ⟨h1, h2⟩ => ⟨by rw [h1, hix, if_pos rfl, hkr], h2⟩ : ∀ v w, _ → v = .tuple #[.int .i64 ((kr : Nat) : Int), .int .i64 0] ∧ Ext _ w)) ?_
    rintro _ w21 ⟨rfl, X21⟩
    replace Bq := X21.keep Bq
    replace Bs := X21.keep Bs
    replace E := E.ext X21
    replace hS := hS.ext X21
    replace hL := SlAt.ext hL X21
    have hkl := lt_of_get hcr
    refine WpL_val rfl rfl (by decide) (r_move (v := (.tuple #[(.int .i64 ((kr : Nat) : Int)), (.int .i64 0)])) rfl) ?_
    refine WpL_val rfl rfl (by decide) (r_extract (vs := #[(.int .i64 ((kr : Nat) : Int)), (.int .i64 0)]) (v := (.int .i64 ((kr : Nat) : Int))) rfl rfl) ?_
    refine WpL_val rfl rfl (by decide) (r_extract (vs := #[(.int .i64 ((kr : Nat) : Int)), (.int .i64 0)]) (v := (.int .i64 0)) rfl rfl) ?_
    refine WpL_val rfl rfl (by decide) (r_assign (v := (.int .i64 ((kr : Nat) : Int))) rfl) ?_
    refine WpL_val rfl rfl (by decide) (r_assign (v := (.int .i64 0)) rfl) ?_
    refine WpL_nil ?_
    refine Wp_seq ?_
    refine Wp_seq_region ?_
    refine WpL_val rfl rfl (by decide) (r_move (v := (.int .i64 (partE cs))) rfl) ?_
    refine WpL_val rfl rfl (by decide) (r_neq (k := .i64) (a := partE cs) (b := 0) rfl rfl) ?_
    refine WpL_val rfl rfl (by decide) (r_move (v := (.bool (decide ((partE cs : Int) ≠ 0)))) rfl) ?_
    refine WpL_guard_yes (oj := _) rfl rfl (by decide) (congrArg Value.bool hc2) ?_
    refine WpL_val rfl rfl (by decide) (r_move (v := (.int .i64 0)) rfl) ?_
    refine WpL_guard_yes (oj := _) rfl rfl (by decide) (congrArg Value.bool hc2) ?_
    refine WpL_val rfl rfl (by decide) (r_neq (k := .i64) (a := 0) (b := 0) rfl rfl) ?_
    refine WpL_val rfl rfl (by decide) (r_pick (b := decide ((partE cs : Int) ≠ 0)) (v := (.bool false)) rfl (by rw [hc2]; rfl)) ?_
    refine WpL_val rfl rfl (by decide) (r_move (v := (.bool false)) rfl) ?_
    refine WpL_guard_yes (oj := _) rfl rfl (by decide) rfl ?_
    refine WpL_val rfl rfl (by decide) (r_move (v := (.slice aL ((leastP cs).length) cL)) rfl) ?_
    refine WpL_guard_yes (oj := _) rfl rfl (by decide) rfl ?_
    refine WpL_val rfl rfl (by decide) (r_lenSlice (ad := aL) (n := (leastP cs).length) (cap := cL) Try.underlying22 rfl) ?_
    refine WpL_guard_yes (oj := _) rfl rfl (by decide) rfl ?_
    refine WpL_val rfl rfl (by decide) (r_move (v := (.slice a9 cs.length c9)) rfl) ?_
    refine WpL_guard_yes (oj := _) rfl rfl (by decide) rfl ?_
    refine WpL_val rfl rfl (by decide) (r_lenSlice (ad := a9) (n := cs.length) (cap := c9) Try.underlying53 rfl) ?_
    refine WpL_guard_yes (oj := _) rfl rfl (by decide) rfl ?_
    refine WpL_val rfl rfl (by decide) (r_neq (k := .i64) (a := (((leastP cs).length : Nat) : Int)) (b := ((cs.length : Nat) : Int)) rfl rfl) ?_
    refine WpL_val rfl rfl (by decide) (r_pick (b := false) (v := (.bool (decide (((((leastP cs).length : Nat) : Int) : Int) ≠ ((cs.length : Nat) : Int))))) rfl rfl) ?_
    refine WpL_val rfl rfl (by decide) (r_move (v := (.bool (decide (((((leastP cs).length : Nat) : Int) : Int) ≠ ((cs.length : Nat) : Int))))) rfl) ?_
    have hg3 : (decide (((((leastP cs).length : Nat) : Int) : Int) ≠ ((cs.length : Nat) : Int))) = false := decide_eq_false (by omega)
    refine WpL_guard_yes (oj := _) rfl rfl (by decide) (congrArg Value.bool hg3) ?_
    refine WpL_val rfl rfl (by decide) (r_move (v := (.int .i64 ((kr : Nat) : Int))) rfl) ?_
    refine WpL_guard_yes (oj := _) rfl rfl (by decide) (congrArg Value.bool hg3) ?_
    refine WpL_val rfl rfl (by decide) (r_lss (k := .i64) (a := ((kr : Nat) : Int)) (b := 0) rfl rfl) ?_
    refine WpL_val rfl rfl (by decide) (r_pick (b := decide (((((leastP cs).length : Nat) : Int) : Int) ≠ ((cs.length : Nat) : Int))) (v := (.bool (decide ((((kr : Nat) : Int) : Int) < 0)))) rfl (by rw [hg3]; rfl)) ?_
    refine WpL_val rfl rfl (by decide) (r_move (v := (.bool (decide ((((kr : Nat) : Int) : Int) < 0)))) rfl) ?_
    have hg4 : (decide ((((kr : Nat) : Int) : Int) < 0)) = false := decide_eq_false (by omega)
    refine WpL_guard_yes (oj := _) rfl rfl (by decide) (congrArg Value.bool hg4) ?_
    refine WpL_val rfl rfl (by decide) (r_move (v := (.int .i64 ((kr : Nat) : Int))) rfl) ?_
    refine WpL_guard_yes (oj := _) rfl rfl (by decide) (congrArg Value.bool hg4) ?_
    refine WpL_val rfl rfl (by decide) (r_move (v := (.slice a9 cs.length c9)) rfl) ?_
    refine WpL_guard_yes (oj := _) rfl rfl (by decide) (congrArg Value.bool hg4) ?_
    refine WpL_val rfl rfl (by decide) (r_lenSlice (ad := a9) (n := cs.length) (cap := c9) Try.underlying53 rfl) ?_
    refine WpL_guard_yes (oj := _) rfl rfl (by decide) (congrArg Value.bool hg4) ?_
    refine WpL_val rfl rfl (by decide) (r_geq (k := .i64) (a := ((kr : Nat) : Int)) (b := ((cs.length : Nat) : Int)) rfl rfl) ?_
    refine WpL_val rfl rfl (by decide) (r_pick (b := decide ((((kr : Nat) : Int) : Int) < 0)) (v := (.bool (decide ((((cs.length : Nat) : Int) : Int) ≤ ((kr : Nat) : Int))))) rfl (by rw [hg4]; rfl)) ?_
    refine WpL_nil ?_
    have hc5 : (decide ((((cs.length : Nat) : Int) : Int) ≤ ((kr : Nat) : Int))) = false := decide_eq_false (by omega)
    refine Wp_cond_false (congrArg Value.bool hc5) ?_
    refine Wp_skip ?_
    refine thn_normal ?_
    refine Wp_seq_region ?_
    refine WpL_val rfl rfl (by decide) (r_makeFunc (vs := []) (us := [(.pointer (some ⟨bs, 0, none⟩))]) rfl rfl) ?_
    refine WpL_val rfl rfl (by decide) (r_assign (v := (.func (.func 51) #[] #[(.pointer (some ⟨bs, 0, none⟩))])) rfl) ?_
    refine WpL_nil ?_
    refine Wp_seq ?_
    refine Wp_seq_region ?_
    refine WpL_val rfl rfl (by decide) (r_move (v := (.slice aL ((leastP cs).length) cL)) rfl) ?_
    refine WpL_val rfl rfl (by decide) (r_lenSlice (ad := aL) (n := (leastP cs).length) (cap := cL) Try.underlying22 rfl) ?_
    refine WpL_val rfl rfl (by decide) (r_move (v := (.int .i64 0)) rfl) ?_
    refine WpL_nil ?_
    refine Wp_block ?_
    refine Wp_loop (fun nn_ σ W6 => ∃ (k : Nat), (∃ jj_, σ = upds jj_ [(3, (.int .i64 rr)), (15, (.int .i64 ((kr : Nat) : Int))), (17, (.func (.func 51) #[] #[(.pointer (some ⟨bs, 0, none⟩))])), (95, (.slice aL ((leastP cs).length) cL)), (96, (.int .i64 (((leastP cs).length : Nat) : Int))), (97, (.int .i64 ((k : Nat) : Int)))]) ∧ Chg none1 w0 W6 ∧ Blk W6 bq #[(.slice aA A.length cA), (.slice aB B.length cB), (.slice aC C.length cC)] 23 ∧ Blk W6 bs #[(.slice (some ⟨bq, 0, none⟩) 3 3)] 53 ∧ (k ≤ cs.length) ∧ (SlAt W6 1 (.slice aL (leastP cs).length cL) ((leastP cs).map intV)) ∧ (SpssAt W6 (.slice (some ⟨bq, 0, none⟩) 3 3) [A, B, C]) ∧ nn_ = cs.length - k) (n := cs.length - 0) ?_ ?_
    · exact ⟨0, Fits.out ⟨rfl, rfl, rfl, rfl, rfl, rfl, trivial⟩, E, Bq, Bs, Nat.zero_le _, hL, hS, rfl⟩
    · clear E Bq Bs
      rintro _ _ W6 ⟨k, ⟨j6, rfl⟩, E, Bq, Bs, hk, hL, hS, rfl⟩
      refine Wp_seq_region ?_
      refine WpL_val rfl rfl (by decide) (r_lss (k := .i64) (a := ((k : Nat) : Int)) (b := (((leastP cs).length : Nat) : Int)) rfl rfl) ?_
      refine WpL_nil ?_
      refine Wp_seq ?_
      refine Wp_cond (b := decide ((((k : Nat) : Int) : Int) < (((leastP cs).length : Nat) : Int))) rfl (fun hlt => ?_) (fun hlt => ?_)
      · have khlt := hlt
        replace hlt := of_decide_eq_true hlt
        obtain ⟨ck, hck⟩ := get_of_lt (l := cs) (i := k) (by omega)
        have hlk : (leastP cs)[k]? = some (headLo ck) := by rw [hlp]; unfold leastL; rw [List.getElem?_map, hck]; rfl
        have hlow := hpt.low ck (List.mem_of_getElem? hck)
        obtain ⟨b8, o8, rfl, hcl8⟩ := ints_cells (l := leastP cs) hL (by omega)
        refine Wp_skip ?_
        refine thn_normal ?_
        refine Wp_seq ?_
        refine Wp_block ?_
        refine Wp_seq_region ?_
        refine WpL_val rfl rfl (by decide) (r_move (v := (.int .i64 ((k : Nat) : Int))) rfl) ?_
        refine WpL_val rfl rfl (by decide) (r_indexSlice (b := b8) (o := o8) (len := (leastP cs).length) (cap := cL) (i := k) (o' := o8 + k) rfl rfl rfl Try.underlying22 siz3 (by omega) (by omega)) ?_
        refine WpL_val rfl rfl (by decide) (r_load (v := (.int .i64 (headLo ck))) rfl flat3 (hcl8 k _ hlk)) ?_
        refine WpL_val rfl rfl (by decide) (r_assign (v := (.int .i64 ((k : Nat) : Int))) rfl) ?_
        refine WpL_val rfl rfl (by decide) (r_assign (v := (.int .i64 (headLo ck))) rfl) ?_
        refine WpL_nil ?_
        refine Wp_seq_region ?_
        refine WpL_val rfl rfl (by decide) (r_move (v := (.func (.func 51) #[] #[(.pointer (some ⟨bs, 0, none⟩))])) rfl) ?_
        refine WpL_val rfl rfl (by decide) (r_move (v := (.int .i64 (headLo ck))) rfl) ?_
        refine WpL_enter rfl rfl (by decide) (r_callV (first := #[]) (cap := #[(.pointer (some ⟨bs, 0, none⟩))]) (vs := [(.int .i64 (headLo ck))]) (ws := #[(.int .i64 (headLo ck)), (.pointer (some ⟨bs, 0, none⟩))]) rfl Try.func51 nm51 bd51 rfl rfl) (clmark_c _ bs bq 0 3 A B C (headLo ck) Bs hS hcan16 hlow) ?_
        rintro _ w31 ⟨rfl, X31⟩
        replace Bq := X31.keep Bq
        replace Bs := X31.keep Bs
        replace E := E.ext X31
        refine WpL_val rfl rfl (by decide) (r_move (v := (.func (.func 51) #[] #[(.pointer (some ⟨bs, 0, none⟩))])) rfl) ?_
        refine WpL_val rfl rfl (by decide) (r_move (v := (.int .i64 rr)) rfl) ?_
        refine WpL_enter rfl rfl (by decide) (r_callV (first := #[]) (cap := #[(.pointer (some ⟨bs, 0, none⟩))]) (vs := [(.int .i64 rr)]) (ws := #[(.int .i64 rr), (.pointer (some ⟨bs, 0, none⟩))]) rfl Try.func51 nm51 bd51 rfl rfl) (clmark_c _ bs bq 0 3 A B C rr Bs (hS.ext X31) hcan16 ⟨x1, by omega⟩) ?_
        rintro _ w32 ⟨rfl, X32⟩
        replace Bq := X32.keep Bq
        replace Bs := X32.keep Bs
        replace E := E.ext X32
        refine WpL_val (v := (.bool ((inS A (headLo ck) == inS A rr) && ((inS B (headLo ck) == inS B rr) && (inS C (headLo ck) == inS C rr))))) rfl rfl (by decide) (r_eq3 rfl rfl) ?_
        refine WpL_val rfl rfl (by decide) (r_move (v := (.int .i64 ((k : Nat) : Int))) rfl) ?_
        refine WpL_val rfl rfl (by decide) (r_move (v := (.int .i64 ((kr : Nat) : Int))) rfl) ?_
        refine WpL_val rfl rfl (by decide) (r_eql (k := .i64) (a := ((k : Nat) : Int)) (b := ((kr : Nat) : Int)) rfl rfl) ?_
        refine WpL_val rfl rfl (by decide) (r_neqB (p := (inS A (headLo ck) == inS A rr) && ((inS B (headLo ck) == inS B rr) && (inS C (headLo ck) == inS C rr))) (q := decide ((((k : Nat) : Int) : Int) = ((kr : Nat) : Int))) Try.underlying4 rfl rfl) ?_
        refine WpL_nil ?_
        have hc8 : (((inS A (headLo ck) == inS A rr) && ((inS B (headLo ck) == inS B rr) && (inS C (headLo ck) == inS C rr))) != (decide ((((k : Nat) : Int) : Int) = ((kr : Nat) : Int)))) = false := cc_no hpt hck hcr x1 (by omega) hinr
        refine Wp_cond_false (congrArg Value.bool hc8) ?_
        refine Wp_skip ?_
        refine inB_normal ?_
        refine thn_normal ?_
        refine Wp_region ?_
        refine WpL_val rfl rfl (by decide) (r_add (k := .i64) (a := ((k : Nat) : Int)) (b := 1) (c := ((k : Nat) : Int) + 1) rfl rfl (wI64 (by omega))) ?_
        refine WpL_val rfl rfl (by decide) (r_move (v := (.int .i64 (((k : Nat) : Int) + 1))) rfl) ?_
        refine WpL_nil ?_
        refine thn_normal ?_
        exact ⟨cs.length - (k + 1), by omega, k + 1, Fits.out ⟨rfl, rfl, rfl, rfl, rfl, rfl, trivial⟩, E, Bq, Bs, (by omega), (SlAt.ext hL (X31.trans X32)), hS.ext (X31.trans X32), rfl⟩
      · have khlt := hlt
        replace hlt := of_decide_eq_false hlt
        refine Wp_exit ?_
        refine thn_exit ?_
        refine thn_exit ?_
        refine inB_here ?_
        refine thn_normal ?_
        refine Wp_seq_region ?_
        refine WpL_val rfl rfl (by decide) (r_assign (v := (.bool true)) rfl) ?_
        refine WpL_nil ?_
        refine Wp_ret ?_
        refine fin_tmp Try.results9 (v := (.bool true)) rfl ?_
        exact ⟨rfl, E⟩
end Go.Proofs
