/- Contracts and plain lemmas, part 7. -/
import Derived.Tactics
import Derived.Deep.Quiet
import Derived.Laws.AppendOwn
import Derived.KernelRfl
import Derived.Laws.Entries
import Derived.Laws.Build
import Derived.Below
import Derived.RowKit3
import Derived.StillTail
import Derived.Sort.Grow
import Derived.Deep.Draws
import Derived.Test.YtgifkdbbgffemaaChecked
import Derived.Laws.StructEq
import Derived.MapKept
import Derived.Laws.BytesArg
import Derived.DeepKeys3
import Derived.OpenShut
import Derived.ChangeSlices
import Derived.Test.YtgifkdbbgffemaaRows
import Derived.Test.YtgifkdbbgffemaaCl6
namespace Go.Proofs
open Go Go.Eng Go.Sort
set_option maxRecDepth 100000
abbrev fndQ (q : Nat × Nat × Grp) : List Value := fndV (q.1 : Int) (q.2.1 : Int) q.2.2
def nextP (q : Nat × Nat × Grp) : Nat := if q.1 = q.2.1 then q.2.1 + 1 else q.2.1
def allF (text : List Int) (r : Re) : Nat → Nat → List (Nat × Nat × Grp)
  | 0, _ => []
  | n + 1, pos => match fromO text r pos with
    | none => []
    | some q => q :: allF text r n (nextP q)
theorem allF_none {text : List Int} {r : Re} {pos : Nat} (h : fromO text r pos = none) (n : Nat) : allF text r n pos = [] := by
  cases n with
  | zero => rfl
  | succ n => simp only [allF, h]
theorem allF_some {text : List Int} {r : Re} {pos n : Nat} {q : Nat × Nat × Grp} (h : fromO text r pos = some q) : allF text r (n + 1) pos = q :: allF text r n (nextP q) := by simp only [allF, h]
/-- All matches. -/
def allP (t : Re) (text : List Int) : List (Nat × Nat × Grp) := if capP t text ≠ 0 then [] else allF text t (text.length + 2) 0
theorem fromO_ok {text : List Int} {r : Re} : ∀ (n i : Nat), text.length + 1 - i ≤ n → ∀ q, fromO text r i = some q → i ≤ q.1 ∧ q.1 ≤ q.2.1 ∧ q.2.1 ≤ text.length ∧ q.2.2.length = 10
  | 0, i, h, q, hq => by
    rw [fromO, if_neg (by omega)] at hq
    cases hq
  | n + 1, i, h, q, hq => by
    rw [fromO] at hq
    by_cases h1 : i ≤ text.length
    · rw [if_pos h1] at hq
      cases h2 : (crsOf text r i G0).head? with
      | none =>
        rw [h2] at hq
        obtain ⟨a, b⟩ := fromO_ok n (i + 1) (by omega) q hq
        exact ⟨by omega, b⟩
      | some u =>
        rw [h2] at hq
        have := crsOf_ok text r i G0 h1 u (List.mem_of_mem_head? (by rw [h2]; rfl))
        cases hq
        exact ⟨Nat.le_refl _, this.1, this.2.1, by rw [this.2.2]; rfl⟩
    · rw [if_neg h1] at hq; cases hq
theorem nextP_lt {i : Nat} {q : Nat × Nat × Grp} {k : Nat} (h : i ≤ q.1 ∧ q.1 ≤ q.2.1 ∧ q.2.1 ≤ k) : i + 1 ≤ nextP q ∧ nextP q ≤ k + 1 := by
 unfold nextP; split <;> omega
theorem ten {α : Type} {G : List α} (h : G.length = 10) : ∃ a b c d e f g i j k, G = [a, b, c, d, e, f, g, i, j, k] := by
  match G, h with
  | [a, b, c, d, e, f, g, i, j, k], _ => exact ⟨a, b, c, d, e, f, g, i, j, k, rfl⟩
theorem fnd22 {o : Option (Nat × Nat × Grp)} (h : (fndO o).length = 22) : ∃ x0 x1 x2 x3 x4 x5 x6 x7 x8 x9 x10 x11 x12 x13 x14 x15 x16 x17 x18 x19 x20 x21 : Int, fndO o = [.int .i64 x0, .int .i64 x1, .int .i64 x2, .int .i64 x3, .int .i64 x4, .int .i64 x5, .int .i64 x6, .int .i64 x7, .int .i64 x8, .int .i64 x9, .int .i64 x10, .int .i64 x11, .int .i64 x12, .int .i64 x13, .int .i64 x14, .int .i64 x15, .int .i64 x16, .int .i64 x17, .int .i64 x18, .int .i64 x19, .int .i64 x20, .int .i64 x21] := by
  cases o with
  | none => exact ⟨_, _, _, _, _, _, _, _, _, _, _, _, _, _, _, _, _, _, _, _, _, _, rfl⟩
  | some q =>
    obtain ⟨f, t, G⟩ := q
    have hG : G.length = 10 := by
      simp only [fndO, fndV, List.length_append, grpV_len, List.length_cons, List.length_nil] at h
      omega
    obtain ⟨a, b, c, d, e, g, h, i, j, k, rfl⟩ := ten hG
    exact ⟨_, _, _, _, _, _, _, _, _, _, _, _, _, _, _, _, _, _, _, _, _, _, rfl⟩
theorem fndQ_len {q : Nat × Nat × Grp} (h : q.2.2.length = 10) : (fndQ q).length = 22 := fnd_len _ _ h
set_option maxHeartbeats 4000000 in
theorem all_c (w0 : World) (t : Re) (vs : List Value) (v : Value) (text : List Int) (ht : ReAt w0 t vs) (htx : IntsAt w0 v text) :
  Ret Try.prog 11 #[.agg vs.toArray, v] w0 fun r w => ∃ a c, r = .tuple #[.slice a (allP t text).length c, .int .i64 (capP t text)] ∧ SlAt w 22 (.slice a (allP t text).length c) ((allP t text).map fndQ) ∧ Ext w0 w := by
 have ht0 := ht
 obtain ⟨sa, sc, aa, ac, rfl, hset, hlen, hargs⟩ := ht.form
 obtain ⟨ta, tc, rfl⟩ := SlAt.form htx
 simp only [List.length_map] at htx ⊢
 refine Ret_of Try.func11 rfl Try.ntmps11 (Nat.le_of_ble_eq_true rfl) ?_
 have E : Chg none1 w0 w0 := Chg.refl _ _
 refine Wp_seq_region ?_
 refine s_box (v := (.agg (R6 t sa sc aa ac))) (c := (R6 t sa sc aa ac)) (by decide) rfl rfl ?_
 intro bx wx Nx
 have Fx := Nx.ge E
 replace E := E.ext Nx.ext
 have Bx := Nx.blk
 refine qA (.slice none 0 0) rfl ?_
 refine qA (I6 0) rfl ?_
 refine WpL_nil (Wp_seq (Wp_seq_region ?_))
 refine qV (r_loadAgg (vs := [(I6 t.kind), (.slice sa t.set.length sc), (.slice aa t.args.length ac), (I6 t.mn), (I6 t.mx), (.bool t.neg)]) rfl agg27 siz27 rfl (Bx.cells rfl)) ?_
 refine qM (.slice ta text.length tc) rfl ?_
 refine WpL_enter rfl rfl (by decide) (r_callF (vs := [(.agg (R6 t sa sc aa ac)), (.slice ta text.length tc)]) Try.func20 nm20 bd20 rfl) (capchk_c _ t _ _ text (ReAt.ext E t ht0) (htx.ext E)) ?_
 rintro _ w9 ⟨rfl, X9⟩
 replace Bx := X9.keep Bx
 replace E := E.ext X9
 refine qA (I6 (capP t text)) rfl ?_
 refine WpL_nil (Wp_seq_region ?_)
 refine qM (I6 (capP t text)) rfl ?_
 refine qV (r_neq (k := .i64) (a := capP t text) (b := 0) rfl rfl) ?_
 refine WpL_nil ?_
 refine Wp_cond (b := decide ((capP t text : Int) ≠ 0)) rfl (fun h1 => ?_) (fun h1 => ?_)
 ·have kh1 := h1
  replace h1 := of_decide_eq_true h1
  refine Wp_seq_region ?_
  refine qM (I6 (capP t text)) rfl ?_
  refine qA (.slice none 0 0) rfl ?_
  refine qA (I6 (capP t text)) rfl ?_
  refine WpL_nil (Wp_ret (thn_ret ?_))
  refine fin_tmp2 Try.results11 (v := (.slice none 0 0)) (v' := (.int .i64 (capP t text))) rfl rfl ?_
  exact ⟨none, 0, by unfold allP; rw [if_pos h1]; rfl, by unfold allP; rw [if_pos h1]; exact SlAt.nil _ _ _ _, E⟩
 ·have kh1 := h1
  replace h1 := of_decide_eq_false h1
  have h0 : capP t text = 0 := by omega
  obtain ⟨hC, hn⟩ := capP_zero h0
  obtain ⟨z, hz⟩ : ∃ z, z = (w9).heap.size := ⟨_, rfl⟩
  have hfl := frg_len _ t (Nat.le_refl _) hC.ok hC.us hC.ln 0 0 0
  have hzs : w0.heap.size ≤ z := by rw [hz]; exact E.size
  have hln := hC.ln
  have hsz := hC.sz
  refine Wp_skip (thn_normal (Wp_seq_region ?_))
  refine qV (r_loadAgg (vs := [(I6 t.kind), (.slice sa t.set.length sc), (.slice aa t.args.length ac), (I6 t.mn), (I6 t.mx), (.bool t.neg)]) rfl agg27 siz27 rfl (Bx.cells rfl)) ?_
  refine WpL_enter rfl rfl (by decide) (r_callF (vs := [(.agg (R6 t sa sc aa ac))]) Try.func22 nm22 bd22 rfl) (translate_c _ (fun y => y < z) _ _ t (of_all _ t.size t (Nat.le_refl _) hC.ok hC.us hC.ln hC.sz) (ReAt.ext E t ht0) (Ext.refl _) (fun y h => by omega) (fun y h => by omega) (by omega) (by unfold tempsOf; omega) (by omega)) ?_
  rintro _ w19 ⟨⟨F', pb, rfl, hF1, hF2, hF3, hPr⟩, X19⟩
  replace Bx := X19.keep Bx
  replace E := E.ext X19
  have htf : text = [] ∨ ∃ b, (Value.slice ta text.length tc).ownBlock = some b ∧ F' b := (intsw_own htx).imp_right fun ⟨b, h1, h2⟩ => ⟨b, h1, hF1 b (by omega)⟩
  obtain ⟨base, hbase⟩ : ∃ base, base = w19.heap.size := ⟨_, rfl⟩
  have hb0 : w0.heap.size ≤ base := by have := E.size; omega
  have hbx : bx < base := by have := Bx.lt; omega
  have hP0 : allP t text = allF text t (text.length + 2) 0 := by unfold allP; rw [if_neg (by omega)]
  rw [hP0, h0]
  have E2 : Chg none1 w19 w19 := Chg.refl _ _
  refine qA (P6 pb 0) rfl ?_
  refine WpL_nil (Wp_seq_region ?_)
  refine qA (.slice none 0 0) rfl ?_
  refine WpL_nil (Wp_seq_region ?_)
  refine qA (I6 0) rfl ?_
  refine WpL_nil (Wp_block ?_)
  refine Wp_loop (fun nn_ σ W2 => ∃ (pos : Nat) (la : Option Addr) (lc : Nat) (acc : List (Nat × Nat × Grp)), (∃ jj_, σ = upds jj_ [(1, (.slice ta text.length tc)), (7, (P6 pb 0)), (9, (I6 (pos : Int))), (8, (.slice la acc.length lc))]) ∧ Chg none1 w0 W2 ∧ Chg none1 w19 W2 ∧ Blk W2 bx (R6 t sa sc aa ac) 27 ∧ (pos ≤ text.length + 1) ∧ (W2.ownsRow base TFd 22 (.slice la acc.length lc) acc.length (acc.map fndQ).flatten) ∧ (base ≤ W2.heap.size) ∧ (∃ n, text.length + 2 ≤ n + pos ∧ allF text t (text.length + 2) 0 = acc ++ allF text t n pos) ∧ (acc.length ≤ pos ∧ ∀ q ∈ acc, q.2.2.length = 10) ∧ nn_ = text.length + 1 - pos) (n := text.length + 1 - 0) ?_ ?_
  ·exact ⟨0, none, 0, [], Fits.out ⟨rfl, rfl, rfl, rfl, trivial⟩, E, E2, Bx, Nat.zero_le _, World.ownsRow_nil _ _ _ _, (by omega), ⟨_, Nat.le_refl _, rfl⟩, ⟨Nat.le_refl _, fun q h => by cases h⟩, rfl⟩
  ·clear E E2 Bx
   rintro _ _ W2 ⟨pos, la, lc, acc, ⟨j2, rfl⟩, E, E2, Bx, hp, hO, hbs, hrel, hal, rfl⟩
   obtain ⟨o, ho⟩ : ∃ o, o = fromO text t pos := ⟨_, rfl⟩
   obtain ⟨x0, x1, x2, x3, x4, x5, x6, x7, x8, x9, x10, x11, x12, x13, x14, x15, x16, x17, x18, x19, x20, x21, hx⟩ := fnd22 (o := o) (by rw [ho]; exact fndO_len _ pos (Nat.le_refl _) hp)
   refine Wp_block (Wp_seq_region ?_)
   refine qM (P6 pb 0) rfl ?_
   refine qM (.slice ta text.length tc) rfl ?_
   refine qM (I6 (pos : Int)) rfl ?_
   refine WpL_enter rfl rfl (by decide) (r_callF (vs := [(P6 pb 0), (.slice ta text.length tc), (I6 (pos : Int))]) Try.func21 nm21 bd21 rfl) ((from_c F' _ pb t ta text.length tc pos text (hPr.chg E2 (fun _ _ f => f)) (fun y h => Nat.lt_of_lt_of_le (hF3 y h) E2.size) (htx.ext E) htf (by omega) (wf_of t hC.ok hC.us) (by omega) hp).mono (R' := fun r w => r = .tuple #[.agg #[.int .i64 x0, .int .i64 x1, .int .i64 x2, .int .i64 x3, .int .i64 x4, .int .i64 x5, .int .i64 x6, .int .i64 x7, .int .i64 x8, .int .i64 x9, .int .i64 x10, .int .i64 x11, .int .i64 x12, .int .i64 x13, .int .i64 x14, .int .i64 x15, .int .i64 x16, .int .i64 x17, .int .i64 x18, .int .i64 x19, .int .i64 x20, .int .i64 x21], .bool o.isSome] ∧ Ext _ w) (fun r w h => ⟨by rw [h.1, ← ho, hx], h.2⟩)) ?_
   rintro _ w29 ⟨rfl, X29⟩
   replace Bx := X29.keep Bx
   replace hO := own_ext hO X29
   replace hbs := Nat.le_trans hbs X29.size
   replace E := E.ext X29
   replace E2 := E2.ext X29
   have hOz : ∀ b, (Value.slice la acc.length lc).ownBlock = some b → b < w29.heap.size := fun b h => (hO.lt b h).2
   refine qM (.tuple #[(.agg (Q22 x0 x1 x2 x3 x4 x5 x6 x7 x8 x9 x10 x11 x12 x13 x14 x15 x16 x17 x18 x19 x20 x21)), (.bool o.isSome)]) rfl ?_
   refine qV (r_extract (vs := #[(.agg (Q22 x0 x1 x2 x3 x4 x5 x6 x7 x8 x9 x10 x11 x12 x13 x14 x15 x16 x17 x18 x19 x20 x21)), (.bool o.isSome)]) (v := (.agg (Q22 x0 x1 x2 x3 x4 x5 x6 x7 x8 x9 x10 x11 x12 x13 x14 x15 x16 x17 x18 x19 x20 x21))) rfl rfl) ?_
   refine qV (r_extract (vs := #[(.agg (Q22 x0 x1 x2 x3 x4 x5 x6 x7 x8 x9 x10 x11 x12 x13 x14 x15 x16 x17 x18 x19 x20 x21)), (.bool o.isSome)]) (v := (.bool o.isSome)) rfl rfl) ?_
   refine s_allocStore (v := (.agg (Q22 x0 x1 x2 x3 x4 x5 x6 x7 x8 x9 x10 x11 x12 x13 x14 x15 x16 x17 x18 x19 x20 x21))) (c := (Q22 x0 x1 x2 x3 x4 x5 x6 x7 x8 x9 x10 x11 x12 x13 x14 x15 x16 x17 x18 x19 x20 x21)) (n := 22) (by decide) zer33 rfl siz33 rfl rfl rfl (by simp [Value.oneCell']) ?_
   intro bf wf Nf
   have Ff := Nf.ge E
   have Ff_E2 := Nf.ge E2
   have Of_bx := Nf.lt Bx
   replace Bx := Nf.keep Bx
   replace hO := own_ext hO Nf.ext
   replace hbs := Nat.le_trans hbs Nf.ext.size
   replace E := E.ext Nf.ext
   have Bf := Nf.blk
   replace E2 := E2.ext Nf.ext
   refine qA (.bool o.isSome) rfl ?_
   refine WpL_nil (Wp_seq (Wp_seq_region ?_))
   refine qM (.bool o.isSome) rfl ?_
   refine qV (r_not (b := o.isSome) rfl) ?_
   refine WpL_nil ?_
   refine Wp_cond (b := !o.isSome) rfl (fun hno => ?_) (fun hno => ?_)
   ·have khno := hno
    replace hno := by simpa using hno
    have hn9 : fromO text t pos = none := by rw [← ho]; simpa using hno
    obtain ⟨n, hn1, hn2⟩ := hrel
    rw [allF_none hn9, List.append_nil] at hn2
    rw [hn2]
    refine Wp_seq_region ?_
    refine qM (.slice la acc.length lc) rfl ?_
    refine qA (.slice la acc.length lc) rfl ?_
    refine qA (I6 0) rfl ?_
    refine WpL_nil (Wp_ret (thn_ret (inB_ret (thn_ret (inB_ret ?_)))))
    refine fin_tmp2 Try.results11 (v := (.slice la acc.length lc)) (v' := (.int .i64 0)) rfl rfl ?_
    exact ⟨la, lc, rfl, own_slat hO (fun r hr => by obtain ⟨q, hq, rfl⟩ := List.mem_map.1 hr; exact fndQ_len (hal.2 q hq)) (by simp) (by decide), E⟩
   ·have khno := hno
    replace hno := by simpa using hno
    obtain ⟨q, hq⟩ : ∃ q, o = some q := by cases o with | none => simp at hno | some q => exact ⟨q, rfl⟩
    have hfq : fromO text t pos = some q := by rw [← ho, hq]
    obtain ⟨q1, q2, q3, q4⟩ := fromO_ok _ pos (Nat.le_refl _) q hfq
    have hqv : fndQ q = [.int .i64 x0, .int .i64 x1, .int .i64 x2, .int .i64 x3, .int .i64 x4, .int .i64 x5, .int .i64 x6, .int .i64 x7, .int .i64 x8, .int .i64 x9, .int .i64 x10, .int .i64 x11, .int .i64 x12, .int .i64 x13, .int .i64 x14, .int .i64 x15, .int .i64 x16, .int .i64 x17, .int .i64 x18, .int .i64 x19, .int .i64 x20, .int .i64 x21] := by rw [← hx, hq]; rfl
    have hx0 : x0 = ((q.1 : Nat) : Int) := by have := congrArg (fun l => l[0]?) hqv; simpa using this.symm
    have hx1 : x1 = ((q.2.1 : Nat) : Int) := by have := congrArg (fun l => l[1]?) hqv; simpa using this.symm
    refine Wp_skip (thn_normal (Wp_seq_region ?_))
    refine qM (.slice la acc.length lc) rfl ?_
    refine qV (r_loadAgg (vs := (K22 x0 x1 x2 x3 x4 x5 x6 x7 x8 x9 x10 x11 x12 x13 x14 x15 x16 x17 x18 x19 x20 x21)) rfl agg33 siz33 rfl (Bf.cells rfl)) ?_
    refine s_buildSlice (ps := [(0, (.agg (Q22 x0 x1 x2 x3 x4 x5 x6 x7 x8 x9 x10 x11 x12 x13 x14 x15 x16 x17 x18 x19 x20 x21)))]) (c := (Q22 x0 x1 x2 x3 x4 x5 x6 x7 x8 x9 x10 x11 x12 x13 x14 x15 x16 x17 x18 x19 x20 x21)) (by decide) rfl Try.underlying38 siz33 zer33 (by decide) (by decide) (by kernel_rfl) ?_
    intro bs ws Ns
    have Fs := Ns.ge E
    have Fs_E2 := Ns.ge E2
    have Os_bx := Ns.lt Bx
    have Os_bf := Ns.lt Bf
    replace Bx := Ns.keep Bx
    replace Bf := Ns.keep Bf
    replace hO := own_ext hO Ns.ext
    replace hbs := Nat.le_trans hbs Ns.ext.size
    replace E := E.ext Ns.ext
    have Bs := Ns.blk
    replace E2 := E2.ext Ns.ext
    refine s_append (base := base) (n := acc.length) (m := 1) (xs := (acc.map fndQ).flatten) (news := (K22 x0 x1 x2 x3 x4 x5 x6 x7 x8 x9 x10 x11 x12 x13 x14 x15 x16 x17 x18 x19 x20 x21)) (size := 22) (bytes := 176) (v := (.slice la acc.length lc)) (by decide) Try.underlying38 siz33 byt33 zer33 rfl (by decide) rfl hO rfl (rfl) (Bs.cells rfl) (by simp [Value.oneCell']) (by unfold maxLen; omega) (by omega) (hbs) ?_
    intro v9 w39 Ov9 Cv9 Dv9
    replace Bx := Cv9.keep (fun h => by have := (hO.lt _ h).1; omega) Bx
    replace Bf := Cv9.keep (fun h => by have := hOz _ h; have := Nf.eq; omega) Bf
    replace E := E.step Cv9 (fun x hx h => absurd (hO.lt x h).1 (by omega))
    replace E2 := E2.step Cv9 (fun x hx h => absurd (hO.lt x h).1 (by omega))
    obtain ⟨la2, lc2, rfl⟩ := own_form Ov9
    have hnx := nextP_lt ⟨q1, q2, q3⟩
    obtain ⟨n, hn1, hn2⟩ := hrel
    obtain ⟨m, rfl⟩ : ∃ m, n = m + 1 := ⟨n - 1, by omega⟩
    rw [allF_some hfq] at hn2
    have hO9 : (w39).ownsRow base TFd 22 (.slice la2 (acc ++ [q]).length lc2) (acc ++ [q]).length ((acc ++ [q]).map fndQ).flatten := by rw [List.map_append, List.flatten_append, List.length_append]; simpa [hqv] using Ov9
    have hl9 : (acc ++ [q]).length ≤ nextP q ∧ ∀ u ∈ acc ++ [q], u.2.2.length = 10 := ⟨by rw [List.length_append]; have := hal.1; simp only [List.length_cons, List.length_nil]; omega, fun u hu => by rcases List.mem_append.1 hu with h | h; exact hal.2 u h; rw [List.mem_singleton.1 h]; exact q4⟩
    have hr9 : ∃ n, text.length + 2 ≤ n + nextP q ∧ allF text t (text.length + 2) 0 = (acc ++ [q]) ++ allF text t n (nextP q) := ⟨m, by omega, by rw [hn2]; simp⟩
    have hl8 : acc.length + 1 = (acc ++ [q]).length := by simp
    have hb9 := Nat.le_trans hbs Cv9.size
    rw [hl8]
    refine qA (.slice la2 ((acc ++ [q]).length) lc2) rfl ?_
    refine WpL_nil (Wp_seq_region ?_)
    refine qF bf 0 1 rfl Try.underlying33 rfl siz3 rfl ?_
    refine qV (r_load (v := (I6 x1)) rfl flat3 (Bf.cell rfl)) ?_
    refine qA (I6 x1) rfl ?_
    refine WpL_nil (Wp_seq_region ?_)
    refine qF bf 0 0 rfl Try.underlying33 rfl siz3 rfl ?_
    refine qV (r_load (v := (I6 x0)) rfl flat3 (Bf.cell rfl)) ?_
    refine qF bf 0 1 rfl Try.underlying33 rfl siz3 rfl ?_
    refine qV (r_load (v := (I6 x1)) rfl flat3 (Bf.cell rfl)) ?_
    refine qV (r_eql (k := .i64) (a := x0) (b := x1) rfl rfl) ?_
    refine WpL_nil ?_
    refine Wp_cond (b := decide ((x0 : Int) = x1)) rfl (fun heq => ?_) (fun heq => ?_)
    ·have kheq := heq
     replace heq := of_decide_eq_true heq
     have hnp : nextP q = q.2.1 + 1 := by unfold nextP; rw [if_pos (by omega)]
     refine Wp_region ?_
     refine qM (I6 x1) rfl ?_
     refine qV (r_add (k := .i64) (a := x1) (b := 1) (c := ((nextP q : Nat) : Int)) rfl rfl (by rw [hx1, hnp, wI64 (by omega)]; omega)) ?_
     refine qA (I6 ((nextP q : Nat) : Int)) rfl ?_
     refine WpL_nil (inB_normal (thn_normal ?_))
     exact ⟨text.length + 1 - (nextP q), by omega, nextP q, la2, lc2, acc ++ [q], Fits.out ⟨rfl, rfl, rfl, rfl, trivial⟩, E, E2, Bx, hnx.2, hO9, hb9, hr9, hl9, rfl⟩
    ·have kheq := heq
     replace heq := of_decide_eq_false heq
     have hnp : nextP q = q.2.1 := by unfold nextP; rw [if_neg (by omega)]
     rw [hx1, ← hnp]
     refine Wp_skip (inB_normal (thn_normal ?_))
     exact ⟨text.length + 1 - (nextP q), by omega, nextP q, la2, lc2, acc ++ [q], Fits.out ⟨rfl, rfl, rfl, rfl, trivial⟩, E, E2, Bx, hnx.2, hO9, hb9, hr9, hl9, rfl⟩
end Go.Proofs
namespace Go.Proofs
open Go Go.Eng Go.Sort
set_option maxRecDepth 100000
theorem allF_chain {text : List Int} {r : Re} : ∀ (n pos : Nat) (i : Nat) (q : Nat × Nat × Grp), (allF text r n pos)[i]? = some q → (q.1 ≤ q.2.1 ∧ q.2.1 ≤ text.length ∧ q.2.2.length = 10) ∧ ∀ q', (allF text r n pos)[i + 1]? = some q' → nextP q ≤ q'.1
  | 0, pos, i, q, h => by simp [allF] at h
  | n + 1, pos, i, q, h => by
    cases hf : fromO text r pos with
    | none => rw [allF_none hf] at h; simp at h
    | some u =>
      rw [allF_some hf] at h ⊢
      cases i with
      | succ i =>
        simp only [List.getElem?_cons_succ] at h ⊢
        exact allF_chain n (nextP u) i q h
      | zero =>
        simp only [List.getElem?_cons_zero, Option.some.injEq] at h
        subst h
        have h1 := fromO_ok _ pos (Nat.le_refl _) u hf
        refine ⟨h1.2, fun q' hq' => ?_⟩
        simp only [Nat.zero_add, List.getElem?_cons_succ] at hq'
        cases n with
        | zero => simp [allF] at hq'
        | succ n =>
          cases hg : fromO text r (nextP u) with
          | none => rw [allF_none hg] at hq'; simp at hq'
          | some u' =>
            rw [allF_some hg] at hq'
            simp only [List.getElem?_cons_zero, Option.some.injEq] at hq'
            subst hq'
            exact (fromO_ok _ (nextP u) (Nat.le_refl _) u' hg).1
theorem allP_chain {t : Re} {text : List Int} {i : Nat} {q : Nat × Nat × Grp} (h : (allP t text)[i]? = some q) : (q.1 ≤ q.2.1 ∧ q.2.1 ≤ text.length ∧ q.2.2.length = 10) ∧ ∀ q', (allP t text)[i + 1]? = some q' → nextP q ≤ q'.1 := by
 unfold allP at h ⊢
 by_cases h1 : capP t text = 0
 ·rw [if_neg (by omega)] at h ⊢
  exact allF_chain _ _ _ _ h
 ·rw [if_pos h1] at h; simp at h
theorem allP_nil {t : Re} {text : List Int} (h : capP t text ≠ 0) : allP t text = [] := by unfold allP; rw [if_pos h]
end Go.Proofs
namespace Go.Proofs
open Go Go.Eng Go.Sort
set_option maxRecDepth 100000
abbrev TCs : Nat := 65
abbrev crsV (q : Crs) : List Value := .int .i64 (q.1 : Int) :: grpV q.2
def CrsAt (w : World) (v : Value) (l : List Crs) : Prop := SlAt w 21 v (l.map crsV)
theorem crs21 {q : Crs} (h : q.2.length = 10) : ∃ x0 x1 x2 x3 x4 x5 x6 x7 x8 x9 x10 x11 x12 x13 x14 x15 x16 x17 x18 x19 x20 : Int, crsV q = [.int .i64 x0, .int .i64 x1, .int .i64 x2, .int .i64 x3, .int .i64 x4, .int .i64 x5, .int .i64 x6, .int .i64 x7, .int .i64 x8, .int .i64 x9, .int .i64 x10, .int .i64 x11, .int .i64 x12, .int .i64 x13, .int .i64 x14, .int .i64 x15, .int .i64 x16, .int .i64 x17, .int .i64 x18, .int .i64 x19, .int .i64 x20] := by
 obtain ⟨p, G⟩ := q
 obtain ⟨a, b, c, d, e, g, h, i, j, k, rfl⟩ := ten h
 exact ⟨_, _, _, _, _, _, _, _, _, _, _, _, _, _, _, _, _, _, _, _, _, rfl⟩
theorem frs_snoc {l : List Crs} {x : Crs} : frs [] (l ++ [x]) = if x.1 ∈ l.map (·.1) then frs [] l else frs [] l ++ [x] := by
 rw [frs_append]
 simp only [frs, List.append_nil]
 split <;> simp
theorem frs_mem {l : List Crs} {q : Crs} : ∀ {S : List Nat}, q ∈ frs S l → q ∈ l := by
  induction l with
  | nil => intro S h; simp [frs] at h
  | cons x l ih =>
    intro S h
    simp only [frs] at h
    split at h
    · exact List.mem_cons_of_mem _ (ih h)
    · rcases List.mem_cons.1 h with rfl | h
      · exact List.mem_cons_self
      · exact List.mem_cons_of_mem _ (ih h)
theorem frs_len : ∀ {l : List Crs} {S : List Nat}, (frs S l).length ≤ l.length
  | [], _ => Nat.le_refl _
  | x :: l, S => by
    simp only [frs]
    split
    · exact Nat.le_succ_of_le frs_len
    · exact Nat.succ_le_succ frs_len
def OwnC (w : World) (base : Nat) (v : Value) (l : List Crs) : Prop := (∃ a c, v = .slice a l.length c) ∧ w.ownsRow base TCs 21 v l.length (l.map crsV).flatten
set_option maxHeartbeats 2000000 in
theorem rfirst_c (w0 : World) (v : Value) (l : List Crs) (hl : CrsAt w0 v l) (hn : l.length ≤ 1000) (hg : ∀ q ∈ l, q.2.length = 10) :
  Ret Try.prog 53 #[v] w0 fun r w => OwnC w w0.heap.size r (frs [] l) ∧ Ext w0 w := by
 obtain ⟨a, c, rfl⟩ := SlAt.form hl
 simp only [List.length_map] at hl ⊢
 obtain ⟨base, hbase⟩ : ∃ base, base = w0.heap.size := ⟨_, rfl⟩
 rw [← hbase]
 refine Ret_of Try.func53 rfl Try.ntmps53 (Nat.le_of_ble_eq_true rfl) ?_
 have E : Chg none1 w0 w0 := Chg.refl _ _
 refine Wp_seq_region ?_
 refine qA (.slice none 0 0) rfl ?_
 refine WpL_nil (Wp_seq_region ?_)
 refine qA (.slice none 0 0) rfl ?_
 refine WpL_nil (Wp_seq (Wp_seq_region ?_))
 refine qM (.slice a l.length c) rfl ?_
 refine qV (r_lenSlice (ad := a) (n := l.length) (cap := c) Try.underlying66 rfl) ?_
 refine qM (I6 0) rfl ?_
 refine WpL_nil (Wp_block ?_)
 refine Wp_loop (fun nn_ σ W1 => ∃ (k : Nat) (la : Option Addr) (lc : Nat) (o : List Crs), (∃ jj_, σ = upds jj_ [(9, (.slice a l.length c)), (10, (I6 (l.length : Int))), (11, (I6 (k : Int))), (3, (.slice la o.length lc))]) ∧ Chg none1 w0 W1 ∧ (k ≤ l.length) ∧ (o = frs [] (l.take k)) ∧ (W1.ownsRow base TCs 21 (.slice la o.length lc) o.length (o.map crsV).flatten) ∧ (base ≤ W1.heap.size) ∧ nn_ = l.length - k) (n := l.length - 0) ?_ ?_
 ·exact ⟨0, none, 0, [], Fits.out ⟨rfl, rfl, rfl, rfl, trivial⟩, E, Nat.zero_le _, rfl, World.ownsRow_nil _ _ _ _, (by omega), rfl⟩
 ·clear E
  rintro _ _ W1 ⟨k, la, lc, o, ⟨j1, rfl⟩, E, hk, ho, hO, hbs, rfl⟩
  refine Wp_seq_region ?_
  refine qV (r_lss (k := .i64) (a := (k : Int)) (b := (l.length : Int)) rfl rfl) ?_
  refine WpL_nil (Wp_seq ?_)
  refine Wp_cond (b := decide (((k : Int) : Int) < (l.length : Int))) rfl (fun hlt => ?_) (fun hlt => ?_)
  ·have khlt := hlt
   replace hlt := of_decide_eq_true hlt
   obtain ⟨x, hx⟩ := get_of_lt (l := l) (i := k) (by omega)
   have hxg := hg x (List.mem_of_getElem? hx)
   obtain ⟨x0, x1, x2, x3, x4, x5, x6, x7, x8, x9, x10, x11, x12, x13, x14, x15, x16, x17, x18, x19, x20, hxv⟩ := crs21 hxg
   have hol : o.length ≤ k := by rw [ho]; have h1 := frs_len (l := l.take k) (S := []); rw [List.length_take] at h1; omega
   have hog : ∀ q ∈ o, q.2.length = 10 := fun q hq => hg q (List.mem_of_mem_take (frs_mem (by rw [ho] at hq; exact hq)))
   obtain ⟨b, oo, rfl, hcl⟩ := SlAt.at hl (by omega)
   have hcx := hcl k (crsV x) (by simp [hx])
   rw [hxv] at hcx
   refine Wp_skip (thn_normal (Wp_seq (Wp_block (Wp_seq_region ?_))))
   refine qV (r_indexSlice (b := b) (o := oo) (len := l.length) (cap := c) (i := k) (o' := oo + k * 21) rfl rfl rfl Try.underlying66 siz65 (by omega) (by omega)) ?_
   refine qV (r_loadAgg (vs := (K21 x0 x1 x2 x3 x4 x5 x6 x7 x8 x9 x10 x11 x12 x13 x14 x15 x16 x17 x18 x19 x20)) rfl agg65 siz65 rfl (hcx.ext E)) ?_
   refine s_allocStore (v := (.agg (Q21 x0 x1 x2 x3 x4 x5 x6 x7 x8 x9 x10 x11 x12 x13 x14 x15 x16 x17 x18 x19 x20))) (c := (Q21 x0 x1 x2 x3 x4 x5 x6 x7 x8 x9 x10 x11 x12 x13 x14 x15 x16 x17 x18 x19 x20)) (n := 21) (by decide) zer65 rfl siz65 rfl rfl rfl (by simp [Value.oneCell']) ?_
   intro bx wx Nx
   have Fx := Nx.ge E
   replace hO := own_ext hO Nx.ext
   replace hbs := Nat.le_trans hbs Nx.ext.size
   replace E := E.ext Nx.ext
   have Bx := Nx.blk
   refine WpL_nil (Wp_seq_region ?_)
   refine qA (.bool false) rfl ?_
   refine WpL_nil (Wp_seq (Wp_seq_region ?_))
   refine qM (.slice la o.length lc) rfl ?_
   refine qV (r_lenSlice (ad := la) (n := o.length) (cap := lc) Try.underlying66 rfl) ?_
   refine qM (I6 0) rfl ?_
   refine WpL_nil (Wp_block ?_)
   have hQ9 : True := trivial
   refine Wp_loop (fun nn_ σ W3 => ∃ (j : Nat) (e : Bool), (∃ jj_, σ = upds jj_ [(3, (.slice la o.length lc)), (5, (P6 bx 0)), (9, (.slice (some ⟨b, oo, none⟩) l.length c)), (10, (I6 (l.length : Int))), (11, (I6 (k : Int))), (15, (.slice la o.length lc)), (16, (I6 (o.length : Int))), (17, (I6 (j : Int))), (6, (.bool e))]) ∧ Chg none1 w0 W3 ∧ Blk W3 bx (Q21 x0 x1 x2 x3 x4 x5 x6 x7 x8 x9 x10 x11 x12 x13 x14 x15 x16 x17 x18 x19 x20) 65 ∧ (j ≤ o.length) ∧ (e = decide (x.1 ∈ (o.take j).map (·.1))) ∧ (W3.ownsRow base TCs 21 (.slice la o.length lc) o.length (o.map crsV).flatten) ∧ (base ≤ W3.heap.size) ∧ nn_ = o.length - j) (n := o.length - 0) ?_ ?_
   ·exact ⟨0, false, Fits.out ⟨rfl, rfl, rfl, rfl, rfl, rfl, rfl, rfl, rfl, trivial⟩, E, Bx, Nat.zero_le _, (by simp), hO, hbs, rfl⟩
   ·clear E Bx
    rintro _ _ W3 ⟨j, e, ⟨j3, rfl⟩, E, Bx, hj, he, hO2, hbs2, rfl⟩
    refine Wp_seq_region ?_
    refine qV (r_lss (k := .i64) (a := (j : Int)) (b := (o.length : Int)) rfl rfl) ?_
    refine WpL_nil (Wp_seq ?_)
    refine Wp_cond (b := decide (((j : Int) : Int) < (o.length : Int))) rfl (fun hlt2 => ?_) (fun hlt2 => ?_)
    ·have khlt2 := hlt2
     replace hlt2 := of_decide_eq_true hlt2
     obtain ⟨y, hy⟩ := get_of_lt (l := o) (i := j) (by omega)
     have hyg := hog y (List.mem_of_getElem? hy)
     obtain ⟨y0, y1, y2, y3, y4, y5, y6, y7, y8, y9, y10, y11, y12, y13, y14, y15, y16, y17, y18, y19, y20, hyv⟩ := crs21 hyg
     have hsl : SlAt (W3) 21 (.slice la o.length lc) (o.map crsV) := own_slat hO2 (fun r hr => by obtain ⟨q, hq, rfl⟩ := List.mem_map.1 hr; simp only [List.length_cons, grpV_len, hog q hq]) (by simp) (by decide)
     obtain ⟨b', o', rfl, hcl'⟩ := SlAt.at hsl (by omega)
     have hcy := hcl' j (crsV y) (by simp [hy])
     rw [hyv] at hcy
     refine Wp_skip (thn_normal (Wp_seq (Wp_block (Wp_seq_region ?_))))
     refine qV (r_indexSlice (b := b') (o := o') (len := o.length) (cap := lc) (i := j) (o' := o' + j * 21) rfl rfl rfl Try.underlying66 siz65 (by omega) (by omega)) ?_
     refine qV (r_loadAgg (vs := (K21 y0 y1 y2 y3 y4 y5 y6 y7 y8 y9 y10 y11 y12 y13 y14 y15 y16 y17 y18 y19 y20)) rfl agg65 siz65 rfl (hcy)) ?_
     have hx0 : x0 = ((x.1 : Nat) : Int) := by have := congrArg (fun l => l[0]?) hxv; simpa using this.symm
     have hy0 : y0 = ((y.1 : Nat) : Int) := by have := congrArg (fun l => l[0]?) hyv; simpa using this.symm
     have htk : decide (x.1 ∈ (o.take (j + 1)).map (·.1)) = (decide (x.1 ∈ (o.take j).map (·.1)) || decide (x0 = y0)) := by rw [Bool.eq_iff_iff]; simp only [Bool.or_eq_true, decide_eq_true_eq]; rw [List.take_add_one, hy, hx0, hy0, Int.natCast_inj]; simp only [Option.toList_some, List.map_append, List.map_cons, List.map_nil, List.mem_append, List.mem_singleton]
     refine s_allocStore (v := (.agg (Q21 y0 y1 y2 y3 y4 y5 y6 y7 y8 y9 y10 y11 y12 y13 y14 y15 y16 y17 y18 y19 y20))) (c := (Q21 y0 y1 y2 y3 y4 y5 y6 y7 y8 y9 y10 y11 y12 y13 y14 y15 y16 y17 y18 y19 y20)) (n := 21) (by decide) zer65 rfl siz65 rfl rfl rfl (by simp [Value.oneCell']) ?_
     intro b5 w5 N5
     have F5 := N5.ge E
     have O5_bx := N5.lt Bx
     replace Bx := N5.keep Bx
     replace hO2 := own_ext hO2 N5.ext
     replace hbs2 := Nat.le_trans hbs2 N5.ext.size
     replace E := E.ext N5.ext
     have B5 := N5.blk
     refine WpL_nil (Wp_region ?_)
     refine qM (.bool e) rfl ?_
     refine qM (.bool e) rfl ?_
     rcases Bool.eq_false_or_eq_true (e) with hold | hold
     ·have khold := hold
      refine WpL_guard_no (oj := _) rfl rfl (by decide) (v := .bool true) (congrArg Value.bool hold) (Or.inl rfl) ?_
      refine WpL_guard_no (oj := _) rfl rfl (by decide) (v := .bool true) (congrArg Value.bool hold) (Or.inl rfl) ?_
      refine WpL_guard_no (oj := _) rfl rfl (by decide) (v := .bool true) (congrArg Value.bool hold) (Or.inl rfl) ?_
      refine WpL_guard_no (oj := _) rfl rfl (by decide) (v := .bool true) (congrArg Value.bool hold) (Or.inl rfl) ?_
      refine WpL_guard_no (oj := _) rfl rfl (by decide) (v := .bool true) (congrArg Value.bool hold) (Or.inl rfl) ?_
      refine qV (r_pick (b := e) (v := (.bool true)) rfl (by rw [hold]; rfl)) ?_
      refine qA (.bool true) rfl ?_
      refine WpL_nil (inB_normal (thn_normal (Wp_region ?_)))
      refine qV (r_add (k := .i64) (a := (j : Int)) (b := 1) (c := (j : Int) + 1) rfl rfl (wI64 (by omega))) ?_
      refine qM (I6 ((j : Int) + 1)) rfl ?_
      refine WpL_nil (thn_normal ?_)
      exact ⟨o.length - (j + 1), by omega, j + 1, true, Fits.out ⟨rfl, rfl, rfl, rfl, rfl, rfl, rfl, rfl, rfl, trivial⟩, E, Bx, (by omega), (by rw [htk, ← he, hold]; rfl), hO2, hbs2, rfl⟩
     ·have khold := hold
      refine WpL_guard_yes (oj := _) rfl rfl (by decide) (congrArg Value.bool hold) ?_
      refine qF bx 0 0 rfl Try.underlying65 rfl siz3 rfl ?_
      refine WpL_guard_yes (oj := _) rfl rfl (by decide) (congrArg Value.bool hold) ?_
      refine qV (r_load (v := (I6 x0)) rfl flat3 (Bx.cell rfl)) ?_
      refine WpL_guard_yes (oj := _) rfl rfl (by decide) (congrArg Value.bool hold) ?_
      refine qF b5 0 0 rfl Try.underlying65 rfl siz3 rfl ?_
      refine WpL_guard_yes (oj := _) rfl rfl (by decide) (congrArg Value.bool hold) ?_
      refine qV (r_load (v := (I6 y0)) rfl flat3 (B5.cell rfl)) ?_
      refine WpL_guard_yes (oj := _) rfl rfl (by decide) (congrArg Value.bool hold) ?_
      refine qV (r_eql (k := .i64) (a := x0) (b := y0) rfl rfl) ?_
      refine qV (r_pick (b := e) (v := (.bool (decide ((x0 : Int) = y0)))) rfl (by rw [hold]; rfl)) ?_
      refine qA (.bool (decide ((x0 : Int) = y0))) rfl ?_
      refine WpL_nil (inB_normal (thn_normal (Wp_region ?_)))
      refine qV (r_add (k := .i64) (a := (j : Int)) (b := 1) (c := (j : Int) + 1) rfl rfl (wI64 (by omega))) ?_
      refine qM (I6 ((j : Int) + 1)) rfl ?_
      refine WpL_nil (thn_normal ?_)
      exact ⟨o.length - (j + 1), by omega, j + 1, decide (x0 = y0), Fits.out ⟨rfl, rfl, rfl, rfl, rfl, rfl, rfl, rfl, rfl, trivial⟩, E, Bx, (by omega), (by rw [htk, ← he, hold]; rfl), hO2, hbs2, rfl⟩
    ·have khlt2 := hlt2
     replace hlt2 := of_decide_eq_false hlt2
     have hjj : j = o.length := by omega
     rw [hjj, List.take_length] at he
     have hsn : frs [] (l.take (k + 1)) = if x.1 ∈ o.map (·.1) then o else o ++ [x] := by rw [List.take_add_one, hx, Option.toList_some, frs_snoc, ← ho]; have h9 := frs_ends (a := l.take k) (T := []) (e := x.1); simp only [List.not_mem_nil, or_false] at h9; rw [← ho] at h9; by_cases h8 : x.1 ∈ o.map (·.1); rw [if_pos h8, if_pos (h9.1 h8)]; rw [if_neg h8, if_neg (fun h => h8 (h9.2 h))]
     refine Wp_exit (thn_exit (thn_exit (inB_here (thn_normal (Wp_seq_region ?_)))))
     refine qM (.bool e) rfl ?_
     refine qV (r_not (b := e) rfl) ?_
     refine WpL_nil ?_
     refine Wp_cond (b := !e) rfl (fun hnew => ?_) (fun hnew => ?_)
     ·have khnew := hnew
      replace hnew := by simpa using hnew
      refine Wp_region ?_
      refine qM (.slice la o.length lc) rfl ?_
      refine qV (r_loadAgg (vs := (K21 x0 x1 x2 x3 x4 x5 x6 x7 x8 x9 x10 x11 x12 x13 x14 x15 x16 x17 x18 x19 x20)) rfl agg65 siz65 rfl (Bx.cells rfl)) ?_
      refine s_buildSlice (ps := [(0, (.agg (Q21 x0 x1 x2 x3 x4 x5 x6 x7 x8 x9 x10 x11 x12 x13 x14 x15 x16 x17 x18 x19 x20)))]) (c := (Q21 x0 x1 x2 x3 x4 x5 x6 x7 x8 x9 x10 x11 x12 x13 x14 x15 x16 x17 x18 x19 x20)) (by decide) rfl Try.underlying66 siz65 zer65 (by decide) (by decide) (by kernel_rfl) ?_
      intro b8 w8 N8
      have F8 := N8.ge E
      have O8_bx := N8.lt Bx
      replace Bx := N8.keep Bx
      replace hO2 := own_ext hO2 N8.ext
      replace hbs2 := Nat.le_trans hbs2 N8.ext.size
      replace E := E.ext N8.ext
      have B8 := N8.blk
      refine s_append (base := base) (n := o.length) (m := 1) (xs := (o.map crsV).flatten) (news := (K21 x0 x1 x2 x3 x4 x5 x6 x7 x8 x9 x10 x11 x12 x13 x14 x15 x16 x17 x18 x19 x20)) (size := 21) (bytes := 168) (v := (.slice la o.length lc)) (by decide) Try.underlying66 siz65 byt65 zer65 rfl (by decide) rfl hO2 rfl (rfl) (B8.cells rfl) (by simp [Value.oneCell']) (by unfold maxLen; omega) (by omega) (hbs2) ?_
      intro v9 w39 Ov9 Cv9 Dv9
      replace E := E.step Cv9 (fun x hx h => absurd (hO2.lt x h).1 (by omega))
      obtain ⟨la2, lc2, rfl⟩ := own_form Ov9
      have hl8 : o.length + 1 = (o ++ [x]).length := by simp
      have hO9 : (w39).ownsRow base TCs 21 (.slice la2 (o ++ [x]).length lc2) (o ++ [x]).length ((o ++ [x]).map crsV).flatten := by rw [List.map_append, List.flatten_append, List.length_append]; simpa [hxv] using Ov9
      rw [hl8]
      refine qA (.slice la2 ((o ++ [x]).length) lc2) rfl ?_
      refine WpL_nil (inB_normal (thn_normal (Wp_region ?_)))
      refine qV (r_add (k := .i64) (a := (k : Int)) (b := 1) (c := (k : Int) + 1) rfl rfl (wI64 (by omega))) ?_
      refine qM (I6 ((k : Int) + 1)) rfl ?_
      refine WpL_nil (thn_normal ?_)
      exact ⟨l.length - (k + 1), by omega, k + 1, la2, lc2, o ++ [x], Fits.out ⟨rfl, rfl, rfl, rfl, trivial⟩, E, (by omega), (hsn.trans (if_neg fun h => by rw [decide_eq_true h] at he; rw [he] at hnew; simp at hnew)).symm, hO9, Nat.le_trans hbs2 Cv9.size, rfl⟩
     ·have khnew := hnew
      replace hnew := by simpa using hnew
      refine Wp_skip (inB_normal (thn_normal (Wp_region ?_)))
      refine qV (r_add (k := .i64) (a := (k : Int)) (b := 1) (c := (k : Int) + 1) rfl rfl (wI64 (by omega))) ?_
      refine qM (I6 ((k : Int) + 1)) rfl ?_
      refine WpL_nil (thn_normal ?_)
      exact ⟨l.length - (k + 1), by omega, k + 1, la, lc, o, Fits.out ⟨rfl, rfl, rfl, rfl, trivial⟩, E, (by omega), (hsn.trans (if_pos (of_decide_eq_true (he.symm.trans (by simpa using hnew))))).symm, hO2, hbs2, rfl⟩
  ·have khlt := hlt
   replace hlt := of_decide_eq_false hlt
   have hkk : l.take k = l := List.take_of_length_le (by omega)
   rw [hkk] at ho
   refine Wp_exit (thn_exit (thn_exit (inB_here (thn_normal (Wp_seq_region ?_)))))
   refine qM (.slice la o.length lc) rfl ?_
   refine qA (.slice la o.length lc) rfl ?_
   refine WpL_nil (Wp_ret ?_)
   refine fin_tmp Try.results53 (v := (.slice la o.length lc)) rfl ?_
   exact ⟨by rw [← ho]; exact ⟨⟨la, lc, rfl⟩, hO⟩, E⟩
end Go.Proofs
namespace Go.Proofs
open Go Go.Eng Go.Sort
set_option maxRecDepth 100000
theorem crs_six : ∀ {l : List Crs}, (∀ q ∈ l, q.2.length = 10) → (l.map crsV).flatten.length = l.length * 21
  | [], _ => rfl
  | q :: l, h => by
    have h1 := h q (by simp)
    have ih := crs_six (l := l) fun x hx => h x (by simp [hx])
    simp only [List.map_cons, List.flatten_cons, List.length_append, ih, List.length_cons, grpV_len, h1]
    omega
theorem crs_one (l : List Crs) : ∀ u ∈ (l.map crsV).flatten, u.oneCell' = true := by
 intro u hu
 simp only [List.mem_flatten, List.mem_map] at hu
 obtain ⟨r, ⟨q, _, rfl⟩, hu⟩ := hu
 simp only [crsV, grpV, List.mem_cons, List.mem_flatMap] at hu
 rcases hu with rfl | ⟨p, _, hu⟩
 ·rfl
 ·simp at hu; rcases hu with rfl | rfl <;> rfl
theorem crs_any {w : World} {a : Option Addr} {n c : Nat} {l : List Crs} (h : CrsAt w (.slice a n c) l) (hg : ∀ q ∈ l, q.2.length = 10) : (n = 0 ∧ (l.map crsV).flatten = []) ∨ ∃ b o, a = some ⟨b, o, none⟩ ∧ CellsAt w b o (l.map crsV).flatten := by
  have hn : n = l.length := by have := (SlAt.cap h).2; simpa using this.symm
  rcases Nat.eq_zero_or_pos n with h0 | h0
  · left; exact ⟨h0, by rw [List.eq_nil_of_length_eq_zero (show l.length = 0 by omega)]; rfl⟩
  · right
    obtain ⟨b, o, ha, hc⟩ := SlAt.at h h0
    refine ⟨b, o, ha, ?_⟩
    clear hn h h0 ha
    induction l generalizing o with
    | nil => intro i u hu; simp at hu
    | cons q l ih =>
      have h1 : CellsAt w b o (crsV q) := by have := hc 0 (crsV q) rfl; simpa using this
      have h2 := ih (fun x hx => hg x (by simp [hx])) (o + 21) fun i r hr => by have := hc (i + 1) r (by simpa using hr); rwa [Nat.succ_mul, ← Nat.add_assoc, Nat.add_right_comm] at this
      have hq : (crsV q).length = 21 := by simp only [List.length_cons, grpV_len, hg q (by simp)]
      intro i u hu
      rw [List.map_cons, List.flatten_cons] at hu
      rcases Nat.lt_or_ge i 21 with hi | hi
      · rw [List.getElem?_append_left (by omega)] at hu
        exact h1 i u hu
      · rw [List.getElem?_append_right (by omega), hq] at hu
        have := h2 (i - 21) u hu
        rwa [show o + 21 + (i - 21) = o + i by omega] at this
set_option maxHeartbeats 2000000 in
theorem rthen_c (w0 : World) (v fv : Value) (l : List Crs) (k : Crs → List Crs) (hl : CrsAt w0 v l) (hn : l.length ≤ 100) (hg : ∀ q ∈ l, q.2.length = 10) (hk : ∀ q ∈ l, (k q).length ≤ 10 ∧ ∀ u ∈ k q, u.2.length = 10)
  (hf : ∀ (w : World) (q : Crs), q ∈ l → Ext w0 w → CallV Try.prog fv #[.agg (crsV q).toArray] w fun r w' => (∃ a c, r = .slice a (k q).length c ∧ CrsAt w' r (k q)) ∧ Ext w w') :
  Ret Try.prog 51 #[v, fv] w0 fun r w => OwnC w w0.heap.size r (frs [] (l.flatMap k)) ∧ Ext w0 w := by
 obtain ⟨a, c, rfl⟩ := SlAt.form hl
 simp only [List.length_map] at hl ⊢
 obtain ⟨base, hbase⟩ : ∃ base, base = w0.heap.size := ⟨_, rfl⟩
 refine Ret_of Try.func51 rfl Try.ntmps51 (Nat.le_of_ble_eq_true rfl) ?_
 have E : Chg none1 w0 w0 := Chg.refl _ _
 refine Wp_seq_region ?_
 refine qA (.slice none 0 0) rfl ?_
 refine WpL_nil (Wp_seq_region ?_)
 refine qA (.slice none 0 0) rfl ?_
 refine WpL_nil (Wp_seq (Wp_seq_region ?_))
 refine qM (.slice a l.length c) rfl ?_
 refine qV (r_lenSlice (ad := a) (n := l.length) (cap := c) Try.underlying66 rfl) ?_
 refine qM (I6 0) rfl ?_
 refine WpL_nil (Wp_block ?_)
 refine Wp_loop (fun nn_ σ W1 => ∃ (i : Nat) (la : Option Addr) (lc : Nat) (o : List Crs), (∃ jj_, σ = upds jj_ [(1, fv), (8, (.slice a l.length c)), (9, (I6 (l.length : Int))), (10, (I6 (i : Int))), (5, (.slice la o.length lc))]) ∧ Chg none1 w0 W1 ∧ (i ≤ l.length) ∧ (o = (l.take i).flatMap k) ∧ (o.length ≤ i * 10 ∧ ∀ q ∈ o, q.2.length = 10) ∧ (W1.ownsRow base TCs 21 (.slice la o.length lc) o.length (o.map crsV).flatten) ∧ (base ≤ W1.heap.size) ∧ nn_ = l.length - i) (n := l.length - 0) ?_ ?_
 ·exact ⟨0, none, 0, [], Fits.out ⟨rfl, rfl, rfl, rfl, rfl, trivial⟩, E, Nat.zero_le _, rfl, ⟨Nat.le_refl _, fun q h => by cases h⟩, World.ownsRow_nil _ _ _ _, (by omega), rfl⟩
 ·clear E
  rintro _ _ W1 ⟨i, la, lc, o, ⟨j1, rfl⟩, E, hi, ho, hol, hO, hbs, rfl⟩
  refine Wp_seq_region ?_
  refine qV (r_lss (k := .i64) (a := (i : Int)) (b := (l.length : Int)) rfl rfl) ?_
  refine WpL_nil (Wp_seq ?_)
  refine Wp_cond (b := decide (((i : Int) : Int) < (l.length : Int))) rfl (fun hlt => ?_) (fun hlt => ?_)
  ·have khlt := hlt
   replace hlt := of_decide_eq_true hlt
   obtain ⟨x, hx⟩ := get_of_lt (l := l) (i := i) (by omega)
   have hxm := List.mem_of_getElem? hx
   obtain ⟨x0, x1, x2, x3, x4, x5, x6, x7, x8, x9, x10, x11, x12, x13, x14, x15, x16, x17, x18, x19, x20, hxv⟩ := crs21 (hg x hxm)
   obtain ⟨b, oo, rfl, hcl⟩ := SlAt.at hl (by omega)
   have hcx := hcl i (crsV x) (by simp [hx])
   rw [hxv] at hcx
   refine Wp_skip (thn_normal (Wp_seq (Wp_block (Wp_seq_region ?_))))
   refine qV (r_indexSlice (b := b) (o := oo) (len := l.length) (cap := c) (i := i) (o' := oo + i * 21) rfl rfl rfl Try.underlying66 siz65 (by omega) (by omega)) ?_
   refine qV (r_loadAgg (vs := (K21 x0 x1 x2 x3 x4 x5 x6 x7 x8 x9 x10 x11 x12 x13 x14 x15 x16 x17 x18 x19 x20)) rfl agg65 siz65 rfl (hcx.ext E)) ?_
   refine s_allocStore (v := (.agg (Q21 x0 x1 x2 x3 x4 x5 x6 x7 x8 x9 x10 x11 x12 x13 x14 x15 x16 x17 x18 x19 x20))) (c := (Q21 x0 x1 x2 x3 x4 x5 x6 x7 x8 x9 x10 x11 x12 x13 x14 x15 x16 x17 x18 x19 x20)) (n := 21) (by decide) zer65 rfl siz65 rfl rfl rfl (by simp [Value.oneCell']) ?_
   intro b3 w3 N3
   have F3 := N3.ge E
   replace hO := own_ext hO N3.ext
   replace hbs := Nat.le_trans hbs N3.ext.size
   replace E := E.ext N3.ext
   have B3 := N3.blk
   refine WpL_nil (Wp_region ?_)
   refine qM (.slice la o.length lc) rfl ?_
   refine qM fv rfl ?_
   refine qV (r_loadAgg (vs := (K21 x0 x1 x2 x3 x4 x5 x6 x7 x8 x9 x10 x11 x12 x13 x14 x15 x16 x17 x18 x19 x20)) rfl agg65 siz65 rfl (B3.cells rfl)) ?_
   refine WpL_callV (fv := fv) (vs := [(.agg (Q21 x0 x1 x2 x3 x4 x5 x6 x7 x8 x9 x10 x11 x12 x13 x14 x15 x16 x17 x18 x19 x20))]) (by decide) rfl rfl ((hxv ▸ hf _ x hxm E)) ?_
   rintro _ w9 ⟨⟨ka, kc, rfl, hkk⟩, X9⟩
   replace B3 := X9.keep B3
   replace hO := own_ext hO X9
   replace hbs := Nat.le_trans hbs X9.size
   replace E := E.ext X9
   have hkl := (hk x hxm).1
   have hol1 := hol.1
   refine s_appendAny (base := base) (n := o.length) (m := ((k x).length)) (xs := (o.map crsV).flatten) (news := ((k x).map crsV).flatten) (size := 21) (bytes := 168) (v := (.slice la o.length lc)) (by decide) Try.underlying66 siz65 byt65 zer65 rfl (by decide) rfl hO rfl (crs_six (hk x hxm).2) (crs_any hkk (hk x hxm).2) (crs_one _) (by unfold maxLen; omega) (by omega) (hbs) ?_
   intro v9 w39 Ov9 Cv9 Dv9
   replace E := E.step Cv9 (fun x hx h => absurd (hO.lt x h).1 (by omega))
   obtain ⟨la2, lc2, rfl⟩ := own_form Ov9
   have htk : (l.take (i + 1)).flatMap k = o ++ k x := by rw [List.take_add_one, hx, Option.toList_some, List.flatMap_append, ← ho, List.flatMap_cons, List.flatMap_nil, List.append_nil]
   have hl8 : o.length + (k x).length = (o ++ k x).length := by simp
   have hO9 : (w39).ownsRow base TCs 21 (.slice la2 (o ++ k x).length lc2) (o ++ k x).length ((o ++ k x).map crsV).flatten := by rw [List.map_append, List.flatten_append, List.length_append]; exact Ov9
   rw [hl8]
   refine qA (.slice la2 ((o ++ k x).length) lc2) rfl ?_
   refine WpL_nil (inB_normal (thn_normal (Wp_region ?_)))
   refine qV (r_add (k := .i64) (a := (i : Int)) (b := 1) (c := (i : Int) + 1) rfl rfl (wI64 (by omega))) ?_
   refine qM (I6 ((i : Int) + 1)) rfl ?_
   refine WpL_nil (thn_normal ?_)
   exact ⟨l.length - (i + 1), by omega, i + 1, la2, lc2, o ++ k x, Fits.out ⟨rfl, rfl, rfl, rfl, rfl, trivial⟩, E, (by omega), htk.symm, ⟨by rw [← hl8]; omega, fun q hq => by rcases List.mem_append.1 hq with h | h; exact hol.2 q h; exact (hk x hxm).2 q h⟩, hO9, Nat.le_trans hbs Cv9.size, rfl⟩
  ·have khlt := hlt
   replace hlt := of_decide_eq_false hlt
   have hkk : l.take i = l := List.take_of_length_le (by omega)
   rw [hkk] at ho
   have hat : CrsAt (W1) (.slice la o.length lc) o := own_slat hO (fun r hr => by obtain ⟨q, hq, rfl⟩ := List.mem_map.1 hr; simp only [List.length_cons, grpV_len, hol.2 q hq]) (by simp) (by decide)
   have hol1 := hol.1
   refine Wp_exit (thn_exit (thn_exit (inB_here (thn_normal (Wp_seq_region ?_)))))
   refine qM (.slice la o.length lc) rfl ?_
   refine WpL_enter rfl rfl (by decide) (r_callF (vs := [(.slice la o.length lc)]) Try.func53 nm53 bd53 rfl) (rfirst_c _ _ o hat (by omega) hol.2) ?_
   rintro _ w9 ⟨⟨⟨ra, rc, rfl⟩, hr⟩, X9⟩
   replace E := E.ext X9
   refine qA (.slice ra ((frs [] o).length) rc) rfl ?_
   refine WpL_nil (Wp_ret ?_)
   refine fin_tmp Try.results51 (v := (.slice ra ((frs [] o).length) rc)) rfl ?_
   exact ⟨by rw [← ho]; exact ⟨⟨ra, rc, rfl⟩, own_low hr (by omega)⟩, E⟩
end Go.Proofs
namespace Go.Proofs
open Go Go.Eng Go.Sort
set_option maxRecDepth 100000
theorem ndp_le : ∀ {l m : List Nat}, l.Nodup → (∀ x ∈ l, x ∈ m) → l.length ≤ m.length
  | [], _, _, _ => Nat.zero_le _
  | x :: l, m, hd, h => by
    have hd' := List.nodup_cons.1 hd
    have hx := h x List.mem_cons_self
    have h1 := ndp_le (l := l) (m := m.erase x) hd'.2 fun y hy => (List.mem_erase_of_ne (show y ≠ x from fun e => hd'.1 (by rw [← e]; exact hy))).2 (h y (List.mem_cons_of_mem _ hy))
    rw [List.length_erase_of_mem hx] at h1
    have := List.length_pos_of_mem hx
    simp only [List.length_cons]
    omega
theorem frs_nd : ∀ {l : List Crs} {S : List Nat}, ((frs S l).map (·.1)).Nodup ∧ ∀ e ∈ (frs S l).map (·.1), e ∉ S
  | [], S => by simp [frs]
  | x :: l, S => by
    simp only [frs]
    split
    · exact frs_nd
    · rename_i hx
      obtain ⟨h1, h2⟩ := frs_nd (l := l) (S := x.1 :: S)
      simp only [List.map_cons]
      refine ⟨List.nodup_cons.2 ⟨fun h => h2 _ h List.mem_cons_self, h1⟩, fun e he => ?_⟩
      rcases List.mem_cons.1 he with rfl | he
      · exact hx
      · exact fun h => h2 e he (List.mem_cons_of_mem _ h)
/-- Courses that lie between two places, each with ten groups. -/
def Lies (n p : Nat) (l : List Crs) : Prop := ∀ q ∈ l, p ≤ q.1 ∧ q.1 ≤ n ∧ q.2.length = 10
theorem frs_few {n p : Nat} {l : List Crs} (h : Lies n p l) : (frs [] l).length ≤ n + 1 := by
 have h1 := ndp_le (l := (frs [] l).map (·.1)) (m := List.range (n + 1)) (frs_nd (l := l) (S := [])).1 fun x hx => by
  obtain ⟨q, hq, rfl⟩ := List.mem_map.1 hx
  have := (h q (frs_mem hq)).2.1
  exact List.mem_range.2 (by omega)
 simpa using h1
/-- What a list of courses must be, so that it may be continued. -/
structure Few (n p : Nat) (l : List Crs) : Prop where
 few : l.length ≤ n + 1
 lies : Lies n p l
theorem few_frs {n p : Nat} {l : List Crs} (h : Lies n p l) : Few n p (frs [] l) := ⟨frs_few h, fun q hq => h q (frs_mem hq)⟩
theorem few_one {n p : Nat} {g : Grp} (h : p ≤ n) (hg : g.length = 10) : Few n p [(p, g)] := ⟨by simp, fun q hq => by simp at hq; subst hq; exact ⟨Nat.le_refl _, h, hg⟩⟩
theorem lies_then {n p : Nat} {l : List Crs} {k : Crs → List Crs} (h : Lies n p l) (hk : ∀ q ∈ l, Lies n q.1 (k q)) : Lies n p (l.flatMap k) := fun q hq => by
 obtain ⟨u, hu, hq⟩ := List.mem_flatMap.1 hq
 obtain ⟨h1, h2, h3⟩ := hk u hu q hq
 have := (h u hu).1
 exact ⟨by omega, h2, h3⟩
theorem lies_of {text : List Int} {f : CFn} (h : CrsOk text f) {p : Nat} {g : Grp} (hp : p ≤ text.length) (hg : g.length = 10) : Lies text.length p (f p g) := fun q hq => by
 obtain ⟨h1, h2, h3⟩ := h p g hp q hq
 exact ⟨h1, h2, by omega⟩
theorem few_ref (text : List Int) (t : Re) {p : Nat} {g : Grp} (hp : p ≤ text.length) (hg : g.length = 10) : Few text.length p (refC text t p g) := by
 rw [(refC_eq text t).2]
 exact few_frs (lies_of (crsOf_ok text t) hp hg)
theorem few_more (text : List Int) (t : Re) (n : Nat) {p : Nat} {g : Grp} (hp : p ≤ text.length) (hg : g.length = 10) : Few text.length p (refMore (refC text t) n p g) := by
 rw [fir_more (refC_eq text t)]
 exact few_frs (lies_of (moreC_ok (crsOf_ok text t) n) hp hg)
theorem refCs_map (text : List Int) (ts : List Re) : refCs text ts = ts.map (refC text) := by
  induction ts with
  | nil => rfl
  | cons t ts ih => simp [refCs, ih]
theorem refC_k (text : List Int) (t : Re) : refC text t = refK text t.kind t.set (t.args.map (refC text)) t.mn t.mx t.neg := by
 cases t; simp [refC, refCs_map, Re.kind, Re.set, Re.args, Re.mn, Re.mx, Re.neg]
theorem refSeq_snoc (f : CFn) : ∀ (L : List CFn) (l : List Crs), refSeq (L ++ [f]) l = frs [] ((refSeq L l).flatMap fun q => f q.1 q.2)
  | [], l => rfl
  | g :: L, l => by simp only [List.cons_append, refSeq]; exact refSeq_snoc f L _
theorem refTimes_succ (f : CFn) : ∀ (n : Nat) (l : List Crs), refTimes f (n + 1) l = frs [] ((refTimes f n l).flatMap fun q => f q.1 q.2)
  | 0, l => rfl
  | n + 1, l => by
    rw [refTimes, refTimes_succ f n]
    rfl
theorem ownC_at {w : World} {base : Nat} {v : Value} {l : List Crs} (h : OwnC w base v l) (hg : ∀ q ∈ l, q.2.length = 10) : CrsAt w v l := by
 obtain ⟨⟨a, c, rfl⟩, hO⟩ := h
 exact own_slat hO (fun r hr => by obtain ⟨q, hq, rfl⟩ := List.mem_map.1 hr; simp only [List.length_cons, grpV_len, hg q hq]) (by simp) (by decide)
theorem ownC_one {w : World} {base b : Nat} {q : Crs} (h : Blk w b (crsV q).toArray TCs) (hq : q.2.length = 10) (hb : base ≤ b) : OwnC w base (.slice (some ⟨b, 0, none⟩) 1 1) [q] := by
 refine ⟨⟨_, _, rfl⟩, ?_⟩
 have hl : ([q].map crsV).flatten.length = 21 := by rw [List.map_cons, List.map_nil, List.flatten_cons, List.flatten_nil, List.append_nil, List.length_cons, grpV_len, hq]
 have he : ([q].map crsV).flatten.toArray = (crsV q).toArray := by rw [List.map_cons, List.map_nil, List.flatten_cons, List.flatten_nil, List.append_nil]
 exact ⟨hl, .inr ⟨b, 1, ([q].map crsV).flatten.toArray, rfl, hb, he ▸ h, Nat.le_refl _, by decide, by rw [List.size_toArray, hl], List.take_of_length_le (by rw [List.length_cons, List.length_nil, List.toList_toArray, hl]; decide)⟩⟩
/-- The reference's courses, as a contract of an expression. -/
def RefOk (text : List Int) (t : Re) : Prop := ∀ (p : Nat) (g : Grp), p ≤ text.length → g.length = 10 → ∀ (w0 : World) (vs : List Value) (vt : Value), ReAt w0 t vs → IntsAt w0 vt text →
  Ret Try.prog 35 #[.agg vs.toArray, vt, .agg (crsV (p, g)).toArray] w0 fun v w => OwnC w w0.heap.size v (refC text t p g) ∧ Ext w0 w
end Go.Proofs
namespace Go.Proofs
open Go Go.Eng Go.Sort
set_option maxRecDepth 100000
set_option maxHeartbeats 2000000 in
theorem more_c (text : List Int) (hn : text.length ≤ 7) (t : Re) (hok : RefOk text t) (n : Nat) : n ≤ 1000000 → ∀ (p : Nat) (g : Grp), p ≤ text.length → g.length = 10 → ∀ (w0 : World) (vs : List Value) (vt : Value), ReAt w0 t vs → IntsAt w0 vt text →
    Ret Try.prog 54 #[.agg vs.toArray, vt, .agg (crsV (p, g)).toArray, .int .i64 ((n : Nat) : Int)] w0 fun v w => OwnC w w0.heap.size v (refMore (refC text t) n p g) ∧ Ext w0 w := by
  induction n using Nat.strongRecOn with
  | _ n ih =>
  intro hn1 p g hp hg w0 vs vt ht htx
  have ht0 := ht
  obtain ⟨sa, sc, aa, ac, rfl, hset, hlen, hargs⟩ := ht.form
  obtain ⟨ta, tc, rfl⟩ := SlAt.form htx
  simp only [List.length_map] at htx ⊢
  have hfew := few_ref text t hp hg
  obtain ⟨L, hLd⟩ : ∃ L, L = refC text t p g := ⟨_, rfl⟩
  rw [← hLd] at hfew
  have hLf := hfew.few
  obtain ⟨x0, x1, x2, x3, x4, x5, x6, x7, x8, x9, x10, x11, x12, x13, x14, x15, x16, x17, x18, x19, x20, hxv⟩ := crs21 (q := (p, g)) hg
  have hx0 : x0 = ((p : Nat) : Int) := by have := congrArg (fun l => l[0]?) hxv; simpa using this.symm
  rw [hxv]
  refine Ret_of Try.func54 rfl Try.ntmps54 (Nat.le_of_ble_eq_true rfl) ?_
  have E : Chg none1 w0 w0 := Chg.refl _ _
  refine Wp_seq_region ?_
  refine s_box (v := (.agg (R6 t sa sc aa ac))) (c := (R6 t sa sc aa ac)) (by decide) rfl rfl ?_
  intro br wr Nr
  have Fr := Nr.ge E
  replace E := E.ext Nr.ext
  have Br := Nr.blk
  refine s_box (v := (.agg (Q21 x0 x1 x2 x3 x4 x5 x6 x7 x8 x9 x10 x11 x12 x13 x14 x15 x16 x17 x18 x19 x20))) (c := (Q21 x0 x1 x2 x3 x4 x5 x6 x7 x8 x9 x10 x11 x12 x13 x14 x15 x16 x17 x18 x19 x20)) (by decide) rfl rfl ?_
  intro bx wx Nx
  have Fx := Nx.ge E
  have Ox_br := Nx.lt Br
  replace Br := Nx.keep Br
  replace E := E.ext Nx.ext
  have Bx := Nx.blk
  refine qA (.slice none 0 0) rfl ?_
  refine WpL_nil (Wp_seq (Wp_seq_region ?_))
  refine qM (I6 (n : Int)) rfl ?_
  refine qV (r_eql (k := .i64) (a := (n : Int)) (b := 0) rfl rfl) ?_
  refine WpL_nil ?_
  refine Wp_cond (b := decide (((n : Int) : Int) = 0)) rfl (fun h0 => ?_) (fun h0 => ?_)
  · have kh0 := h0
    replace h0 := of_decide_eq_true h0
    refine Wp_seq_region ?_
    refine qV (r_loadAgg (vs := (K21 x0 x1 x2 x3 x4 x5 x6 x7 x8 x9 x10 x11 x12 x13 x14 x15 x16 x17 x18 x19 x20)) rfl agg65 siz65 rfl (Bx.cells rfl)) ?_
    refine s_buildSlice (ps := [(0, (.agg (Q21 x0 x1 x2 x3 x4 x5 x6 x7 x8 x9 x10 x11 x12 x13 x14 x15 x16 x17 x18 x19 x20)))]) (c := (Q21 x0 x1 x2 x3 x4 x5 x6 x7 x8 x9 x10 x11 x12 x13 x14 x15 x16 x17 x18 x19 x20)) (by decide) rfl Try.underlying66 siz65 zer65 (by decide) (by decide) (by kernel_rfl) ?_
    intro bq wq Nq
    have Fq := Nq.ge E
    have Oq_br := Nq.lt Br
    have Oq_bx := Nq.lt Bx
    replace Br := Nq.keep Br
    replace Bx := Nq.keep Bx
    replace E := E.ext Nq.ext
    have Bq := Nq.blk
    refine qA (.slice (some ⟨bq, 0, none⟩) 1 1) rfl ?_
    refine WpL_nil (Wp_ret (thn_ret ?_))
    refine fin_tmp Try.results54 (v := (.slice (some ⟨bq, 0, none⟩) 1 1)) rfl ?_
    exact ⟨by rw [show n = 0 by omega]; exact ownC_one (hxv ▸ Bq) hg (by omega), E⟩
  · have kh0 := h0
    replace h0 := of_decide_eq_false h0
    refine Wp_skip (thn_normal (Wp_seq_region ?_))
    refine qA (.slice none 0 0) rfl ?_
    refine WpL_nil (Wp_seq (Wp_seq_region ?_))
    refine qV (r_loadAgg (vs := [(I6 t.kind), (.slice sa t.set.length sc), (.slice aa t.args.length ac), (I6 t.mn), (I6 t.mx), (.bool t.neg)]) rfl agg27 siz27 rfl (Br.cells rfl)) ?_
    refine qM (.slice ta text.length tc) rfl ?_
    refine qV (r_loadAgg (vs := (K21 x0 x1 x2 x3 x4 x5 x6 x7 x8 x9 x10 x11 x12 x13 x14 x15 x16 x17 x18 x19 x20)) rfl agg65 siz65 rfl (Bx.cells rfl)) ?_
    refine WpL_enter rfl rfl (by decide) (r_callF (vs := [(.agg (R6 t sa sc aa ac)), (.slice ta text.length tc), (.agg (Q21 x0 x1 x2 x3 x4 x5 x6 x7 x8 x9 x10 x11 x12 x13 x14 x15 x16 x17 x18 x19 x20))]) Try.func35 nm35 bd35 rfl) ((hLd.symm ▸ hxv ▸ hok p g hp hg _ _ _ (ReAt.ext E t ht0) (htx.ext E))) ?_
    rintro _ w9 ⟨⟨⟨ka, kc, rfl⟩, hK⟩, X9⟩
    replace Br := X9.keep Br
    replace Bx := X9.keep Bx
    replace E := E.ext X9
    refine qV (r_lenSlice (ad := ka) (n := L.length) (cap := kc) Try.underlying66 rfl) ?_
    refine qM (I6 0) rfl ?_
    refine WpL_nil (Wp_block ?_)
    obtain ⟨base, hbase⟩ : ∃ base, base = (w9).heap.size := ⟨_, rfl⟩
    have hb0 : w0.heap.size ≤ base ∧ br < base ∧ bx < base := ⟨by rw [hbase]; exact E.size, by rw [hbase]; exact Br.lt, by rw [hbase]; exact Bx.lt⟩
    have hKat : CrsAt w9 (.slice ka L.length kc) L := own_slat hK (fun r hr => by obtain ⟨q, hq, rfl⟩ := List.mem_map.1 hr; simp only [List.length_cons, grpV_len, (hfew.lies q hq).2.2]) (by simp) (by decide)
    have E2 : Chg none1 w9 w9 := Chg.refl _ _
    refine Wp_loop (fun nn_ σ W2 => ∃ (i : Nat) (la : Option Addr) (lc : Nat) (o : List Crs), (∃ jj_, σ = upds jj_ [(1, (.slice ta text.length tc)), (3, (I6 (n : Int))), (4, (P6 br 0)), (6, (P6 bx 0)), (19, (.slice ka L.length kc)), (20, (I6 (L.length : Int))), (21, (I6 (i : Int))), (9, (.slice la o.length lc))]) ∧ Chg none1 w0 W2 ∧ Chg none1 w9 W2 ∧ Blk W2 br (R6 t sa sc aa ac) 27 ∧ Blk W2 bx (Q21 x0 x1 x2 x3 x4 x5 x6 x7 x8 x9 x10 x11 x12 x13 x14 x15 x16 x17 x18 x19 x20) 65 ∧ (i ≤ L.length) ∧ (o = (L.take i).flatMap (fun q => if p < q.1 then refMore (refC text t) (n - 1) q.1 q.2 else [])) ∧ (o.length ≤ i * 8 ∧ ∀ q ∈ o, q.2.length = 10) ∧ (W2.ownsRow base TCs 21 (.slice la o.length lc) o.length (o.map crsV).flatten) ∧ (base ≤ W2.heap.size) ∧ nn_ = L.length - i) (n := L.length - 0) ?_ ?_
    · exact ⟨0, none, 0, [], Fits.out ⟨rfl, rfl, rfl, rfl, rfl, rfl, rfl, rfl, trivial⟩, E, E2, Br, Bx, Nat.zero_le _, rfl, ⟨Nat.le_refl _, fun q h => by cases h⟩, World.ownsRow_nil _ _ _ _, (by omega), rfl⟩
    · clear E E2 Br Bx
      rintro _ _ W2 ⟨i, la, lc, o, ⟨j2, rfl⟩, E, E2, Br, Bx, hi, ho, hol, hO, hbs, rfl⟩
      refine Wp_seq_region ?_
      refine qV (r_lss (k := .i64) (a := (i : Int)) (b := (L.length : Int)) rfl rfl) ?_
      refine WpL_nil (Wp_seq ?_)
      refine Wp_cond (b := decide (((i : Int) : Int) < (L.length : Int))) rfl (fun hlt => ?_) (fun hlt => ?_)
      · have khlt := hlt
        replace hlt := of_decide_eq_true hlt
        obtain ⟨y, hy⟩ := get_of_lt (l := L) (i := i) (by omega)
        have hym := List.mem_of_getElem? hy
        obtain ⟨hyl, hyh, hyg⟩ := hfew.lies y hym
        obtain ⟨y0, y1, y2, y3, y4, y5, y6, y7, y8, y9, y10, y11, y12, y13, y14, y15, y16, y17, y18, y19, y20, hyv⟩ := crs21 (q := y) hyg
        have hy0 : y0 = ((y.1 : Nat) : Int) := by have := congrArg (fun l => l[0]?) hyv; simpa using this.symm
        obtain ⟨b, oo, rfl, hcl⟩ := SlAt.at hKat (by omega)
        have hcx := hcl i (crsV y) (by simp [hy])
        rw [hyv] at hcx
        refine Wp_skip (thn_normal (Wp_seq (Wp_block (Wp_seq_region ?_))))
        refine qV (r_indexSlice (b := b) (o := oo) (len := L.length) (cap := kc) (i := i) (o' := oo + i * 21) rfl rfl rfl Try.underlying66 siz65 (by omega) (by omega)) ?_
        refine qV (r_loadAgg (vs := (K21 y0 y1 y2 y3 y4 y5 y6 y7 y8 y9 y10 y11 y12 y13 y14 y15 y16 y17 y18 y19 y20)) rfl agg65 siz65 rfl (hcx.ext E2)) ?_
        refine s_allocStore (v := (.agg (Q21 y0 y1 y2 y3 y4 y5 y6 y7 y8 y9 y10 y11 y12 y13 y14 y15 y16 y17 y18 y19 y20))) (c := (Q21 y0 y1 y2 y3 y4 y5 y6 y7 y8 y9 y10 y11 y12 y13 y14 y15 y16 y17 y18 y19 y20)) (n := 21) (by decide) zer65 rfl siz65 rfl rfl rfl (by simp [Value.oneCell']) ?_
        intro bu wu Nu
        have Fu := Nu.ge E
        have Fu_E2 := Nu.ge E2
        have Ou_br := Nu.lt Br
        have Ou_bx := Nu.lt Bx
        replace Br := Nu.keep Br
        replace Bx := Nu.keep Bx
        replace hO := own_ext hO Nu.ext
        replace hbs := Nat.le_trans hbs Nu.ext.size
        replace E := E.ext Nu.ext
        have Bu := Nu.blk
        replace E2 := E2.ext Nu.ext
        refine WpL_nil (Wp_seq_region ?_)
        refine qF bu 0 0 rfl Try.underlying65 rfl siz3 rfl ?_
        refine qV (r_load (v := (I6 y0)) rfl flat3 (Bu.cell rfl)) ?_
        refine qF bx 0 0 rfl Try.underlying65 rfl siz3 rfl ?_
        refine qV (r_load (v := (I6 x0)) rfl flat3 (Bx.cell rfl)) ?_
        refine qV (r_gtr (k := .i64) (a := y0) (b := x0) rfl rfl) ?_
        refine WpL_nil ?_
        refine Wp_cond (b := decide ((x0 : Int) < y0)) rfl (fun hgt => ?_) (fun hgt => ?_)
        · have khgt := hgt
          replace hgt := of_decide_eq_true hgt
          rw [hx0, hy0] at hgt
          have hf2 := few_more text t (n - 1) hyh hyg
          have hf2f := hf2.few
          refine Wp_region ?_
          refine qM (.slice la o.length lc) rfl ?_
          refine qV (r_loadAgg (vs := [(I6 t.kind), (.slice sa t.set.length sc), (.slice aa t.args.length ac), (I6 t.mn), (I6 t.mx), (.bool t.neg)]) rfl agg27 siz27 rfl (Br.cells rfl)) ?_
          refine qM (.slice ta text.length tc) rfl ?_
          refine qV (r_loadAgg (vs := (K21 y0 y1 y2 y3 y4 y5 y6 y7 y8 y9 y10 y11 y12 y13 y14 y15 y16 y17 y18 y19 y20)) rfl agg65 siz65 rfl (Bu.cells rfl)) ?_
          refine qM (I6 (n : Int)) rfl ?_
          refine qV (r_sub (k := .i64) (a := (n : Int)) (b := 1) (c := ((n - 1 : Nat) : Int)) rfl rfl (by rw [wI64 (by omega)]; omega)) ?_
          refine WpL_enter rfl rfl (by decide) (r_callF (vs := [(.agg (R6 t sa sc aa ac)), (.slice ta text.length tc), (.agg (Q21 y0 y1 y2 y3 y4 y5 y6 y7 y8 y9 y10 y11 y12 y13 y14 y15 y16 y17 y18 y19 y20)), (I6 ((n - 1 : Nat) : Int))]) Try.func54 nm54 bd54 rfl) ((hyv ▸ ih (n - 1) (by omega) (by omega) y.1 y.2 hyh hyg _ _ _ (ReAt.ext E t ht0) (htx.ext E))) ?_
          rintro _ w19 ⟨⟨⟨ma, mc, rfl⟩, hM⟩, X19⟩
          replace Br := X19.keep Br
          replace Bx := X19.keep Bx
          replace Bu := X19.keep Bu
          replace hO := own_ext hO X19
          replace hbs := Nat.le_trans hbs X19.size
          replace E := E.ext X19
          replace E2 := E2.ext X19
          have hMat : CrsAt w19 (.slice ma (refMore (refC text t) (n - 1) y.1 y.2).length mc) (refMore (refC text t) (n - 1) y.1 y.2) := own_slat hM (fun r hr => by obtain ⟨q, hq, rfl⟩ := List.mem_map.1 hr; simp only [List.length_cons, grpV_len, (hf2.lies q hq).2.2]) (by simp) (by decide)
          have hol1 := hol.1
          refine s_appendAny (base := base) (n := o.length) (m := ((refMore (refC text t) (n - 1) y.1 y.2).length)) (xs := (o.map crsV).flatten) (news := ((refMore (refC text t) (n - 1) y.1 y.2).map crsV).flatten) (size := 21) (bytes := 168) (v := (.slice la o.length lc)) (by decide) Try.underlying66 siz65 byt65 zer65 rfl (by decide) rfl hO rfl (crs_six (fun q hq => (hf2.lies q hq).2.2)) (crs_any hMat (fun q hq => (hf2.lies q hq).2.2)) (crs_one _) (by unfold maxLen; omega) (by omega) (hbs) ?_
          intro v9 w39 Ov9 Cv9 Dv9
          replace Br := Cv9.keep (fun h => by have := (hO.lt _ h).1; omega) Br
          replace Bx := Cv9.keep (fun h => by have := (hO.lt _ h).1; omega) Bx
          replace E := E.step Cv9 (fun x hx h => absurd (hO.lt x h).1 (by omega))
          replace E2 := E2.step Cv9 (fun x hx h => absurd (hO.lt x h).1 (by omega))
          obtain ⟨la2, lc2, rfl⟩ := own_form Ov9
          have htk : (L.take (i + 1)).flatMap (fun q => if p < q.1 then refMore (refC text t) (n - 1) q.1 q.2 else []) = o ++ refMore (refC text t) (n - 1) y.1 y.2 := by rw [List.take_add_one, hy, Option.toList_some, List.flatMap_append, ← ho, List.flatMap_cons, List.flatMap_nil, List.append_nil, if_pos (by omega)]
          have hl8 : o.length + (refMore (refC text t) (n - 1) y.1 y.2).length = (o ++ refMore (refC text t) (n - 1) y.1 y.2).length := by simp
          have hO9 : (w39).ownsRow base TCs 21 (.slice la2 (o ++ refMore (refC text t) (n - 1) y.1 y.2).length lc2) (o ++ refMore (refC text t) (n - 1) y.1 y.2).length ((o ++ refMore (refC text t) (n - 1) y.1 y.2).map crsV).flatten := by rw [List.map_append, List.flatten_append, List.length_append]; exact Ov9
          rw [hl8]
          refine qA (.slice la2 ((o ++ refMore (refC text t) (n - 1) y.1 y.2).length) lc2) rfl ?_
          refine WpL_nil (inB_normal (thn_normal (Wp_region ?_)))
          refine qV (r_add (k := .i64) (a := (i : Int)) (b := 1) (c := (i : Int) + 1) rfl rfl (wI64 (by omega))) ?_
          refine qM (I6 ((i : Int) + 1)) rfl ?_
          refine WpL_nil (thn_normal ?_)
          exact ⟨L.length - (i + 1), by omega, i + 1, la2, lc2, o ++ refMore (refC text t) (n - 1) y.1 y.2, Fits.out ⟨rfl, rfl, rfl, rfl, rfl, rfl, rfl, rfl, trivial⟩, E, E2, Br, Bx, (by omega), htk.symm, ⟨by rw [← hl8]; omega, fun q hq => by rcases List.mem_append.1 hq with h | h; exact hol.2 q h; exact (hf2.lies q h).2.2⟩, hO9, Nat.le_trans hbs Cv9.size, rfl⟩
        · have khgt := hgt
          replace hgt := of_decide_eq_false hgt
          have htk : (L.take (i + 1)).flatMap (fun q => if p < q.1 then refMore (refC text t) (n - 1) q.1 q.2 else []) = o := by rw [List.take_add_one, hy, Option.toList_some, List.flatMap_append, ← ho, List.flatMap_cons, List.flatMap_nil, List.append_nil, if_neg (by omega), List.append_nil]
          refine Wp_skip (inB_normal (thn_normal (Wp_region ?_)))
          refine qV (r_add (k := .i64) (a := (i : Int)) (b := 1) (c := (i : Int) + 1) rfl rfl (wI64 (by omega))) ?_
          refine qM (I6 ((i : Int) + 1)) rfl ?_
          refine WpL_nil (thn_normal ?_)
          exact ⟨L.length - (i + 1), by omega, i + 1, la, lc, o, Fits.out ⟨rfl, rfl, rfl, rfl, rfl, rfl, rfl, rfl, trivial⟩, E, E2, Br, Bx, (by omega), htk.symm, ⟨by omega, hol.2⟩, hO, hbs, rfl⟩
      · have khlt := hlt
        replace hlt := of_decide_eq_false hlt
        have hkk : L.take i = L := List.take_of_length_le (by omega)
        rw [hkk] at ho
        have hol1 := hol.1
        refine Wp_exit (thn_exit (thn_exit (inB_here (thn_normal (Wp_seq_region ?_)))))
        refine qM (.slice la o.length lc) rfl ?_
        refine qV (r_loadAgg (vs := (K21 x0 x1 x2 x3 x4 x5 x6 x7 x8 x9 x10 x11 x12 x13 x14 x15 x16 x17 x18 x19 x20)) rfl agg65 siz65 rfl (Bx.cells rfl)) ?_
        refine s_buildSlice (ps := [(0, (.agg (Q21 x0 x1 x2 x3 x4 x5 x6 x7 x8 x9 x10 x11 x12 x13 x14 x15 x16 x17 x18 x19 x20)))]) (c := (Q21 x0 x1 x2 x3 x4 x5 x6 x7 x8 x9 x10 x11 x12 x13 x14 x15 x16 x17 x18 x19 x20)) (by decide) rfl Try.underlying66 siz65 zer65 (by decide) (by decide) (by kernel_rfl) ?_
        intro b5 w5 N5
        have F5 := N5.ge E
        have F5_E2 := N5.ge E2
        have O5_br := N5.lt Br
        have O5_bx := N5.lt Bx
        replace Br := N5.keep Br
        replace Bx := N5.keep Bx
        replace hO := own_ext hO N5.ext
        replace hbs := Nat.le_trans hbs N5.ext.size
        replace E := E.ext N5.ext
        have B5 := N5.blk
        replace E2 := E2.ext N5.ext
        have hQ9 : True := trivial
        refine s_append (base := base) (n := o.length) (m := 1) (xs := (o.map crsV).flatten) (news := (K21 x0 x1 x2 x3 x4 x5 x6 x7 x8 x9 x10 x11 x12 x13 x14 x15 x16 x17 x18 x19 x20)) (size := 21) (bytes := 168) (v := (.slice la o.length lc)) (by decide) Try.underlying66 siz65 byt65 zer65 rfl (by decide) rfl hO rfl (rfl) (B5.cells rfl) (by simp [Value.oneCell']) (by unfold maxLen; omega) (by omega) (hbs) ?_
        intro v9 w39 Ov9 Cv9 Dv9
        replace Br := Cv9.keep (fun h => by have := (hO.lt _ h).1; omega) Br
        replace Bx := Cv9.keep (fun h => by have := (hO.lt _ h).1; omega) Bx
        replace E := E.step Cv9 (fun x hx h => absurd (hO.lt x h).1 (by omega))
        replace E2 := E2.step Cv9 (fun x hx h => absurd (hO.lt x h).1 (by omega))
        obtain ⟨la2, lc2, rfl⟩ := own_form Ov9
        have hog : ∀ q ∈ o ++ [(p, g)], q.2.length = 10 := fun q hq => by rcases List.mem_append.1 hq with h | h; exact hol.2 q h; simp at h; rw [h]; exact hg
        have hl8 : o.length + 1 = (o ++ [(p, g)]).length := by simp
        have hO9 : (w39).ownsRow base TCs 21 (.slice la2 (o ++ [(p, g)]).length lc2) (o ++ [(p, g)]).length ((o ++ [(p, g)]).map crsV).flatten := by rw [List.map_append, List.flatten_append, List.length_append]; simpa [hxv] using Ov9
        rw [hl8]
        have hat : CrsAt (w39) (.slice la2 (o ++ [(p, g)]).length lc2) (o ++ [(p, g)]) := own_slat hO9 (fun r hr => by obtain ⟨q, hq, rfl⟩ := List.mem_map.1 hr; simp only [List.length_cons, grpV_len, hog q hq]) (by simp) (by decide)
        have hz39 := E.size
        refine WpL_enter rfl rfl (by decide) (r_callF (vs := [(.slice la2 ((o ++ [(p, g)]).length) lc2)]) Try.func53 nm53 bd53 rfl) (rfirst_c _ _ (o ++ [(p, g)]) hat (by omega) hog) ?_
        rintro _ w29 ⟨⟨⟨ra, rc, rfl⟩, hr⟩, X29⟩
        replace Br := X29.keep Br
        replace Bx := X29.keep Bx
        replace E := E.ext X29
        replace E2 := E2.ext X29
        refine qA (.slice ra ((frs [] (o ++ [(p, g)])).length) rc) rfl ?_
        refine WpL_nil (Wp_ret ?_)
        refine fin_tmp Try.results54 (v := (.slice ra ((frs [] (o ++ [(p, g)])).length) rc)) rfl ?_
        exact ⟨by obtain ⟨m, rfl⟩ : ∃ m, n = m + 1 := ⟨n - 1, by omega⟩; rw [refMore, ← hLd]; rw [Nat.add_sub_cancel] at ho; rw [← ho]; exact ⟨⟨ra, rc, rfl⟩, own_low hr hz39⟩, E⟩
end Go.Proofs
namespace Go.Proofs
open Go Go.Eng Go.Sort
set_option maxRecDepth 100000
def crsF (base : Nat) (l : List Crs) : Fct := fun v w => OwnC w base v l
theorem ownC_ext {w w' : World} {base : Nat} {v : Value} {l : List Crs} (h : OwnC w base v l) (x : Ext w w') : OwnC w' base v l := ⟨h.1, own_ext h.2 x⟩
theorem ownC_low {w : World} {base base' : Nat} {v : Value} {l : List Crs} (h : OwnC w base v l) (hb : base' ≤ base) : OwnC w base' v l := ⟨h.1, own_low h.2 hb⟩
theorem crsF_ext (base : Nat) (l : List Crs) : ∀ v w w', Ext w w' → crsF base l v w → crsF base l v w' := fun _ _ _ x h => ownC_ext h x
theorem ownC_res {w w0 : World} {base n p : Nat} {v : Value} {l : List Crs} (hF : Few n p l) (h : OwnC w base v l ∧ Ext w0 w) : (∃ a c, v = .slice a l.length c ∧ CrsAt w v l) ∧ Ext w0 w := by
 obtain ⟨a, c, rfl⟩ := h.1.1
 exact ⟨⟨a, c, rfl, ownC_at h.1 fun q hq => (hF.lies q hq).2.2⟩, h.2⟩
theorem ref_arg {text : List Int} {t x : Re} (hx : t.args[0]? = some x) : (t.args.map (refC text)).headD noC = refC text x := by
  cases h : t.args with
  | nil => rw [h] at hx; cases hx
  | cons y r => rw [h] at hx; simp at hx; subst hx; rfl
set_option maxHeartbeats 1000000 in
theorem crs1_c (text : List Int) (t : Re) (hok : RefOk text t) (q : Crs) (hq : q.1 ≤ text.length) (hg : q.2.length = 10) (w0 : World) (vs : List Value) (vt : Value) (ba bt : Nat) (ht : ReAt w0 t vs) (htx : IntsAt w0 vt text) (hBa : Blk w0 ba vs.toArray 27) (hBt : Blk w0 bt #[vt] 22) :
  Ret Try.prog 52 #[.agg (crsV q).toArray, .pointer (some ⟨ba, 0, none⟩), .pointer (some ⟨bt, 0, none⟩)] w0 fun v w => OwnC w w0.heap.size v (refC text t q.1 q.2) ∧ Ext w0 w := by
 have ht0 := ht
 obtain ⟨sa, sc, aa, ac, rfl, hset, hlen, hargs⟩ := ht.form
 obtain ⟨ta, tc, rfl⟩ := SlAt.form htx
 simp only [List.length_map] at htx hBt ⊢
 obtain ⟨x0, x1, x2, x3, x4, x5, x6, x7, x8, x9, x10, x11, x12, x13, x14, x15, x16, x17, x18, x19, x20, hxv⟩ := crs21 hg
 rw [hxv]
 refine Ret_of Try.func52 rfl Try.ntmps52 (Nat.le_of_ble_eq_true rfl) ?_
 have E : Chg none1 w0 w0 := Chg.refl _ _
 refine Wp_seq_region ?_
 refine s_box (v := (.agg (Q21 x0 x1 x2 x3 x4 x5 x6 x7 x8 x9 x10 x11 x12 x13 x14 x15 x16 x17 x18 x19 x20))) (c := (Q21 x0 x1 x2 x3 x4 x5 x6 x7 x8 x9 x10 x11 x12 x13 x14 x15 x16 x17 x18 x19 x20)) (by decide) rfl rfl ?_
 intro bz wz Nz
 have Fz := Nz.ge E
 have Oz_ba := Nz.lt hBa
 have Oz_bt := Nz.lt hBt
 replace hBa := Nz.keep hBa
 replace hBt := Nz.keep hBt
 replace E := E.ext Nz.ext
 have Bz := Nz.blk
 refine qA (.slice none 0 0) rfl ?_
 refine WpL_nil (Wp_seq_region ?_)
 refine qV (r_loadAgg (vs := [(I6 t.kind), (.slice sa t.set.length sc), (.slice aa t.args.length ac), (I6 t.mn), (I6 t.mx), (.bool t.neg)]) rfl agg27 siz27 rfl (hBa.cells rfl)) ?_
 refine qV (r_load (v := (.slice ta text.length tc)) rfl flat22 (hBt.cell rfl)) ?_
 refine qV (r_loadAgg (vs := (K21 x0 x1 x2 x3 x4 x5 x6 x7 x8 x9 x10 x11 x12 x13 x14 x15 x16 x17 x18 x19 x20)) rfl agg65 siz65 rfl (Bz.cells rfl)) ?_
 refine WpL_enter rfl rfl (by decide) (r_callF (vs := [(.agg (R6 t sa sc aa ac)), (.slice ta text.length tc), (.agg (Q21 x0 x1 x2 x3 x4 x5 x6 x7 x8 x9 x10 x11 x12 x13 x14 x15 x16 x17 x18 x19 x20))]) Try.func35 nm35 bd35 rfl) ((hxv ▸ hok q.1 q.2 hq hg _ _ _ (ReAt.ext E t ht0) (htx.ext E))) ?_
 rintro _ w9 ⟨⟨⟨ka, kc, rfl⟩, hK⟩, X9⟩
 replace hBa := X9.keep hBa
 replace hBt := X9.keep hBt
 replace Bz := X9.keep Bz
 replace E := E.ext X9
 refine qA (.slice ka ((refC text t q.1 q.2).length) kc) rfl ?_
 refine WpL_nil (Wp_ret ?_)
 refine fin_tmp Try.results52 (v := (.slice ka ((refC text t q.1 q.2).length) kc)) rfl ?_
 exact ⟨⟨⟨ka, kc, rfl⟩, own_low hK (by have := Nz.ext.size; omega)⟩, E⟩
set_option maxHeartbeats 1000000 in
theorem crs2_c (text : List Int) (t x : Re) (hx : t.args[0]? = some x) (hok : RefOk text x) (q : Crs) (hq : q.1 ≤ text.length) (hg : q.2.length = 10) (w0 : World) (vs : List Value) (vt : Value) (ba bt : Nat) (ht : ReAt w0 t vs) (htx : IntsAt w0 vt text) (hBa : Blk w0 ba vs.toArray 27) (hBt : Blk w0 bt #[vt] 22) :
  Ret Try.prog 55 #[.agg (crsV q).toArray, .pointer (some ⟨ba, 0, none⟩), .pointer (some ⟨bt, 0, none⟩)] w0 fun v w => OwnC w w0.heap.size v (refC text x q.1 q.2) ∧ Ext w0 w := by
 have ht0 := ht
 obtain ⟨sa, sc, aa, ac, rfl, hset, hlen, hargs⟩ := ht.form
 obtain ⟨ta, tc, rfl⟩ := SlAt.form htx
 simp only [List.length_map] at htx hBt ⊢
 obtain ⟨x0, x1, x2, x3, x4, x5, x6, x7, x8, x9, x10, x11, x12, x13, x14, x15, x16, x17, x18, x19, x20, hxv⟩ := crs21 hg
 rw [hxv]
 have hal := lt_of_get hx
 obtain ⟨ab, ao, rfl, hres⟩ := args_at hargs (by omega)
 obtain ⟨us, hus, hxt⟩ := hres.get hx
 obtain ⟨xsa, xsc, xaa, xac, rfl, hxset, hxlen, hxargs⟩ := hxt.form
 refine Ret_of Try.func55 rfl Try.ntmps55 (Nat.le_of_ble_eq_true rfl) ?_
 have E : Chg none1 w0 w0 := Chg.refl _ _
 refine Wp_seq_region ?_
 refine s_box (v := (.agg (Q21 x0 x1 x2 x3 x4 x5 x6 x7 x8 x9 x10 x11 x12 x13 x14 x15 x16 x17 x18 x19 x20))) (c := (Q21 x0 x1 x2 x3 x4 x5 x6 x7 x8 x9 x10 x11 x12 x13 x14 x15 x16 x17 x18 x19 x20)) (by decide) rfl rfl ?_
 intro bz wz Nz
 have Fz := Nz.ge E
 have Oz_ba := Nz.lt hBa
 have Oz_bt := Nz.lt hBt
 replace hBa := Nz.keep hBa
 replace hBt := Nz.keep hBt
 replace E := E.ext Nz.ext
 have Bz := Nz.blk
 refine qA (.slice none 0 0) rfl ?_
 refine WpL_nil (Wp_seq ?_)
 obtain ⟨Fs1, hFs1⟩ : ∃ Fs : List Fact, Fs = [.eq (P6 ba 2), .eq (.slice (some ⟨ab, ao, none⟩) t.args.length ac), .eq (.pointer (some ⟨ab, ao + 0 * 6, none⟩)), .eq (.agg (R6 x xsa xsc xaa xac)), .eq (.slice ta text.length tc), .eq (.agg (Q21 x0 x1 x2 x3 x4 x5 x6 x7 x8 x9 x10 x11 x12 x13 x14 x15 x16 x17 x18 x19 x20)), .gen (crsF w0.heap.size (refC text x q.1 q.2)) (crsF_ext _ _), .gen (crsF w0.heap.size (refC text x q.1 q.2)) (crsF_ext _ _)] := ⟨_, rfl⟩
 refine Wp_dag [5, 6, 7, 8, 9, 10, 11, 4] [[], [0], [1], [2], [], [], [3, 4, 5], [0, 1, 2, 3, 4, 5, 6]] Fs1 hFs1 mixed (by kernel_rfl) (by kernel_rfl) ?_ ?_
 ·intro wd X0
  refine DagSteps.cons (fun s' w' X U H => Or.inl ⟨?_, ?_⟩) ?_
  ·exact Guarded_none rfl
  ·exact Does_val (r_fieldAddr (b := ba) (o := 0) (o' := 2) (U 1 rfl) Try.underlying27 rfl siz25 rfl) (Ext.refl _) rfl
  refine DagSteps.cons (fun s' w' X U H => Or.inl ⟨?_, ?_⟩) ?_
  ·exact Guarded_none rfl
  ·have e5 : s' 5 = (.pointer (some ⟨ba, 2, none⟩)) := H 0 rfl 5 (.eq (.pointer (some ⟨ba, 2, none⟩))) rfl (by rw [hFs1]; rfl)
   exact Does_val (r_load (v := (.slice (some ⟨ab, ao, none⟩) t.args.length ac)) e5 flat25 (((X0.trans X).keep hBa).cell rfl)) (Ext.refl _) rfl
  refine DagSteps.cons (fun s' w' X U H => Or.inl ⟨?_, ?_⟩) ?_
  ·exact Guarded_none rfl
  ·have e6 : s' 6 = (.slice (some ⟨ab, ao, none⟩) t.args.length ac) := H 1 rfl 6 (.eq (.slice (some ⟨ab, ao, none⟩) t.args.length ac)) rfl (by rw [hFs1]; rfl)
   exact Does_val (r_indexSlice (b := ab) (o := ao) (len := t.args.length) (cap := ac) (i := 0) (o' := ao + 0 * 6) e6 rfl rfl Try.underlying25 siz27 (by omega) (by omega)) (Ext.refl _) rfl
  refine DagSteps.cons (fun s' w' X U H => Or.inl ⟨?_, ?_⟩) ?_
  ·exact Guarded_none rfl
  ·have e7 : s' 7 = (.pointer (some ⟨ab, ao + 0 * 6, none⟩)) := H 2 rfl 7 (.eq (.pointer (some ⟨ab, ao + 0 * 6, none⟩))) rfl (by rw [hFs1]; rfl)
   exact Does_val (r_loadAgg (vs := [(I6 x.kind), (.slice xsa x.set.length xsc), (.slice xaa x.args.length xac), (I6 x.mn), (I6 x.mx), (.bool x.neg)]) e7 agg27 siz27 rfl (hus.ext (Ext.trans E (X0.trans X)))) (Ext.refl _) rfl
  refine DagSteps.cons (fun s' w' X U H => Or.inl ⟨?_, ?_⟩) ?_
  ·exact Guarded_none rfl
  ·exact Does_val (r_load (v := (.slice ta text.length tc)) (U 2 rfl) flat22 (((X0.trans X).keep hBt).cell rfl)) (Ext.refl _) rfl
  refine DagSteps.cons (fun s' w' X U H => Or.inl ⟨?_, ?_⟩) ?_
  ·exact Guarded_none rfl
  ·exact Does_val (r_loadAgg (vs := (K21 x0 x1 x2 x3 x4 x5 x6 x7 x8 x9 x10 x11 x12 x13 x14 x15 x16 x17 x18 x19 x20)) (U 3 rfl) agg65 siz65 rfl (((X0.trans X).keep Bz).cells rfl)) (Ext.refl _) rfl
  refine DagSteps.cons (fun s' w' X U H => Or.inl ⟨?_, ?_⟩) ?_
  ·exact Guarded_none rfl
  ·have e8 : s' 8 = (.agg #[(.int .i64 x.kind), (.slice xsa x.set.length xsc), (.slice xaa x.args.length xac), (.int .i64 x.mn), (.int .i64 x.mx), (.bool x.neg)]) := H 3 rfl 8 (.eq (.agg #[(.int .i64 x.kind), (.slice xsa x.set.length xsc), (.slice xaa x.args.length xac), (.int .i64 x.mn), (.int .i64 x.mx), (.bool x.neg)])) rfl (by rw [hFs1]; rfl)
   have e9 : s' 9 = (.slice ta text.length tc) := H 4 rfl 9 (.eq (.slice ta text.length tc)) rfl (by rw [hFs1]; rfl)
   have e10 : s' 10 = (.agg #[(.int .i64 x0), (.int .i64 x1), (.int .i64 x2), (.int .i64 x3), (.int .i64 x4), (.int .i64 x5), (.int .i64 x6), (.int .i64 x7), (.int .i64 x8), (.int .i64 x9), (.int .i64 x10), (.int .i64 x11), (.int .i64 x12), (.int .i64 x13), (.int .i64 x14), (.int .i64 x15), (.int .i64 x16), (.int .i64 x17), (.int .i64 x18), (.int .i64 x19), (.int .i64 x20)]) := H 5 rfl 10 (.eq (.agg #[(.int .i64 x0), (.int .i64 x1), (.int .i64 x2), (.int .i64 x3), (.int .i64 x4), (.int .i64 x5), (.int .i64 x6), (.int .i64 x7), (.int .i64 x8), (.int .i64 x9), (.int .i64 x10), (.int .i64 x11), (.int .i64 x12), (.int .i64 x13), (.int .i64 x14), (.int .i64 x15), (.int .i64 x16), (.int .i64 x17), (.int .i64 x18), (.int .i64 x19), (.int .i64 x20)])) rfl (by rw [hFs1]; rfl)
   exact Does_enter (r_callF (vs := [(.agg (R6 x xsa xsc xaa xac)), (.slice ta text.length tc), (.agg (Q21 x0 x1 x2 x3 x4 x5 x6 x7 x8 x9 x10 x11 x12 x13 x14 x15 x16 x17 x18 x19 x20))]) Try.func35 nm35 bd35 (lst3 e8 e9 e10)) ((hxv ▸ hok q.1 q.2 hq hg _ _ _ (ReAt.ext (Ext.trans E (X0.trans X)) x hxt) (htx.ext (Ext.trans E (X0.trans X)))).mono (fun v w h => ⟨ownC_low h.1 (by have := E.size; have := X0.size; have := X.size; omega), h.2⟩))
  refine DagSteps.cons (fun s' w' X U H => Or.inl ⟨?_, ?_⟩) ?_
  ·exact Guarded_none rfl
  ·exact Does_val (r_assign (v := s' 11) rfl) (Ext.refl _) (H 6 rfl 11 (.gen (crsF w0.heap.size (refC text x q.1 q.2)) (crsF_ext _ _)) rfl (by rw [hFs1]; rfl))
  exact DagSteps.nil
 ·intro s' w1 X1 U H
  obtain ⟨⟨a4, c4, e4⟩, O4⟩ := H 7 4 (.gen (crsF w0.heap.size (refC text x q.1 q.2)) (crsF_ext _ _)) rfl (by rw [hFs1]; rfl)
  obtain ⟨j1, rfl⟩ := Fits.out (σ := s') (l := [(4, (.slice a4 ((refC text x q.1 q.2).length) c4))]) ⟨e4, trivial⟩
  clear U H
  replace hBa := X1.keep hBa
  replace hBt := X1.keep hBt
  replace Bz := X1.keep Bz
  replace E := E.ext X1
  refine thn_normal (Wp_ret ?_)
  refine fin_tmp Try.results55 (v := (.slice a4 ((refC text x q.1 q.2).length) c4)) rfl ?_
  exact ⟨⟨⟨_, _, rfl⟩, O4⟩, E⟩
set_option maxHeartbeats 1000000 in
theorem crs3_c (text : List Int) (t x : Re) (hx : t.args[0]? = some x) (hn : text.length ≤ 7) (hok : RefOk text x) (hm : 0 ≤ t.mn ∧ t.mn ≤ t.mx ∧ t.mx ≤ 8) (q : Crs) (hq : q.1 ≤ text.length) (hg : q.2.length = 10) (w0 : World) (vs : List Value) (vt : Value) (ba bt : Nat) (ht : ReAt w0 t vs) (htx : IntsAt w0 vt text) (hBa : Blk w0 ba vs.toArray 27) (hBt : Blk w0 bt #[vt] 22) :
  Ret Try.prog 56 #[.agg (crsV q).toArray, .pointer (some ⟨ba, 0, none⟩), .pointer (some ⟨bt, 0, none⟩)] w0 fun v w => OwnC w w0.heap.size v (refMore (refC text x) (t.mx - t.mn).toNat q.1 q.2) ∧ Ext w0 w := by
 have ht0 := ht
 obtain ⟨sa, sc, aa, ac, rfl, hset, hlen, hargs⟩ := ht.form
 obtain ⟨ta, tc, rfl⟩ := SlAt.form htx
 simp only [List.length_map] at htx hBt ⊢
 obtain ⟨x0, x1, x2, x3, x4, x5, x6, x7, x8, x9, x10, x11, x12, x13, x14, x15, x16, x17, x18, x19, x20, hxv⟩ := crs21 hg
 rw [hxv]
 have hal := lt_of_get hx
 obtain ⟨ab, ao, rfl, hres⟩ := args_at hargs (by omega)
 obtain ⟨us, hus, hxt⟩ := hres.get hx
 obtain ⟨xsa, xsc, xaa, xac, rfl, hxset, hxlen, hxargs⟩ := hxt.form
 have hsub : (((t.mx - t.mn).toNat : Nat) : Int) = t.mx - t.mn := by omega
 refine Ret_of Try.func56 rfl Try.ntmps56 (Nat.le_of_ble_eq_true rfl) ?_
 have E : Chg none1 w0 w0 := Chg.refl _ _
 refine Wp_seq_region ?_
 refine s_box (v := (.agg (Q21 x0 x1 x2 x3 x4 x5 x6 x7 x8 x9 x10 x11 x12 x13 x14 x15 x16 x17 x18 x19 x20))) (c := (Q21 x0 x1 x2 x3 x4 x5 x6 x7 x8 x9 x10 x11 x12 x13 x14 x15 x16 x17 x18 x19 x20)) (by decide) rfl rfl ?_
 intro bz wz Nz
 have Fz := Nz.ge E
 have Oz_ba := Nz.lt hBa
 have Oz_bt := Nz.lt hBt
 replace hBa := Nz.keep hBa
 replace hBt := Nz.keep hBt
 replace E := E.ext Nz.ext
 have Bz := Nz.blk
 refine qA (.slice none 0 0) rfl ?_
 refine WpL_nil (Wp_seq ?_)
 obtain ⟨Fs1, hFs1⟩ : ∃ Fs : List Fact, Fs = [.eq (P6 ba 2), .eq (.slice (some ⟨ab, ao, none⟩) t.args.length ac), .eq (.pointer (some ⟨ab, ao + 0 * 6, none⟩)), .eq (.agg (R6 x xsa xsc xaa xac)), .eq (.slice ta text.length tc), .eq (.agg (Q21 x0 x1 x2 x3 x4 x5 x6 x7 x8 x9 x10 x11 x12 x13 x14 x15 x16 x17 x18 x19 x20)), .eq (P6 ba 4), .eq (I6 t.mx), .eq (P6 ba 3), .eq (I6 t.mn), .eq (I6 (t.mx - t.mn)), .gen (crsF w0.heap.size (refMore (refC text x) (t.mx - t.mn).toNat q.1 q.2)) (crsF_ext _ _), .gen (crsF w0.heap.size (refMore (refC text x) (t.mx - t.mn).toNat q.1 q.2)) (crsF_ext _ _)] := ⟨_, rfl⟩
 refine Wp_dag [5, 6, 7, 8, 9, 10, 11, 12, 13, 14, 15, 16, 4] [[], [0], [1], [2], [], [], [], [6], [], [8], [7, 9], [3, 4, 5, 10], [0, 1, 2, 3, 4, 5, 6, 7, 8, 9, 10, 11]] Fs1 hFs1 mixed (by kernel_rfl) (by kernel_rfl) ?_ ?_
 ·intro wd X0
  refine DagSteps.cons (fun s' w' X U H => Or.inl ⟨?_, ?_⟩) ?_
  ·exact Guarded_none rfl
  ·exact Does_val (r_fieldAddr (b := ba) (o := 0) (o' := 2) (U 1 rfl) Try.underlying27 rfl siz25 rfl) (Ext.refl _) rfl
  refine DagSteps.cons (fun s' w' X U H => Or.inl ⟨?_, ?_⟩) ?_
  ·exact Guarded_none rfl
  ·have e5 : s' 5 = (.pointer (some ⟨ba, 2, none⟩)) := H 0 rfl 5 (.eq (.pointer (some ⟨ba, 2, none⟩))) rfl (by rw [hFs1]; rfl)
   exact Does_val (r_load (v := (.slice (some ⟨ab, ao, none⟩) t.args.length ac)) e5 flat25 (((X0.trans X).keep hBa).cell rfl)) (Ext.refl _) rfl
  refine DagSteps.cons (fun s' w' X U H => Or.inl ⟨?_, ?_⟩) ?_
  ·exact Guarded_none rfl
  ·have e6 : s' 6 = (.slice (some ⟨ab, ao, none⟩) t.args.length ac) := H 1 rfl 6 (.eq (.slice (some ⟨ab, ao, none⟩) t.args.length ac)) rfl (by rw [hFs1]; rfl)
   exact Does_val (r_indexSlice (b := ab) (o := ao) (len := t.args.length) (cap := ac) (i := 0) (o' := ao + 0 * 6) e6 rfl rfl Try.underlying25 siz27 (by omega) (by omega)) (Ext.refl _) rfl
  refine DagSteps.cons (fun s' w' X U H => Or.inl ⟨?_, ?_⟩) ?_
  ·exact Guarded_none rfl
  ·have e7 : s' 7 = (.pointer (some ⟨ab, ao + 0 * 6, none⟩)) := H 2 rfl 7 (.eq (.pointer (some ⟨ab, ao + 0 * 6, none⟩))) rfl (by rw [hFs1]; rfl)
   exact Does_val (r_loadAgg (vs := [(I6 x.kind), (.slice xsa x.set.length xsc), (.slice xaa x.args.length xac), (I6 x.mn), (I6 x.mx), (.bool x.neg)]) e7 agg27 siz27 rfl (hus.ext (Ext.trans E (X0.trans X)))) (Ext.refl _) rfl
  refine DagSteps.cons (fun s' w' X U H => Or.inl ⟨?_, ?_⟩) ?_
  ·exact Guarded_none rfl
  ·exact Does_val (r_load (v := (.slice ta text.length tc)) (U 2 rfl) flat22 (((X0.trans X).keep hBt).cell rfl)) (Ext.refl _) rfl
  refine DagSteps.cons (fun s' w' X U H => Or.inl ⟨?_, ?_⟩) ?_
  ·exact Guarded_none rfl
  ·exact Does_val (r_loadAgg (vs := (K21 x0 x1 x2 x3 x4 x5 x6 x7 x8 x9 x10 x11 x12 x13 x14 x15 x16 x17 x18 x19 x20)) (U 3 rfl) agg65 siz65 rfl (((X0.trans X).keep Bz).cells rfl)) (Ext.refl _) rfl
  refine DagSteps.cons (fun s' w' X U H => Or.inl ⟨?_, ?_⟩) ?_
  ·exact Guarded_none rfl
  ·exact Does_val (r_fieldAddr (b := ba) (o := 0) (o' := 4) (U 1 rfl) Try.underlying27 rfl siz3 rfl) (Ext.refl _) rfl
  refine DagSteps.cons (fun s' w' X U H => Or.inl ⟨?_, ?_⟩) ?_
  ·exact Guarded_none rfl
  ·have e11 : s' 11 = (.pointer (some ⟨ba, 4, none⟩)) := H 6 rfl 11 (.eq (.pointer (some ⟨ba, 4, none⟩))) rfl (by rw [hFs1]; rfl)
   exact Does_val (r_load (v := (I6 t.mx)) e11 flat3 (((X0.trans X).keep hBa).cell rfl)) (Ext.refl _) rfl
  refine DagSteps.cons (fun s' w' X U H => Or.inl ⟨?_, ?_⟩) ?_
  ·exact Guarded_none rfl
  ·exact Does_val (r_fieldAddr (b := ba) (o := 0) (o' := 3) (U 1 rfl) Try.underlying27 rfl siz3 rfl) (Ext.refl _) rfl
  refine DagSteps.cons (fun s' w' X U H => Or.inl ⟨?_, ?_⟩) ?_
  ·exact Guarded_none rfl
  ·have e13 : s' 13 = (.pointer (some ⟨ba, 3, none⟩)) := H 8 rfl 13 (.eq (.pointer (some ⟨ba, 3, none⟩))) rfl (by rw [hFs1]; rfl)
   exact Does_val (r_load (v := (I6 t.mn)) e13 flat3 (((X0.trans X).keep hBa).cell rfl)) (Ext.refl _) rfl
  refine DagSteps.cons (fun s' w' X U H => Or.inl ⟨?_, ?_⟩) ?_
  ·exact Guarded_none rfl
  ·have e12 : s' 12 = (.int .i64 t.mx) := H 7 rfl 12 (.eq (.int .i64 t.mx)) rfl (by rw [hFs1]; rfl)
   have e14 : s' 14 = (.int .i64 t.mn) := H 9 rfl 14 (.eq (.int .i64 t.mn)) rfl (by rw [hFs1]; rfl)
   exact Does_val (r_sub (k := .i64) (a := t.mx) (b := t.mn) (c := t.mx - t.mn) e12 e14 (wI64 (by omega))) (Ext.refl _) rfl
  refine DagSteps.cons (fun s' w' X U H => Or.inl ⟨?_, ?_⟩) ?_
  ·exact Guarded_none rfl
  ·have e8 : s' 8 = (.agg #[(.int .i64 x.kind), (.slice xsa x.set.length xsc), (.slice xaa x.args.length xac), (.int .i64 x.mn), (.int .i64 x.mx), (.bool x.neg)]) := H 3 rfl 8 (.eq (.agg #[(.int .i64 x.kind), (.slice xsa x.set.length xsc), (.slice xaa x.args.length xac), (.int .i64 x.mn), (.int .i64 x.mx), (.bool x.neg)])) rfl (by rw [hFs1]; rfl)
   have e9 : s' 9 = (.slice ta text.length tc) := H 4 rfl 9 (.eq (.slice ta text.length tc)) rfl (by rw [hFs1]; rfl)
   have e10 : s' 10 = (.agg #[(.int .i64 x0), (.int .i64 x1), (.int .i64 x2), (.int .i64 x3), (.int .i64 x4), (.int .i64 x5), (.int .i64 x6), (.int .i64 x7), (.int .i64 x8), (.int .i64 x9), (.int .i64 x10), (.int .i64 x11), (.int .i64 x12), (.int .i64 x13), (.int .i64 x14), (.int .i64 x15), (.int .i64 x16), (.int .i64 x17), (.int .i64 x18), (.int .i64 x19), (.int .i64 x20)]) := H 5 rfl 10 (.eq (.agg #[(.int .i64 x0), (.int .i64 x1), (.int .i64 x2), (.int .i64 x3), (.int .i64 x4), (.int .i64 x5), (.int .i64 x6), (.int .i64 x7), (.int .i64 x8), (.int .i64 x9), (.int .i64 x10), (.int .i64 x11), (.int .i64 x12), (.int .i64 x13), (.int .i64 x14), (.int .i64 x15), (.int .i64 x16), (.int .i64 x17), (.int .i64 x18), (.int .i64 x19), (.int .i64 x20)])) rfl (by rw [hFs1]; rfl)
   have e15 : s' 15 = (.int .i64 (t.mx - t.mn)) := H 10 rfl 15 (.eq (.int .i64 (t.mx - t.mn))) rfl (by rw [hFs1]; rfl)
   exact Does_enter (r_callF (vs := [(.agg (R6 x xsa xsc xaa xac)), (.slice ta text.length tc), (.agg (Q21 x0 x1 x2 x3 x4 x5 x6 x7 x8 x9 x10 x11 x12 x13 x14 x15 x16 x17 x18 x19 x20)), (I6 (t.mx - t.mn))]) Try.func54 nm54 bd54 (lst4 e8 e9 e10 e15)) ((hxv ▸ hsub ▸ more_c text hn x hok (t.mx - t.mn).toNat (by omega) q.1 q.2 hq hg _ _ _ (ReAt.ext (Ext.trans E (X0.trans X)) x hxt) (htx.ext (Ext.trans E (X0.trans X)))).mono (fun v w h => ⟨ownC_low h.1 (by have := E.size; have := X0.size; have := X.size; omega), h.2⟩))
  refine DagSteps.cons (fun s' w' X U H => Or.inl ⟨?_, ?_⟩) ?_
  ·exact Guarded_none rfl
  ·exact Does_val (r_assign (v := s' 16) rfl) (Ext.refl _) (H 11 rfl 16 (.gen (crsF w0.heap.size (refMore (refC text x) (t.mx - t.mn).toNat q.1 q.2)) (crsF_ext _ _)) rfl (by rw [hFs1]; rfl))
  exact DagSteps.nil
 ·intro s' w1 X1 U H
  obtain ⟨⟨a4, c4, e4⟩, O4⟩ := H 12 4 (.gen (crsF w0.heap.size (refMore (refC text x) (t.mx - t.mn).toNat q.1 q.2)) (crsF_ext _ _)) rfl (by rw [hFs1]; rfl)
  obtain ⟨j1, rfl⟩ := Fits.out (σ := s') (l := [(4, (.slice a4 ((refMore (refC text x) (t.mx - t.mn).toNat q.1 q.2).length) c4))]) ⟨e4, trivial⟩
  clear U H
  replace hBa := X1.keep hBa
  replace hBt := X1.keep hBt
  replace Bz := X1.keep Bz
  replace E := E.ext X1
  refine thn_normal (Wp_ret ?_)
  refine fin_tmp Try.results56 (v := (.slice a4 ((refMore (refC text x) (t.mx - t.mn).toNat q.1 q.2).length) c4)) rfl ?_
  exact ⟨⟨⟨_, _, rfl⟩, O4⟩, E⟩
end Go.Proofs
namespace Go.Proofs
open Go Go.Eng Go.Sort
set_option maxRecDepth 100000
theorem set_two {α : Type} {l : List α} {i : Nat} {v u : α} (h : i + 2 ≤ l.length) : l.take i ++ [v, u] ++ l.drop (i + 2) = (l.set i v).set (i + 1) u := by
 rw [List.set_eq_take_append_cons_drop (l := l.set i v), if_pos (by rw [List.length_set]; omega), List.take_set, List.drop_set, if_pos (by omega), List.set_eq_take_append_cons_drop, if_pos (by rw [List.length_take]; omega), List.take_take, Nat.min_eq_left (by omega), List.drop_take]
 simp [show i + 1 - (i + 1) = 0 by omega, List.append_assoc]
theorem own_two' {w w' : World} {base e size n cap g i : Nat} {xs : List Value} {cur : Array Value} {v u : Value} (h : w.ownsRow base e size (.slice (some ⟨g, 0, none⟩) n cap) n xs) (hB : Blk w g cur e) (hi : i + 2 ≤ n * size) (hB' : Blk w' g (cur.toList.take i ++ [v, u] ++ cur.toList.drop (i + 2)).toArray e) : w'.ownsRow base e size (.slice (some ⟨g, 0, none⟩) n cap) n (xs.take i ++ [v, u] ++ xs.drop (i + 2)) := by
 rcases h.2 with ⟨h1, _⟩ | ⟨g', cap', cur', hv, hbg, hg, hnc, hcm, hcs, htake⟩
 ·simp at h1
 ·simp only [Value.slice.injEq, Option.some.injEq, Addr.mk.injEq, and_true] at hv
  obtain ⟨rfl, _, rfl⟩ := hv
  unfold Blk at hB hB'
  rw [hB] at hg
  simp only [Option.some.injEq, Obj.cells.injEq, and_true] at hg
  obtain ⟨rfl, _⟩ := hg
  have hcl : n * size ≤ cur.toList.length := by rw [Array.length_toList, hcs]; exact Nat.mul_le_mul_right _ hnc
  have hxl : xs.length = n * size := h.1
  rw [set_two (by omega)] at hB' ⊢
  refine ⟨by simpa using h.1, .inr ⟨g, cap, _, rfl, hbg, hB', hnc, hcm, by simpa using hcs, ?_⟩⟩
  rw [← htake, List.toList_toArray, List.take_set, List.take_set]
theorem crs_put : ∀ {L : List Crs} {k m : Nat} {q : Crs} {c : Int × Int}, (∀ u ∈ L, u.2.length = 10) → L[k]? = some q → m < 10 →
    (L.map crsV).flatten.take (k * 21 + 1 + m * 2) ++ [Value.int .i64 c.1, Value.int .i64 c.2] ++ (L.map crsV).flatten.drop (k * 21 + 1 + m * 2 + 2) = ((L.set k (q.1, q.2.set m c)).map crsV).flatten
  | [], k, m, q, c, _, h, _ => by simp at h
  | x :: L, 0, m, q, c, hg, h, hm => by
    simp at h
    subst h
    have hx : (crsV x).length = 21 := by rw [List.length_cons, grpV_len, hg x (by simp)]
    have hgl := grpV_len x.2
    have hx10 := hg x (by simp)
    simp only [List.map_cons, List.flatten_cons, List.set_cons_zero, Nat.zero_mul, Nat.zero_add]
    rw [List.take_append_of_le_length (by omega), List.drop_append_of_le_length (by omega)]
    rw [← List.append_assoc]
    congr 1
    show (Value.int .i64 (x.1 : Int) :: grpV x.2).take (1 + m * 2) ++ _ ++ (Value.int .i64 (x.1 : Int) :: grpV x.2).drop (1 + m * 2 + 2) = Value.int .i64 (x.1 : Int) :: grpV (x.2.set m c)
    rw [← grpV_put x.2 m c (by omega), Nat.add_comm 1, show m * 2 + 1 + 2 = m * 2 + 2 + 1 by omega]
    simp
  | x :: L, k + 1, m, q, c, hg, h, hm => by
    have hx : (crsV x).length = 21 := by rw [List.length_cons, grpV_len, hg x (by simp)]
    have ih := crs_put (L := L) (k := k) (m := m) (q := q) (c := c) (fun u hu => hg u (by simp [hu])) (by simpa using h) hm
    simp only [List.map_cons, List.flatten_cons, List.set_cons_succ]
    rw [← ih, show (k + 1) * 21 + 1 + m * 2 = (crsV x).length + (k * 21 + 1 + m * 2) by omega, show (crsV x).length + (k * 21 + 1 + m * 2) + 2 = (crsV x).length + (k * 21 + 1 + m * 2 + 2) by omega, List.take_length_add_append, List.drop_length_add_append]
    simp [List.append_assoc]
section
variable {text : List Int} {t x : Re} {p : Nat} {g : Grp}
theorem rc1 (h : t.kind = 1) : refC text t p g = [(p, g)] := by rw [refC_k]; simp [refK, h]
theorem rc2 (h : t.kind = 2) : refC text t p g = if setOk text t.set p then [(p + 1, g)] else [] := by rw [refC_k]; simp [refK, h]
theorem rc3 (h : t.kind = 3) : refC text t p g = refSeq (t.args.map (refC text)) [(p, g)] := by rw [refC_k]; simp [refK, h]
theorem rc4 (h : t.kind = 4) : refC text t p g = frs [] (t.args.flatMap fun a => refC text a p g) := by rw [refC_k]; simp [refK, h, altsC, List.flatMap_map]
theorem rc5 (h : t.kind = 5) (hx : t.args[0]? = some x) : refC text t p g = refMore (refC text x) (text.length + 1) p g := by rw [refC_k]; unfold refK; rw [ref_arg hx]; simp [h]
theorem rc6 (h : t.kind = 6) (hx : t.args[0]? = some x) : refC text t p g = frs [] ((refTimes (refC text x) t.mn.toNat [(p, g)]).flatMap fun q => refMore (refC text x) (t.mx - t.mn).toNat q.1 q.2) := by rw [refC_k]; unfold refK; rw [ref_arg hx]; simp [h]
theorem rc9 (h : t.kind = 9) (hx : t.args[0]? = some x) : refC text t p g = (refC text x p g).map fun q => (q.1, q.2.set t.mn.toNat ((p : Int), (q.1 : Int))) := by rw [refC_k]; unfold refK; rw [ref_arg hx]; simp [h, grpC]
theorem rc10 (h : t.kind = 10) (hx : t.args[0]? = some x) : refC text t p g = if (!(refC text x p g).isEmpty) = t.neg then [] else [(p, g)] := by rw [refC_k]; unfold refK; rw [ref_arg hx]; simp [h]
theorem rcn (h : t.kind ≠ 1 ∧ t.kind ≠ 2 ∧ t.kind ≠ 3 ∧ t.kind ≠ 4 ∧ t.kind ≠ 5 ∧ t.kind ≠ 6 ∧ t.kind ≠ 9 ∧ t.kind ≠ 10) : refC text t p g = [] := by rw [refC_k]; simp [refK, h, noC]
end
theorem ownC_nil (w : World) (base : Nat) : OwnC w base (.slice none 0 0) [] := ⟨⟨_, _, rfl⟩, World.ownsRow_nil _ _ _ _⟩
theorem crs_iso {L : List Crs} : decide ((0 : Int) < ((L.length : Nat) : Int)) = !L.isEmpty := by cases L <;> simp
set_option maxHeartbeats 2000000 in
theorem crs_k1 (text : List Int) (hn : text.length ≤ 7) (t : Re) (hok : okRe t) (hz : t.size ≤ 100) (IH : ∀ (i : Nat) (x : Re), t.args[i]? = some x → RefOk text x) (h1 : t.kind = 1) : RefOk text t := by
 intro p g hp hg w0 vs vt ht htx
 have ht0 := ht
 have hF := few_ref text t hp hg
 obtain ⟨sa, sc, aa, ac, rfl, hset, hlen, hargs⟩ := ht.form
 obtain ⟨ta, tc, rfl⟩ := SlAt.form htx
 simp only [List.length_map] at htx ⊢
 obtain ⟨x0, x1, x2, x3, x4, x5, x6, x7, x8, x9, x10, x11, x12, x13, x14, x15, x16, x17, x18, x19, x20, hxv⟩ := crs21 (q := (p, g)) hg
 have hx0 : x0 = ((p : Nat) : Int) := by have := congrArg (fun l => l[0]?) hxv; simpa using this.symm
 subst hx0
 have hgv : grpV g = [.int .i64 x1, .int .i64 x2, .int .i64 x3, .int .i64 x4, .int .i64 x5, .int .i64 x6, .int .i64 x7, .int .i64 x8, .int .i64 x9, .int .i64 x10, .int .i64 x11, .int .i64 x12, .int .i64 x13, .int .i64 x14, .int .i64 x15, .int .i64 x16, .int .i64 x17, .int .i64 x18, .int .i64 x19, .int .i64 x20] := by have := congrArg List.tail hxv; simpa using this
 rw [hxv]
 refine Ret_of Try.func35 rfl Try.ntmps35 (Nat.le_of_ble_eq_true rfl) ?_
 have E : Chg none1 w0 w0 := Chg.refl _ _
 refine Wp_seq_region ?_
 refine s_box (v := (.agg (R6 t sa sc aa ac))) (c := (R6 t sa sc aa ac)) (by decide) rfl rfl ?_
 intro br wr Nr
 have Fr := Nr.ge E
 replace E := E.ext Nr.ext
 have Br := Nr.blk
 refine s_box (v := (.slice ta text.length tc)) (c := #[(.slice ta text.length tc)]) (by decide) rfl rfl ?_
 intro bs ws Ns
 have Fs := Ns.ge E
 have Os_br := Ns.lt Br
 replace Br := Ns.keep Br
 replace E := E.ext Ns.ext
 have Bs := Ns.blk
 refine s_box (v := (.agg (Q21 (p : Int) x1 x2 x3 x4 x5 x6 x7 x8 x9 x10 x11 x12 x13 x14 x15 x16 x17 x18 x19 x20))) (c := (Q21 (p : Int) x1 x2 x3 x4 x5 x6 x7 x8 x9 x10 x11 x12 x13 x14 x15 x16 x17 x18 x19 x20)) (by decide) rfl rfl ?_
 intro bz wz Nz
 have Fz := Nz.ge E
 have Oz_br := Nz.lt Br
 have Oz_bs := Nz.lt Bs
 replace Br := Nz.keep Br
 replace Bs := Nz.keep Bs
 replace E := E.ext Nz.ext
 have Bz := Nz.blk
 refine qA (.slice none 0 0) rfl ?_
 refine WpL_nil (Wp_seq (Wp_seq_region ?_))
 refine qF br 0 0 rfl Try.underlying27 rfl siz3 rfl ?_
 refine qV (r_load (v := (I6 t.kind)) rfl flat3 (Br.cell rfl)) ?_
 refine WpL_nil (Wp_block (Wp_seq_region ?_))
 refine qV (r_eql (k := .i64) (a := t.kind) (b := 1) rfl rfl) ?_
 refine qA (.bool (decide ((t.kind : Int) = 1))) rfl ?_
 refine WpL_nil ?_
 have hc1 : (decide ((t.kind : Int) = 1)) = true := decide_eq_true h1
 refine Wp_cond_true (congrArg Value.bool hc1) ?_
 refine Wp_seq_region ?_
 refine qV (r_loadAgg (vs := (K21 (p : Int) x1 x2 x3 x4 x5 x6 x7 x8 x9 x10 x11 x12 x13 x14 x15 x16 x17 x18 x19 x20)) rfl agg65 siz65 rfl (Bz.cells rfl)) ?_
 refine s_buildSlice (ps := [(0, (.agg (Q21 (p : Int) x1 x2 x3 x4 x5 x6 x7 x8 x9 x10 x11 x12 x13 x14 x15 x16 x17 x18 x19 x20)))]) (c := (Q21 (p : Int) x1 x2 x3 x4 x5 x6 x7 x8 x9 x10 x11 x12 x13 x14 x15 x16 x17 x18 x19 x20)) (by decide) rfl Try.underlying66 siz65 zer65 (by decide) (by decide) (by kernel_rfl) ?_
 intro bq wq Nq
 have Fq := Nq.ge E
 have Oq_br := Nq.lt Br
 have Oq_bs := Nq.lt Bs
 have Oq_bz := Nq.lt Bz
 replace Br := Nq.keep Br
 replace Bs := Nq.keep Bs
 replace Bz := Nq.keep Bz
 replace E := E.ext Nq.ext
 have Bq := Nq.blk
 refine qA (.slice (some ⟨bq, 0, none⟩) 1 1) rfl ?_
 refine WpL_nil (Wp_ret (inB_ret (thn_ret ?_)))
 refine fin_tmp Try.results35 (v := (.slice (some ⟨bq, 0, none⟩) 1 1)) rfl ?_
 exact ⟨by rw [rc1 h1]; exact ownC_one (hxv ▸ Bq) hg (by omega), E⟩
set_option maxHeartbeats 2000000 in
theorem crs_k2 (text : List Int) (hn : text.length ≤ 7) (t : Re) (hok : okRe t) (hz : t.size ≤ 100) (IH : ∀ (i : Nat) (x : Re), t.args[i]? = some x → RefOk text x) (h2 : t.kind = 2) : RefOk text t := by
 intro p g hp hg w0 vs vt ht htx
 have ht0 := ht
 have hF := few_ref text t hp hg
 obtain ⟨sa, sc, aa, ac, rfl, hset, hlen, hargs⟩ := ht.form
 obtain ⟨ta, tc, rfl⟩ := SlAt.form htx
 simp only [List.length_map] at htx ⊢
 obtain ⟨x0, x1, x2, x3, x4, x5, x6, x7, x8, x9, x10, x11, x12, x13, x14, x15, x16, x17, x18, x19, x20, hxv⟩ := crs21 (q := (p, g)) hg
 have hx0 : x0 = ((p : Nat) : Int) := by have := congrArg (fun l => l[0]?) hxv; simpa using this.symm
 subst hx0
 have hgv : grpV g = [.int .i64 x1, .int .i64 x2, .int .i64 x3, .int .i64 x4, .int .i64 x5, .int .i64 x6, .int .i64 x7, .int .i64 x8, .int .i64 x9, .int .i64 x10, .int .i64 x11, .int .i64 x12, .int .i64 x13, .int .i64 x14, .int .i64 x15, .int .i64 x16, .int .i64 x17, .int .i64 x18, .int .i64 x19, .int .i64 x20] := by have := congrArg List.tail hxv; simpa using this
 rw [hxv]
 refine Ret_of Try.func35 rfl Try.ntmps35 (Nat.le_of_ble_eq_true rfl) ?_
 have E : Chg none1 w0 w0 := Chg.refl _ _
 refine Wp_seq_region ?_
 refine s_box (v := (.agg (R6 t sa sc aa ac))) (c := (R6 t sa sc aa ac)) (by decide) rfl rfl ?_
 intro br wr Nr
 have Fr := Nr.ge E
 replace E := E.ext Nr.ext
 have Br := Nr.blk
 refine s_box (v := (.slice ta text.length tc)) (c := #[(.slice ta text.length tc)]) (by decide) rfl rfl ?_
 intro bs ws Ns
 have Fs := Ns.ge E
 have Os_br := Ns.lt Br
 replace Br := Ns.keep Br
 replace E := E.ext Ns.ext
 have Bs := Ns.blk
 refine s_box (v := (.agg (Q21 (p : Int) x1 x2 x3 x4 x5 x6 x7 x8 x9 x10 x11 x12 x13 x14 x15 x16 x17 x18 x19 x20))) (c := (Q21 (p : Int) x1 x2 x3 x4 x5 x6 x7 x8 x9 x10 x11 x12 x13 x14 x15 x16 x17 x18 x19 x20)) (by decide) rfl rfl ?_
 intro bz wz Nz
 have Fz := Nz.ge E
 have Oz_br := Nz.lt Br
 have Oz_bs := Nz.lt Bs
 replace Br := Nz.keep Br
 replace Bs := Nz.keep Bs
 replace E := E.ext Nz.ext
 have Bz := Nz.blk
 refine qA (.slice none 0 0) rfl ?_
 refine WpL_nil (Wp_seq (Wp_seq_region ?_))
 refine qF br 0 0 rfl Try.underlying27 rfl siz3 rfl ?_
 refine qV (r_load (v := (I6 t.kind)) rfl flat3 (Br.cell rfl)) ?_
 refine WpL_nil (Wp_block (Wp_seq_region ?_))
 refine qV (r_eql (k := .i64) (a := t.kind) (b := 1) rfl rfl) ?_
 refine qA (.bool (decide ((t.kind : Int) = 1))) rfl ?_
 refine WpL_nil ?_
 have hc1 : (decide ((t.kind : Int) = 1)) = false := decide_eq_false (by omega)
 refine Wp_cond_false (congrArg Value.bool hc1) ?_
 refine Wp_seq_region ?_
 refine qV (r_eql (k := .i64) (a := t.kind) (b := 2) rfl rfl) ?_
 refine qA (.bool (decide ((t.kind : Int) = 2))) rfl ?_
 refine WpL_nil ?_
 have hc2 : (decide ((t.kind : Int) = 2)) = true := decide_eq_true h2
 refine Wp_cond_true (congrArg Value.bool hc2) ?_
 rcases Bool.eq_false_or_eq_true (decide (((p : Nat) : Int) < ((text.length : Nat) : Int))) with hs | hs
 ·have khs := hs
  replace khs := of_decide_eq_true khs
  obtain ⟨c, hc⟩ := get_of_lt (l := text) (i := p) (by omega)
  obtain ⟨tb, to_, rfl, hcl⟩ := ints_cells htx (by omega)
  refine Wp_seq ?_
  obtain ⟨Fs3, hFs3⟩ : ∃ Fs : List Fact, Fs = [.eq (P6 bz 0), .eq (I6 (p : Int)), .eq (.slice (some ⟨tb, to_, none⟩) text.length tc), .eq (I6 (text.length : Int)), .eq (.bool true), .eq (.bool true), .eq (P6 br 1), .eq (.slice sa t.set.length sc), .eq (.slice (some ⟨tb, to_, none⟩) text.length tc), .eq (P6 bz 0), .eq (I6 (p : Int)), .eq (.pointer (some ⟨tb, to_ + p, none⟩)), .eq (I6 c), .eq (.bool (inS t.set c)), .eq (.bool (inS t.set c))] := ⟨_, rfl⟩
  refine Wp_dag [24, 25, 26, 27, 28, 29, 30, 31, 32, 33, 34, 35, 36, 37, 38] [[], [0], [], [2], [1, 3], [4], [5], [5, 6], [5], [5], [5, 9], [5, 8, 10], [5, 11], [5, 7, 12], [5, 13]] Fs3 hFs3 mixed (by kernel_rfl) (by kernel_rfl) ?_ ?_
  ·intro wd X0
   refine DagSteps.cons (fun s' w' X U H => Or.inl ⟨?_, ?_⟩) ?_
   ·exact Guarded_none rfl
   ·exact Does_val (r_fieldAddr (b := bz) (o := 0) (o' := 0) (U 5 rfl) Try.underlying65 rfl siz3 rfl) (Ext.refl _) rfl
   refine DagSteps.cons (fun s' w' X U H => Or.inl ⟨?_, ?_⟩) ?_
   ·exact Guarded_none rfl
   ·have e24 : s' 24 = (.pointer (some ⟨bz, 0, none⟩)) := H 0 rfl 24 (.eq (.pointer (some ⟨bz, 0, none⟩))) rfl (by rw [hFs3]; rfl)
    exact Does_val (r_load (v := (I6 (p : Int))) e24 flat3 (((X0.trans X).keep Bz).cell rfl)) (Ext.refl _) rfl
   refine DagSteps.cons (fun s' w' X U H => Or.inl ⟨?_, ?_⟩) ?_
   ·exact Guarded_none rfl
   ·exact Does_val (r_load (v := (.slice (some ⟨tb, to_, none⟩) text.length tc)) (U 4 rfl) flat22 (((X0.trans X).keep Bs).cell rfl)) (Ext.refl _) rfl
   refine DagSteps.cons (fun s' w' X U H => Or.inl ⟨?_, ?_⟩) ?_
   ·exact Guarded_none rfl
   ·have e26 : s' 26 = (.slice (some ⟨tb, to_, none⟩) text.length tc) := H 2 rfl 26 (.eq (.slice (some ⟨tb, to_, none⟩) text.length tc)) rfl (by rw [hFs3]; rfl)
    exact Does_val (r_lenSlice (ad := some ⟨tb, to_, none⟩) (n := text.length) (cap := tc) Try.underlying22 e26) (Ext.refl _) rfl
   refine DagSteps.cons (fun s' w' X U H => Or.inl ⟨?_, ?_⟩) ?_
   ·exact Guarded_none rfl
   ·have e25 : s' 25 = (.int .i64 ((p : Nat) : Int)) := H 1 rfl 25 (.eq (.int .i64 ((p : Nat) : Int))) rfl (by rw [hFs3]; rfl)
    have e27 : s' 27 = (.int .i64 ((text.length : Nat) : Int)) := H 3 rfl 27 (.eq (.int .i64 ((text.length : Nat) : Int))) rfl (by rw [hFs3]; rfl)
    exact Does_val (Eq.trans (r_lss (k := .i64) (a := (p : Int)) (b := (text.length : Int)) e25 e27) (by rw [hs])) (Ext.refl _) rfl
   refine DagSteps.cons (fun s' w' X U H => Or.inl ⟨?_, ?_⟩) ?_
   ·exact Guarded_none rfl
   ·have e28 : s' 28 = (.bool true) := H 4 rfl 28 (.eq (.bool true)) rfl (by rw [hFs3]; rfl)
    exact Does_val (r_move (v := (.bool true)) e28) (Ext.refl _) rfl
   refine DagSteps.cons (fun s' w' X U H => Or.inl ⟨?_, ?_⟩) ?_
   ·exact Guarded_some rfl rfl (d := 29) (H 5 rfl 29 (.eq (.bool true)) rfl (by rw [hFs3]; rfl))
   ·exact Does_val (r_fieldAddr (b := br) (o := 0) (o' := 1) (U 3 rfl) Try.underlying27 rfl siz24 rfl) (Ext.refl _) rfl
   refine DagSteps.cons (fun s' w' X U H => Or.inl ⟨?_, ?_⟩) ?_
   ·exact Guarded_some rfl rfl (d := 29) (H 5 rfl 29 (.eq (.bool true)) rfl (by rw [hFs3]; rfl))
   ·have e30 : s' 30 = (.pointer (some ⟨br, 1, none⟩)) := H 6 rfl 30 (.eq (.pointer (some ⟨br, 1, none⟩))) rfl (by rw [hFs3]; rfl)
    exact Does_val (r_load (v := (.slice sa t.set.length sc)) e30 flat24 (((X0.trans X).keep Br).cell rfl)) (Ext.refl _) rfl
   refine DagSteps.cons (fun s' w' X U H => Or.inl ⟨?_, ?_⟩) ?_
   ·exact Guarded_some rfl rfl (d := 29) (H 5 rfl 29 (.eq (.bool true)) rfl (by rw [hFs3]; rfl))
   ·exact Does_val (r_load (v := (.slice (some ⟨tb, to_, none⟩) text.length tc)) (U 4 rfl) flat22 (((X0.trans X).keep Bs).cell rfl)) (Ext.refl _) rfl
   refine DagSteps.cons (fun s' w' X U H => Or.inl ⟨?_, ?_⟩) ?_
   ·exact Guarded_some rfl rfl (d := 29) (H 5 rfl 29 (.eq (.bool true)) rfl (by rw [hFs3]; rfl))
   ·exact Does_val (r_fieldAddr (b := bz) (o := 0) (o' := 0) (U 5 rfl) Try.underlying65 rfl siz3 rfl) (Ext.refl _) rfl
   refine DagSteps.cons (fun s' w' X U H => Or.inl ⟨?_, ?_⟩) ?_
   ·exact Guarded_some rfl rfl (d := 29) (H 5 rfl 29 (.eq (.bool true)) rfl (by rw [hFs3]; rfl))
   ·have e33 : s' 33 = (.pointer (some ⟨bz, 0, none⟩)) := H 9 rfl 33 (.eq (.pointer (some ⟨bz, 0, none⟩))) rfl (by rw [hFs3]; rfl)
    exact Does_val (r_load (v := (I6 (p : Int))) e33 flat3 (((X0.trans X).keep Bz).cell rfl)) (Ext.refl _) rfl
   refine DagSteps.cons (fun s' w' X U H => Or.inl ⟨?_, ?_⟩) ?_
   ·exact Guarded_some rfl rfl (d := 29) (H 5 rfl 29 (.eq (.bool true)) rfl (by rw [hFs3]; rfl))
   ·have e32 : s' 32 = (.slice (some ⟨tb, to_, none⟩) text.length tc) := H 8 rfl 32 (.eq (.slice (some ⟨tb, to_, none⟩) text.length tc)) rfl (by rw [hFs3]; rfl)
    have e34 : s' 34 = (.int .i64 ((p : Nat) : Int)) := H 10 rfl 34 (.eq (.int .i64 ((p : Nat) : Int))) rfl (by rw [hFs3]; rfl)
    exact Does_val (r_indexSlice (b := tb) (o := to_) (len := text.length) (cap := tc) (i := p) (o' := to_ + p) e32 e34 rfl Try.underlying22 siz3 (by omega) (by omega)) (Ext.refl _) rfl
   refine DagSteps.cons (fun s' w' X U H => Or.inl ⟨?_, ?_⟩) ?_
   ·exact Guarded_some rfl rfl (d := 29) (H 5 rfl 29 (.eq (.bool true)) rfl (by rw [hFs3]; rfl))
   ·have e35 : s' 35 = (.pointer (some ⟨tb, to_ + p, none⟩)) := H 11 rfl 35 (.eq (.pointer (some ⟨tb, to_ + p, none⟩))) rfl (by rw [hFs3]; rfl)
    exact Does_val (r_load (v := (I6 c)) e35 flat3 ((Ext.trans E (X0.trans X)).cell (hcl p c hc))) (Ext.refl _) rfl
   refine DagSteps.cons (fun s' w' X U H => Or.inl ⟨?_, ?_⟩) ?_
   ·exact Guarded_some rfl rfl (d := 29) (H 5 rfl 29 (.eq (.bool true)) rfl (by rw [hFs3]; rfl))
   ·have e31 : s' 31 = (.slice sa t.set.length sc) := H 7 rfl 31 (.eq (.slice sa t.set.length sc)) rfl (by rw [hFs3]; rfl)
    have e36 : s' 36 = (.int .i64 c) := H 12 rfl 36 (.eq (.int .i64 c)) rfl (by rw [hFs3]; rfl)
    exact Does_enter (r_callF (vs := [(.slice sa t.set.length sc), (I6 c)]) Try.func50 nm50 bd50 (lst2 e31 e36)) (inset_c _ _ t.set c (hset.ext (Ext.trans E (X0.trans X))))
   refine DagSteps.cons (fun s' w' X U H => Or.inl ⟨?_, ?_⟩) ?_
   ·exact Guarded_none rfl
   ·have e29 : s' 29 = (.bool true) := H 5 rfl 29 (.eq (.bool true)) rfl (by rw [hFs3]; rfl)
    have e37 : s' 37 = (.bool (inS t.set c)) := H 13 rfl 37 (.eq (.bool (inS t.set c))) rfl (by rw [hFs3]; rfl)
    exact Does_val (r_pick (b := true) (v := (.bool (inS t.set c))) e29 e37) (Ext.refl _) rfl
   exact DagSteps.nil
  ·intro s' w3 X3 U H
   obtain ⟨j3, rfl⟩ := Fits.out (σ := s') (l := [(5, (.pointer (some ⟨bz, 0, none⟩))), (38, (.bool (inS t.set c)))]) ⟨U 5 rfl, (show s' 38 = (.bool (inS t.set c)) from H 14 38 (.eq (.bool (inS t.set c))) rfl (by rw [hFs3]; rfl)), trivial⟩
   clear U H
   replace Br := X3.keep Br
   replace Bs := X3.keep Bs
   replace Bz := X3.keep Bz
   replace E := E.ext X3
   have hso : setOk text t.set p = inS t.set c := by unfold setOk; rw [hc]
   refine thn_normal ?_
   refine Wp_cond (b := inS t.set c) rfl (fun hin => ?_) (fun hin => ?_)
   ·have khin := hin
    refine Wp_seq_region ?_
    refine qF bz 0 0 rfl Try.underlying65 rfl siz3 rfl ?_
    refine qV (r_load (v := (I6 (p : Int))) rfl flat3 (Bz.cell rfl)) ?_
    refine qV (r_add (k := .i64) (a := (p : Int)) (b := 1) (c := ((p + 1 : Nat) : Int)) rfl rfl (by rw [wI64 (by omega)]; omega)) ?_
    refine qF bz 0 0 rfl Try.underlying65 rfl siz3 rfl ?_
    refine s_store (b := bz) (o := 0) (c' := (Q21 ((p + 1 : Nat) : Int) x1 x2 x3 x4 x5 x6 x7 x8 x9 x10 x11 x12 x13 x14 x15 x16 x17 x18 x19 x20)) (v := (I6 ((p + 1 : Nat) : Int))) rfl rfl rfl siz3 Bz (by simp) rfl ?_
    intro w5 S5
    replace Br := S5.keep (by omega) Br
    replace Bs := S5.keep (by omega) Bs
    replace E := S5.step E (by first | exact Or.inl (by omega) | exact Or.inr rfl | exact Or.inr (by assumption) | exact Or.inr (by simp) | exact Or.inr (by omega) | exact Or.inr (by dsimp only; omega))
    replace Bz := S5.blk
    refine WpL_nil (Wp_seq_region ?_)
    refine qV (r_loadAgg (vs := (K21 ((p + 1 : Nat) : Int) x1 x2 x3 x4 x5 x6 x7 x8 x9 x10 x11 x12 x13 x14 x15 x16 x17 x18 x19 x20)) rfl agg65 siz65 rfl (Bz.cells rfl)) ?_
    refine s_buildSlice (ps := [(0, (.agg (Q21 ((p + 1 : Nat) : Int) x1 x2 x3 x4 x5 x6 x7 x8 x9 x10 x11 x12 x13 x14 x15 x16 x17 x18 x19 x20)))]) (c := (Q21 ((p + 1 : Nat) : Int) x1 x2 x3 x4 x5 x6 x7 x8 x9 x10 x11 x12 x13 x14 x15 x16 x17 x18 x19 x20)) (by decide) rfl Try.underlying66 siz65 zer65 (by decide) (by decide) (by kernel_rfl) ?_
    intro bq wq Nq
    have Fq := Nq.ge E
    have Oq_br := Nq.lt Br
    have Oq_bs := Nq.lt Bs
    have Oq_bz := Nq.lt Bz
    replace Br := Nq.keep Br
    replace Bs := Nq.keep Bs
    replace Bz := Nq.keep Bz
    replace E := E.ext Nq.ext
    have Bq := Nq.blk
    refine qA (.slice (some ⟨bq, 0, none⟩) 1 1) rfl ?_
    refine WpL_nil (Wp_ret (inB_ret (thn_ret ?_)))
    refine fin_tmp Try.results35 (v := (.slice (some ⟨bq, 0, none⟩) 1 1)) rfl ?_
    exact ⟨by rw [rc2 h2, if_pos (hso.trans hin)]; exact ownC_one (q := (p + 1, g)) (by show Blk _ bq (Value.int .i64 ((p + 1 : Nat) : Int) :: grpV g).toArray TCs; rw [hgv]; exact Bq) hg (by omega), E⟩
   ·have khin := hin
    refine Wp_skip (inB_normal (thn_normal (Wp_seq_region ?_)))
    refine qA (.slice none 0 0) rfl ?_
    refine WpL_nil (Wp_ret ?_)
    refine fin_tmp Try.results35 (v := (.slice none 0 0)) rfl ?_
    exact ⟨by rw [rc2 h2, if_neg (by rw [hso, hin]; decide)]; exact ownC_nil _ _, E⟩
 ·have khs := hs
  replace khs := of_decide_eq_false khs
  refine Wp_seq ?_
  obtain ⟨Fs6, hFs6⟩ : ∃ Fs : List Fact, Fs = [.eq (P6 bz 0), .eq (I6 (p : Int)), .eq (.slice ta text.length tc), .eq (I6 (text.length : Int)), .eq (.bool false), .eq (.bool false), .eq undef, .eq undef, .eq undef, .eq undef, .eq undef, .eq undef, .eq undef, .eq undef, .eq (.bool false)] := ⟨_, rfl⟩
  refine Wp_dag [24, 25, 26, 27, 28, 29, 30, 31, 32, 33, 34, 35, 36, 37, 38] [[], [0], [], [2], [1, 3], [4], [5], [5, 6], [5], [5], [5, 9], [5, 8, 10], [5, 11], [5, 7, 12], [5, 13]] Fs6 hFs6 mixed (by kernel_rfl) (by kernel_rfl) ?_ ?_
  ·intro wd X0
   refine DagSteps.cons (fun s' w' X U H => Or.inl ⟨?_, ?_⟩) ?_
   ·exact Guarded_none rfl
   ·exact Does_val (r_fieldAddr (b := bz) (o := 0) (o' := 0) (U 5 rfl) Try.underlying65 rfl siz3 rfl) (Ext.refl _) rfl
   refine DagSteps.cons (fun s' w' X U H => Or.inl ⟨?_, ?_⟩) ?_
   ·exact Guarded_none rfl
   ·have e24 : s' 24 = (.pointer (some ⟨bz, 0, none⟩)) := H 0 rfl 24 (.eq (.pointer (some ⟨bz, 0, none⟩))) rfl (by rw [hFs6]; rfl)
    exact Does_val (r_load (v := (I6 (p : Int))) e24 flat3 (((X0.trans X).keep Bz).cell rfl)) (Ext.refl _) rfl
   refine DagSteps.cons (fun s' w' X U H => Or.inl ⟨?_, ?_⟩) ?_
   ·exact Guarded_none rfl
   ·exact Does_val (r_load (v := (.slice ta text.length tc)) (U 4 rfl) flat22 (((X0.trans X).keep Bs).cell rfl)) (Ext.refl _) rfl
   refine DagSteps.cons (fun s' w' X U H => Or.inl ⟨?_, ?_⟩) ?_
   ·exact Guarded_none rfl
   ·have e26 : s' 26 = (.slice ta text.length tc) := H 2 rfl 26 (.eq (.slice ta text.length tc)) rfl (by rw [hFs6]; rfl)
    exact Does_val (r_lenSlice (ad := ta) (n := text.length) (cap := tc) Try.underlying22 e26) (Ext.refl _) rfl
   refine DagSteps.cons (fun s' w' X U H => Or.inl ⟨?_, ?_⟩) ?_
   ·exact Guarded_none rfl
   ·have e25 : s' 25 = (.int .i64 ((p : Nat) : Int)) := H 1 rfl 25 (.eq (.int .i64 ((p : Nat) : Int))) rfl (by rw [hFs6]; rfl)
    have e27 : s' 27 = (.int .i64 ((text.length : Nat) : Int)) := H 3 rfl 27 (.eq (.int .i64 ((text.length : Nat) : Int))) rfl (by rw [hFs6]; rfl)
    exact Does_val (Eq.trans (r_lss (k := .i64) (a := (p : Int)) (b := (text.length : Int)) e25 e27) (by rw [hs])) (Ext.refl _) rfl
   refine DagSteps.cons (fun s' w' X U H => Or.inl ⟨?_, ?_⟩) ?_
   ·exact Guarded_none rfl
   ·have e28 : s' 28 = (.bool false) := H 4 rfl 28 (.eq (.bool false)) rfl (by rw [hFs6]; rfl)
    exact Does_val (r_move (v := (.bool false)) e28) (Ext.refl _) rfl
   refine DagSteps.cons (fun s' w' X U H => Or.inr ⟨?_, rfl⟩) ?_
   ·exact Unmet_mk rfl rfl (d := 29) (Or.inl (H 5 rfl 29 (.eq (.bool false)) rfl (by rw [hFs6]; rfl)))
   refine DagSteps.cons (fun s' w' X U H => Or.inr ⟨?_, rfl⟩) ?_
   ·exact Unmet_mk rfl rfl (d := 29) (Or.inl (H 5 rfl 29 (.eq (.bool false)) rfl (by rw [hFs6]; rfl)))
   refine DagSteps.cons (fun s' w' X U H => Or.inr ⟨?_, rfl⟩) ?_
   ·exact Unmet_mk rfl rfl (d := 29) (Or.inl (H 5 rfl 29 (.eq (.bool false)) rfl (by rw [hFs6]; rfl)))
   refine DagSteps.cons (fun s' w' X U H => Or.inr ⟨?_, rfl⟩) ?_
   ·exact Unmet_mk rfl rfl (d := 29) (Or.inl (H 5 rfl 29 (.eq (.bool false)) rfl (by rw [hFs6]; rfl)))
   refine DagSteps.cons (fun s' w' X U H => Or.inr ⟨?_, rfl⟩) ?_
   ·exact Unmet_mk rfl rfl (d := 29) (Or.inl (H 5 rfl 29 (.eq (.bool false)) rfl (by rw [hFs6]; rfl)))
   refine DagSteps.cons (fun s' w' X U H => Or.inr ⟨?_, rfl⟩) ?_
   ·exact Unmet_mk rfl rfl (d := 29) (Or.inl (H 5 rfl 29 (.eq (.bool false)) rfl (by rw [hFs6]; rfl)))
   refine DagSteps.cons (fun s' w' X U H => Or.inr ⟨?_, rfl⟩) ?_
   ·exact Unmet_mk rfl rfl (d := 29) (Or.inl (H 5 rfl 29 (.eq (.bool false)) rfl (by rw [hFs6]; rfl)))
   refine DagSteps.cons (fun s' w' X U H => Or.inr ⟨?_, rfl⟩) ?_
   ·exact Unmet_mk rfl rfl (d := 29) (Or.inl (H 5 rfl 29 (.eq (.bool false)) rfl (by rw [hFs6]; rfl)))
   refine DagSteps.cons (fun s' w' X U H => Or.inl ⟨?_, ?_⟩) ?_
   ·exact Guarded_none rfl
   ·have e29 : s' 29 = (.bool false) := H 5 rfl 29 (.eq (.bool false)) rfl (by rw [hFs6]; rfl)
    exact Does_val (r_pick (b := false) (v := (.bool false)) e29 rfl) (Ext.refl _) rfl
   exact DagSteps.nil
  ·intro s' w6 X6 U H
   obtain ⟨j6, rfl⟩ := Fits.out (σ := s') (l := [(5, (.pointer (some ⟨bz, 0, none⟩))), (38, (.bool false))]) ⟨U 5 rfl, (show s' 38 = (.bool false) from H 14 38 (.eq (.bool false)) rfl (by rw [hFs6]; rfl)), trivial⟩
   clear U H
   replace Br := X6.keep Br
   replace Bs := X6.keep Bs
   replace Bz := X6.keep Bz
   replace E := E.ext X6
   refine thn_normal ?_
   refine Wp_cond_false rfl ?_
   refine Wp_skip (inB_normal (thn_normal (Wp_seq_region ?_)))
   refine qA (.slice none 0 0) rfl ?_
   refine WpL_nil (Wp_ret ?_)
   refine fin_tmp Try.results35 (v := (.slice none 0 0)) rfl ?_
   exact ⟨by rw [rc2 h2, if_neg (fun h => khs (by have := setOk_lt h; omega))]; exact ownC_nil _ _, E⟩
set_option maxHeartbeats 2000000 in
theorem crs_k0 (text : List Int) (hn : text.length ≤ 7) (t : Re) (hok : okRe t) (hz : t.size ≤ 100) (IH : ∀ (i : Nat) (x : Re), t.args[i]? = some x → RefOk text x) (h0 : t.kind ≠ 1 ∧ t.kind ≠ 2 ∧ t.kind ≠ 3 ∧ t.kind ≠ 4 ∧ t.kind ≠ 5 ∧ t.kind ≠ 6 ∧ t.kind ≠ 9 ∧ t.kind ≠ 10) : RefOk text t := by
 intro p g hp hg w0 vs vt ht htx
 have ht0 := ht
 have hF := few_ref text t hp hg
 obtain ⟨sa, sc, aa, ac, rfl, hset, hlen, hargs⟩ := ht.form
 obtain ⟨ta, tc, rfl⟩ := SlAt.form htx
 simp only [List.length_map] at htx ⊢
 obtain ⟨x0, x1, x2, x3, x4, x5, x6, x7, x8, x9, x10, x11, x12, x13, x14, x15, x16, x17, x18, x19, x20, hxv⟩ := crs21 (q := (p, g)) hg
 have hx0 : x0 = ((p : Nat) : Int) := by have := congrArg (fun l => l[0]?) hxv; simpa using this.symm
 subst hx0
 have hgv : grpV g = [.int .i64 x1, .int .i64 x2, .int .i64 x3, .int .i64 x4, .int .i64 x5, .int .i64 x6, .int .i64 x7, .int .i64 x8, .int .i64 x9, .int .i64 x10, .int .i64 x11, .int .i64 x12, .int .i64 x13, .int .i64 x14, .int .i64 x15, .int .i64 x16, .int .i64 x17, .int .i64 x18, .int .i64 x19, .int .i64 x20] := by have := congrArg List.tail hxv; simpa using this
 rw [hxv]
 refine Ret_of Try.func35 rfl Try.ntmps35 (Nat.le_of_ble_eq_true rfl) ?_
 have E : Chg none1 w0 w0 := Chg.refl _ _
 refine Wp_seq_region ?_
 refine s_box (v := (.agg (R6 t sa sc aa ac))) (c := (R6 t sa sc aa ac)) (by decide) rfl rfl ?_
 intro br wr Nr
 have Fr := Nr.ge E
 replace E := E.ext Nr.ext
 have Br := Nr.blk
 refine s_box (v := (.slice ta text.length tc)) (c := #[(.slice ta text.length tc)]) (by decide) rfl rfl ?_
 intro bs ws Ns
 have Fs := Ns.ge E
 have Os_br := Ns.lt Br
 replace Br := Ns.keep Br
 replace E := E.ext Ns.ext
 have Bs := Ns.blk
 refine s_box (v := (.agg (Q21 (p : Int) x1 x2 x3 x4 x5 x6 x7 x8 x9 x10 x11 x12 x13 x14 x15 x16 x17 x18 x19 x20))) (c := (Q21 (p : Int) x1 x2 x3 x4 x5 x6 x7 x8 x9 x10 x11 x12 x13 x14 x15 x16 x17 x18 x19 x20)) (by decide) rfl rfl ?_
 intro bz wz Nz
 have Fz := Nz.ge E
 have Oz_br := Nz.lt Br
 have Oz_bs := Nz.lt Bs
 replace Br := Nz.keep Br
 replace Bs := Nz.keep Bs
 replace E := E.ext Nz.ext
 have Bz := Nz.blk
 refine qA (.slice none 0 0) rfl ?_
 refine WpL_nil (Wp_seq (Wp_seq_region ?_))
 refine qF br 0 0 rfl Try.underlying27 rfl siz3 rfl ?_
 refine qV (r_load (v := (I6 t.kind)) rfl flat3 (Br.cell rfl)) ?_
 refine WpL_nil (Wp_block (Wp_seq_region ?_))
 refine qV (r_eql (k := .i64) (a := t.kind) (b := 1) rfl rfl) ?_
 refine qA (.bool (decide ((t.kind : Int) = 1))) rfl ?_
 refine WpL_nil ?_
 have hc1 : (decide ((t.kind : Int) = 1)) = false := decide_eq_false (by omega)
 refine Wp_cond_false (congrArg Value.bool hc1) ?_
 refine Wp_seq_region ?_
 refine qV (r_eql (k := .i64) (a := t.kind) (b := 2) rfl rfl) ?_
 refine qA (.bool (decide ((t.kind : Int) = 2))) rfl ?_
 refine WpL_nil ?_
 have hc2 : (decide ((t.kind : Int) = 2)) = false := decide_eq_false (by omega)
 refine Wp_cond_false (congrArg Value.bool hc2) ?_
 refine Wp_seq_region ?_
 refine qV (r_eql (k := .i64) (a := t.kind) (b := 3) rfl rfl) ?_
 refine qA (.bool (decide ((t.kind : Int) = 3))) rfl ?_
 refine WpL_nil ?_
 have hc3 : (decide ((t.kind : Int) = 3)) = false := decide_eq_false (by omega)
 refine Wp_cond_false (congrArg Value.bool hc3) ?_
 refine Wp_seq_region ?_
 refine qV (r_eql (k := .i64) (a := t.kind) (b := 4) rfl rfl) ?_
 refine qA (.bool (decide ((t.kind : Int) = 4))) rfl ?_
 refine WpL_nil ?_
 have hc4 : (decide ((t.kind : Int) = 4)) = false := decide_eq_false (by omega)
 refine Wp_cond_false (congrArg Value.bool hc4) ?_
 refine Wp_seq_region ?_
 refine qV (r_eql (k := .i64) (a := t.kind) (b := 5) rfl rfl) ?_
 refine qA (.bool (decide ((t.kind : Int) = 5))) rfl ?_
 refine WpL_nil ?_
 have hc5 : (decide ((t.kind : Int) = 5)) = false := decide_eq_false (by omega)
 refine Wp_cond_false (congrArg Value.bool hc5) ?_
 refine Wp_seq_region ?_
 refine qV (r_eql (k := .i64) (a := t.kind) (b := 6) rfl rfl) ?_
 refine qA (.bool (decide ((t.kind : Int) = 6))) rfl ?_
 refine WpL_nil ?_
 have hc6 : (decide ((t.kind : Int) = 6)) = false := decide_eq_false (by omega)
 refine Wp_cond_false (congrArg Value.bool hc6) ?_
 refine Wp_seq_region ?_
 refine qV (r_eql (k := .i64) (a := t.kind) (b := 9) rfl rfl) ?_
 refine qA (.bool (decide ((t.kind : Int) = 9))) rfl ?_
 refine WpL_nil ?_
 have hc7 : (decide ((t.kind : Int) = 9)) = false := decide_eq_false (by omega)
 refine Wp_cond_false (congrArg Value.bool hc7) ?_
 refine Wp_seq_region ?_
 refine qV (r_eql (k := .i64) (a := t.kind) (b := 10) rfl rfl) ?_
 refine qA (.bool (decide ((t.kind : Int) = 10))) rfl ?_
 refine WpL_nil ?_
 have hc8 : (decide ((t.kind : Int) = 10)) = false := decide_eq_false (by omega)
 refine Wp_cond_false (congrArg Value.bool hc8) ?_
 refine Wp_skip (inB_normal (thn_normal (Wp_seq_region ?_)))
 refine qA (.slice none 0 0) rfl ?_
 refine WpL_nil (Wp_ret ?_)
 refine fin_tmp Try.results35 (v := (.slice none 0 0)) rfl ?_
 exact ⟨by rw [rcn h0]; exact ownC_nil _ _, E⟩
end Go.Proofs
namespace Go.Proofs
open Go Go.Eng Go.Sort
set_option maxRecDepth 100000
set_option maxHeartbeats 2000000 in
theorem crs_k3 (text : List Int) (hn : text.length ≤ 7) (t : Re) (hok : okRe t) (hz : t.size ≤ 100) (IH : ∀ (i : Nat) (x : Re), t.args[i]? = some x → RefOk text x) (h3 : t.kind = 3) : RefOk text t := by
 intro p g hp hg w0 vs vt ht htx
 have ht0 := ht
 have hF := few_ref text t hp hg
 obtain ⟨sa, sc, aa, ac, rfl, hset, hlen, hargs⟩ := ht.form
 obtain ⟨ta, tc, rfl⟩ := SlAt.form htx
 simp only [List.length_map] at htx ⊢
 obtain ⟨x0, x1, x2, x3, x4, x5, x6, x7, x8, x9, x10, x11, x12, x13, x14, x15, x16, x17, x18, x19, x20, hxv⟩ := crs21 (q := (p, g)) hg
 have hx0 : x0 = ((p : Nat) : Int) := by have := congrArg (fun l => l[0]?) hxv; simpa using this.symm
 subst hx0
 have hgv : grpV g = [.int .i64 x1, .int .i64 x2, .int .i64 x3, .int .i64 x4, .int .i64 x5, .int .i64 x6, .int .i64 x7, .int .i64 x8, .int .i64 x9, .int .i64 x10, .int .i64 x11, .int .i64 x12, .int .i64 x13, .int .i64 x14, .int .i64 x15, .int .i64 x16, .int .i64 x17, .int .i64 x18, .int .i64 x19, .int .i64 x20] := by have := congrArg List.tail hxv; simpa using this
 rw [hxv]
 refine Ret_of Try.func35 rfl Try.ntmps35 (Nat.le_of_ble_eq_true rfl) ?_
 have E : Chg none1 w0 w0 := Chg.refl _ _
 refine Wp_seq_region ?_
 refine s_box (v := (.agg (R6 t sa sc aa ac))) (c := (R6 t sa sc aa ac)) (by decide) rfl rfl ?_
 intro br wr Nr
 have Fr := Nr.ge E
 replace E := E.ext Nr.ext
 have Br := Nr.blk
 refine s_box (v := (.slice ta text.length tc)) (c := #[(.slice ta text.length tc)]) (by decide) rfl rfl ?_
 intro bs ws Ns
 have Fs := Ns.ge E
 have Os_br := Ns.lt Br
 replace Br := Ns.keep Br
 replace E := E.ext Ns.ext
 have Bs := Ns.blk
 refine s_box (v := (.agg (Q21 (p : Int) x1 x2 x3 x4 x5 x6 x7 x8 x9 x10 x11 x12 x13 x14 x15 x16 x17 x18 x19 x20))) (c := (Q21 (p : Int) x1 x2 x3 x4 x5 x6 x7 x8 x9 x10 x11 x12 x13 x14 x15 x16 x17 x18 x19 x20)) (by decide) rfl rfl ?_
 intro bz wz Nz
 have Fz := Nz.ge E
 have Oz_br := Nz.lt Br
 have Oz_bs := Nz.lt Bs
 replace Br := Nz.keep Br
 replace Bs := Nz.keep Bs
 replace E := E.ext Nz.ext
 have Bz := Nz.blk
 refine qA (.slice none 0 0) rfl ?_
 refine WpL_nil (Wp_seq (Wp_seq_region ?_))
 refine qF br 0 0 rfl Try.underlying27 rfl siz3 rfl ?_
 refine qV (r_load (v := (I6 t.kind)) rfl flat3 (Br.cell rfl)) ?_
 refine WpL_nil (Wp_block (Wp_seq_region ?_))
 refine qV (r_eql (k := .i64) (a := t.kind) (b := 1) rfl rfl) ?_
 refine qA (.bool (decide ((t.kind : Int) = 1))) rfl ?_
 refine WpL_nil ?_
 have hc1 : (decide ((t.kind : Int) = 1)) = false := decide_eq_false (by omega)
 refine Wp_cond_false (congrArg Value.bool hc1) ?_
 refine Wp_seq_region ?_
 refine qV (r_eql (k := .i64) (a := t.kind) (b := 2) rfl rfl) ?_
 refine qA (.bool (decide ((t.kind : Int) = 2))) rfl ?_
 refine WpL_nil ?_
 have hc2 : (decide ((t.kind : Int) = 2)) = false := decide_eq_false (by omega)
 refine Wp_cond_false (congrArg Value.bool hc2) ?_
 refine Wp_seq_region ?_
 refine qV (r_eql (k := .i64) (a := t.kind) (b := 3) rfl rfl) ?_
 refine qA (.bool (decide ((t.kind : Int) = 3))) rfl ?_
 refine WpL_nil ?_
 have hc3 : (decide ((t.kind : Int) = 3)) = true := decide_eq_true h3
 refine Wp_cond_true (congrArg Value.bool hc3) ?_
 refine Wp_seq_region ?_
 refine qV (r_loadAgg (vs := (K21 (p : Int) x1 x2 x3 x4 x5 x6 x7 x8 x9 x10 x11 x12 x13 x14 x15 x16 x17 x18 x19 x20)) rfl agg65 siz65 rfl (Bz.cells rfl)) ?_
 refine s_buildSlice (ps := [(0, (.agg (Q21 (p : Int) x1 x2 x3 x4 x5 x6 x7 x8 x9 x10 x11 x12 x13 x14 x15 x16 x17 x18 x19 x20)))]) (c := (Q21 (p : Int) x1 x2 x3 x4 x5 x6 x7 x8 x9 x10 x11 x12 x13 x14 x15 x16 x17 x18 x19 x20)) (by decide) rfl Try.underlying66 siz65 zer65 (by decide) (by decide) (by kernel_rfl) ?_
 intro bq wq Nq
 have Fq := Nq.ge E
 have Oq_br := Nq.lt Br
 have Oq_bs := Nq.lt Bs
 have Oq_bz := Nq.lt Bz
 replace Br := Nq.keep Br
 replace Bs := Nq.keep Bs
 replace Bz := Nq.keep Bz
 replace E := E.ext Nq.ext
 have Bq := Nq.blk
 refine qA (.slice (some ⟨bq, 0, none⟩) 1 1) rfl ?_
 refine WpL_nil (Wp_seq (Wp_seq_region ?_))
 refine qF br 0 2 rfl Try.underlying27 rfl siz25 rfl ?_
 refine qV (r_load (v := (.slice aa t.args.length ac)) rfl flat25 (Br.cell rfl)) ?_
 refine qV (r_lenSlice (ad := aa) (n := t.args.length) (cap := ac) Try.underlying25 rfl) ?_
 refine qM (I6 0) rfl ?_
 refine WpL_nil (Wp_block ?_)
 refine Wp_loop (fun nn_ σ W4 => ∃ (i : Nat) (la : Option Addr) (lc : Nat) (l : List Crs), (∃ jj_, σ = upds jj_ [(4, (P6 bs 0)), (50, (.slice aa t.args.length ac)), (51, (I6 (t.args.length : Int))), (52, (I6 (i : Int))), (7, (.slice la l.length lc))]) ∧ Chg none1 w0 W4 ∧ Blk W4 br (R6 t sa sc aa ac) 27 ∧ Blk W4 bs #[(.slice ta text.length tc)] 22 ∧ Blk W4 bz (Q21 (p : Int) x1 x2 x3 x4 x5 x6 x7 x8 x9 x10 x11 x12 x13 x14 x15 x16 x17 x18 x19 x20) 65 ∧ Blk W4 bq (Q21 (p : Int) x1 x2 x3 x4 x5 x6 x7 x8 x9 x10 x11 x12 x13 x14 x15 x16 x17 x18 x19 x20) 65 ∧ (i ≤ t.args.length) ∧ (l = refSeq ((t.args.take i).map (refC text)) [(p, g)]) ∧ (Few text.length p l) ∧ (OwnC W4 w0.heap.size (.slice la l.length lc) l) ∧ nn_ = t.args.length - i) (n := t.args.length - 0) ?_ ?_
 ·exact ⟨0, some ⟨bq, 0, none⟩, 1, [(p, g)], Fits.out ⟨rfl, rfl, rfl, rfl, rfl, trivial⟩, E, Br, Bs, Bz, Bq, Nat.zero_le _, rfl, few_one hp hg, ownC_one (hxv ▸ Bq) hg (by omega), rfl⟩
 ·clear E Br Bs Bz Bq
  rintro _ _ W4 ⟨i, la, lc, l, ⟨j4, rfl⟩, E, Br, Bs, Bz, Bq, hi, hl, hFl, hO, rfl⟩
  refine Wp_seq_region ?_
  refine qV (r_lss (k := .i64) (a := (i : Int)) (b := (t.args.length : Int)) rfl rfl) ?_
  refine WpL_nil (Wp_seq ?_)
  refine Wp_cond (b := decide (((i : Int) : Int) < (t.args.length : Int))) rfl (fun hlt => ?_) (fun hlt => ?_)
  ·have khlt := hlt
   replace hlt := of_decide_eq_true hlt
   obtain ⟨a, ha⟩ := get_of_lt (l := t.args) (i := i) (by omega)
   obtain ⟨ab, ao, rfl, hres⟩ := args_at hargs (by omega)
   obtain ⟨us, hus, hat⟩ := hres.get ha
   obtain ⟨xsa, xsc, xaa, xac, rfl, hxset, hxlen, hxargs⟩ := hat.form
   refine Wp_skip (thn_normal (Wp_seq (Wp_block (Wp_seq_region ?_))))
   refine qV (r_indexSlice (b := ab) (o := ao) (len := t.args.length) (cap := ac) (i := i) (o' := ao + i * 6) rfl rfl rfl Try.underlying25 siz27 (by omega) (by omega)) ?_
   refine qV (r_loadAgg (vs := [(I6 a.kind), (.slice xsa a.set.length xsc), (.slice xaa a.args.length xac), (I6 a.mn), (I6 a.mx), (.bool a.neg)]) rfl agg27 siz27 rfl (hus.ext E)) ?_
   refine s_allocStore (v := (.agg (R6 a xsa xsc xaa xac))) (c := (R6 a xsa xsc xaa xac)) (n := 6) (by decide) zer27 rfl siz27 rfl rfl rfl (by simp [Value.oneCell']) ?_
   intro bu wu Nu
   have Fu := Nu.ge E
   have Ou_br := Nu.lt Br
   have Ou_bs := Nu.lt Bs
   have Ou_bz := Nu.lt Bz
   have Ou_bq := Nu.lt Bq
   replace Br := Nu.keep Br
   replace Bs := Nu.keep Bs
   replace Bz := Nu.keep Bz
   replace Bq := Nu.keep Bq
   replace hO := ownC_ext hO Nu.ext
   replace E := E.ext Nu.ext
   have Bu := Nu.blk
   refine WpL_nil (Wp_region ?_)
   refine qM (.slice la l.length lc) rfl ?_
   refine qV (r_makeFunc (vs := []) (us := [(P6 bu 0), (P6 bs 0)]) rfl rfl) ?_
   have hz9 := E.size
   refine WpL_enter rfl rfl (by decide) (r_callF (vs := [(.slice la l.length lc), (.func (.func 52) #[] #[(P6 bu 0), (P6 bs 0)])]) Try.func51 nm51 bd51 rfl) ((rthen_c _ _ _ l (fun q => refC text a q.1 q.2) (ownC_at hO fun q hq => (hFl.lies q hq).2.2) (by have := hFl.few; omega) (fun q hq => (hFl.lies q hq).2.2) (fun q hq => ⟨by have := (few_ref text a (hFl.lies q hq).2.1 (hFl.lies q hq).2.2).few; omega, fun u hu => ((few_ref text a (hFl.lies q hq).2.1 (hFl.lies q hq).2.2).lies u hu).2.2⟩) (fun w q hq hE => CallV.mk (first := #[]) (cap := #[.pointer (some ⟨bu, 0, none⟩), .pointer (some ⟨bs, 0, none⟩)]) Try.func52 nm52 bd52 rfl ((crs1_c text a (IH i a ha) q (hFl.lies q hq).2.1 (hFl.lies q hq).2.2 w _ _ bu bs (ReAt.ext (E.trans hE) a hat) (htx.ext (E.trans hE)) (hE.keep Bu) (hE.keep Bs)).mono fun v w h => ownC_res (few_ref text a (hFl.lies q hq).2.1 (hFl.lies q hq).2.2) h)))) ?_
   rintro _ w9 ⟨⟨⟨ra, rc, rfl⟩, hr⟩, X9⟩
   replace Br := X9.keep Br
   replace Bs := X9.keep Bs
   replace Bz := X9.keep Bz
   replace Bq := X9.keep Bq
   replace Bu := X9.keep Bu
   replace hO := ownC_ext hO X9
   replace E := E.ext X9
   have hF9 : Few text.length p (frs [] (l.flatMap fun q => refC text a q.1 q.2)) := few_frs (lies_then hFl.lies fun q hq => (few_ref text a (hFl.lies q hq).2.1 (hFl.lies q hq).2.2).lies)
   have hO9 : OwnC (w9) w0.heap.size (.slice ra (frs [] (l.flatMap fun q => refC text a q.1 q.2)).length rc) (frs [] (l.flatMap fun q => refC text a q.1 q.2)) := ⟨⟨ra, rc, rfl⟩, own_low hr hz9⟩
   have hl9 : (frs [] (l.flatMap fun q => refC text a q.1 q.2)) = refSeq ((t.args.take (i + 1)).map (refC text)) [(p, g)] := by rw [List.take_add_one, ha, Option.toList_some, List.map_append, List.map_cons, List.map_nil, refSeq_snoc, ← hl]
   refine qA (.slice ra ((frs [] (l.flatMap fun q => refC text a q.1 q.2)).length) rc) rfl ?_
   refine WpL_nil (inB_normal (thn_normal (Wp_region ?_)))
   refine qV (r_add (k := .i64) (a := (i : Int)) (b := 1) (c := (i : Int) + 1) rfl rfl (wI64 (by omega))) ?_
   refine qM (I6 ((i : Int) + 1)) rfl ?_
   refine WpL_nil (thn_normal ?_)
   exact ⟨t.args.length - (i + 1), by omega, i + 1, ra, rc, frs [] (l.flatMap fun q => refC text a q.1 q.2), Fits.out ⟨rfl, rfl, rfl, rfl, rfl, trivial⟩, E, Br, Bs, Bz, Bq, (by omega), hl9, hF9, hO9, rfl⟩
  ·have khlt := hlt
   replace hlt := of_decide_eq_false hlt
   have hkk : t.args.take i = t.args := List.take_of_length_le (by omega)
   rw [hkk] at hl
   refine Wp_exit (thn_exit (thn_exit (inB_here (thn_normal (Wp_seq_region ?_)))))
   refine qM (.slice la l.length lc) rfl ?_
   refine qA (.slice la l.length lc) rfl ?_
   refine WpL_nil (Wp_ret (inB_ret (thn_ret ?_)))
   refine fin_tmp Try.results35 (v := (.slice la l.length lc)) rfl ?_
   exact ⟨by rw [rc3 h3, ← hl]; exact hO, E⟩
end Go.Proofs
namespace Go.Proofs
open Go Go.Eng Go.Sort
set_option maxRecDepth 100000
set_option maxHeartbeats 2000000 in
theorem crs_k4 (text : List Int) (hn : text.length ≤ 7) (t : Re) (hok : okRe t) (hz : t.size ≤ 100) (IH : ∀ (i : Nat) (x : Re), t.args[i]? = some x → RefOk text x) (h4 : t.kind = 4) : RefOk text t := by
 intro p g hp hg w0 vs vt ht htx
 have ht0 := ht
 have hF := few_ref text t hp hg
 obtain ⟨sa, sc, aa, ac, rfl, hset, hlen, hargs⟩ := ht.form
 obtain ⟨ta, tc, rfl⟩ := SlAt.form htx
 simp only [List.length_map] at htx ⊢
 obtain ⟨x0, x1, x2, x3, x4, x5, x6, x7, x8, x9, x10, x11, x12, x13, x14, x15, x16, x17, x18, x19, x20, hxv⟩ := crs21 (q := (p, g)) hg
 have hx0 : x0 = ((p : Nat) : Int) := by have := congrArg (fun l => l[0]?) hxv; simpa using this.symm
 subst hx0
 have hgv : grpV g = [.int .i64 x1, .int .i64 x2, .int .i64 x3, .int .i64 x4, .int .i64 x5, .int .i64 x6, .int .i64 x7, .int .i64 x8, .int .i64 x9, .int .i64 x10, .int .i64 x11, .int .i64 x12, .int .i64 x13, .int .i64 x14, .int .i64 x15, .int .i64 x16, .int .i64 x17, .int .i64 x18, .int .i64 x19, .int .i64 x20] := by have := congrArg List.tail hxv; simpa using this
 rw [hxv]
 refine Ret_of Try.func35 rfl Try.ntmps35 (Nat.le_of_ble_eq_true rfl) ?_
 have E : Chg none1 w0 w0 := Chg.refl _ _
 refine Wp_seq_region ?_
 refine s_box (v := (.agg (R6 t sa sc aa ac))) (c := (R6 t sa sc aa ac)) (by decide) rfl rfl ?_
 intro br wr Nr
 have Fr := Nr.ge E
 replace E := E.ext Nr.ext
 have Br := Nr.blk
 refine s_box (v := (.slice ta text.length tc)) (c := #[(.slice ta text.length tc)]) (by decide) rfl rfl ?_
 intro bs ws Ns
 have Fs := Ns.ge E
 have Os_br := Ns.lt Br
 replace Br := Ns.keep Br
 replace E := E.ext Ns.ext
 have Bs := Ns.blk
 refine s_box (v := (.agg (Q21 (p : Int) x1 x2 x3 x4 x5 x6 x7 x8 x9 x10 x11 x12 x13 x14 x15 x16 x17 x18 x19 x20))) (c := (Q21 (p : Int) x1 x2 x3 x4 x5 x6 x7 x8 x9 x10 x11 x12 x13 x14 x15 x16 x17 x18 x19 x20)) (by decide) rfl rfl ?_
 intro bz wz Nz
 have Fz := Nz.ge E
 have Oz_br := Nz.lt Br
 have Oz_bs := Nz.lt Bs
 replace Br := Nz.keep Br
 replace Bs := Nz.keep Bs
 replace E := E.ext Nz.ext
 have Bz := Nz.blk
 refine qA (.slice none 0 0) rfl ?_
 refine WpL_nil (Wp_seq (Wp_seq_region ?_))
 refine qF br 0 0 rfl Try.underlying27 rfl siz3 rfl ?_
 refine qV (r_load (v := (I6 t.kind)) rfl flat3 (Br.cell rfl)) ?_
 refine WpL_nil (Wp_block (Wp_seq_region ?_))
 refine qV (r_eql (k := .i64) (a := t.kind) (b := 1) rfl rfl) ?_
 refine qA (.bool (decide ((t.kind : Int) = 1))) rfl ?_
 refine WpL_nil ?_
 have hc1 : (decide ((t.kind : Int) = 1)) = false := decide_eq_false (by omega)
 refine Wp_cond_false (congrArg Value.bool hc1) ?_
 refine Wp_seq_region ?_
 refine qV (r_eql (k := .i64) (a := t.kind) (b := 2) rfl rfl) ?_
 refine qA (.bool (decide ((t.kind : Int) = 2))) rfl ?_
 refine WpL_nil ?_
 have hc2 : (decide ((t.kind : Int) = 2)) = false := decide_eq_false (by omega)
 refine Wp_cond_false (congrArg Value.bool hc2) ?_
 refine Wp_seq_region ?_
 refine qV (r_eql (k := .i64) (a := t.kind) (b := 3) rfl rfl) ?_
 refine qA (.bool (decide ((t.kind : Int) = 3))) rfl ?_
 refine WpL_nil ?_
 have hc3 : (decide ((t.kind : Int) = 3)) = false := decide_eq_false (by omega)
 refine Wp_cond_false (congrArg Value.bool hc3) ?_
 refine Wp_seq_region ?_
 refine qV (r_eql (k := .i64) (a := t.kind) (b := 4) rfl rfl) ?_
 refine qA (.bool (decide ((t.kind : Int) = 4))) rfl ?_
 refine WpL_nil ?_
 have hc4 : (decide ((t.kind : Int) = 4)) = true := decide_eq_true h4
 refine Wp_cond_true (congrArg Value.bool hc4) ?_
 obtain ⟨base, hbase⟩ : ∃ base, base = (wz).heap.size := ⟨_, rfl⟩
 have hb0 : w0.heap.size ≤ base ∧ br < base ∧ bs < base ∧ bz < base := ⟨by rw [hbase]; exact E.size, by rw [hbase]; exact Br.lt, by rw [hbase]; exact Bs.lt, by rw [hbase]; exact Bz.lt⟩
 refine Wp_seq_region ?_
 refine qA (.slice none 0 0) rfl ?_
 refine WpL_nil (Wp_seq (Wp_seq_region ?_))
 refine qF br 0 2 rfl Try.underlying27 rfl siz25 rfl ?_
 refine qV (r_load (v := (.slice aa t.args.length ac)) rfl flat25 (Br.cell rfl)) ?_
 refine qV (r_lenSlice (ad := aa) (n := t.args.length) (cap := ac) Try.underlying25 rfl) ?_
 refine qM (I6 0) rfl ?_
 refine WpL_nil (Wp_block ?_)
 refine Wp_loop (fun nn_ σ W5 => ∃ (i : Nat) (la : Option Addr) (lc : Nat) (o : List Crs), (∃ jj_, σ = upds jj_ [(4, (P6 bs 0)), (5, (P6 bz 0)), (64, (.slice aa t.args.length ac)), (65, (I6 (t.args.length : Int))), (66, (I6 (i : Int))), (10, (.slice la o.length lc))]) ∧ Chg none1 w0 W5 ∧ Blk W5 br (R6 t sa sc aa ac) 27 ∧ Blk W5 bs #[(.slice ta text.length tc)] 22 ∧ Blk W5 bz (Q21 (p : Int) x1 x2 x3 x4 x5 x6 x7 x8 x9 x10 x11 x12 x13 x14 x15 x16 x17 x18 x19 x20) 65 ∧ (i ≤ t.args.length) ∧ (o = (t.args.take i).flatMap (fun a => refC text a p g)) ∧ (o.length ≤ i * 8 ∧ ∀ q ∈ o, q.2.length = 10) ∧ (W5.ownsRow base TCs 21 (.slice la o.length lc) o.length (o.map crsV).flatten) ∧ (base ≤ W5.heap.size) ∧ nn_ = t.args.length - i) (n := t.args.length - 0) ?_ ?_
 ·exact ⟨0, none, 0, [], Fits.out ⟨rfl, rfl, rfl, rfl, rfl, rfl, trivial⟩, E, Br, Bs, Bz, Nat.zero_le _, rfl, ⟨Nat.le_refl _, fun q h => by cases h⟩, World.ownsRow_nil _ _ _ _, (by omega), rfl⟩
 ·clear E Br Bs Bz
  rintro _ _ W5 ⟨i, la, lc, o, ⟨j5, rfl⟩, E, Br, Bs, Bz, hi, ho, hol, hO, hbs, rfl⟩
  refine Wp_seq_region ?_
  refine qV (r_lss (k := .i64) (a := (i : Int)) (b := (t.args.length : Int)) rfl rfl) ?_
  refine WpL_nil (Wp_seq ?_)
  refine Wp_cond (b := decide (((i : Int) : Int) < (t.args.length : Int))) rfl (fun hlt => ?_) (fun hlt => ?_)
  ·have khlt := hlt
   replace hlt := of_decide_eq_true hlt
   obtain ⟨a, ha⟩ := get_of_lt (l := t.args) (i := i) (by omega)
   obtain ⟨ab, ao, rfl, hres⟩ := args_at hargs (by omega)
   obtain ⟨us, hus, hat⟩ := hres.get ha
   obtain ⟨xsa, xsc, xaa, xac, rfl, hxset, hxlen, hxargs⟩ := hat.form
   have hf2 := few_ref text a hp hg
   have hf2f := hf2.few
   have hal : t.args.length ≤ 100 := by have := sizes_ge t.args; have := Re.size_eq t; omega
   refine Wp_skip (thn_normal (Wp_seq (Wp_block (Wp_seq_region ?_))))
   refine qV (r_indexSlice (b := ab) (o := ao) (len := t.args.length) (cap := ac) (i := i) (o' := ao + i * 6) rfl rfl rfl Try.underlying25 siz27 (by omega) (by omega)) ?_
   refine qV (r_loadAgg (vs := [(I6 a.kind), (.slice xsa a.set.length xsc), (.slice xaa a.args.length xac), (I6 a.mn), (I6 a.mx), (.bool a.neg)]) rfl agg27 siz27 rfl (hus.ext E)) ?_
   refine s_allocStore (v := (.agg (R6 a xsa xsc xaa xac))) (c := (R6 a xsa xsc xaa xac)) (n := 6) (by decide) zer27 rfl siz27 rfl rfl rfl (by simp [Value.oneCell']) ?_
   intro bu wu Nu
   have Fu := Nu.ge E
   have Ou_br := Nu.lt Br
   have Ou_bs := Nu.lt Bs
   have Ou_bz := Nu.lt Bz
   replace Br := Nu.keep Br
   replace Bs := Nu.keep Bs
   replace Bz := Nu.keep Bz
   replace hO := own_ext hO Nu.ext
   replace hbs := Nat.le_trans hbs Nu.ext.size
   replace E := E.ext Nu.ext
   have Bu := Nu.blk
   refine WpL_nil (Wp_region ?_)
   refine qM (.slice la o.length lc) rfl ?_
   refine qV (r_loadAgg (vs := [(I6 a.kind), (.slice xsa a.set.length xsc), (.slice xaa a.args.length xac), (I6 a.mn), (I6 a.mx), (.bool a.neg)]) rfl agg27 siz27 rfl (Bu.cells rfl)) ?_
   refine qV (r_load (v := (.slice ta text.length tc)) rfl flat22 (Bs.cell rfl)) ?_
   refine qV (r_loadAgg (vs := (K21 (p : Int) x1 x2 x3 x4 x5 x6 x7 x8 x9 x10 x11 x12 x13 x14 x15 x16 x17 x18 x19 x20)) rfl agg65 siz65 rfl (Bz.cells rfl)) ?_
   refine WpL_enter rfl rfl (by decide) (r_callF (vs := [(.agg (R6 a xsa xsc xaa xac)), (.slice ta text.length tc), (.agg (Q21 (p : Int) x1 x2 x3 x4 x5 x6 x7 x8 x9 x10 x11 x12 x13 x14 x15 x16 x17 x18 x19 x20))]) Try.func35 nm35 bd35 rfl) ((hxv ▸ IH i a ha p g hp hg _ _ _ (ReAt.ext E a hat) (htx.ext E))) ?_
   rintro _ w19 ⟨⟨⟨ma, mc, rfl⟩, hM2⟩, X19⟩
   replace Br := X19.keep Br
   replace Bs := X19.keep Bs
   replace Bz := X19.keep Bz
   replace Bu := X19.keep Bu
   replace hO := own_ext hO X19
   replace hbs := Nat.le_trans hbs X19.size
   replace E := E.ext X19
   have hMat : CrsAt w19 (.slice ma (refC text a p g).length mc) (refC text a p g) := own_slat hM2 (fun r hr => by obtain ⟨q, hq, rfl⟩ := List.mem_map.1 hr; simp only [List.length_cons, grpV_len, (hf2.lies q hq).2.2]) (by simp) (by decide)
   have hol1 := hol.1
   refine s_appendAny (base := base) (n := o.length) (m := ((refC text a p g).length)) (xs := (o.map crsV).flatten) (news := ((refC text a p g).map crsV).flatten) (size := 21) (bytes := 168) (v := (.slice la o.length lc)) (by decide) Try.underlying66 siz65 byt65 zer65 rfl (by decide) rfl hO rfl (crs_six (fun q hq => (hf2.lies q hq).2.2)) (crs_any hMat (fun q hq => (hf2.lies q hq).2.2)) (crs_one _) (by unfold maxLen; omega) (by omega) (hbs) ?_
   intro v9 w39 Ov9 Cv9 Dv9
   replace Br := Cv9.keep (fun h => by have := (hO.lt _ h).1; omega) Br
   replace Bs := Cv9.keep (fun h => by have := (hO.lt _ h).1; omega) Bs
   replace Bz := Cv9.keep (fun h => by have := (hO.lt _ h).1; omega) Bz
   replace E := E.step Cv9 (fun x hx h => absurd (hO.lt x h).1 (by omega))
   obtain ⟨la2, lc2, rfl⟩ := own_form Ov9
   have htk : (t.args.take (i + 1)).flatMap (fun a => refC text a p g) = o ++ refC text a p g := by rw [List.take_add_one, ha, Option.toList_some, List.flatMap_append, ← ho, List.flatMap_cons, List.flatMap_nil, List.append_nil]
   have hl8 : o.length + (refC text a p g).length = (o ++ refC text a p g).length := by simp
   have hO9 : (w39).ownsRow base TCs 21 (.slice la2 (o ++ refC text a p g).length lc2) (o ++ refC text a p g).length ((o ++ refC text a p g).map crsV).flatten := by rw [List.map_append, List.flatten_append, List.length_append]; exact Ov9
   rw [hl8]
   refine qA (.slice la2 ((o ++ refC text a p g).length) lc2) rfl ?_
   refine WpL_nil (inB_normal (thn_normal (Wp_region ?_)))
   refine qV (r_add (k := .i64) (a := (i : Int)) (b := 1) (c := (i : Int) + 1) rfl rfl (wI64 (by omega))) ?_
   refine qM (I6 ((i : Int) + 1)) rfl ?_
   refine WpL_nil (thn_normal ?_)
   exact ⟨t.args.length - (i + 1), by omega, i + 1, la2, lc2, o ++ refC text a p g, Fits.out ⟨rfl, rfl, rfl, rfl, rfl, rfl, trivial⟩, E, Br, Bs, Bz, (by omega), htk.symm, ⟨by rw [← hl8]; omega, fun q hq => by rcases List.mem_append.1 hq with h | h; exact hol.2 q h; exact (hf2.lies q h).2.2⟩, hO9, Nat.le_trans hbs Cv9.size, rfl⟩
  ·have khlt := hlt
   replace hlt := of_decide_eq_false hlt
   have hkk : t.args.take i = t.args := List.take_of_length_le (by omega)
   rw [hkk] at ho
   have hol1 := hol.1
   have hal : t.args.length ≤ 100 := by have := sizes_ge t.args; have := Re.size_eq t; omega
   have hat : CrsAt (W5) (.slice la o.length lc) o := own_slat hO (fun r hr => by obtain ⟨q, hq, rfl⟩ := List.mem_map.1 hr; simp only [List.length_cons, grpV_len, hol.2 q hq]) (by simp) (by decide)
   have hz39 := E.size
   refine Wp_exit (thn_exit (thn_exit (inB_here (thn_normal (Wp_seq_region ?_)))))
   refine qM (.slice la o.length lc) rfl ?_
   refine WpL_enter rfl rfl (by decide) (r_callF (vs := [(.slice la o.length lc)]) Try.func53 nm53 bd53 rfl) (rfirst_c _ _ o hat (by omega) hol.2) ?_
   rintro _ w29 ⟨⟨⟨ra, rc, rfl⟩, hr⟩, X29⟩
   replace Br := X29.keep Br
   replace Bs := X29.keep Bs
   replace Bz := X29.keep Bz
   replace E := E.ext X29
   refine qA (.slice ra ((frs [] o).length) rc) rfl ?_
   refine WpL_nil (Wp_ret (inB_ret (thn_ret ?_)))
   refine fin_tmp Try.results35 (v := (.slice ra ((frs [] o).length) rc)) rfl ?_
   exact ⟨by rw [rc4 h4, ← ho]; exact ⟨⟨ra, rc, rfl⟩, own_low hr hz39⟩, E⟩
end Go.Proofs
namespace Go.Proofs
open Go Go.Eng Go.Sort
set_option maxRecDepth 100000
set_option maxHeartbeats 2000000 in
theorem crs_k5 (text : List Int) (hn : text.length ≤ 7) (t : Re) (hok : okRe t) (hz : t.size ≤ 100) (IH : ∀ (i : Nat) (x : Re), t.args[i]? = some x → RefOk text x) (h5 : t.kind = 5) : RefOk text t := by
 intro p g hp hg w0 vs vt ht htx
 have ht0 := ht
 have hF := few_ref text t hp hg
 obtain ⟨sa, sc, aa, ac, rfl, hset, hlen, hargs⟩ := ht.form
 obtain ⟨ta, tc, rfl⟩ := SlAt.form htx
 simp only [List.length_map] at htx ⊢
 obtain ⟨x0, x1, x2, x3, x4, x5, x6, x7, x8, x9, x10, x11, x12, x13, x14, x15, x16, x17, x18, x19, x20, hxv⟩ := crs21 (q := (p, g)) hg
 have hx0 : x0 = ((p : Nat) : Int) := by have := congrArg (fun l => l[0]?) hxv; simpa using this.symm
 subst hx0
 have hgv : grpV g = [.int .i64 x1, .int .i64 x2, .int .i64 x3, .int .i64 x4, .int .i64 x5, .int .i64 x6, .int .i64 x7, .int .i64 x8, .int .i64 x9, .int .i64 x10, .int .i64 x11, .int .i64 x12, .int .i64 x13, .int .i64 x14, .int .i64 x15, .int .i64 x16, .int .i64 x17, .int .i64 x18, .int .i64 x19, .int .i64 x20] := by have := congrArg List.tail hxv; simpa using this
 rw [hxv]
 refine Ret_of Try.func35 rfl Try.ntmps35 (Nat.le_of_ble_eq_true rfl) ?_
 have E : Chg none1 w0 w0 := Chg.refl _ _
 refine Wp_seq_region ?_
 refine s_box (v := (.agg (R6 t sa sc aa ac))) (c := (R6 t sa sc aa ac)) (by decide) rfl rfl ?_
 intro br wr Nr
 have Fr := Nr.ge E
 replace E := E.ext Nr.ext
 have Br := Nr.blk
 refine s_box (v := (.slice ta text.length tc)) (c := #[(.slice ta text.length tc)]) (by decide) rfl rfl ?_
 intro bs ws Ns
 have Fs := Ns.ge E
 have Os_br := Ns.lt Br
 replace Br := Ns.keep Br
 replace E := E.ext Ns.ext
 have Bs := Ns.blk
 refine s_box (v := (.agg (Q21 (p : Int) x1 x2 x3 x4 x5 x6 x7 x8 x9 x10 x11 x12 x13 x14 x15 x16 x17 x18 x19 x20))) (c := (Q21 (p : Int) x1 x2 x3 x4 x5 x6 x7 x8 x9 x10 x11 x12 x13 x14 x15 x16 x17 x18 x19 x20)) (by decide) rfl rfl ?_
 intro bz wz Nz
 have Fz := Nz.ge E
 have Oz_br := Nz.lt Br
 have Oz_bs := Nz.lt Bs
 replace Br := Nz.keep Br
 replace Bs := Nz.keep Bs
 replace E := E.ext Nz.ext
 have Bz := Nz.blk
 refine qA (.slice none 0 0) rfl ?_
 refine WpL_nil (Wp_seq (Wp_seq_region ?_))
 refine qF br 0 0 rfl Try.underlying27 rfl siz3 rfl ?_
 refine qV (r_load (v := (I6 t.kind)) rfl flat3 (Br.cell rfl)) ?_
 refine WpL_nil (Wp_block (Wp_seq_region ?_))
 refine qV (r_eql (k := .i64) (a := t.kind) (b := 1) rfl rfl) ?_
 refine qA (.bool (decide ((t.kind : Int) = 1))) rfl ?_
 refine WpL_nil ?_
 have hc1 : (decide ((t.kind : Int) = 1)) = false := decide_eq_false (by omega)
 refine Wp_cond_false (congrArg Value.bool hc1) ?_
 refine Wp_seq_region ?_
 refine qV (r_eql (k := .i64) (a := t.kind) (b := 2) rfl rfl) ?_
 refine qA (.bool (decide ((t.kind : Int) = 2))) rfl ?_
 refine WpL_nil ?_
 have hc2 : (decide ((t.kind : Int) = 2)) = false := decide_eq_false (by omega)
 refine Wp_cond_false (congrArg Value.bool hc2) ?_
 refine Wp_seq_region ?_
 refine qV (r_eql (k := .i64) (a := t.kind) (b := 3) rfl rfl) ?_
 refine qA (.bool (decide ((t.kind : Int) = 3))) rfl ?_
 refine WpL_nil ?_
 have hc3 : (decide ((t.kind : Int) = 3)) = false := decide_eq_false (by omega)
 refine Wp_cond_false (congrArg Value.bool hc3) ?_
 refine Wp_seq_region ?_
 refine qV (r_eql (k := .i64) (a := t.kind) (b := 4) rfl rfl) ?_
 refine qA (.bool (decide ((t.kind : Int) = 4))) rfl ?_
 refine WpL_nil ?_
 have hc4 : (decide ((t.kind : Int) = 4)) = false := decide_eq_false (by omega)
 refine Wp_cond_false (congrArg Value.bool hc4) ?_
 refine Wp_seq_region ?_
 refine qV (r_eql (k := .i64) (a := t.kind) (b := 5) rfl rfl) ?_
 refine qA (.bool (decide ((t.kind : Int) = 5))) rfl ?_
 refine WpL_nil ?_
 have hc5 : (decide ((t.kind : Int) = 5)) = true := decide_eq_true h5
 refine Wp_cond_true (congrArg Value.bool hc5) ?_
 have hone := okRe_one hok (by omega)
 obtain ⟨x, hx⟩ := get_of_lt (l := t.args) (i := 0) (by omega)
 obtain ⟨ab, ao, rfl, hres⟩ := args_at hargs (by omega)
 obtain ⟨us, hus, hxt⟩ := hres.get hx
 obtain ⟨xsa, xsc, xaa, xac, rfl, hxset, hxlen, hxargs⟩ := hxt.form
 have hxk := IH 0 x hx
 have hxf := few_ref text x hp hg
 have hln : (((text.length + 1 : Nat)) : Int) = ((text.length : Nat) : Int) + 1 := by omega
 refine Wp_seq ?_
 obtain ⟨Fs6, hFs6⟩ : ∃ Fs : List Fact, Fs = [.eq (P6 br 2), .eq (.slice (some ⟨ab, ao, none⟩) t.args.length ac), .eq (.pointer (some ⟨ab, ao + 0 * 6, none⟩)), .eq (.agg (R6 x xsa xsc xaa xac)), .eq (.slice ta text.length tc), .eq (.agg (Q21 (p : Int) x1 x2 x3 x4 x5 x6 x7 x8 x9 x10 x11 x12 x13 x14 x15 x16 x17 x18 x19 x20)), .eq (.slice ta text.length tc), .eq (I6 (text.length : Int)), .eq (I6 ((text.length : Int) + 1)), .gen (crsF w0.heap.size (refMore (refC text x) (text.length + 1) p g)) (crsF_ext _ _), .gen (crsF w0.heap.size (refMore (refC text x) (text.length + 1) p g)) (crsF_ext _ _)] := ⟨_, rfl⟩
 refine Wp_dag [81, 82, 83, 84, 85, 86, 87, 88, 89, 90, 6] [[], [0], [1], [2], [], [], [], [6], [7], [3, 4, 5, 8], [0, 1, 2, 3, 4, 5, 6, 7, 8, 9]] Fs6 hFs6 mixed (by kernel_rfl) (by kernel_rfl) ?_ ?_
 ·intro wd X0
  refine DagSteps.cons (fun s' w' X U H => Or.inl ⟨?_, ?_⟩) ?_
  ·exact Guarded_none rfl
  ·exact Does_val (r_fieldAddr (b := br) (o := 0) (o' := 2) (U 3 rfl) Try.underlying27 rfl siz25 rfl) (Ext.refl _) rfl
  refine DagSteps.cons (fun s' w' X U H => Or.inl ⟨?_, ?_⟩) ?_
  ·exact Guarded_none rfl
  ·have e81 : s' 81 = (.pointer (some ⟨br, 2, none⟩)) := H 0 rfl 81 (.eq (.pointer (some ⟨br, 2, none⟩))) rfl (by rw [hFs6]; rfl)
   exact Does_val (r_load (v := (.slice (some ⟨ab, ao, none⟩) t.args.length ac)) e81 flat25 (((X0.trans X).keep Br).cell rfl)) (Ext.refl _) rfl
  refine DagSteps.cons (fun s' w' X U H => Or.inl ⟨?_, ?_⟩) ?_
  ·exact Guarded_none rfl
  ·have e82 : s' 82 = (.slice (some ⟨ab, ao, none⟩) t.args.length ac) := H 1 rfl 82 (.eq (.slice (some ⟨ab, ao, none⟩) t.args.length ac)) rfl (by rw [hFs6]; rfl)
   exact Does_val (r_indexSlice (b := ab) (o := ao) (len := t.args.length) (cap := ac) (i := 0) (o' := ao + 0 * 6) e82 rfl rfl Try.underlying25 siz27 (by omega) (by omega)) (Ext.refl _) rfl
  refine DagSteps.cons (fun s' w' X U H => Or.inl ⟨?_, ?_⟩) ?_
  ·exact Guarded_none rfl
  ·have e83 : s' 83 = (.pointer (some ⟨ab, ao + 0 * 6, none⟩)) := H 2 rfl 83 (.eq (.pointer (some ⟨ab, ao + 0 * 6, none⟩))) rfl (by rw [hFs6]; rfl)
   exact Does_val (r_loadAgg (vs := [(I6 x.kind), (.slice xsa x.set.length xsc), (.slice xaa x.args.length xac), (I6 x.mn), (I6 x.mx), (.bool x.neg)]) e83 agg27 siz27 rfl (hus.ext (Ext.trans E (X0.trans X)))) (Ext.refl _) rfl
  refine DagSteps.cons (fun s' w' X U H => Or.inl ⟨?_, ?_⟩) ?_
  ·exact Guarded_none rfl
  ·exact Does_val (r_load (v := (.slice ta text.length tc)) (U 4 rfl) flat22 (((X0.trans X).keep Bs).cell rfl)) (Ext.refl _) rfl
  refine DagSteps.cons (fun s' w' X U H => Or.inl ⟨?_, ?_⟩) ?_
  ·exact Guarded_none rfl
  ·exact Does_val (r_loadAgg (vs := (K21 (p : Int) x1 x2 x3 x4 x5 x6 x7 x8 x9 x10 x11 x12 x13 x14 x15 x16 x17 x18 x19 x20)) (U 5 rfl) agg65 siz65 rfl (((X0.trans X).keep Bz).cells rfl)) (Ext.refl _) rfl
  refine DagSteps.cons (fun s' w' X U H => Or.inl ⟨?_, ?_⟩) ?_
  ·exact Guarded_none rfl
  ·exact Does_val (r_load (v := (.slice ta text.length tc)) (U 4 rfl) flat22 (((X0.trans X).keep Bs).cell rfl)) (Ext.refl _) rfl
  refine DagSteps.cons (fun s' w' X U H => Or.inl ⟨?_, ?_⟩) ?_
  ·exact Guarded_none rfl
  ·have e87 : s' 87 = (.slice ta text.length tc) := H 6 rfl 87 (.eq (.slice ta text.length tc)) rfl (by rw [hFs6]; rfl)
   exact Does_val (r_lenSlice (ad := ta) (n := text.length) (cap := tc) Try.underlying22 e87) (Ext.refl _) rfl
  refine DagSteps.cons (fun s' w' X U H => Or.inl ⟨?_, ?_⟩) ?_
  ·exact Guarded_none rfl
  ·have e88 : s' 88 = (.int .i64 ((text.length : Nat) : Int)) := H 7 rfl 88 (.eq (.int .i64 ((text.length : Nat) : Int))) rfl (by rw [hFs6]; rfl)
   exact Does_val (r_add (k := .i64) (a := (text.length : Int)) (b := 1) (c := (text.length : Int) + 1) e88 rfl (wI64 (by omega))) (Ext.refl _) rfl
  refine DagSteps.cons (fun s' w' X U H => Or.inl ⟨?_, ?_⟩) ?_
  ·exact Guarded_none rfl
  ·have e84 : s' 84 = (.agg #[(.int .i64 x.kind), (.slice xsa x.set.length xsc), (.slice xaa x.args.length xac), (.int .i64 x.mn), (.int .i64 x.mx), (.bool x.neg)]) := H 3 rfl 84 (.eq (.agg #[(.int .i64 x.kind), (.slice xsa x.set.length xsc), (.slice xaa x.args.length xac), (.int .i64 x.mn), (.int .i64 x.mx), (.bool x.neg)])) rfl (by rw [hFs6]; rfl)
   have e85 : s' 85 = (.slice ta text.length tc) := H 4 rfl 85 (.eq (.slice ta text.length tc)) rfl (by rw [hFs6]; rfl)
   have e86 : s' 86 = (.agg #[(.int .i64 ((p : Nat) : Int)), (.int .i64 x1), (.int .i64 x2), (.int .i64 x3), (.int .i64 x4), (.int .i64 x5), (.int .i64 x6), (.int .i64 x7), (.int .i64 x8), (.int .i64 x9), (.int .i64 x10), (.int .i64 x11), (.int .i64 x12), (.int .i64 x13), (.int .i64 x14), (.int .i64 x15), (.int .i64 x16), (.int .i64 x17), (.int .i64 x18), (.int .i64 x19), (.int .i64 x20)]) := H 5 rfl 86 (.eq (.agg #[(.int .i64 ((p : Nat) : Int)), (.int .i64 x1), (.int .i64 x2), (.int .i64 x3), (.int .i64 x4), (.int .i64 x5), (.int .i64 x6), (.int .i64 x7), (.int .i64 x8), (.int .i64 x9), (.int .i64 x10), (.int .i64 x11), (.int .i64 x12), (.int .i64 x13), (.int .i64 x14), (.int .i64 x15), (.int .i64 x16), (.int .i64 x17), (.int .i64 x18), (.int .i64 x19), (.int .i64 x20)])) rfl (by rw [hFs6]; rfl)
   have e89 : s' 89 = (.int .i64 (((text.length : Nat) : Int) + 1)) := H 8 rfl 89 (.eq (.int .i64 (((text.length : Nat) : Int) + 1))) rfl (by rw [hFs6]; rfl)
   exact Does_enter (r_callF (vs := [(.agg (R6 x xsa xsc xaa xac)), (.slice ta text.length tc), (.agg (Q21 (p : Int) x1 x2 x3 x4 x5 x6 x7 x8 x9 x10 x11 x12 x13 x14 x15 x16 x17 x18 x19 x20)), (I6 ((text.length : Int) + 1))]) Try.func54 nm54 bd54 (lst4 e84 e85 e86 e89)) ((hxv ▸ hln ▸ more_c text hn x hxk (text.length + 1) (by omega) p g hp hg _ _ _ (ReAt.ext (Ext.trans E (X0.trans X)) x hxt) (htx.ext (Ext.trans E (X0.trans X)))).mono (fun v w h => ⟨ownC_low h.1 (by have := E.size; have := X0.size; have := X.size; omega), h.2⟩))
  refine DagSteps.cons (fun s' w' X U H => Or.inl ⟨?_, ?_⟩) ?_
  ·exact Guarded_none rfl
  ·exact Does_val (r_assign (v := s' 90) rfl) (Ext.refl _) (H 9 rfl 90 (.gen (crsF w0.heap.size (refMore (refC text x) (text.length + 1) p g)) (crsF_ext _ _)) rfl (by rw [hFs6]; rfl))
  exact DagSteps.nil
 ·intro s' w6 X6 U H
  obtain ⟨⟨a6, c6, e6⟩, O6⟩ := H 10 6 (.gen (crsF w0.heap.size (refMore (refC text x) (text.length + 1) p g)) (crsF_ext _ _)) rfl (by rw [hFs6]; rfl)
  obtain ⟨j6, rfl⟩ := Fits.out (σ := s') (l := [(6, (.slice a6 ((refMore (refC text x) (text.length + 1) p g).length) c6))]) ⟨e6, trivial⟩
  clear U H
  replace Br := X6.keep Br
  replace Bs := X6.keep Bs
  replace Bz := X6.keep Bz
  replace E := E.ext X6
  refine thn_normal (Wp_ret (inB_ret (thn_ret ?_)))
  refine fin_tmp Try.results35 (v := (.slice a6 ((refMore (refC text x) (text.length + 1) p g).length) c6)) rfl ?_
  exact ⟨by rw [rc5 h5 hx]; exact ⟨⟨_, _, rfl⟩, O6⟩, E⟩
end Go.Proofs
namespace Go.Proofs
open Go Go.Eng Go.Sort
set_option maxRecDepth 100000
set_option maxHeartbeats 2000000 in
theorem crs_k6 (text : List Int) (hn : text.length ≤ 7) (t : Re) (hok : okRe t) (hz : t.size ≤ 100) (IH : ∀ (i : Nat) (x : Re), t.args[i]? = some x → RefOk text x) (h6 : t.kind = 6) : RefOk text t := by
 intro p g hp hg w0 vs vt ht htx
 have ht0 := ht
 have hF := few_ref text t hp hg
 obtain ⟨sa, sc, aa, ac, rfl, hset, hlen, hargs⟩ := ht.form
 obtain ⟨ta, tc, rfl⟩ := SlAt.form htx
 simp only [List.length_map] at htx ⊢
 obtain ⟨x0, x1, x2, x3, x4, x5, x6, x7, x8, x9, x10, x11, x12, x13, x14, x15, x16, x17, x18, x19, x20, hxv⟩ := crs21 (q := (p, g)) hg
 have hx0 : x0 = ((p : Nat) : Int) := by have := congrArg (fun l => l[0]?) hxv; simpa using this.symm
 subst hx0
 have hgv : grpV g = [.int .i64 x1, .int .i64 x2, .int .i64 x3, .int .i64 x4, .int .i64 x5, .int .i64 x6, .int .i64 x7, .int .i64 x8, .int .i64 x9, .int .i64 x10, .int .i64 x11, .int .i64 x12, .int .i64 x13, .int .i64 x14, .int .i64 x15, .int .i64 x16, .int .i64 x17, .int .i64 x18, .int .i64 x19, .int .i64 x20] := by have := congrArg List.tail hxv; simpa using this
 rw [hxv]
 refine Ret_of Try.func35 rfl Try.ntmps35 (Nat.le_of_ble_eq_true rfl) ?_
 have E : Chg none1 w0 w0 := Chg.refl _ _
 refine Wp_seq_region ?_
 refine s_box (v := (.agg (R6 t sa sc aa ac))) (c := (R6 t sa sc aa ac)) (by decide) rfl rfl ?_
 intro br wr Nr
 have Fr := Nr.ge E
 replace E := E.ext Nr.ext
 have Br := Nr.blk
 refine s_box (v := (.slice ta text.length tc)) (c := #[(.slice ta text.length tc)]) (by decide) rfl rfl ?_
 intro bs ws Ns
 have Fs := Ns.ge E
 have Os_br := Ns.lt Br
 replace Br := Ns.keep Br
 replace E := E.ext Ns.ext
 have Bs := Ns.blk
 refine s_box (v := (.agg (Q21 (p : Int) x1 x2 x3 x4 x5 x6 x7 x8 x9 x10 x11 x12 x13 x14 x15 x16 x17 x18 x19 x20))) (c := (Q21 (p : Int) x1 x2 x3 x4 x5 x6 x7 x8 x9 x10 x11 x12 x13 x14 x15 x16 x17 x18 x19 x20)) (by decide) rfl rfl ?_
 intro bz wz Nz
 have Fz := Nz.ge E
 have Oz_br := Nz.lt Br
 have Oz_bs := Nz.lt Bs
 replace Br := Nz.keep Br
 replace Bs := Nz.keep Bs
 replace E := E.ext Nz.ext
 have Bz := Nz.blk
 refine qA (.slice none 0 0) rfl ?_
 refine WpL_nil (Wp_seq (Wp_seq_region ?_))
 refine qF br 0 0 rfl Try.underlying27 rfl siz3 rfl ?_
 refine qV (r_load (v := (I6 t.kind)) rfl flat3 (Br.cell rfl)) ?_
 refine WpL_nil (Wp_block (Wp_seq_region ?_))
 refine qV (r_eql (k := .i64) (a := t.kind) (b := 1) rfl rfl) ?_
 refine qA (.bool (decide ((t.kind : Int) = 1))) rfl ?_
 refine WpL_nil ?_
 have hc1 : (decide ((t.kind : Int) = 1)) = false := decide_eq_false (by omega)
 refine Wp_cond_false (congrArg Value.bool hc1) ?_
 refine Wp_seq_region ?_
 refine qV (r_eql (k := .i64) (a := t.kind) (b := 2) rfl rfl) ?_
 refine qA (.bool (decide ((t.kind : Int) = 2))) rfl ?_
 refine WpL_nil ?_
 have hc2 : (decide ((t.kind : Int) = 2)) = false := decide_eq_false (by omega)
 refine Wp_cond_false (congrArg Value.bool hc2) ?_
 refine Wp_seq_region ?_
 refine qV (r_eql (k := .i64) (a := t.kind) (b := 3) rfl rfl) ?_
 refine qA (.bool (decide ((t.kind : Int) = 3))) rfl ?_
 refine WpL_nil ?_
 have hc3 : (decide ((t.kind : Int) = 3)) = false := decide_eq_false (by omega)
 refine Wp_cond_false (congrArg Value.bool hc3) ?_
 refine Wp_seq_region ?_
 refine qV (r_eql (k := .i64) (a := t.kind) (b := 4) rfl rfl) ?_
 refine qA (.bool (decide ((t.kind : Int) = 4))) rfl ?_
 refine WpL_nil ?_
 have hc4 : (decide ((t.kind : Int) = 4)) = false := decide_eq_false (by omega)
 refine Wp_cond_false (congrArg Value.bool hc4) ?_
 refine Wp_seq_region ?_
 refine qV (r_eql (k := .i64) (a := t.kind) (b := 5) rfl rfl) ?_
 refine qA (.bool (decide ((t.kind : Int) = 5))) rfl ?_
 refine WpL_nil ?_
 have hc5 : (decide ((t.kind : Int) = 5)) = false := decide_eq_false (by omega)
 refine Wp_cond_false (congrArg Value.bool hc5) ?_
 refine Wp_seq_region ?_
 refine qV (r_eql (k := .i64) (a := t.kind) (b := 6) rfl rfl) ?_
 refine qA (.bool (decide ((t.kind : Int) = 6))) rfl ?_
 refine WpL_nil ?_
 have hc6 : (decide ((t.kind : Int) = 6)) = true := decide_eq_true h6
 refine Wp_cond_true (congrArg Value.bool hc6) ?_
 have hone := okRe_one hok (by omega)
 obtain ⟨x, hx⟩ := get_of_lt (l := t.args) (i := 0) (by omega)
 obtain ⟨ab, ao, rfl, hres⟩ := args_at hargs (by omega)
 obtain ⟨us, hus, hxt⟩ := hres.get hx
 obtain ⟨xsa, xsc, xaa, xac, rfl, hxset, hxlen, hxargs⟩ := hxt.form
 have hxk := IH 0 x hx
 have hxf := few_ref text x hp hg
 have hrep := okRe_rep hok h6
 refine Wp_seq_region ?_
 refine qV (r_loadAgg (vs := (K21 (p : Int) x1 x2 x3 x4 x5 x6 x7 x8 x9 x10 x11 x12 x13 x14 x15 x16 x17 x18 x19 x20)) rfl agg65 siz65 rfl (Bz.cells rfl)) ?_
 refine s_buildSlice (ps := [(0, (.agg (Q21 (p : Int) x1 x2 x3 x4 x5 x6 x7 x8 x9 x10 x11 x12 x13 x14 x15 x16 x17 x18 x19 x20)))]) (c := (Q21 (p : Int) x1 x2 x3 x4 x5 x6 x7 x8 x9 x10 x11 x12 x13 x14 x15 x16 x17 x18 x19 x20)) (by decide) rfl Try.underlying66 siz65 zer65 (by decide) (by decide) (by kernel_rfl) ?_
 intro bq wq Nq
 have Fq := Nq.ge E
 have Oq_br := Nq.lt Br
 have Oq_bs := Nq.lt Bs
 have Oq_bz := Nq.lt Bz
 replace Br := Nq.keep Br
 replace Bs := Nq.keep Bs
 replace Bz := Nq.keep Bz
 replace E := E.ext Nq.ext
 have Bq := Nq.blk
 refine qA (.slice (some ⟨bq, 0, none⟩) 1 1) rfl ?_
 refine WpL_nil (Wp_seq (Wp_seq_region ?_))
 refine qF br 0 3 rfl Try.underlying27 rfl siz3 rfl ?_
 refine qV (r_load (v := (I6 t.mn)) rfl flat3 (Br.cell rfl)) ?_
 refine qM (I6 0) rfl ?_
 refine WpL_nil (Wp_block ?_)
 refine Wp_loop (fun nn_ σ W7 => ∃ (i : Nat) (la : Option Addr) (lc : Nat) (l : List Crs), (∃ jj_, σ = upds jj_ [(3, (P6 br 0)), (4, (P6 bs 0)), (96, (I6 t.mn)), (97, (I6 (i : Int))), (13, (.slice la l.length lc))]) ∧ Chg none1 w0 W7 ∧ Blk W7 br (R6 t sa sc (some ⟨ab, ao, none⟩) ac) 27 ∧ Blk W7 bs #[(.slice ta text.length tc)] 22 ∧ Blk W7 bz (Q21 (p : Int) x1 x2 x3 x4 x5 x6 x7 x8 x9 x10 x11 x12 x13 x14 x15 x16 x17 x18 x19 x20) 65 ∧ Blk W7 bq (Q21 (p : Int) x1 x2 x3 x4 x5 x6 x7 x8 x9 x10 x11 x12 x13 x14 x15 x16 x17 x18 x19 x20) 65 ∧ (i ≤ t.mn.toNat) ∧ (l = refTimes (refC text x) i [(p, g)]) ∧ (Few text.length p l) ∧ (OwnC W7 w0.heap.size (.slice la l.length lc) l) ∧ nn_ = t.mn.toNat - i) (n := t.mn.toNat - 0) ?_ ?_
 ·exact ⟨0, some ⟨bq, 0, none⟩, 1, [(p, g)], Fits.out ⟨rfl, rfl, rfl, rfl, rfl, trivial⟩, E, Br, Bs, Bz, Bq, Nat.zero_le _, rfl, few_one hp hg, ownC_one (hxv ▸ Bq) hg (by omega), rfl⟩
 ·clear E Br Bs Bz Bq
  rintro _ _ W7 ⟨i, la, lc, l, ⟨j7, rfl⟩, E, Br, Bs, Bz, Bq, hi, hl, hFl, hO, rfl⟩
  refine Wp_seq_region ?_
  refine qV (r_lss (k := .i64) (a := (i : Int)) (b := t.mn) rfl rfl) ?_
  refine WpL_nil (Wp_seq ?_)
  refine Wp_cond (b := decide (((i : Int) : Int) < t.mn)) rfl (fun hlt => ?_) (fun hlt => ?_)
  ·have khlt := hlt
   replace hlt := of_decide_eq_true hlt
   have hz9 := E.size
   refine Wp_skip (thn_normal (Wp_seq (Wp_block (Wp_region ?_))))
   refine qM (.slice la l.length lc) rfl ?_
   refine qV (r_makeFunc (vs := []) (us := [(P6 br 0), (P6 bs 0)]) rfl rfl) ?_
   refine WpL_enter rfl rfl (by decide) (r_callF (vs := [(.slice la l.length lc), (.func (.func 55) #[] #[(P6 br 0), (P6 bs 0)])]) Try.func51 nm51 bd51 rfl) ((rthen_c _ _ _ l (fun q => refC text x q.1 q.2) (ownC_at hO fun q hq => (hFl.lies q hq).2.2) (by have := hFl.few; omega) (fun q hq => (hFl.lies q hq).2.2) (fun q hq => ⟨by have := (few_ref text x (hFl.lies q hq).2.1 (hFl.lies q hq).2.2).few; omega, fun u hu => ((few_ref text x (hFl.lies q hq).2.1 (hFl.lies q hq).2.2).lies u hu).2.2⟩) (fun w q hq hE => CallV.mk (first := #[]) (cap := #[.pointer (some ⟨br, 0, none⟩), .pointer (some ⟨bs, 0, none⟩)]) Try.func55 nm55 bd55 rfl ((crs2_c text t x hx hxk q (hFl.lies q hq).2.1 (hFl.lies q hq).2.2 w _ _ br bs (ReAt.ext (E.trans hE) t ht0) (htx.ext (E.trans hE)) (hE.keep Br) (hE.keep Bs)).mono fun v w h => ownC_res (few_ref text x (hFl.lies q hq).2.1 (hFl.lies q hq).2.2) h)))) ?_
   rintro _ w9 ⟨⟨⟨ra, rc, rfl⟩, hr⟩, X9⟩
   replace Br := X9.keep Br
   replace Bs := X9.keep Bs
   replace Bz := X9.keep Bz
   replace Bq := X9.keep Bq
   replace hO := ownC_ext hO X9
   replace E := E.ext X9
   have hF9 : Few text.length p (frs [] (l.flatMap fun q => refC text x q.1 q.2)) := few_frs (lies_then hFl.lies fun q hq => (few_ref text x (hFl.lies q hq).2.1 (hFl.lies q hq).2.2).lies)
   have hO9 : OwnC (w9) w0.heap.size (.slice ra (frs [] (l.flatMap fun q => refC text x q.1 q.2)).length rc) (frs [] (l.flatMap fun q => refC text x q.1 q.2)) := ⟨⟨ra, rc, rfl⟩, own_low hr hz9⟩
   have hl9 : (frs [] (l.flatMap fun q => refC text x q.1 q.2)) = refTimes (refC text x) (i + 1) [(p, g)] := by rw [refTimes_succ, ← hl]
   refine qA (.slice ra ((frs [] (l.flatMap fun q => refC text x q.1 q.2)).length) rc) rfl ?_
   refine WpL_nil (inB_normal (thn_normal (Wp_region ?_)))
   refine qV (r_add (k := .i64) (a := (i : Int)) (b := 1) (c := (i : Int) + 1) rfl rfl (wI64 (by omega))) ?_
   refine qM (I6 ((i : Int) + 1)) rfl ?_
   refine WpL_nil (thn_normal ?_)
   exact ⟨t.mn.toNat - (i + 1), by omega, i + 1, ra, rc, frs [] (l.flatMap fun q => refC text x q.1 q.2), Fits.out ⟨rfl, rfl, rfl, rfl, rfl, trivial⟩, E, Br, Bs, Bz, Bq, (by omega), hl9, hF9, hO9, rfl⟩
  ·have khlt := hlt
   replace hlt := of_decide_eq_false hlt
   have hii : i = t.mn.toNat := by omega
   rw [hii] at hl
   have hz9 := E.size
   refine Wp_exit (thn_exit (thn_exit (inB_here (thn_normal (Wp_seq_region ?_)))))
   refine qM (.slice la l.length lc) rfl ?_
   refine qV (r_makeFunc (vs := []) (us := [(P6 br 0), (P6 bs 0)]) rfl rfl) ?_
   refine WpL_enter rfl rfl (by decide) (r_callF (vs := [(.slice la l.length lc), (.func (.func 56) #[] #[(P6 br 0), (P6 bs 0)])]) Try.func51 nm51 bd51 rfl) ((rthen_c _ _ _ l (fun q => refMore (refC text x) (t.mx - t.mn).toNat q.1 q.2) (ownC_at hO fun q hq => (hFl.lies q hq).2.2) (by have := hFl.few; omega) (fun q hq => (hFl.lies q hq).2.2) (fun q hq => ⟨by have := (few_more text x (t.mx - t.mn).toNat (hFl.lies q hq).2.1 (hFl.lies q hq).2.2).few; omega, fun u hu => ((few_more text x (t.mx - t.mn).toNat (hFl.lies q hq).2.1 (hFl.lies q hq).2.2).lies u hu).2.2⟩) (fun w q hq hE => CallV.mk (first := #[]) (cap := #[.pointer (some ⟨br, 0, none⟩), .pointer (some ⟨bs, 0, none⟩)]) Try.func56 nm56 bd56 rfl ((crs3_c text t x hx hn hxk hrep q (hFl.lies q hq).2.1 (hFl.lies q hq).2.2 w _ _ br bs (ReAt.ext (E.trans hE) t ht0) (htx.ext (E.trans hE)) (hE.keep Br) (hE.keep Bs)).mono fun v w h => ownC_res (few_more text x (t.mx - t.mn).toNat (hFl.lies q hq).2.1 (hFl.lies q hq).2.2) h)))) ?_
   rintro _ w9 ⟨⟨⟨ra, rc, rfl⟩, hr⟩, X9⟩
   replace Br := X9.keep Br
   replace Bs := X9.keep Bs
   replace Bz := X9.keep Bz
   replace Bq := X9.keep Bq
   replace E := E.ext X9
   refine qA (.slice ra ((frs [] (l.flatMap fun q => refMore (refC text x) (t.mx - t.mn).toNat q.1 q.2)).length) rc) rfl ?_
   refine WpL_nil (Wp_ret (inB_ret (thn_ret ?_)))
   refine fin_tmp Try.results35 (v := (.slice ra ((frs [] (l.flatMap fun q => refMore (refC text x) (t.mx - t.mn).toNat q.1 q.2)).length) rc)) rfl ?_
   exact ⟨by rw [rc6 h6 hx, ← hl]; exact ⟨⟨ra, rc, rfl⟩, own_low hr hz9⟩, E⟩
end Go.Proofs
namespace Go.Proofs
open Go Go.Eng Go.Sort
set_option maxRecDepth 100000
set_option maxHeartbeats 2000000 in
theorem crs_k9 (text : List Int) (hn : text.length ≤ 7) (t : Re) (hok : okRe t) (hz : t.size ≤ 100) (IH : ∀ (i : Nat) (x : Re), t.args[i]? = some x → RefOk text x) (h9 : t.kind = 9) : RefOk text t := by
 intro p g hp hg w0 vs vt ht htx
 have ht0 := ht
 have hF := few_ref text t hp hg
 obtain ⟨sa, sc, aa, ac, rfl, hset, hlen, hargs⟩ := ht.form
 obtain ⟨ta, tc, rfl⟩ := SlAt.form htx
 simp only [List.length_map] at htx ⊢
 obtain ⟨x0, x1, x2, x3, x4, x5, x6, x7, x8, x9, x10, x11, x12, x13, x14, x15, x16, x17, x18, x19, x20, hxv⟩ := crs21 (q := (p, g)) hg
 have hx0 : x0 = ((p : Nat) : Int) := by have := congrArg (fun l => l[0]?) hxv; simpa using this.symm
 subst hx0
 have hgv : grpV g = [.int .i64 x1, .int .i64 x2, .int .i64 x3, .int .i64 x4, .int .i64 x5, .int .i64 x6, .int .i64 x7, .int .i64 x8, .int .i64 x9, .int .i64 x10, .int .i64 x11, .int .i64 x12, .int .i64 x13, .int .i64 x14, .int .i64 x15, .int .i64 x16, .int .i64 x17, .int .i64 x18, .int .i64 x19, .int .i64 x20] := by have := congrArg List.tail hxv; simpa using this
 rw [hxv]
 refine Ret_of Try.func35 rfl Try.ntmps35 (Nat.le_of_ble_eq_true rfl) ?_
 have E : Chg none1 w0 w0 := Chg.refl _ _
 refine Wp_seq_region ?_
 refine s_box (v := (.agg (R6 t sa sc aa ac))) (c := (R6 t sa sc aa ac)) (by decide) rfl rfl ?_
 intro br wr Nr
 have Fr := Nr.ge E
 replace E := E.ext Nr.ext
 have Br := Nr.blk
 refine s_box (v := (.slice ta text.length tc)) (c := #[(.slice ta text.length tc)]) (by decide) rfl rfl ?_
 intro bs ws Ns
 have Fs := Ns.ge E
 have Os_br := Ns.lt Br
 replace Br := Ns.keep Br
 replace E := E.ext Ns.ext
 have Bs := Ns.blk
 refine s_box (v := (.agg (Q21 (p : Int) x1 x2 x3 x4 x5 x6 x7 x8 x9 x10 x11 x12 x13 x14 x15 x16 x17 x18 x19 x20))) (c := (Q21 (p : Int) x1 x2 x3 x4 x5 x6 x7 x8 x9 x10 x11 x12 x13 x14 x15 x16 x17 x18 x19 x20)) (by decide) rfl rfl ?_
 intro bz wz Nz
 have Fz := Nz.ge E
 have Oz_br := Nz.lt Br
 have Oz_bs := Nz.lt Bs
 replace Br := Nz.keep Br
 replace Bs := Nz.keep Bs
 replace E := E.ext Nz.ext
 have Bz := Nz.blk
 refine qA (.slice none 0 0) rfl ?_
 refine WpL_nil (Wp_seq (Wp_seq_region ?_))
 refine qF br 0 0 rfl Try.underlying27 rfl siz3 rfl ?_
 refine qV (r_load (v := (I6 t.kind)) rfl flat3 (Br.cell rfl)) ?_
 refine WpL_nil (Wp_block (Wp_seq_region ?_))
 refine qV (r_eql (k := .i64) (a := t.kind) (b := 1) rfl rfl) ?_
 refine qA (.bool (decide ((t.kind : Int) = 1))) rfl ?_
 refine WpL_nil ?_
 have hc1 : (decide ((t.kind : Int) = 1)) = false := decide_eq_false (by omega)
 refine Wp_cond_false (congrArg Value.bool hc1) ?_
 refine Wp_seq_region ?_
 refine qV (r_eql (k := .i64) (a := t.kind) (b := 2) rfl rfl) ?_
 refine qA (.bool (decide ((t.kind : Int) = 2))) rfl ?_
 refine WpL_nil ?_
 have hc2 : (decide ((t.kind : Int) = 2)) = false := decide_eq_false (by omega)
 refine Wp_cond_false (congrArg Value.bool hc2) ?_
 refine Wp_seq_region ?_
 refine qV (r_eql (k := .i64) (a := t.kind) (b := 3) rfl rfl) ?_
 refine qA (.bool (decide ((t.kind : Int) = 3))) rfl ?_
 refine WpL_nil ?_
 have hc3 : (decide ((t.kind : Int) = 3)) = false := decide_eq_false (by omega)
 refine Wp_cond_false (congrArg Value.bool hc3) ?_
 refine Wp_seq_region ?_
 refine qV (r_eql (k := .i64) (a := t.kind) (b := 4) rfl rfl) ?_
 refine qA (.bool (decide ((t.kind : Int) = 4))) rfl ?_
 refine WpL_nil ?_
 have hc4 : (decide ((t.kind : Int) = 4)) = false := decide_eq_false (by omega)
 refine Wp_cond_false (congrArg Value.bool hc4) ?_
 refine Wp_seq_region ?_
 refine qV (r_eql (k := .i64) (a := t.kind) (b := 5) rfl rfl) ?_
 refine qA (.bool (decide ((t.kind : Int) = 5))) rfl ?_
 refine WpL_nil ?_
 have hc5 : (decide ((t.kind : Int) = 5)) = false := decide_eq_false (by omega)
 refine Wp_cond_false (congrArg Value.bool hc5) ?_
 refine Wp_seq_region ?_
 refine qV (r_eql (k := .i64) (a := t.kind) (b := 6) rfl rfl) ?_
 refine qA (.bool (decide ((t.kind : Int) = 6))) rfl ?_
 refine WpL_nil ?_
 have hc6 : (decide ((t.kind : Int) = 6)) = false := decide_eq_false (by omega)
 refine Wp_cond_false (congrArg Value.bool hc6) ?_
 refine Wp_seq_region ?_
 refine qV (r_eql (k := .i64) (a := t.kind) (b := 9) rfl rfl) ?_
 refine qA (.bool (decide ((t.kind : Int) = 9))) rfl ?_
 refine WpL_nil ?_
 have hc7 : (decide ((t.kind : Int) = 9)) = true := decide_eq_true h9
 refine Wp_cond_true (congrArg Value.bool hc7) ?_
 have hone := okRe_one hok (by omega)
 obtain ⟨x, hx⟩ := get_of_lt (l := t.args) (i := 0) (by omega)
 obtain ⟨ab, ao, rfl, hres⟩ := args_at hargs (by omega)
 obtain ⟨us, hus, hxt⟩ := hres.get hx
 obtain ⟨xsa, xsc, xaa, xac, rfl, hxset, hxlen, hxargs⟩ := hxt.form
 have hxk := IH 0 x hx
 have hxf := few_ref text x hp hg
 obtain ⟨L, hLd⟩ : ∃ L, L = refC text x p g := ⟨_, rfl⟩
 rw [← hLd] at hxf
 obtain ⟨base, hbase⟩ : ∃ base, base = (wz).heap.size := ⟨_, rfl⟩
 have hb0 : w0.heap.size ≤ base ∧ br < base ∧ bs < base ∧ bz < base := ⟨by rw [hbase]; exact E.size, by rw [hbase]; exact Br.lt, by rw [hbase]; exact Bs.lt, by rw [hbase]; exact Bz.lt⟩
 have hxff := hxf.few
 have hgr := (node_inv (okRe_node hok)).grp h9
 obtain ⟨G, hG⟩ : ∃ G : Crs → Crs, G = fun q => (q.1, q.2.set t.mn.toNat ((p : Int), (q.1 : Int))) := ⟨_, rfl⟩
 have hG1 : ∀ q : Crs, (G q).1 = q.1 ∧ ((G q).2.length = q.2.length) := fun q => by rw [hG]; simp
 refine Wp_seq ?_
 obtain ⟨Fs8, hFs8⟩ : ∃ Fs : List Fact, Fs = [.eq (P6 br 2), .eq (.slice (some ⟨ab, ao, none⟩) t.args.length ac), .eq (.pointer (some ⟨ab, ao + 0 * 6, none⟩)), .eq (.agg (R6 x xsa xsc xaa xac)), .eq (.slice ta text.length tc), .eq (.agg (Q21 (p : Int) x1 x2 x3 x4 x5 x6 x7 x8 x9 x10 x11 x12 x13 x14 x15 x16 x17 x18 x19 x20)), .gen (crsF base L) (crsF_ext _ _), .gen (crsF base L) (crsF_ext _ _)] := ⟨_, rfl⟩
 refine Wp_dag [108, 109, 110, 111, 112, 113, 114, 14] [[], [0], [1], [2], [], [], [3, 4, 5], [0, 1, 2, 3, 4, 5, 6]] Fs8 hFs8 mixed (by kernel_rfl) (by kernel_rfl) ?_ ?_
 ·intro wd X0
  refine DagSteps.cons (fun s' w' X U H => Or.inl ⟨?_, ?_⟩) ?_
  ·exact Guarded_none rfl
  ·exact Does_val (r_fieldAddr (b := br) (o := 0) (o' := 2) (U 3 rfl) Try.underlying27 rfl siz25 rfl) (Ext.refl _) rfl
  refine DagSteps.cons (fun s' w' X U H => Or.inl ⟨?_, ?_⟩) ?_
  ·exact Guarded_none rfl
  ·have e108 : s' 108 = (.pointer (some ⟨br, 2, none⟩)) := H 0 rfl 108 (.eq (.pointer (some ⟨br, 2, none⟩))) rfl (by rw [hFs8]; rfl)
   exact Does_val (r_load (v := (.slice (some ⟨ab, ao, none⟩) t.args.length ac)) e108 flat25 (((X0.trans X).keep Br).cell rfl)) (Ext.refl _) rfl
  refine DagSteps.cons (fun s' w' X U H => Or.inl ⟨?_, ?_⟩) ?_
  ·exact Guarded_none rfl
  ·have e109 : s' 109 = (.slice (some ⟨ab, ao, none⟩) t.args.length ac) := H 1 rfl 109 (.eq (.slice (some ⟨ab, ao, none⟩) t.args.length ac)) rfl (by rw [hFs8]; rfl)
   exact Does_val (r_indexSlice (b := ab) (o := ao) (len := t.args.length) (cap := ac) (i := 0) (o' := ao + 0 * 6) e109 rfl rfl Try.underlying25 siz27 (by omega) (by omega)) (Ext.refl _) rfl
  refine DagSteps.cons (fun s' w' X U H => Or.inl ⟨?_, ?_⟩) ?_
  ·exact Guarded_none rfl
  ·have e110 : s' 110 = (.pointer (some ⟨ab, ao + 0 * 6, none⟩)) := H 2 rfl 110 (.eq (.pointer (some ⟨ab, ao + 0 * 6, none⟩))) rfl (by rw [hFs8]; rfl)
   exact Does_val (r_loadAgg (vs := [(I6 x.kind), (.slice xsa x.set.length xsc), (.slice xaa x.args.length xac), (I6 x.mn), (I6 x.mx), (.bool x.neg)]) e110 agg27 siz27 rfl (hus.ext (Ext.trans E (X0.trans X)))) (Ext.refl _) rfl
  refine DagSteps.cons (fun s' w' X U H => Or.inl ⟨?_, ?_⟩) ?_
  ·exact Guarded_none rfl
  ·exact Does_val (r_load (v := (.slice ta text.length tc)) (U 4 rfl) flat22 (((X0.trans X).keep Bs).cell rfl)) (Ext.refl _) rfl
  refine DagSteps.cons (fun s' w' X U H => Or.inl ⟨?_, ?_⟩) ?_
  ·exact Guarded_none rfl
  ·exact Does_val (r_loadAgg (vs := (K21 (p : Int) x1 x2 x3 x4 x5 x6 x7 x8 x9 x10 x11 x12 x13 x14 x15 x16 x17 x18 x19 x20)) (U 5 rfl) agg65 siz65 rfl (((X0.trans X).keep Bz).cells rfl)) (Ext.refl _) rfl
  refine DagSteps.cons (fun s' w' X U H => Or.inl ⟨?_, ?_⟩) ?_
  ·exact Guarded_none rfl
  ·have e111 : s' 111 = (.agg #[(.int .i64 x.kind), (.slice xsa x.set.length xsc), (.slice xaa x.args.length xac), (.int .i64 x.mn), (.int .i64 x.mx), (.bool x.neg)]) := H 3 rfl 111 (.eq (.agg #[(.int .i64 x.kind), (.slice xsa x.set.length xsc), (.slice xaa x.args.length xac), (.int .i64 x.mn), (.int .i64 x.mx), (.bool x.neg)])) rfl (by rw [hFs8]; rfl)
   have e112 : s' 112 = (.slice ta text.length tc) := H 4 rfl 112 (.eq (.slice ta text.length tc)) rfl (by rw [hFs8]; rfl)
   have e113 : s' 113 = (.agg #[(.int .i64 ((p : Nat) : Int)), (.int .i64 x1), (.int .i64 x2), (.int .i64 x3), (.int .i64 x4), (.int .i64 x5), (.int .i64 x6), (.int .i64 x7), (.int .i64 x8), (.int .i64 x9), (.int .i64 x10), (.int .i64 x11), (.int .i64 x12), (.int .i64 x13), (.int .i64 x14), (.int .i64 x15), (.int .i64 x16), (.int .i64 x17), (.int .i64 x18), (.int .i64 x19), (.int .i64 x20)]) := H 5 rfl 113 (.eq (.agg #[(.int .i64 ((p : Nat) : Int)), (.int .i64 x1), (.int .i64 x2), (.int .i64 x3), (.int .i64 x4), (.int .i64 x5), (.int .i64 x6), (.int .i64 x7), (.int .i64 x8), (.int .i64 x9), (.int .i64 x10), (.int .i64 x11), (.int .i64 x12), (.int .i64 x13), (.int .i64 x14), (.int .i64 x15), (.int .i64 x16), (.int .i64 x17), (.int .i64 x18), (.int .i64 x19), (.int .i64 x20)])) rfl (by rw [hFs8]; rfl)
   exact Does_enter (r_callF (vs := [(.agg (R6 x xsa xsc xaa xac)), (.slice ta text.length tc), (.agg (Q21 (p : Int) x1 x2 x3 x4 x5 x6 x7 x8 x9 x10 x11 x12 x13 x14 x15 x16 x17 x18 x19 x20))]) Try.func35 nm35 bd35 (lst3 e111 e112 e113)) ((hLd.symm ▸ hxv ▸ hxk p g hp hg _ _ _ (ReAt.ext (Ext.trans E (X0.trans X)) x hxt) (htx.ext (Ext.trans E (X0.trans X)))).mono (fun v w h => ⟨ownC_low h.1 (by have := X0.size; have := X.size; omega), h.2⟩))
  refine DagSteps.cons (fun s' w' X U H => Or.inl ⟨?_, ?_⟩) ?_
  ·exact Guarded_none rfl
  ·exact Does_val (r_assign (v := s' 114) rfl) (Ext.refl _) (H 6 rfl 114 (.gen (crsF base L) (crsF_ext _ _)) rfl (by rw [hFs8]; rfl))
  exact DagSteps.nil
 ·intro s' w8 X8 U H
  obtain ⟨⟨a14, c14, e14⟩, O14⟩ := H 7 14 (.gen (crsF base L) (crsF_ext _ _)) rfl (by rw [hFs8]; rfl)
  obtain ⟨j8, rfl⟩ := Fits.out (σ := s') (l := [(3, (.pointer (some ⟨br, 0, none⟩))), (5, (.pointer (some ⟨bz, 0, none⟩))), (14, (.slice a14 L.length c14))]) ⟨U 3 rfl, U 5 rfl, e14, trivial⟩
  clear U H
  replace Br := X8.keep Br
  replace Bs := X8.keep Bs
  replace Bz := X8.keep Bz
  replace E := E.ext X8
  have hO14 : (w8).ownsRow base TCs 21 (.slice a14 L.length c14) L.length (L.map crsV).flatten := by have h := O14; rw [e14] at h; exact h
  refine thn_normal (Wp_seq (Wp_seq_region ?_))
  refine qM (.slice a14 L.length c14) rfl ?_
  refine qV (r_lenSlice (ad := a14) (n := L.length) (cap := c14) Try.underlying66 rfl) ?_
  refine qM (I6 0) rfl ?_
  refine WpL_nil (Wp_block ?_)
  refine Wp_loop (fun nn_ σ W9 => ∃ (i : Nat) (l : List Crs), (∃ jj_, σ = upds jj_ [(3, (P6 br 0)), (5, (P6 bz 0)), (14, (.slice a14 L.length c14)), (116, (I6 (L.length : Int))), (117, (I6 (i : Int)))]) ∧ Chg none1 w0 W9 ∧ Blk W9 br (R6 t sa sc (some ⟨ab, ao, none⟩) ac) 27 ∧ Blk W9 bs #[(.slice ta text.length tc)] 22 ∧ Blk W9 bz (Q21 (p : Int) x1 x2 x3 x4 x5 x6 x7 x8 x9 x10 x11 x12 x13 x14 x15 x16 x17 x18 x19 x20) 65 ∧ (i ≤ L.length) ∧ (l = (L.take i).map G ++ L.drop i) ∧ (W9.ownsRow base TCs 21 (.slice a14 L.length c14) L.length (l.map crsV).flatten) ∧ nn_ = L.length - i) (n := L.length - 0) ?_ ?_
  ·exact ⟨0, L, Fits.out ⟨rfl, rfl, rfl, rfl, rfl, trivial⟩, E, Br, Bs, Bz, Nat.zero_le _, rfl, hO14, rfl⟩
  ·clear E Br Bs Bz
   rintro _ _ W9 ⟨i, l, ⟨j9, rfl⟩, E, Br, Bs, Bz, hi, hl, hO, rfl⟩
   refine Wp_seq_region ?_
   refine qV (r_lss (k := .i64) (a := (i : Int)) (b := (L.length : Int)) rfl rfl) ?_
   refine WpL_nil (Wp_seq ?_)
   refine Wp_cond (b := decide (((i : Int) : Int) < (L.length : Int))) rfl (fun hlt => ?_) (fun hlt => ?_)
   ·have khlt := hlt
    replace hlt := of_decide_eq_true hlt
    obtain ⟨y, hy⟩ := get_of_lt (l := L) (i := i) (by omega)
    have hly : l[i]? = some y := by rw [hl, List.getElem?_append_right (by simp; omega)]; simp [Nat.min_eq_left hi, hy]
    have hlg : ∀ q ∈ l, q.2.length = 10 := fun q hq => by rw [hl] at hq; rcases List.mem_append.1 hq with h | h; obtain ⟨u, hu, rfl⟩ := List.mem_map.1 h; rw [(hG1 u).2]; exact (hxf.lies u (List.mem_of_mem_take hu)).2.2; exact (hxf.lies q (List.mem_of_mem_drop h)).2.2
    have hll : l.length = L.length := by rw [hl]; simp; omega
    have hnx : l.set i (G y) = (L.take (i + 1)).map G ++ L.drop (i + 1) := by rw [hl, List.set_append_right _ _ (by simp; omega), List.take_add_one, hy, drop_cons hy]; simp [Nat.min_eq_left hi]
    have hat : CrsAt (W9) (.slice a14 L.length c14) l := own_slat hO (fun r hr => by obtain ⟨q, hq, rfl⟩ := List.mem_map.1 hr; simp only [List.length_cons, grpV_len, hlg q hq]) (by simp [hll]) (by decide)
    obtain ⟨gb, ha14, hgb, _⟩ := own_cells hO (by omega)
    subst ha14
    obtain ⟨b', o', ho', hcl⟩ := SlAt.at hat (by omega)
    simp only [Option.some.injEq, Addr.mk.injEq, and_true] at ho'
    obtain ⟨rfl, rfl⟩ := ho'
    obtain ⟨cur, hBo, hcs⟩ := own_blkG hO
    have hcy := hcl i (crsV y) (by simp [hly])
    refine Wp_skip (thn_normal (Wp_seq (Wp_block (Wp_seq_region ?_))))
    refine qM (I6 (i : Int)) rfl ?_
    refine qA (I6 (i : Int)) rfl ?_
    refine WpL_nil ?_
    refine Wp_draw 15 mixed (by kernel_rfl) ?_
    intro w11 X11 _
    replace Br := X11.keep Br
    replace Bs := X11.keep Bs
    replace Bz := X11.keep Bz
    replace hBo := X11.keep hBo
    replace hO := own_ext hO X11
    replace hcy := hcy.ext X11
    replace E := E.ext X11
    refine qT (r_move (v := (.slice (some ⟨gb, 0, none⟩) L.length c14)) rfl) ?_
    refine qT (r_move (v := (I6 (i : Int))) rfl) ?_
    refine qT (r_fieldAddr (b := br) (o := 0) (o' := 3) rfl Try.underlying27 rfl siz3 rfl) ?_
    refine qT (r_load (v := (I6 t.mn)) rfl flat3 (Br.cell rfl)) ?_
    refine qT (r_fieldAddr (b := bz) (o := 0) (o' := 0) rfl Try.underlying65 rfl siz3 rfl) ?_
    refine qT (r_load (v := (I6 (p : Int))) rfl flat3 (Bz.cell rfl)) ?_
    refine qT (r_move (v := (.slice (some ⟨gb, 0, none⟩) L.length c14)) rfl) ?_
    refine qT (r_move (v := (I6 (i : Int))) rfl) ?_
    refine qT (r_indexSlice (b := gb) (o := 0) (len := L.length) (cap := c14) (i := i) (o' := 0 + i * 21) rfl rfl (by omega) Try.underlying66 siz65 (by omega) (by omega)) ?_
    refine qT (r_fieldAddr (b := gb) (o := 0 + i * 21) (o' := 0 + i * 21) rfl Try.underlying65 rfl siz3 rfl) ?_
    refine qT (r_load (v := (I6 (y.1 : Int))) rfl flat3 (hcy 0 _ rfl)) ?_
    refine qT (r_build (ps := [(0, (I6 (p : Int))), (1, (I6 (y.1 : Int)))]) (v := (.agg #[(I6 (p : Int)), (I6 (y.1 : Int))])) rfl (by kernel_rfl)) ?_
    refine qT (r_indexSlice (b := gb) (o := 0) (len := L.length) (cap := c14) (i := i) (o' := 0 + i * 21) rfl rfl (by omega) Try.underlying66 siz65 (by omega) (by omega)) ?_
    refine qT (r_fieldAddr (b := gb) (o := 0 + i * 21) (o' := 0 + i * 21 + 1) rfl Try.underlying65 rfl siz31 rfl) ?_
    refine qT (r_indexArr (b := gb) (o := 0 + i * 21 + 1) (i := t.mn.toNat) (o' := 0 + i * 21 + 1 + t.mn.toNat * 2) rfl rfl (by omega) Try.underlying31 siz30 (by omega) (by omega)) ?_
    refine WpT_zero ?_
    have hBo0 := hBo
    refine s_storeAgg (b := gb) (o := 0 + i * 21 + 1 + t.mn.toNat * 2) (n := 2) (c' := (cur.toList.take (0 + i * 21 + 1 + t.mn.toNat * 2) ++ [Value.int .i64 (p : Int), Value.int .i64 (y.1 : Int)] ++ cur.toList.drop (0 + i * 21 + 1 + t.mn.toNat * 2 + 2)).toArray) (vs := #[(I6 (p : Int)), (I6 (y.1 : Int))]) rfl rfl (by simp [Value.oneCell']) siz30 (rfl) hBo (by omega) (rfl) ?_
    intro w12 S12
    replace Br := S12.keep (by omega) Br
    replace Bs := S12.keep (by omega) Bs
    replace Bz := S12.keep (by omega) Bz
    replace E := S12.step E (by first | exact Or.inl (by omega) | exact Or.inr rfl | exact Or.inr (by assumption) | exact Or.inr (by simp) | exact Or.inr (by omega) | exact Or.inr (by dsimp only; omega))
    replace hBo := S12.blk
    have hO9 := own_two' hO hBo0 (by omega) hBo
    simp only [Nat.zero_add] at hO9
    have hO8 : (w12).ownsRow base TCs 21 (.slice (some ⟨gb, 0, none⟩) L.length c14) L.length ((l.set i (G y)).map crsV).flatten := by rw [hG, ← crs_put hlg hly (by omega)]; exact hO9
    refine WpL_nil (inB_normal (thn_normal (Wp_region ?_)))
    refine qV (r_add (k := .i64) (a := (i : Int)) (b := 1) (c := (i : Int) + 1) rfl rfl (wI64 (by omega))) ?_
    refine qM (I6 ((i : Int) + 1)) rfl ?_
    refine WpL_nil (thn_normal ?_)
    exact ⟨L.length - (i + 1), by omega, i + 1, l.set i (G y), Fits.out ⟨rfl, rfl, rfl, rfl, rfl, trivial⟩, E, Br, Bs, Bz, (by omega), hnx, hO8, rfl⟩
   ·have khlt := hlt
    replace hlt := of_decide_eq_false hlt
    have hii : i = L.length := by omega
    have hl9 : l = L.map G := by rw [hl, hii, List.take_length, List.drop_length, List.append_nil]
    rw [hl9] at hO
    refine Wp_exit (thn_exit (thn_exit (inB_here (thn_normal (Wp_seq_region ?_)))))
    refine qM (.slice a14 L.length c14) rfl ?_
    refine qA (.slice a14 L.length c14) rfl ?_
    refine WpL_nil (Wp_ret (inB_ret (thn_ret ?_)))
    refine fin_tmp Try.results35 (v := (.slice a14 L.length c14)) rfl ?_
    exact ⟨by rw [rc9 h9 hx, ← hLd, ← hG]; exact ⟨⟨_, _, by rw [List.length_map]⟩, by rw [List.length_map]; exact own_low hO hb0.1⟩, E⟩
end Go.Proofs
namespace Go.Proofs
open Go Go.Eng Go.Sort
set_option maxRecDepth 100000
set_option maxHeartbeats 2000000 in
theorem crs_k10 (text : List Int) (hn : text.length ≤ 7) (t : Re) (hok : okRe t) (hz : t.size ≤ 100) (IH : ∀ (i : Nat) (x : Re), t.args[i]? = some x → RefOk text x) (h10 : t.kind = 10) : RefOk text t := by
 intro p g hp hg w0 vs vt ht htx
 have ht0 := ht
 have hF := few_ref text t hp hg
 obtain ⟨sa, sc, aa, ac, rfl, hset, hlen, hargs⟩ := ht.form
 obtain ⟨ta, tc, rfl⟩ := SlAt.form htx
 simp only [List.length_map] at htx ⊢
 obtain ⟨x0, x1, x2, x3, x4, x5, x6, x7, x8, x9, x10, x11, x12, x13, x14, x15, x16, x17, x18, x19, x20, hxv⟩ := crs21 (q := (p, g)) hg
 have hx0 : x0 = ((p : Nat) : Int) := by have := congrArg (fun l => l[0]?) hxv; simpa using this.symm
 subst hx0
 have hgv : grpV g = [.int .i64 x1, .int .i64 x2, .int .i64 x3, .int .i64 x4, .int .i64 x5, .int .i64 x6, .int .i64 x7, .int .i64 x8, .int .i64 x9, .int .i64 x10, .int .i64 x11, .int .i64 x12, .int .i64 x13, .int .i64 x14, .int .i64 x15, .int .i64 x16, .int .i64 x17, .int .i64 x18, .int .i64 x19, .int .i64 x20] := by have := congrArg List.tail hxv; simpa using this
 rw [hxv]
 refine Ret_of Try.func35 rfl Try.ntmps35 (Nat.le_of_ble_eq_true rfl) ?_
 have E : Chg none1 w0 w0 := Chg.refl _ _
 refine Wp_seq_region ?_
 refine s_box (v := (.agg (R6 t sa sc aa ac))) (c := (R6 t sa sc aa ac)) (by decide) rfl rfl ?_
 intro br wr Nr
 have Fr := Nr.ge E
 replace E := E.ext Nr.ext
 have Br := Nr.blk
 refine s_box (v := (.slice ta text.length tc)) (c := #[(.slice ta text.length tc)]) (by decide) rfl rfl ?_
 intro bs ws Ns
 have Fs := Ns.ge E
 have Os_br := Ns.lt Br
 replace Br := Ns.keep Br
 replace E := E.ext Ns.ext
 have Bs := Ns.blk
 refine s_box (v := (.agg (Q21 (p : Int) x1 x2 x3 x4 x5 x6 x7 x8 x9 x10 x11 x12 x13 x14 x15 x16 x17 x18 x19 x20))) (c := (Q21 (p : Int) x1 x2 x3 x4 x5 x6 x7 x8 x9 x10 x11 x12 x13 x14 x15 x16 x17 x18 x19 x20)) (by decide) rfl rfl ?_
 intro bz wz Nz
 have Fz := Nz.ge E
 have Oz_br := Nz.lt Br
 have Oz_bs := Nz.lt Bs
 replace Br := Nz.keep Br
 replace Bs := Nz.keep Bs
 replace E := E.ext Nz.ext
 have Bz := Nz.blk
 refine qA (.slice none 0 0) rfl ?_
 refine WpL_nil (Wp_seq (Wp_seq_region ?_))
 refine qF br 0 0 rfl Try.underlying27 rfl siz3 rfl ?_
 refine qV (r_load (v := (I6 t.kind)) rfl flat3 (Br.cell rfl)) ?_
 refine WpL_nil (Wp_block (Wp_seq_region ?_))
 refine qV (r_eql (k := .i64) (a := t.kind) (b := 1) rfl rfl) ?_
 refine qA (.bool (decide ((t.kind : Int) = 1))) rfl ?_
 refine WpL_nil ?_
 have hc1 : (decide ((t.kind : Int) = 1)) = false := decide_eq_false (by omega)
 refine Wp_cond_false (congrArg Value.bool hc1) ?_
 refine Wp_seq_region ?_
 refine qV (r_eql (k := .i64) (a := t.kind) (b := 2) rfl rfl) ?_
 refine qA (.bool (decide ((t.kind : Int) = 2))) rfl ?_
 refine WpL_nil ?_
 have hc2 : (decide ((t.kind : Int) = 2)) = false := decide_eq_false (by omega)
 refine Wp_cond_false (congrArg Value.bool hc2) ?_
 refine Wp_seq_region ?_
 refine qV (r_eql (k := .i64) (a := t.kind) (b := 3) rfl rfl) ?_
 refine qA (.bool (decide ((t.kind : Int) = 3))) rfl ?_
 refine WpL_nil ?_
 have hc3 : (decide ((t.kind : Int) = 3)) = false := decide_eq_false (by omega)
 refine Wp_cond_false (congrArg Value.bool hc3) ?_
 refine Wp_seq_region ?_
 refine qV (r_eql (k := .i64) (a := t.kind) (b := 4) rfl rfl) ?_
 refine qA (.bool (decide ((t.kind : Int) = 4))) rfl ?_
 refine WpL_nil ?_
 have hc4 : (decide ((t.kind : Int) = 4)) = false := decide_eq_false (by omega)
 refine Wp_cond_false (congrArg Value.bool hc4) ?_
 refine Wp_seq_region ?_
 refine qV (r_eql (k := .i64) (a := t.kind) (b := 5) rfl rfl) ?_
 refine qA (.bool (decide ((t.kind : Int) = 5))) rfl ?_
 refine WpL_nil ?_
 have hc5 : (decide ((t.kind : Int) = 5)) = false := decide_eq_false (by omega)
 refine Wp_cond_false (congrArg Value.bool hc5) ?_
 refine Wp_seq_region ?_
 refine qV (r_eql (k := .i64) (a := t.kind) (b := 6) rfl rfl) ?_
 refine qA (.bool (decide ((t.kind : Int) = 6))) rfl ?_
 refine WpL_nil ?_
 have hc6 : (decide ((t.kind : Int) = 6)) = false := decide_eq_false (by omega)
 refine Wp_cond_false (congrArg Value.bool hc6) ?_
 refine Wp_seq_region ?_
 refine qV (r_eql (k := .i64) (a := t.kind) (b := 9) rfl rfl) ?_
 refine qA (.bool (decide ((t.kind : Int) = 9))) rfl ?_
 refine WpL_nil ?_
 have hc7 : (decide ((t.kind : Int) = 9)) = false := decide_eq_false (by omega)
 refine Wp_cond_false (congrArg Value.bool hc7) ?_
 refine Wp_seq_region ?_
 refine qV (r_eql (k := .i64) (a := t.kind) (b := 10) rfl rfl) ?_
 refine qA (.bool (decide ((t.kind : Int) = 10))) rfl ?_
 refine WpL_nil ?_
 have hc8 : (decide ((t.kind : Int) = 10)) = true := decide_eq_true h10
 refine Wp_cond_true (congrArg Value.bool hc8) ?_
 have hone := okRe_one hok (by omega)
 obtain ⟨x, hx⟩ := get_of_lt (l := t.args) (i := 0) (by omega)
 obtain ⟨ab, ao, rfl, hres⟩ := args_at hargs (by omega)
 obtain ⟨us, hus, hxt⟩ := hres.get hx
 obtain ⟨xsa, xsc, xaa, xac, rfl, hxset, hxlen, hxargs⟩ := hxt.form
 have hxk := IH 0 x hx
 have hxf := few_ref text x hp hg
 obtain ⟨L, hLd⟩ : ∃ L, L = refC text x p g := ⟨_, rfl⟩
 rw [← hLd] at hxf
 obtain ⟨base, hbase⟩ : ∃ base, base = (wz).heap.size := ⟨_, rfl⟩
 have hb0 : w0.heap.size ≤ base ∧ br < base ∧ bs < base ∧ bz < base := ⟨by rw [hbase]; exact E.size, by rw [hbase]; exact Br.lt, by rw [hbase]; exact Bs.lt, by rw [hbase]; exact Bz.lt⟩
 refine Wp_seq ?_
 obtain ⟨Fs9, hFs9⟩ : ∃ Fs : List Fact, Fs = [.eq (P6 br 2), .eq (.slice (some ⟨ab, ao, none⟩) t.args.length ac), .eq (.pointer (some ⟨ab, ao + 0 * 6, none⟩)), .eq (.agg (R6 x xsa xsc xaa xac)), .eq (.slice ta text.length tc), .eq (.agg (Q21 (p : Int) x1 x2 x3 x4 x5 x6 x7 x8 x9 x10 x11 x12 x13 x14 x15 x16 x17 x18 x19 x20)), .gen (crsF base L) (crsF_ext _ _), .eq (I6 (L.length : Int)), .eq (.bool (decide (0 < (L.length : Int)))), .eq (P6 br 5), .eq (.bool t.neg), .eq (.bool (decide ((0 : Int) < (L.length : Int)) != t.neg))] := ⟨_, rfl⟩
 refine Wp_dag [139, 140, 141, 142, 143, 144, 145, 146, 147, 148, 149, 150] [[], [0], [1], [2], [], [], [3, 4, 5], [6], [7], [], [9], [8, 10]] Fs9 hFs9 mixed (by kernel_rfl) (by kernel_rfl) ?_ ?_
 ·intro wd X0
  refine DagSteps.cons (fun s' w' X U H => Or.inl ⟨?_, ?_⟩) ?_
  ·exact Guarded_none rfl
  ·exact Does_val (r_fieldAddr (b := br) (o := 0) (o' := 2) (U 3 rfl) Try.underlying27 rfl siz25 rfl) (Ext.refl _) rfl
  refine DagSteps.cons (fun s' w' X U H => Or.inl ⟨?_, ?_⟩) ?_
  ·exact Guarded_none rfl
  ·have e139 : s' 139 = (.pointer (some ⟨br, 2, none⟩)) := H 0 rfl 139 (.eq (.pointer (some ⟨br, 2, none⟩))) rfl (by rw [hFs9]; rfl)
   exact Does_val (r_load (v := (.slice (some ⟨ab, ao, none⟩) t.args.length ac)) e139 flat25 (((X0.trans X).keep Br).cell rfl)) (Ext.refl _) rfl
  refine DagSteps.cons (fun s' w' X U H => Or.inl ⟨?_, ?_⟩) ?_
  ·exact Guarded_none rfl
  ·have e140 : s' 140 = (.slice (some ⟨ab, ao, none⟩) t.args.length ac) := H 1 rfl 140 (.eq (.slice (some ⟨ab, ao, none⟩) t.args.length ac)) rfl (by rw [hFs9]; rfl)
   exact Does_val (r_indexSlice (b := ab) (o := ao) (len := t.args.length) (cap := ac) (i := 0) (o' := ao + 0 * 6) e140 rfl rfl Try.underlying25 siz27 (by omega) (by omega)) (Ext.refl _) rfl
  refine DagSteps.cons (fun s' w' X U H => Or.inl ⟨?_, ?_⟩) ?_
  ·exact Guarded_none rfl
  ·have e141 : s' 141 = (.pointer (some ⟨ab, ao + 0 * 6, none⟩)) := H 2 rfl 141 (.eq (.pointer (some ⟨ab, ao + 0 * 6, none⟩))) rfl (by rw [hFs9]; rfl)
   exact Does_val (r_loadAgg (vs := [(I6 x.kind), (.slice xsa x.set.length xsc), (.slice xaa x.args.length xac), (I6 x.mn), (I6 x.mx), (.bool x.neg)]) e141 agg27 siz27 rfl (hus.ext (Ext.trans E (X0.trans X)))) (Ext.refl _) rfl
  refine DagSteps.cons (fun s' w' X U H => Or.inl ⟨?_, ?_⟩) ?_
  ·exact Guarded_none rfl
  ·exact Does_val (r_load (v := (.slice ta text.length tc)) (U 4 rfl) flat22 (((X0.trans X).keep Bs).cell rfl)) (Ext.refl _) rfl
  refine DagSteps.cons (fun s' w' X U H => Or.inl ⟨?_, ?_⟩) ?_
  ·exact Guarded_none rfl
  ·exact Does_val (r_loadAgg (vs := (K21 (p : Int) x1 x2 x3 x4 x5 x6 x7 x8 x9 x10 x11 x12 x13 x14 x15 x16 x17 x18 x19 x20)) (U 5 rfl) agg65 siz65 rfl (((X0.trans X).keep Bz).cells rfl)) (Ext.refl _) rfl
  refine DagSteps.cons (fun s' w' X U H => Or.inl ⟨?_, ?_⟩) ?_
  ·exact Guarded_none rfl
  ·have e142 : s' 142 = (.agg #[(.int .i64 x.kind), (.slice xsa x.set.length xsc), (.slice xaa x.args.length xac), (.int .i64 x.mn), (.int .i64 x.mx), (.bool x.neg)]) := H 3 rfl 142 (.eq (.agg #[(.int .i64 x.kind), (.slice xsa x.set.length xsc), (.slice xaa x.args.length xac), (.int .i64 x.mn), (.int .i64 x.mx), (.bool x.neg)])) rfl (by rw [hFs9]; rfl)
   have e143 : s' 143 = (.slice ta text.length tc) := H 4 rfl 143 (.eq (.slice ta text.length tc)) rfl (by rw [hFs9]; rfl)
   have e144 : s' 144 = (.agg #[(.int .i64 ((p : Nat) : Int)), (.int .i64 x1), (.int .i64 x2), (.int .i64 x3), (.int .i64 x4), (.int .i64 x5), (.int .i64 x6), (.int .i64 x7), (.int .i64 x8), (.int .i64 x9), (.int .i64 x10), (.int .i64 x11), (.int .i64 x12), (.int .i64 x13), (.int .i64 x14), (.int .i64 x15), (.int .i64 x16), (.int .i64 x17), (.int .i64 x18), (.int .i64 x19), (.int .i64 x20)]) := H 5 rfl 144 (.eq (.agg #[(.int .i64 ((p : Nat) : Int)), (.int .i64 x1), (.int .i64 x2), (.int .i64 x3), (.int .i64 x4), (.int .i64 x5), (.int .i64 x6), (.int .i64 x7), (.int .i64 x8), (.int .i64 x9), (.int .i64 x10), (.int .i64 x11), (.int .i64 x12), (.int .i64 x13), (.int .i64 x14), (.int .i64 x15), (.int .i64 x16), (.int .i64 x17), (.int .i64 x18), (.int .i64 x19), (.int .i64 x20)])) rfl (by rw [hFs9]; rfl)
   exact Does_enter (r_callF (vs := [(.agg (R6 x xsa xsc xaa xac)), (.slice ta text.length tc), (.agg (Q21 (p : Int) x1 x2 x3 x4 x5 x6 x7 x8 x9 x10 x11 x12 x13 x14 x15 x16 x17 x18 x19 x20))]) Try.func35 nm35 bd35 (lst3 e142 e143 e144)) ((hLd.symm ▸ hxv ▸ hxk p g hp hg _ _ _ (ReAt.ext (Ext.trans E (X0.trans X)) x hxt) (htx.ext (Ext.trans E (X0.trans X)))).mono (fun v w h => ⟨ownC_low h.1 (by have := X0.size; have := X.size; omega), h.2⟩))
  refine DagSteps.cons (fun s' w' X U H => Or.inl ⟨?_, ?_⟩) ?_
  ·exact Guarded_none rfl
  ·obtain ⟨⟨a145, c145, e145⟩, O145⟩ := H 6 rfl 145 (.gen (crsF base L) (crsF_ext _ _)) rfl (by rw [hFs9]; rfl)
   exact Does_val (r_lenSlice (ad := a145) (n := L.length) (cap := c145) Try.underlying66 e145) (Ext.refl _) rfl
  refine DagSteps.cons (fun s' w' X U H => Or.inl ⟨?_, ?_⟩) ?_
  ·exact Guarded_none rfl
  ·have e146 : s' 146 = (.int .i64 ((L.length : Nat) : Int)) := H 7 rfl 146 (.eq (.int .i64 ((L.length : Nat) : Int))) rfl (by rw [hFs9]; rfl)
   exact Does_val (r_gtr (k := .i64) (a := (L.length : Int)) (b := 0) e146 rfl) (Ext.refl _) rfl
  refine DagSteps.cons (fun s' w' X U H => Or.inl ⟨?_, ?_⟩) ?_
  ·exact Guarded_none rfl
  ·exact Does_val (r_fieldAddr (b := br) (o := 0) (o' := 5) (U 3 rfl) Try.underlying27 rfl siz4 rfl) (Ext.refl _) rfl
  refine DagSteps.cons (fun s' w' X U H => Or.inl ⟨?_, ?_⟩) ?_
  ·exact Guarded_none rfl
  ·have e148 : s' 148 = (.pointer (some ⟨br, 5, none⟩)) := H 9 rfl 148 (.eq (.pointer (some ⟨br, 5, none⟩))) rfl (by rw [hFs9]; rfl)
   exact Does_val (r_load (v := (.bool t.neg)) e148 flat4 (((X0.trans X).keep Br).cell rfl)) (Ext.refl _) rfl
  refine DagSteps.cons (fun s' w' X U H => Or.inl ⟨?_, ?_⟩) ?_
  ·exact Guarded_none rfl
  ·have e147 : s' 147 = (.bool (decide (0 < ((L.length : Nat) : Int)))) := H 8 rfl 147 (.eq (.bool (decide (0 < ((L.length : Nat) : Int))))) rfl (by rw [hFs9]; rfl)
   have e149 : s' 149 = (.bool t.neg) := H 10 rfl 149 (.eq (.bool t.neg)) rfl (by rw [hFs9]; rfl)
   exact Does_val (r_neqB (p := decide ((0 : Int) < (L.length : Int))) (q := t.neg) Try.underlying4 e147 e149) (Ext.refl _) rfl
  exact DagSteps.nil
 ·intro s' w9 X9 U H
  obtain ⟨j9, rfl⟩ := Fits.out (σ := s') (l := [(5, (.pointer (some ⟨bz, 0, none⟩))), (150, (.bool (decide ((0 : Int) < ((L.length : Nat) : Int)) != t.neg)))]) ⟨U 5 rfl, (show s' 150 = (.bool (decide ((0 : Int) < ((L.length : Nat) : Int)) != t.neg)) from H 11 150 (.eq (.bool (decide ((0 : Int) < ((L.length : Nat) : Int)) != t.neg))) rfl (by rw [hFs9]; rfl)), trivial⟩
  clear U H
  replace Br := X9.keep Br
  replace Bs := X9.keep Bs
  replace Bz := X9.keep Bz
  replace E := E.ext X9
  refine thn_normal ?_
  refine Wp_cond (b := (decide ((0 : Int) < (L.length : Int)) != t.neg)) rfl (fun hb => ?_) (fun hb => ?_)
  ·have khb := hb
   refine Wp_seq_region ?_
   refine qV (r_loadAgg (vs := (K21 (p : Int) x1 x2 x3 x4 x5 x6 x7 x8 x9 x10 x11 x12 x13 x14 x15 x16 x17 x18 x19 x20)) rfl agg65 siz65 rfl (Bz.cells rfl)) ?_
   refine s_buildSlice (ps := [(0, (.agg (Q21 (p : Int) x1 x2 x3 x4 x5 x6 x7 x8 x9 x10 x11 x12 x13 x14 x15 x16 x17 x18 x19 x20)))]) (c := (Q21 (p : Int) x1 x2 x3 x4 x5 x6 x7 x8 x9 x10 x11 x12 x13 x14 x15 x16 x17 x18 x19 x20)) (by decide) rfl Try.underlying66 siz65 zer65 (by decide) (by decide) (by kernel_rfl) ?_
   intro bq wq Nq
   have Fq := Nq.ge E
   have Oq_br := Nq.lt Br
   have Oq_bs := Nq.lt Bs
   have Oq_bz := Nq.lt Bz
   replace Br := Nq.keep Br
   replace Bs := Nq.keep Bs
   replace Bz := Nq.keep Bz
   replace E := E.ext Nq.ext
   have Bq := Nq.blk
   refine qA (.slice (some ⟨bq, 0, none⟩) 1 1) rfl ?_
   refine WpL_nil (Wp_ret (inB_ret (thn_ret ?_)))
   refine fin_tmp Try.results35 (v := (.slice (some ⟨bq, 0, none⟩) 1 1)) rfl ?_
   exact ⟨by rw [rc10 h10 hx, ← hLd, if_neg (by rw [crs_iso] at hb; simpa using hb)]; exact ownC_one (hxv ▸ Bq) hg (by omega), E⟩
  ·have khb := hb
   refine Wp_skip (inB_normal (thn_normal (Wp_seq_region ?_)))
   refine qA (.slice none 0 0) rfl ?_
   refine WpL_nil (Wp_ret ?_)
   refine fin_tmp Try.results35 (v := (.slice none 0 0)) rfl ?_
   exact ⟨by rw [rc10 h10 hx, ← hLd, if_pos (by rw [crs_iso] at hb; revert hb; cases L.isEmpty <;> cases t.neg <;> decide)]; exact ownC_nil _ _, E⟩
end Go.Proofs
namespace Go.Proofs
open Go Go.Eng Go.Sort
set_option maxRecDepth 100000
theorem courses_c (text : List Int) (hn : text.length ≤ 7) : ∀ M (t : Re), t.size < M → okRe t → t.size ≤ 100 → RefOk text t := by
  intro M
  induction M with
  | zero => intro t h; omega
  | succ M ih =>
  intro t hM hok hz
  have IH : ∀ (i : Nat) (x : Re), t.args[i]? = some x → RefOk text x := fun i x hx => ih x (by have := Re.size_arg hx; omega) (okRes_get (okRe_args hok) hx) (by have := Re.size_arg hx; omega)
  by_cases h1 : t.kind = 1
  · exact crs_k1 text hn t hok hz IH h1
  by_cases h2 : t.kind = 2
  · exact crs_k2 text hn t hok hz IH h2
  by_cases h3 : t.kind = 3
  · exact crs_k3 text hn t hok hz IH h3
  by_cases h4 : t.kind = 4
  · exact crs_k4 text hn t hok hz IH h4
  by_cases h5 : t.kind = 5
  · exact crs_k5 text hn t hok hz IH h5
  by_cases h6 : t.kind = 6
  · exact crs_k6 text hn t hok hz IH h6
  by_cases h9 : t.kind = 9
  · exact crs_k9 text hn t hok hz IH h9
  by_cases h10 : t.kind = 10
  · exact crs_k10 text hn t hok hz IH h10
  exact crs_k0 text hn t hok hz IH ⟨h1, h2, h3, h4, h5, h6, h9, h10⟩
end Go.Proofs
namespace Go.Proofs
open Go Go.Eng Go.Sort
set_option maxRecDepth 100000
theorem crs_stput {e : Nat} {i : Nat} (h : i < 10) : ((crsV (e, startG i)).toArray.toList.take (1 + i * 2) ++ #[Value.int .i64 (-1), Value.int .i64 (-1)].toList ++ (crsV (e, startG i)).toArray.toList.drop (1 + i * 2 + 2)).toArray = (crsV (e, startG (i + 1))).toArray := by
 congr 1
 have h1 := grpV_put (startG i) i (-1, -1) (by rw [startG_len (by omega)]; exact h)
 rw [startG_set h] at h1
 show (Value.int .i64 (e : Int) :: grpV (startG i)).take (1 + i * 2) ++ _ ++ (Value.int .i64 (e : Int) :: grpV (startG i)).drop (1 + i * 2 + 2) = Value.int .i64 (e : Int) :: grpV (startG (i + 1))
 rw [← h1, Nat.add_comm 1, show i * 2 + 1 + 2 = i * 2 + 2 + 1 by omega]
 simp
theorem crs_g0 (e : Nat) : crsV (e, G0) = [.int .i64 (e : Int), .int .i64 (-1), .int .i64 (-1), .int .i64 (-1), .int .i64 (-1), .int .i64 (-1), .int .i64 (-1), .int .i64 (-1), .int .i64 (-1), .int .i64 (-1), .int .i64 (-1), .int .i64 (-1), .int .i64 (-1), .int .i64 (-1), .int .i64 (-1), .int .i64 (-1), .int .i64 (-1), .int .i64 (-1), .int .i64 (-1), .int .i64 (-1), .int .i64 (-1)] := rfl
theorem from_ref (text : List Int) (t : Re) (i : Nat) (hi : i ≤ text.length) : fromO text t i = match (refC text t i G0).head? with | some q => some (i, q.1, q.2) | none => fromO text t (i + 1) := by
 rw [fromO, if_pos hi, refC_head]
 cases (crsOf text t i G0).head? <;> rfl
theorem cells_tl {w : World} {b o : Nat} {u : Value} {l : List Value} (h : CellsAt w b o (u :: l)) : CellsAt w b (o + 1) l := fun i v hv => by
 have := h (i + 1) v (by simpa using hv)
 rwa [show o + (i + 1) = o + 1 + i by omega] at this
set_option maxHeartbeats 2000000 in
theorem findfrom_c (text : List Int) (hn : text.length ≤ 7) (t : Re) (hok : RefOk text t) (pos : Nat) (hpos : pos ≤ text.length + 1) (w0 : World) (vs : List Value) (vt : Value) (ht : ReAt w0 t vs) (htx : IntsAt w0 vt text) :
  Ret Try.prog 16 #[.agg vs.toArray, vt, .int .i64 ((pos : Nat) : Int)] w0 fun v w => v = .tuple #[.agg (fndO (fromO text t pos)).toArray, .bool (fromO text t pos).isSome] ∧ Ext w0 w := by
 have ht0 := ht
 obtain ⟨sa, sc, aa, ac, rfl, hset, hlen, hargs⟩ := ht.form
 obtain ⟨ta, tc, rfl⟩ := SlAt.form htx
 simp only [List.length_map] at htx ⊢
 refine Ret_of Try.func16 rfl Try.ntmps16 (Nat.le_of_ble_eq_true rfl) ?_
 have E : Chg none1 w0 w0 := Chg.refl _ _
 refine Wp_seq_region ?_
 refine s_box (v := (.agg (R6 t sa sc aa ac))) (c := (R6 t sa sc aa ac)) (by decide) rfl rfl ?_
 intro br wr Nr
 have Fr := Nr.ge E
 replace E := E.ext Nr.ext
 have Br := Nr.blk
 refine s_alloc (by decide) zer43 rfl ?_
 intro bo wo No
 have Fo := No.ge E
 have Oo_br := No.lt Br
 replace Br := No.keep Br
 replace E := E.ext No.ext
 have Bo := No.blk
 refine qA (.bool false) rfl ?_
 refine WpL_nil (Wp_seq_region ?_)
 refine qV (r_build (ps := []) (v := (.agg (Q21 0 0 0 0 0 0 0 0 0 0 0 0 0 0 0 0 0 0 0 0 0))) rfl (by kernel_rfl)) ?_
 refine s_allocStore (v := (.agg (Q21 0 0 0 0 0 0 0 0 0 0 0 0 0 0 0 0 0 0 0 0 0))) (c := (Q21 0 0 0 0 0 0 0 0 0 0 0 0 0 0 0 0 0 0 0 0 0)) (n := 21) (by decide) zer65 rfl siz65 rfl rfl rfl (by simp [Value.oneCell']) ?_
 intro bx wx Nx
 have Fx := Nx.ge E
 have Ox_br := Nx.lt Br
 have Ox_bo := Nx.lt Bo
 replace Br := Nx.keep Br
 replace Bo := Nx.keep Bo
 replace E := E.ext Nx.ext
 have Bx := Nx.blk
 refine WpL_nil (Wp_seq (Wp_seq_region ?_))
 refine qM (I6 0) rfl ?_
 refine WpL_nil (Wp_block ?_)
 refine Wp_loop (fun nn_ σ W1 => ∃ (k : Nat), (∃ jj_, σ = upds jj_ [(1, (.slice ta text.length tc)), (2, (I6 (pos : Int))), (3, (P6 br 0)), (6, (P6 bo 0)), (8, (P6 bx 0)), (12, (I6 (k : Int)))]) ∧ Chg none1 w0 W1 ∧ Blk W1 br (R6 t sa sc aa ac) 27 ∧ Blk W1 bo (Q22 0 0 0 0 0 0 0 0 0 0 0 0 0 0 0 0 0 0 0 0 0 0) 43 ∧ Blk W1 bx ((crsV (0, startG k)).toArray) 65 ∧ (k ≤ 10) ∧ nn_ = 10 - k) (n := 10 - 0) ?_ ?_
 ·exact ⟨0, Fits.out ⟨rfl, rfl, rfl, rfl, rfl, rfl, trivial⟩, E, Br, Bo, Bx, Nat.zero_le _, rfl⟩
 ·clear E Br Bo Bx
  rintro _ _ W1 ⟨k, ⟨j1, rfl⟩, E, Br, Bo, Bx, hk, rfl⟩
  refine Wp_seq_region ?_
  refine qV (r_lss (k := .i64) (a := (k : Int)) (b := 10) rfl rfl) ?_
  refine WpL_nil (Wp_seq ?_)
  refine Wp_cond (b := decide (((k : Int) : Int) < 10)) rfl (fun hlt => ?_) (fun hlt => ?_)
  ·have khlt := hlt
   replace hlt := of_decide_eq_true hlt
   have hgl := startG_len (i := k) (by omega)
   refine Wp_skip (thn_normal (Wp_seq (Wp_block (Wp_seq_region ?_))))
   refine qM (I6 (k : Int)) rfl ?_
   refine qA (I6 (k : Int)) rfl ?_
   refine WpL_nil (Wp_region ?_)
   refine qM (I6 (k : Int)) rfl ?_
   refine qV (r_build (ps := [(0, (I6 (-1))), (1, (I6 (-1)))]) (v := (.agg #[(I6 (-1)), (I6 (-1))])) rfl (by kernel_rfl)) ?_
   refine qF bx 0 1 rfl Try.underlying65 rfl siz31 rfl ?_
   refine qV (r_indexArr (b := bx) (o := 1) (i := k) (o' := 1 + k * 2) rfl rfl rfl Try.underlying31 siz30 (by omega) (by omega)) ?_
   refine s_storeAgg (b := bx) (o := 1 + k * 2) (n := 2) (c' := (crsV (0, startG (k + 1))).toArray) (vs := #[(I6 (-1)), (I6 (-1))]) rfl rfl (by simp [Value.oneCell']) siz30 (rfl) Bx (by simp [grpV_len, hgl]; omega) (crs_stput (by omega)) ?_
   intro w3 S3
   replace Br := S3.keep (by omega) Br
   replace Bo := S3.keep (by omega) Bo
   replace E := S3.step E (by first | exact Or.inl (by omega) | exact Or.inr rfl | exact Or.inr (by assumption) | exact Or.inr (by simp) | exact Or.inr (by omega) | exact Or.inr (by dsimp only; omega))
   replace Bx := S3.blk
   refine WpL_nil (inB_normal (thn_normal (Wp_region ?_)))
   refine qV (r_add (k := .i64) (a := (k : Int)) (b := 1) (c := (k : Int) + 1) rfl rfl (wI64 (by omega))) ?_
   refine qM (I6 ((k : Int) + 1)) rfl ?_
   refine WpL_nil (thn_normal ?_)
   exact ⟨10 - (k + 1), by omega, k + 1, Fits.out ⟨rfl, rfl, rfl, rfl, rfl, rfl, trivial⟩, E, Br, Bo, Bx, (by omega), rfl⟩
  ·have khlt := hlt
   replace hlt := of_decide_eq_false hlt
   have hk10 : k = 10 := by omega
   subst hk10
   refine Wp_exit (thn_exit (thn_exit (inB_here (thn_normal (Wp_seq (Wp_block ?_))))))
   refine Wp_loop (fun nn_ σ W4 => ∃ (i : Nat) (e : Int), (∃ jj_, σ = upds jj_ [(1, (.slice ta text.length tc)), (3, (P6 br 0)), (6, (P6 bo 0)), (8, (P6 bx 0)), (2, (I6 (i : Int)))]) ∧ Chg none1 w0 W4 ∧ Blk W4 br (R6 t sa sc aa ac) 27 ∧ Blk W4 bo (Q22 0 0 0 0 0 0 0 0 0 0 0 0 0 0 0 0 0 0 0 0 0 0) 43 ∧ Blk W4 bx (#[.int .i64 e, .int .i64 (-1), .int .i64 (-1), .int .i64 (-1), .int .i64 (-1), .int .i64 (-1), .int .i64 (-1), .int .i64 (-1), .int .i64 (-1), .int .i64 (-1), .int .i64 (-1), .int .i64 (-1), .int .i64 (-1), .int .i64 (-1), .int .i64 (-1), .int .i64 (-1), .int .i64 (-1), .int .i64 (-1), .int .i64 (-1), .int .i64 (-1), .int .i64 (-1)]) TCs ∧ (i ≤ text.length + 1) ∧ (fromO text t pos = fromO text t i) ∧ nn_ = text.length + 1 - i) (n := text.length + 1 - pos) ?_ ?_
   ·exact ⟨pos, 0, Fits.out ⟨rfl, rfl, rfl, rfl, rfl, trivial⟩, E, Br, Bo, Bx, hpos, rfl, rfl⟩
   ·clear E Br Bo Bx
    rintro _ _ W4 ⟨i, e, ⟨j4, rfl⟩, E, Br, Bo, Bx, hi, hrel, rfl⟩
    refine Wp_seq (Wp_seq_region ?_)
    refine qM (I6 (i : Int)) rfl ?_
    refine qM (.slice ta text.length tc) rfl ?_
    refine qV (r_lenSlice (ad := ta) (n := text.length) (cap := tc) Try.underlying22 rfl) ?_
    refine qV (r_leq (k := .i64) (a := (i : Int)) (b := (text.length : Int)) rfl rfl) ?_
    refine WpL_nil ?_
    refine Wp_cond (b := decide (((i : Int) : Int) ≤ (text.length : Int))) rfl (fun hlt => ?_) (fun hlt => ?_)
    ·have khlt := hlt
     replace hlt := of_decide_eq_true hlt
     have hil : i ≤ text.length := by omega
     obtain ⟨L, hLd⟩ : ∃ L, L = refC text t i G0 := ⟨_, rfl⟩
     have hfew := few_ref text t (g := G0) hil rfl
     rw [← hLd] at hfew
     have hfr := from_ref text t i hil
     rw [← hLd] at hfr
     refine Wp_skip (thn_normal (Wp_seq (Wp_block (Wp_seq_region ?_))))
     refine qM (I6 (i : Int)) rfl ?_
     refine qF bx 0 0 rfl Try.underlying65 rfl siz3 rfl ?_
     refine s_store (b := bx) (o := 0) (c' := (Q21 (i : Int) (-1) (-1) (-1) (-1) (-1) (-1) (-1) (-1) (-1) (-1) (-1) (-1) (-1) (-1) (-1) (-1) (-1) (-1) (-1) (-1))) (v := (I6 (i : Int))) rfl rfl rfl siz3 Bx (by simp) rfl ?_
     intro w6 S6
     replace Br := S6.keep (by omega) Br
     replace Bo := S6.keep (by omega) Bo
     replace E := S6.step E (by first | exact Or.inl (by omega) | exact Or.inr rfl | exact Or.inr (by assumption) | exact Or.inr (by simp) | exact Or.inr (by omega) | exact Or.inr (by dsimp only; omega))
     replace Bx := S6.blk
     refine WpL_nil (Wp_seq_region ?_)
     refine qV (r_loadAgg (vs := [(I6 t.kind), (.slice sa t.set.length sc), (.slice aa t.args.length ac), (I6 t.mn), (I6 t.mx), (.bool t.neg)]) rfl agg27 siz27 rfl (Br.cells rfl)) ?_
     refine qM (.slice ta text.length tc) rfl ?_
     refine qV (r_loadAgg (vs := (K21 (i : Int) (-1) (-1) (-1) (-1) (-1) (-1) (-1) (-1) (-1) (-1) (-1) (-1) (-1) (-1) (-1) (-1) (-1) (-1) (-1) (-1))) rfl agg65 siz65 rfl (Bx.cells rfl)) ?_
     refine WpL_enter rfl rfl (by decide) (r_callF (vs := [(.agg (R6 t sa sc aa ac)), (.slice ta text.length tc), (.agg (Q21 (i : Int) (-1) (-1) (-1) (-1) (-1) (-1) (-1) (-1) (-1) (-1) (-1) (-1) (-1) (-1) (-1) (-1) (-1) (-1) (-1) (-1)))]) Try.func35 nm35 bd35 rfl) ((hLd.symm ▸ crs_g0 i ▸ hok i G0 hil rfl _ _ _ (ReAt.ext E t ht0) (htx.ext E))) ?_
     rintro _ w9 ⟨⟨⟨ka, kc, rfl⟩, hK⟩, X9⟩
     replace Br := X9.keep Br
     replace Bo := X9.keep Bo
     replace Bx := X9.keep Bx
     replace E := E.ext X9
     have hKat : CrsAt w9 (.slice ka L.length kc) L := own_slat hK (fun r hr => by obtain ⟨q, hq, rfl⟩ := List.mem_map.1 hr; simp only [List.length_cons, grpV_len, (hfew.lies q hq).2.2]) (by simp) (by decide)
     refine qA (.slice ka L.length kc) rfl ?_
     refine WpL_nil (Wp_seq_region ?_)
     refine qM (.slice ka L.length kc) rfl ?_
     refine qV (r_lenSlice (ad := ka) (n := L.length) (cap := kc) Try.underlying66 rfl) ?_
     refine qV (r_gtr (k := .i64) (a := (L.length : Int)) (b := 0) rfl rfl) ?_
     refine WpL_nil ?_
     refine Wp_cond (b := decide ((0 : Int) < (L.length : Int))) rfl (fun hs => ?_) (fun hs => ?_)
     ·have khs := hs
      replace hs := of_decide_eq_true hs
      obtain ⟨y, hy⟩ := get_of_lt (l := L) (i := 0) (by omega)
      obtain ⟨y0, y1, y2, y3, y4, y5, y6, y7, y8, y9, y10, y11, y12, y13, y14, y15, y16, y17, y18, y19, y20, hyv⟩ := crs21 (q := y) (hfew.lies y (List.mem_of_getElem? hy)).2.2
      have hy0 : y0 = ((y.1 : Nat) : Int) := by have := congrArg (fun l => l[0]?) hyv; simpa using this.symm
      obtain ⟨b, oo, rfl, hcl⟩ := SlAt.at hKat (by omega)
      have hcx := hcl 0 (crsV y) (by simp [hy])
      rw [hyv] at hcx
      rw [List.head?_eq_getElem?, hy] at hfr
      refine Wp_seq_draw 10 mixed (by kernel_rfl) ?_
      intro w8 X8 _
      replace Br := X8.keep Br
      replace Bo := X8.keep Bo
      replace Bx := X8.keep Bx
      replace hcx := hcx.ext X8
      replace E := E.ext X8
      refine qT (r_move (v := (I6 (i : Int))) rfl) ?_
      refine qT (r_move (v := (.slice (some ⟨b, oo, none⟩) L.length kc)) rfl) ?_
      refine qT (r_indexSlice (b := b) (o := oo) (len := L.length) (cap := kc) (i := 0) (o' := oo + 0 * 21) rfl rfl rfl Try.underlying66 siz65 (by omega) (by omega)) ?_
      refine qT (r_fieldAddr (b := b) (o := oo + 0 * 21) (o' := oo + 0 * 21) rfl Try.underlying65 rfl siz3 rfl) ?_
      refine qT (r_load (v := (I6 y0)) rfl flat3 (hcx 0 _ rfl)) ?_
      refine qT (r_move (v := (.slice (some ⟨b, oo, none⟩) L.length kc)) rfl) ?_
      refine qT (r_indexSlice (b := b) (o := oo) (len := L.length) (cap := kc) (i := 0) (o' := oo + 0 * 21) rfl rfl rfl Try.underlying66 siz65 (by omega) (by omega)) ?_
      refine qT (r_fieldAddr (b := b) (o := oo + 0 * 21) (o' := oo + 0 * 21 + 1) rfl Try.underlying65 rfl siz31 rfl) ?_
      refine qT (r_loadAgg (vs := (K20 y1 y2 y3 y4 y5 y6 y7 y8 y9 y10 y11 y12 y13 y14 y15 y16 y17 y18 y19 y20)) rfl agg31 siz31 rfl (cells_tl hcx)) ?_
      refine qT (r_build (ps := [(0, (I6 (i : Int))), (1, (I6 y0)), (2, (.agg (Q20 y1 y2 y3 y4 y5 y6 y7 y8 y9 y10 y11 y12 y13 y14 y15 y16 y17 y18 y19 y20)))]) (v := (.agg (Q22 (i : Int) y0 y1 y2 y3 y4 y5 y6 y7 y8 y9 y10 y11 y12 y13 y14 y15 y16 y17 y18 y19 y20))) rfl (by kernel_rfl)) ?_
      refine WpT_zero ?_
      refine s_storeAgg (b := bo) (o := 0) (c' := (Q22 (i : Int) y0 y1 y2 y3 y4 y5 y6 y7 y8 y9 y10 y11 y12 y13 y14 y15 y16 y17 y18 y19 y20)) rfl rfl (by simp [Value.oneCell']) siz43 rfl Bo (by first | (simp; done) | exact Nat.le_of_ble_eq_true rfl) rfl ?_
      intro w9 S9
      replace Br := S9.keep (by omega) Br
      replace Bx := S9.keep (by omega) Bx
      replace E := S9.step E (by first | exact Or.inl (by omega) | exact Or.inr rfl | exact Or.inr (by assumption) | exact Or.inr (by simp) | exact Or.inr (by omega) | exact Or.inr (by dsimp only; omega))
      replace Bo := S9.blk
      refine qA (.bool true) rfl ?_
      refine WpL_nil (Wp_ret (inB_ret (thn_ret (thn_ret (inB_ret (thn_ret ?_))))))
      refine fin_agg_tmp Try.results16 (vs := [(.int .i64 ((i : Nat) : Int)), (.int .i64 y0), (.int .i64 y1), (.int .i64 y2), (.int .i64 y3), (.int .i64 y4), (.int .i64 y5), (.int .i64 y6), (.int .i64 y7), (.int .i64 y8), (.int .i64 y9), (.int .i64 y10), (.int .i64 y11), (.int .i64 y12), (.int .i64 y13), (.int .i64 y14), (.int .i64 y15), (.int .i64 y16), (.int .i64 y17), (.int .i64 y18), (.int .i64 y19), (.int .i64 y20)]) (b := bo) (v' := (.bool true)) rfl agg43 siz43 rfl (Bo.cells rfl) rfl ?_
      exact ⟨by rw [hrel, hfr]; show _ = Value.tuple #[.agg (.int .i64 ((i : Nat) : Int) :: crsV y).toArray, .bool true]; rw [hyv], E⟩
     ·have khs := hs
      replace hs := of_decide_eq_false hs
      have hno : L = [] := List.eq_nil_of_length_eq_zero (by omega)
      refine Wp_skip (inB_normal (thn_normal (Wp_region ?_)))
      refine qM (I6 (i : Int)) rfl ?_
      refine qV (r_add (k := .i64) (a := (i : Int)) (b := 1) (c := (i : Int) + 1) rfl rfl (wI64 (by omega))) ?_
      refine qA (I6 ((i : Int) + 1)) rfl ?_
      refine WpL_nil (thn_normal ?_)
      exact ⟨text.length + 1 - (i + 1), by omega, i + 1, ((i : Nat) : Int), Fits.out ⟨rfl, rfl, rfl, rfl, rfl, trivial⟩, E, Br, Bo, Bx, (by omega), (by rw [hrel, hfr, hno]; rfl), rfl⟩
    ·have khlt := hlt
     replace hlt := of_decide_eq_false hlt
     refine Wp_exit (thn_exit (thn_exit (inB_here (thn_normal (Wp_seq_region ?_)))))
     refine qV (r_build (ps := []) (v := (.agg (Q22 0 0 0 0 0 0 0 0 0 0 0 0 0 0 0 0 0 0 0 0 0 0))) rfl (by kernel_rfl)) ?_
     refine s_storeAgg (b := bo) (o := 0) (c' := (Q22 0 0 0 0 0 0 0 0 0 0 0 0 0 0 0 0 0 0 0 0 0 0)) rfl rfl (by simp [Value.oneCell']) siz43 rfl Bo (by first | (simp; done) | exact Nat.le_of_ble_eq_true rfl) rfl ?_
     intro w10 S10
     replace Br := S10.keep (by omega) Br
     replace Bx := S10.keep (by omega) Bx
     replace E := S10.step E (by first | exact Or.inl (by omega) | exact Or.inr rfl | exact Or.inr (by assumption) | exact Or.inr (by simp) | exact Or.inr (by omega) | exact Or.inr (by dsimp only; omega))
     replace Bo := S10.blk
     refine qA (.bool false) rfl ?_
     refine WpL_nil (Wp_ret ?_)
     refine fin_agg_tmp Try.results16 (vs := [(.int .i64 0), (.int .i64 0), (.int .i64 0), (.int .i64 0), (.int .i64 0), (.int .i64 0), (.int .i64 0), (.int .i64 0), (.int .i64 0), (.int .i64 0), (.int .i64 0), (.int .i64 0), (.int .i64 0), (.int .i64 0), (.int .i64 0), (.int .i64 0), (.int .i64 0), (.int .i64 0), (.int .i64 0), (.int .i64 0), (.int .i64 0), (.int .i64 0)]) (b := bo) (v' := (.bool false)) rfl agg43 siz43 rfl (Bo.cells rfl) rfl ?_
     exact ⟨by rw [hrel, fromO, if_neg (by omega)]; rfl, E⟩
end Go.Proofs
