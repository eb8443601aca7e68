/- Contracts and plain lemmas, part 6. -/
import Derived.Tactics
import Derived.Deep.Quiet
import Derived.Laws.AppendOwn
import Derived.KernelRfl
import Derived.Laws.Entries
import Derived.Laws.Build
import Derived.Below
import Derived.RowKit3
import Derived.StillTail
import Derived.Sort.Grow
import Derived.Deep.Draws
import Derived.Test.YtgifkdbbgffemaaChecked
import Derived.Laws.StructEq
import Derived.MapKept
import Derived.Laws.BytesArg
import Derived.DeepKeys3
import Derived.Test.YtgifkdbbgffemaaCt5
namespace Go.Proofs
open Go Go.Eng Go.Sort
set_option maxRecDepth 100000
theorem intsw_own {w : World} {ta : Option Addr} {tn tc : Nat} {l : List Int} (h : IntsAt w (.slice ta tn tc) l) : l = [] ∨ ∃ b, (Value.slice ta tn tc).ownBlock = some b ∧ b < w.heap.size := by
  obtain ⟨a, c, e, _, _, h⟩ := h
  cases e
  rcases h with h | ⟨b, o, rfl, h⟩
  · exact .inl (by simpa using h)
  · cases l with
    | nil => exact .inl rfl
    | cons x l => exact .inr ⟨b, rfl, World.block_lt_of_cell? w _ (h 0 _ rfl 0 _ rfl)⟩
def findO (t : Re) (text : List Int) : Option (Nat × Nat × Grp) := if capP t text ≠ 0 then none else fromO text t 0
theorem findO_len (t : Re) (text : List Int) : (fndO (findO t text)).length = 22 := by
  unfold findO
  split
  · rfl
  · exact fndO_len _ 0 (Nat.le_refl _) (Nat.zero_le _)
theorem fndO_one (o : Option (Nat × Nat × Grp)) : ∀ v ∈ fndO o, v.oneCell' = true := by
  cases o with
  | none => exact fnd_one _ _ _
  | some q => exact fnd_one _ _ _
def findV (t : Re) (text : List Int) : Value := .tuple #[.agg (fndO (findO t text)).toArray, .bool (findO t text).isSome, .int .i64 (capP t text)]
set_option maxHeartbeats 2000000 in
theorem find_c (w0 : World) (t : Re) (vs : List Value) (v : Value) (text : List Int) (ht : ReAt w0 t vs) (htx : IntsAt w0 v text) :
    Ret Try.prog 9 #[.agg vs.toArray, v] w0 fun r w => r = findV t text ∧ Ext w0 w := by
  have ht0 := ht
  obtain ⟨sa, sc, aa, ac, rfl, hset, hlen, hargs⟩ := ht.form
  obtain ⟨ta, tc, rfl⟩ := SlAt.form htx
  simp only [List.length_map] at htx ⊢
  refine Ret_of Try.func9 rfl Try.ntmps9 (Nat.le_of_ble_eq_true rfl) ?_
  have E : Chg none1 w0 w0 := Chg.refl _ _
  refine Wp_seq_region ?_
  refine s_box (v := (.agg #[(.int .i64 t.kind), (.slice sa t.set.length sc), (.slice aa t.args.length ac), (.int .i64 t.mn), (.int .i64 t.mx), (.bool t.neg)])) (c := #[(.int .i64 t.kind), (.slice sa t.set.length sc), (.slice aa t.args.length ac), (.int .i64 t.mn), (.int .i64 t.mx), (.bool t.neg)]) (by decide) rfl rfl ?_
  intro bx wx Nx
  have Fx := Nx.ge E
  replace E := E.ext Nx.ext
  have Bx := Nx.blk
  refine s_alloc (by decide) zer33 rfl ?_
  intro bo wo No
  have Fo := No.ge E
  have Oo_bx := No.lt Bx
  replace Bx := No.keep Bx
  replace E := E.ext No.ext
  have Bo := No.blk
  refine WpL_val rfl rfl (by decide) (r_assign (v := (.bool false)) rfl) ?_
  refine WpL_val rfl rfl (by decide) (r_assign (v := (.int .i64 0)) rfl) ?_
  refine WpL_nil ?_
  refine Wp_seq ?_
  refine Wp_seq_region ?_
  refine WpL_val rfl rfl (by decide) (r_loadAgg (vs := [(.int .i64 t.kind), (.slice sa t.set.length sc), (.slice aa t.args.length ac), (.int .i64 t.mn), (.int .i64 t.mx), (.bool t.neg)]) rfl agg27 siz27 rfl (Bx.cells rfl)) ?_
  refine WpL_val rfl rfl (by decide) (r_move (v := (.slice ta text.length tc)) rfl) ?_
  refine WpL_enter rfl rfl (by decide) (r_callF (vs := [(.agg #[(.int .i64 t.kind), (.slice sa t.set.length sc), (.slice aa t.args.length ac), (.int .i64 t.mn), (.int .i64 t.mx), (.bool t.neg)]), (.slice ta text.length tc)]) Try.func20 nm20 bd20 rfl) (capchk_c _ t _ _ text (ReAt.ext E t ht0) (htx.ext E)) ?_
  rintro _ w9 ⟨rfl, X9⟩
  replace Bx := X9.keep Bx
  replace Bo := X9.keep Bo
  replace E := E.ext X9
  refine WpL_val rfl rfl (by decide) (r_assign (v := (.int .i64 (capP t text))) rfl) ?_
  refine WpL_nil ?_
  refine Wp_seq_region ?_
  refine WpL_val rfl rfl (by decide) (r_move (v := (.int .i64 (capP t text))) rfl) ?_
  refine WpL_val rfl rfl (by decide) (r_neq (k := .i64) (a := capP t text) (b := 0) rfl rfl) ?_
  refine WpL_nil ?_
  refine Wp_cond (b := decide ((capP t text : Int) ≠ 0)) rfl (fun h1 => ?_) (fun h1 => ?_)
  · have kh1 := h1
    replace h1 := of_decide_eq_true h1
    refine Wp_seq_region ?_
    refine WpL_val rfl rfl (by decide) (r_build (ps := []) (v := (.agg #[(.int .i64 0), (.int .i64 0), (.int .i64 0), (.int .i64 0), (.int .i64 0), (.int .i64 0), (.int .i64 0), (.int .i64 0), (.int .i64 0), (.int .i64 0), (.int .i64 0), (.int .i64 0), (.int .i64 0), (.int .i64 0), (.int .i64 0), (.int .i64 0), (.int .i64 0), (.int .i64 0), (.int .i64 0), (.int .i64 0), (.int .i64 0), (.int .i64 0)])) rfl (by kernel_rfl)) ?_
    refine WpL_val rfl rfl (by decide) (r_move (v := (.int .i64 (capP t text))) rfl) ?_
    refine s_storeAgg (b := bo) (o := 0) (c' := #[(.int .i64 0), (.int .i64 0), (.int .i64 0), (.int .i64 0), (.int .i64 0), (.int .i64 0), (.int .i64 0), (.int .i64 0), (.int .i64 0), (.int .i64 0), (.int .i64 0), (.int .i64 0), (.int .i64 0), (.int .i64 0), (.int .i64 0), (.int .i64 0), (.int .i64 0), (.int .i64 0), (.int .i64 0), (.int .i64 0), (.int .i64 0), (.int .i64 0)]) rfl rfl (by simp [Value.oneCell']) siz33 rfl Bo (by first | (simp; done) | exact Nat.le_of_ble_eq_true rfl) rfl ?_
    intro w2 S2
    replace Bx := S2.keep (by omega) Bx
    replace E := S2.step E (by first | exact Or.inl (by omega) | exact Or.inr rfl | exact Or.inr (by assumption) | exact Or.inr (by simp) | exact Or.inr (by omega) | exact Or.inr (by dsimp only; omega))
    replace Bo := S2.blk
    refine WpL_val rfl rfl (by decide) (r_assign (v := (.bool false)) rfl) ?_
    refine WpL_val rfl rfl (by decide) (r_assign (v := (.int .i64 (capP t text))) rfl) ?_
    refine WpL_nil ?_
    refine Wp_ret ?_
    refine thn_ret ?_
    refine fin_agg_tmp2 Try.results9 (vs := fndV 0 0 (List.replicate 10 (0, 0))) (b := bo) (v' := .bool false) (v'' := .int .i64 (capP t text)) rfl agg33 siz33 rfl (Bo.cells rfl) rfl rfl ?_
    exact ⟨by unfold findV findO; rw [if_pos h1]; rfl, E⟩
  · have kh1 := h1
    replace h1 := of_decide_eq_false h1
    have h0 : capP t text = 0 := by omega
    obtain ⟨hC, hn⟩ := capP_zero h0
    obtain ⟨z, hz⟩ : ∃ z, z = (w9).heap.size := ⟨_, rfl⟩
    have hfl := frg_len _ t (Nat.le_refl _) hC.ok hC.us hC.ln 0 0 0
    have hzs : w0.heap.size ≤ z := by rw [hz]; exact E.size
    have hln := hC.ln
    have hsz := hC.sz
    refine Wp_skip ?_
    refine thn_normal ?_
    refine Wp_seq_region ?_
    refine WpL_val rfl rfl (by decide) (r_loadAgg (vs := [(.int .i64 t.kind), (.slice sa t.set.length sc), (.slice aa t.args.length ac), (.int .i64 t.mn), (.int .i64 t.mx), (.bool t.neg)]) rfl agg27 siz27 rfl (Bx.cells rfl)) ?_
    refine WpL_enter rfl rfl (by decide) (r_callF (vs := [(.agg #[(.int .i64 t.kind), (.slice sa t.set.length sc), (.slice aa t.args.length ac), (.int .i64 t.mn), (.int .i64 t.mx), (.bool t.neg)])]) Try.func22 nm22 bd22 rfl) (translate_c _ (fun y => y < z) _ _ t (of_all _ t.size t (Nat.le_refl _) hC.ok hC.us hC.ln hC.sz) (ReAt.ext E t ht0) (Ext.refl _) (fun y h => by omega) (fun y h => by omega) (by omega) (by unfold tempsOf; omega) (by omega)) ?_
    rintro _ w19 ⟨⟨F', pb, rfl, hF1, hF2, hF3, hPr⟩, X19⟩
    replace Bx := X19.keep Bx
    replace Bo := X19.keep Bo
    replace E := E.ext X19
    obtain ⟨L, hL⟩ : ∃ L, L = fndO (fromO text t 0) := ⟨_, rfl⟩
    have hLn : L.length = 22 := by rw [hL]; exact fndO_len _ 0 (Nat.le_refl _) (Nat.zero_le _)
    have hL1 : ∀ v ∈ L, v.oneCell' = true := by rw [hL]; exact fndO_one _
    refine WpL_val rfl rfl (by decide) (r_move (v := (.slice ta text.length tc)) rfl) ?_
    refine WpL_enter rfl rfl (by decide) (r_callF (vs := [(.pointer (some ⟨pb, 0, none⟩)), (.slice ta text.length tc), (.int .i64 0)]) Try.func21 nm21 bd21 rfl) ((from_c F' _ pb t ta text.length tc 0 text hPr hF3 (htx.ext E) ((intsw_own htx).imp_right fun ⟨b, h1, h2⟩ => ⟨b, h1, hF1 b (by omega)⟩) (by omega) (wf_of t hC.ok hC.us) (by omega) (Nat.zero_le _)).mono (R' := fun r w => r = .tuple #[.agg L.toArray, .bool (fromO text t 0).isSome] ∧ Ext w19 w) (fun r w h => ⟨by rw [h.1, hL], h.2⟩)) ?_
    rintro _ w29 ⟨rfl, X29⟩
    replace Bx := X29.keep Bx
    replace Bo := X29.keep Bo
    replace E := E.ext X29
    refine WpL_val rfl rfl (by decide) (r_move (v := (.tuple #[(.agg L.toArray), (.bool ((fromO text t 0).isSome))])) rfl) ?_
    refine WpL_val rfl rfl (by decide) (r_extract (vs := #[(.agg L.toArray), (.bool ((fromO text t 0).isSome))]) (v := (.agg L.toArray)) rfl rfl) ?_
    refine WpL_val rfl rfl (by decide) (r_extract (vs := #[(.agg L.toArray), (.bool ((fromO text t 0).isSome))]) (v := (.bool ((fromO text t 0).isSome))) rfl rfl) ?_
    refine s_allocStore (v := (.agg L.toArray)) (c := L.toArray) (n := 22) (by decide) zer33 rfl siz33 rfl rfl (by simpa using hLn) (by simpa using hL1) ?_
    intro b3 w3 N3
    have F3 := N3.ge E
    have O3_bx := N3.lt Bx
    have O3_bo := N3.lt Bo
    replace Bx := N3.keep Bx
    replace Bo := N3.keep Bo
    replace E := E.ext N3.ext
    have B3 := N3.blk
    refine WpL_val rfl rfl (by decide) (r_assign (v := (.bool ((fromO text t 0).isSome))) rfl) ?_
    refine WpL_nil ?_
    refine Wp_seq_region ?_
    refine WpL_val rfl rfl (by decide) (r_loadAgg (vs := L) rfl agg33 siz33 hLn (B3.cells (by simp))) ?_
    refine WpL_val rfl rfl (by decide) (r_move (v := (.bool ((fromO text t 0).isSome))) rfl) ?_
    refine s_storeAgg (b := bo) (o := 0) (n := 22) (c' := L.toArray) (vs := L.toArray) rfl rfl (hL1) siz33 (by simpa using hLn) Bo (Nat.le_of_ble_eq_true rfl) (by simp [hLn, Value.cells]) ?_
    intro w4 S4
    replace Bx := S4.keep (by omega) Bx
    replace B3 := S4.keep (by omega) B3
    replace E := S4.step E (by first | exact Or.inl (by omega) | exact Or.inr rfl | exact Or.inr (by assumption) | exact Or.inr (by simp) | exact Or.inr (by omega) | exact Or.inr (by dsimp only; omega))
    replace Bo := S4.blk
    refine WpL_val rfl rfl (by decide) (r_assign (v := (.bool ((fromO text t 0).isSome))) rfl) ?_
    refine WpL_val rfl rfl (by decide) (r_assign (v := (.int .i64 0)) rfl) ?_
    refine WpL_nil ?_
    refine Wp_ret ?_
    refine fin_agg_tmp2 Try.results9 (vs := L) (b := bo) (v' := .bool (fromO text t 0).isSome) (v'' := .int .i64 0) rfl agg33 siz33 hLn (Bo.cells (by simp)) rfl rfl ?_
    exact ⟨by unfold findV findO; rw [if_neg h1, h0, hL], E⟩
set_option maxHeartbeats 1000000 in
theorem tagged_c (w0 : World) (t : Re) (vs : List Value) (v : Value) (text : List Int) (ht : ReAt w0 t vs) (htx : IntsAt w0 v text) :
    Ret Try.prog 10 #[.agg vs.toArray, v] w0 fun r w => r = findV t text ∧ Ext w0 w := by
  have ht0 := ht
  obtain ⟨sa, sc, aa, ac, rfl, hset, hlen, hargs⟩ := ht.form
  obtain ⟨ta, tc, rfl⟩ := SlAt.form htx
  simp only [List.length_map] at htx ⊢
  obtain ⟨L, hL⟩ : ∃ L, L = fndO (findO t text) := ⟨_, rfl⟩
  have hLn : L.length = 22 := by rw [hL]; exact findO_len _ _
  have hL1 : ∀ v ∈ L, v.oneCell' = true := by rw [hL]; exact fndO_one _
  have hV : findV t text = .tuple #[.agg L.toArray, .bool (findO t text).isSome, .int .i64 (capP t text)] := by unfold findV; rw [hL]
  rw [hV]
  refine Ret_of Try.func10 rfl Try.ntmps10 (Nat.le_of_ble_eq_true rfl) ?_
  have E : Chg none1 w0 w0 := Chg.refl _ _
  refine Wp_seq_region ?_
  refine s_box (v := (.agg #[(.int .i64 t.kind), (.slice sa t.set.length sc), (.slice aa t.args.length ac), (.int .i64 t.mn), (.int .i64 t.mx), (.bool t.neg)])) (c := #[(.int .i64 t.kind), (.slice sa t.set.length sc), (.slice aa t.args.length ac), (.int .i64 t.mn), (.int .i64 t.mx), (.bool t.neg)]) (by decide) rfl rfl ?_
  intro bx wx Nx
  have Fx := Nx.ge E
  replace E := E.ext Nx.ext
  have Bx := Nx.blk
  refine s_alloc (by decide) zer33 rfl ?_
  intro bo wo No
  have Fo := No.ge E
  have Oo_bx := No.lt Bx
  replace Bx := No.keep Bx
  replace E := E.ext No.ext
  have Bo := No.blk
  refine WpL_val rfl rfl (by decide) (r_assign (v := (.bool false)) rfl) ?_
  refine WpL_val rfl rfl (by decide) (r_assign (v := (.int .i64 0)) rfl) ?_
  refine WpL_nil ?_
  refine Wp_seq_region ?_
  refine WpL_val rfl rfl (by decide) (r_loadAgg (vs := [(.int .i64 t.kind), (.slice sa t.set.length sc), (.slice aa t.args.length ac), (.int .i64 t.mn), (.int .i64 t.mx), (.bool t.neg)]) rfl agg27 siz27 rfl (Bx.cells rfl)) ?_
  refine WpL_val rfl rfl (by decide) (r_move (v := (.slice ta text.length tc)) rfl) ?_
  refine WpL_enter rfl rfl (by decide) (r_callF (vs := [(.agg #[(.int .i64 t.kind), (.slice sa t.set.length sc), (.slice aa t.args.length ac), (.int .i64 t.mn), (.int .i64 t.mx), (.bool t.neg)]), (.slice ta text.length tc)]) Try.func9 nm9 bd9 rfl) (find_c _ t _ _ text (ReAt.ext E t ht0) (htx.ext E) |>.mono (R' := fun r w => r = .tuple #[.agg L.toArray, .bool (findO t text).isSome, .int .i64 (capP t text)] ∧ Ext _ w) (fun r w h => ⟨h.1.trans hV, h.2⟩)) ?_
  rintro _ w9 ⟨rfl, X9⟩
  replace Bx := X9.keep Bx
  replace Bo := X9.keep Bo
  replace E := E.ext X9
  refine WpL_val rfl rfl (by decide) (r_extract (vs := #[(.agg L.toArray), (.bool ((findO t text).isSome)), (.int .i64 (capP t text))]) (v := (.agg L.toArray)) rfl rfl) ?_
  refine WpL_val rfl rfl (by decide) (r_extract (vs := #[(.agg L.toArray), (.bool ((findO t text).isSome)), (.int .i64 (capP t text))]) (v := (.bool ((findO t text).isSome))) rfl rfl) ?_
  refine WpL_val rfl rfl (by decide) (r_extract (vs := #[(.agg L.toArray), (.bool ((findO t text).isSome)), (.int .i64 (capP t text))]) (v := (.int .i64 (capP t text))) rfl rfl) ?_
  refine s_storeAgg (b := bo) (o := 0) (n := 22) (c' := L.toArray) (vs := L.toArray) rfl rfl (hL1) siz33 (by simpa using hLn) Bo (Nat.le_of_ble_eq_true rfl) (by simp [hLn, Value.cells]) ?_
  intro w1 S1
  replace Bx := S1.keep (by omega) Bx
  replace E := S1.step E (by first | exact Or.inl (by omega) | exact Or.inr rfl | exact Or.inr (by assumption) | exact Or.inr (by simp) | exact Or.inr (by omega) | exact Or.inr (by dsimp only; omega))
  replace Bo := S1.blk
  refine WpL_val rfl rfl (by decide) (r_assign (v := (.bool ((findO t text).isSome))) rfl) ?_
  refine WpL_val rfl rfl (by decide) (r_assign (v := (.int .i64 (capP t text))) rfl) ?_
  refine WpL_nil ?_
  refine Wp_ret ?_
  refine fin_agg_tmp2 Try.results10 (vs := L) (b := bo) (v' := .bool (findO t text).isSome) (v'' := .int .i64 (capP t text)) rfl agg33 siz33 hLn (Bo.cells (by simp)) rfl rfl ?_
  exact ⟨rfl, E⟩
end Go.Proofs
namespace Go.Proofs
open Go Go.Eng Go.Sort
set_option maxRecDepth 100000
theorem eqItems_refl {P : Program} {w : World} {dd n : Nat} {e : TypeId} {xs : Array Value} : ∀ is : List Nat, (∀ i ∈ is, ∃ v, (part e xs (i * n)).run P w = .ok v w ∧ (Op.equalIn dd e v v).run P w = .ok true w) → (Op.eqItems dd e n xs xs is).run P w = .ok true w
  | [], _ => by simp [Op.eqItems]
  | i :: is, h => by
    obtain ⟨v, h1, h2⟩ := h i (by simp)
    have ih := eqItems_refl is fun j hj => h j (by simp [hj])
    simp only [Op.eqItems, Sem.run_bind, h1, h2, Result.andThen_ok, Bool.not_true, Bool.false_eq_true, if_false]
    exact ih
theorem eqFields_refl {P : Program} {w : World} {dd : Nat} {xs : Array Value} : ∀ fs : List Field, (∀ f ∈ fs, ∃ v, (part f.type xs f.offset).run P w = .ok v w ∧ (Op.equalIn dd f.type v v).run P w = .ok true w) → (Op.eqFields dd xs xs fs).run P w = .ok true w
  | [], _ => by simp [Op.eqFields]
  | f :: fs, h => by
    obtain ⟨v, h1, h2⟩ := h f (by simp)
    have ih := eqFields_refl fs fun j hj => h j (by simp [hj])
    unfold Op.eqFields
    split
    · simp only [Sem.run_bind, h1, h2, Result.andThen_ok, Bool.not_true, Bool.false_eq_true, if_false]
      exact ih
    · exact ih
abbrev TGr : Nat := 31
theorem eqGr (w : World) (d : Nat) (G : Grp) (hG : G.length = 10) : (Op.equalIn (d + 3) TGr (.agg (grpV G).toArray) (.agg (grpV G).toArray)).run Try.prog w = .ok true w := by
  obtain ⟨i, hi⟩ : ∃ i, (Try.prog).info? 30 = some i := by
    have h : ((Try.prog).info? 30).isSome = true := by kernel_rfl
    exact Option.isSome_iff_exists.1 h
  have hc : (Try.prog).cellsOf 30 = 2 := by kernel_rfl
  rw [run_equalIn_array w (d + 2) _ _ Try.underlying31 hi, hc]
  refine eqItems_refl _ fun k hk => ?_
  have hk : k < 10 := List.mem_range.1 hk
  obtain ⟨q, hq⟩ := get_of_lt (l := G) (i := k) (by omega)
  have hs := grpV_get G k q hq
  have hl := grpV_len G
  refine ⟨.agg #[.int .i64 q.1, .int .i64 q.2], ?_, ?_⟩
  · have hag : (isAgg 30).run Try.prog w = .ok true w := by kernel_rfl
    have hsz : (sizeOf 30).run Try.prog w = .ok 2 w := by kernel_rfl
    unfold part
    simp only [Sem.run_bind, hag, hsz, Result.andThen_ok, if_true, Sem.run_pure]
    congr 2
    apply Array.ext'
    rw [Array.toList_extract, List.toList_toArray]
    apply List.ext_getElem?
    intro j
    simp only [List.extract, List.getElem?_take, List.getElem?_drop]
    match j with
    | 0 => rw [if_pos (by omega)]; exact hs.1
    | 1 => rw [if_pos (by omega)]; exact hs.2
    | j + 2 => rw [if_neg (by omega)]; rfl
  · rw [equalIn_pair d q.1 q.2 q.1 q.2 Try.underlying30 Try.underlying3 siz3 flat3]
    simp
theorem eqFd (w : World) (f t : Int) (G : Grp) (hG : G.length = 10) : (Op.equalIn 10000 TFd (.agg (fndV f t G).toArray) (.agg (fndV f t G).toArray)).run Try.prog w = .ok true w := by
  have hu : (Try.prog).underlying TFd = some (.struct ((Try.prog).fieldsOf TFd)) := by kernel_rfl
  have hst : (Try.prog).stoodInHeld TFd = false := by kernel_rfl
  have hm : ((Try.prog).fieldsOf TFd).toList.map (fun g => (g.type, g.offset)) = [(3, 0), (3, 1), (TGr, 2)] := by kernel_rfl
  have hl := grpV_len G
  have hp : (Try.prog).plainKey 3 = true := by kernel_rfl
  have hq : ∀ x : Int, (Op.equalIn (9998 + 1) 3 (.int .i64 x) (.int .i64 x)).run Try.prog w = .ok true w := fun x => by rw [run_equalIn_int w 9998 3 .i64 .i64 x x Try.underlying3]; simp
  rw [run_equalIn_struct w 9999 TFd _ _ hu hst]
  refine eqFields_refl _ fun g hg => ?_
  have h9 : (g.type, g.offset) ∈ [((3 : Nat), 0), (3, 1), (TGr, 2)] := by rw [← hm]; exact List.mem_map.2 ⟨g, hg, rfl⟩
  simp only [List.mem_cons, List.not_mem_nil, or_false, Prod.mk.injEq] at h9
  rcases h9 with ⟨e1, e2⟩ | ⟨e1, e2⟩ | ⟨e1, e2⟩
  · rw [e1, e2]; exact ⟨_, run_part_plain w hp (v := .int .i64 f) rfl, hq f⟩
  · rw [e1, e2]; exact ⟨_, run_part_plain w hp (v := .int .i64 t) rfl, hq t⟩
  · rw [e1, e2]
    refine ⟨.agg (grpV G).toArray, ?_, eqGr w 9996 G hG⟩
    have hag : (isAgg TGr).run Try.prog w = .ok true w := by kernel_rfl
    have hsz : (sizeOf TGr).run Try.prog w = .ok 20 w := by kernel_rfl
    unfold part
    simp only [Sem.run_bind, hag, hsz, Result.andThen_ok, if_true, Sem.run_pure]
    congr 2
    apply Array.ext'
    rw [Array.toList_extract, List.toList_toArray, List.toList_toArray]
    show (grpV G).take 20 = grpV G
    exact List.take_of_length_le (by omega)
theorem eqFo (w : World) (o : Option (Nat × Nat × Grp)) (h : (fndO o).length = 22) : (Op.equalIn 10000 TFd (.agg (fndO o).toArray) (.agg (fndO o).toArray)).run Try.prog w = .ok true w := by
  cases o with
  | none => exact eqFd w 0 0 _ rfl
  | some q =>
    refine eqFd w _ _ _ ?_
    simp only [fndO, fndV, List.length_append, grpV_len, List.length_cons, List.length_nil] at h
    omega
theorem eqgFd : Try.prog.eqGuardType Try.prog.depth TFd = false := by kernel_rfl
theorem r_eqFd {σ : Env} {w : World} {dst : Option Tmp} {ty t' : TypeId} {pos : String} {af : Array Edge} {g : Option (Nat × Bool)} {x y : Operand} {L : List Value} {o : Option (Nat × Nat × Grp)} (hL : L = fndO o) (hl : L.length = 22) (hx : ev σ x = .agg L.toArray) (hy : ev σ y = .agg L.toArray) :
    (execOp (ev σ) ⟨dst, .binOp .eql TFd x y t', ty, pos, af, g⟩).run Try.prog w = .ok (.value (.bool true)) w := by
  have h := eqFo w o (hL ▸ hl)
  rw [← hL] at h
  simp only [execOp, hx, hy, Sem.run_bind, run_eqGuard_agg w .eql TFd x y _ _ eqgFd, Result.andThen_ok, run_eql_struct, h]
  rfl
def begT : Re := .mk 9 [] [oneT 98] 2 0 false
abbrev begG : Grp := [(-1, -1), (-1, -1), (1, 2), (-1, -1), (-1, -1), (-1, -1), (-1, -1), (-1, -1), (-1, -1), (-1, -1)]
theorem beg_cap : capP begT [97, 98] = 0 := by decide
theorem beg_find : findO begT [97, 98] = some (1, 2, begG) := by
  have e0 : (crsOf [97, 98] begT 0 G0).head? = none := by decide +kernel
  have e1 : (crsOf [97, 98] begT 1 G0).head? = some (2, begG) := by decide +kernel
  unfold findO
  rw [if_neg (by rw [beg_cap]; decide), fromO, if_pos (by decide), e0]
  show fromO [97, 98] begT 1 = _
  rw [fromO, if_pos (by decide), e1]
theorem beg_val : findV begT [97, 98] = .tuple #[.agg (fndV 1 2 begG).toArray, .bool true, .int .i64 0] := by
  unfold findV
  rw [beg_find, beg_cap]
  rfl
set_option maxHeartbeats 1000000 in
theorem cbegun_c (w0 : World) : Ret Try.prog 6 #[] w0 fun v w => v = .bool true ∧ Ext w0 w := by
  refine Ret_of Try.func6 rfl Try.ntmps6 (Nat.le_of_ble_eq_true rfl) ?_
  have E : Chg none1 w0 w0 := Chg.refl _ _
  refine Wp_seq_region ?_
  refine WpL_val rfl rfl (by decide) (r_assign (v := (.bool false)) rfl) ?_
  refine WpL_nil ?_
  refine Wp_seq_region ?_
  refine WpL_enter rfl rfl (by decide) (r_callF (vs := [(.int .i64 98)]) Try.func17 nm17 bd17 rfl) (one_c _ 98) ?_
  rintro _ w9 ⟨b, rfl, hsp, X9⟩
  replace E := E.ext X9
  refine s_buildSlice (ps := [(0, (.agg #[(.int .i64 2), (.slice (some ⟨b, 0, none⟩) 1 1), (.slice none 0 0), (.int .i64 0), (.int .i64 0), (.bool false)]))]) (c := #[(.int .i64 2), (.slice (some ⟨b, 0, none⟩) 1 1), (.slice none 0 0), (.int .i64 0), (.int .i64 0), (.bool false)]) (by decide) rfl Try.underlying25 siz27 zer27 (by decide) (by decide) (by kernel_rfl) ?_
  intro bp wp Np
  have Fp := Np.ge E
  replace E := E.ext Np.ext
  have Bp := Np.blk
  refine WpL_val rfl rfl (by decide) (r_build (ps := [(0, (.int .i64 9)), (3, (.int .i64 2)), (2, (.slice (some ⟨bp, 0, none⟩) 1 1))]) (v := (.agg #[(.int .i64 9), (.slice none 0 0), (.slice (some ⟨bp, 0, none⟩) 1 1), (.int .i64 2), (.int .i64 0), (.bool false)])) rfl (by kernel_rfl)) ?_
  refine s_buildSlice (ps := [(0, (.int .i64 97)), (1, (.int .i64 98))]) (c := #[(.int .i64 97), (.int .i64 98)]) (by decide) rfl Try.underlying22 siz3 zer3 (by decide) (by decide) (by kernel_rfl) ?_
  intro bq wq Nq
  have Fq := Nq.ge E
  have Oq_bp := Nq.lt Bp
  replace Bp := Nq.keep Bp
  replace E := E.ext Nq.ext
  have Bq := Nq.blk
  refine WpL_enter rfl rfl (by decide) (r_callF (vs := [(.agg #[(.int .i64 9), (.slice none 0 0), (.slice (some ⟨bp, 0, none⟩) 1 1), (.int .i64 2), (.int .i64 0), (.bool false)]), (.slice (some ⟨bq, 0, none⟩) 2 2)]) Try.func9 nm9 bd9 rfl) ((find_c _ begT [.int .i64 9, .slice none 0 0, .slice (some ⟨bp, 0, none⟩) 1 1, .int .i64 2, .int .i64 0, .bool false] _ [97, 98] (ReAt.of (set := []) (args := [oneT 98]) (SlAt.nil _ _ _ _) (by simp) (.inr ⟨bp, 0, rfl, by simp only [ResAt]; exact ⟨⟨_, Bp.cells rfl, one_at ((hsp.ext Np.ext).ext Nq.ext)⟩, trivial⟩⟩)) (ints_of_blk [97, 98] Bq (by simp) (by simp))).mono (R' := fun v w => v = .tuple #[.agg (fndV 1 2 begG).toArray, .bool true, .int .i64 0] ∧ Ext wq w) (fun v w h => ⟨h.1.trans beg_val, h.2⟩)) ?_
  rintro _ w19 ⟨rfl, X19⟩
  replace Bp := X19.keep Bp
  replace Bq := X19.keep Bq
  replace E := E.ext X19
  refine WpL_val rfl rfl (by decide) (r_move (v := (.tuple #[(.agg #[(.int .i64 1), (.int .i64 2), (.int .i64 (-1)), (.int .i64 (-1)), (.int .i64 (-1)), (.int .i64 (-1)), (.int .i64 1), (.int .i64 2), (.int .i64 (-1)), (.int .i64 (-1)), (.int .i64 (-1)), (.int .i64 (-1)), (.int .i64 (-1)), (.int .i64 (-1)), (.int .i64 (-1)), (.int .i64 (-1)), (.int .i64 (-1)), (.int .i64 (-1)), (.int .i64 (-1)), (.int .i64 (-1)), (.int .i64 (-1)), (.int .i64 (-1))]), (.bool true), (.int .i64 0)])) rfl) ?_
  refine WpL_val rfl rfl (by decide) (r_extract (vs := #[(.agg #[(.int .i64 1), (.int .i64 2), (.int .i64 (-1)), (.int .i64 (-1)), (.int .i64 (-1)), (.int .i64 (-1)), (.int .i64 1), (.int .i64 2), (.int .i64 (-1)), (.int .i64 (-1)), (.int .i64 (-1)), (.int .i64 (-1)), (.int .i64 (-1)), (.int .i64 (-1)), (.int .i64 (-1)), (.int .i64 (-1)), (.int .i64 (-1)), (.int .i64 (-1)), (.int .i64 (-1)), (.int .i64 (-1)), (.int .i64 (-1)), (.int .i64 (-1))]), (.bool true), (.int .i64 0)]) (v := (.agg #[(.int .i64 1), (.int .i64 2), (.int .i64 (-1)), (.int .i64 (-1)), (.int .i64 (-1)), (.int .i64 (-1)), (.int .i64 1), (.int .i64 2), (.int .i64 (-1)), (.int .i64 (-1)), (.int .i64 (-1)), (.int .i64 (-1)), (.int .i64 (-1)), (.int .i64 (-1)), (.int .i64 (-1)), (.int .i64 (-1)), (.int .i64 (-1)), (.int .i64 (-1)), (.int .i64 (-1)), (.int .i64 (-1)), (.int .i64 (-1)), (.int .i64 (-1))])) rfl rfl) ?_
  refine WpL_val rfl rfl (by decide) (r_extract (vs := #[(.agg #[(.int .i64 1), (.int .i64 2), (.int .i64 (-1)), (.int .i64 (-1)), (.int .i64 (-1)), (.int .i64 (-1)), (.int .i64 1), (.int .i64 2), (.int .i64 (-1)), (.int .i64 (-1)), (.int .i64 (-1)), (.int .i64 (-1)), (.int .i64 (-1)), (.int .i64 (-1)), (.int .i64 (-1)), (.int .i64 (-1)), (.int .i64 (-1)), (.int .i64 (-1)), (.int .i64 (-1)), (.int .i64 (-1)), (.int .i64 (-1)), (.int .i64 (-1))]), (.bool true), (.int .i64 0)]) (v := (.bool true)) rfl rfl) ?_
  refine WpL_val rfl rfl (by decide) (r_extract (vs := #[(.agg #[(.int .i64 1), (.int .i64 2), (.int .i64 (-1)), (.int .i64 (-1)), (.int .i64 (-1)), (.int .i64 (-1)), (.int .i64 1), (.int .i64 2), (.int .i64 (-1)), (.int .i64 (-1)), (.int .i64 (-1)), (.int .i64 (-1)), (.int .i64 (-1)), (.int .i64 (-1)), (.int .i64 (-1)), (.int .i64 (-1)), (.int .i64 (-1)), (.int .i64 (-1)), (.int .i64 (-1)), (.int .i64 (-1)), (.int .i64 (-1)), (.int .i64 (-1))]), (.bool true), (.int .i64 0)]) (v := (.int .i64 0)) rfl rfl) ?_
  refine s_allocStore (v := (.agg #[(.int .i64 1), (.int .i64 2), (.int .i64 (-1)), (.int .i64 (-1)), (.int .i64 (-1)), (.int .i64 (-1)), (.int .i64 1), (.int .i64 2), (.int .i64 (-1)), (.int .i64 (-1)), (.int .i64 (-1)), (.int .i64 (-1)), (.int .i64 (-1)), (.int .i64 (-1)), (.int .i64 (-1)), (.int .i64 (-1)), (.int .i64 (-1)), (.int .i64 (-1)), (.int .i64 (-1)), (.int .i64 (-1)), (.int .i64 (-1)), (.int .i64 (-1))])) (c := #[(.int .i64 1), (.int .i64 2), (.int .i64 (-1)), (.int .i64 (-1)), (.int .i64 (-1)), (.int .i64 (-1)), (.int .i64 1), (.int .i64 2), (.int .i64 (-1)), (.int .i64 (-1)), (.int .i64 (-1)), (.int .i64 (-1)), (.int .i64 (-1)), (.int .i64 (-1)), (.int .i64 (-1)), (.int .i64 (-1)), (.int .i64 (-1)), (.int .i64 (-1)), (.int .i64 (-1)), (.int .i64 (-1)), (.int .i64 (-1)), (.int .i64 (-1))]) (n := 22) (by decide) zer33 rfl siz33 rfl rfl rfl (by simp [Value.oneCell']) ?_
  intro b1 w1 N1
  have F1 := N1.ge E
  have O1_bp := N1.lt Bp
  have O1_bq := N1.lt Bq
  replace Bp := N1.keep Bp
  replace Bq := N1.keep Bq
  replace E := E.ext N1.ext
  have B1 := N1.blk
  refine WpL_val rfl rfl (by decide) (r_assign (v := (.bool true)) rfl) ?_
  refine WpL_val rfl rfl (by decide) (r_assign (v := (.int .i64 0)) rfl) ?_
  refine WpL_nil ?_
  refine Wp_seq_region ?_
  refine WpL_val rfl rfl (by decide) (r_move (v := (.int .i64 0)) rfl) ?_
  refine WpL_val rfl rfl (by decide) (r_eql (k := .i64) (a := 0) (b := 0) rfl rfl) ?_
  refine WpL_val rfl rfl (by decide) (r_move (v := (.bool true)) rfl) ?_
  refine WpL_guard_yes (oj := _) rfl rfl (by decide) rfl ?_
  refine WpL_val rfl rfl (by decide) (r_move (v := (.bool true)) rfl) ?_
  refine WpL_val rfl rfl (by decide) (r_pick (b := true) (v := (.bool true)) rfl rfl) ?_
  refine WpL_val rfl rfl (by decide) (r_move (v := (.bool true)) rfl) ?_
  refine WpL_guard_yes (oj := _) rfl rfl (by decide) rfl ?_
  refine WpL_val rfl rfl (by decide) (r_fieldAddr (b := b1) (o := 0) (o' := 0) rfl Try.underlying33 rfl siz3 rfl) ?_
  refine WpL_guard_yes (oj := _) rfl rfl (by decide) rfl ?_
  refine WpL_val rfl rfl (by decide) (r_load (v := (.int .i64 1)) rfl flat3 (B1.cell rfl)) ?_
  refine WpL_guard_yes (oj := _) rfl rfl (by decide) rfl ?_
  refine WpL_val rfl rfl (by decide) (r_eql (k := .i64) (a := 1) (b := 1) rfl rfl) ?_
  refine WpL_val rfl rfl (by decide) (r_pick (b := true) (v := (.bool true)) rfl rfl) ?_
  refine WpL_val rfl rfl (by decide) (r_move (v := (.bool true)) rfl) ?_
  refine WpL_guard_yes (oj := _) rfl rfl (by decide) rfl ?_
  refine WpL_val rfl rfl (by decide) (r_fieldAddr (b := b1) (o := 0) (o' := 1) rfl Try.underlying33 rfl siz3 rfl) ?_
  refine WpL_guard_yes (oj := _) rfl rfl (by decide) rfl ?_
  refine WpL_val rfl rfl (by decide) (r_load (v := (.int .i64 2)) rfl flat3 (B1.cell rfl)) ?_
  refine WpL_guard_yes (oj := _) rfl rfl (by decide) rfl ?_
  refine WpL_val rfl rfl (by decide) (r_eql (k := .i64) (a := 2) (b := 2) rfl rfl) ?_
  refine WpL_val rfl rfl (by decide) (r_pick (b := true) (v := (.bool true)) rfl rfl) ?_
  refine WpL_val rfl rfl (by decide) (r_move (v := (.bool true)) rfl) ?_
  refine WpL_guard_yes (oj := _) rfl rfl (by decide) rfl ?_
  refine WpL_val rfl rfl (by decide) (r_fieldAddr (b := b1) (o := 0) (o' := 2) rfl Try.underlying33 rfl siz31 rfl) ?_
  refine WpL_guard_yes (oj := _) rfl rfl (by decide) rfl ?_
  refine WpL_val rfl rfl (by decide) (r_indexArr (b := b1) (o := 2) (i := 2) (o' := 6) rfl rfl rfl Try.underlying31 siz30 (by omega) (by omega)) ?_
  refine WpL_guard_yes (oj := _) rfl rfl (by decide) rfl ?_
  refine WpL_val rfl rfl (by decide) (r_loadAgg (vs := [(.int .i64 1), (.int .i64 2)]) rfl agg30 siz30 rfl (B1.cells rfl)) ?_
  refine WpL_guard_yes (oj := _) rfl rfl (by decide) rfl ?_
  refine WpL_val rfl rfl (by decide) (r_build (ps := [(0, (.int .i64 1)), (1, (.int .i64 2))]) (v := (.agg #[(.int .i64 1), (.int .i64 2)])) rfl (by kernel_rfl)) ?_
  refine WpL_guard_yes (oj := _) rfl rfl (by decide) rfl ?_
  refine WpL_val (v := (.bool true)) rfl rfl (by decide) ((r_eqlPair (a := 1) (b := 2) (c := 1) (f := 2) Try.underlying30 Try.underlying3 siz3 flat3 eqgPair rfl rfl).trans rfl) ?_
  refine WpL_val rfl rfl (by decide) (r_pick (b := true) (v := (.bool true)) rfl rfl) ?_
  refine WpL_val rfl rfl (by decide) (r_assign (v := (.bool true)) rfl) ?_
  refine WpL_nil ?_
  refine Wp_ret ?_
  refine fin_tmp Try.results6 (v := (.bool true)) rfl ?_
  exact ⟨rfl, E⟩
set_option maxHeartbeats 2000000 in
/-- CaptureTwo. -/
theorem ctwo_c (w0 : World) (v1 v2 : Value) (l t : List Int) (h1 : IntsAt w0 v1 l) (h2 : IntsAt w0 v2 t) :
    Ret Try.prog 3 #[v1, v2] w0 fun v w => v = .bool true ∧ Ext w0 w := by
  obtain ⟨a1, c1, rfl⟩ := SlAt.form h1
  obtain ⟨a2, c2, rfl⟩ := SlAt.form h2
  simp only [List.length_map] at h1 h2 ⊢
  refine Ret_of Try.func3 rfl Try.ntmps3 (Nat.le_of_ble_eq_true rfl) ?_
  have E : Chg none1 w0 w0 := Chg.refl _ _
  refine Wp_seq_region ?_
  refine WpL_val rfl rfl (by decide) (r_assign (v := (.bool false)) rfl) ?_
  refine WpL_nil ?_
  refine Wp_seq ?_
  refine Wp_seq_region ?_
  refine WpL_enter rfl rfl (by decide) (r_callF (vs := []) Try.func6 nm6 bd6 rfl) (cbegun_c _) ?_
  rintro _ w9 ⟨rfl, X9⟩
  replace E := E.ext X9
  refine WpL_val rfl rfl (by decide) (r_not (b := true) rfl) ?_
  refine WpL_nil ?_
  refine Wp_cond_false rfl ?_
  refine Wp_skip ?_
  refine thn_normal ?_
  refine Wp_seq_region ?_
  refine WpL_val rfl rfl (by decide) (r_move (v := (.slice a1 l.length c1)) rfl) ?_
  refine WpL_enter rfl rfl (by decide) (r_callF (vs := [(.slice a1 l.length c1)]) Try.func7 nm7 bd7 rfl) (mkReAll_c _ _ l (h1.ext E)) ?_
  rintro _ wa ⟨a, us, rfl, ga, za, ha, Xa⟩
  replace E := E.ext Xa
  have hat := ReIn.at a ha
  obtain ⟨sa, sc, aa, ac, rfl, _, _, _⟩ := ha.form
  refine WpL_val rfl rfl (by decide) (r_move (v := (.slice a2 t.length c2)) rfl) ?_
  refine WpL_enter rfl rfl (by decide) (r_callF (vs := [(.slice a2 t.length c2)]) Try.func8 nm8 bd8 rfl) (text_c _ _ t (h2.ext E)) ?_
  rintro _ wt ⟨ta, tc, text, rfl, htx, htl, htr, Xt⟩
  replace E := E.ext Xt
  obtain ⟨L, hL⟩ : ∃ L, L = fndO (findO a text) := ⟨_, rfl⟩
  have hLn : L.length = 22 := by rw [hL]; exact findO_len _ _
  have hL1 : ∀ v ∈ L, v.oneCell' = true := by rw [hL]; exact fndO_one _
  have hV : findV a text = .tuple #[.agg L.toArray, .bool (findO a text).isSome, .int .i64 (capP a text)] := by unfold findV; rw [hL]
  refine s_allocStore (v := (.agg #[(.int .i64 a.kind), (.slice sa a.set.length sc), (.slice aa a.args.length ac), (.int .i64 a.mn), (.int .i64 a.mx), (.bool a.neg)])) (c := #[(.int .i64 a.kind), (.slice sa a.set.length sc), (.slice aa a.args.length ac), (.int .i64 a.mn), (.int .i64 a.mx), (.bool a.neg)]) (n := 6) (by decide) zer27 rfl siz27 rfl rfl rfl (by simp [Value.oneCell']) ?_
  intro bo wo No
  have Fo := No.ge E
  replace E := E.ext No.ext
  have Bo := No.blk
  refine WpL_val rfl rfl (by decide) (r_assign (v := (.slice ta text.length tc)) rfl) ?_
  refine WpL_nil ?_
  refine Wp_seq_region ?_
  refine WpL_val rfl rfl (by decide) (r_loadAgg (vs := [(.int .i64 a.kind), (.slice sa a.set.length sc), (.slice aa a.args.length ac), (.int .i64 a.mn), (.int .i64 a.mx), (.bool a.neg)]) rfl agg27 siz27 rfl (Bo.cells rfl)) ?_
  refine WpL_val rfl rfl (by decide) (r_move (v := (.slice ta text.length tc)) rfl) ?_
  refine WpL_enter rfl rfl (by decide) (r_callF (vs := [(.agg #[(.int .i64 a.kind), (.slice sa a.set.length sc), (.slice aa a.args.length ac), (.int .i64 a.mn), (.int .i64 a.mx), (.bool a.neg)]), (.slice ta text.length tc)]) Try.func9 nm9 bd9 rfl) (find_c _ a _ _ text (ReAt.ext (Xt.trans No.ext) a hat) (htx.ext No.ext) |>.mono (R' := fun r w => r = .tuple #[.agg L.toArray, .bool (findO a text).isSome, .int .i64 (capP a text)] ∧ Ext _ w) (fun r w h => ⟨h.1.trans hV, h.2⟩)) ?_
  rintro _ w19 ⟨rfl, X19⟩
  replace Bo := X19.keep Bo
  replace E := E.ext X19
  refine WpL_val rfl rfl (by decide) (r_move (v := (.tuple #[(.agg L.toArray), (.bool ((findO a text).isSome)), (.int .i64 (capP a text))])) rfl) ?_
  refine WpL_val rfl rfl (by decide) (r_extract (vs := #[(.agg L.toArray), (.bool ((findO a text).isSome)), (.int .i64 (capP a text))]) (v := (.agg L.toArray)) rfl rfl) ?_
  refine WpL_val rfl rfl (by decide) (r_extract (vs := #[(.agg L.toArray), (.bool ((findO a text).isSome)), (.int .i64 (capP a text))]) (v := (.bool ((findO a text).isSome))) rfl rfl) ?_
  refine WpL_val rfl rfl (by decide) (r_extract (vs := #[(.agg L.toArray), (.bool ((findO a text).isSome)), (.int .i64 (capP a text))]) (v := (.int .i64 (capP a text))) rfl rfl) ?_
  refine s_allocStore (v := (.agg L.toArray)) (c := L.toArray) (n := 22) (by decide) zer33 rfl siz33 rfl rfl (by simpa using hLn) (by simpa using hL1) ?_
  intro bf wf Nf
  have Ff := Nf.ge E
  have Of_bo := Nf.lt Bo
  replace Bo := Nf.keep Bo
  replace E := E.ext Nf.ext
  have Bf := Nf.blk
  refine WpL_val rfl rfl (by decide) (r_assign (v := (.bool ((findO a text).isSome))) rfl) ?_
  refine WpL_val rfl rfl (by decide) (r_assign (v := (.int .i64 (capP a text))) rfl) ?_
  refine WpL_nil ?_
  refine Wp_seq_region ?_
  refine WpL_val rfl rfl (by decide) (r_loadAgg (vs := [(.int .i64 a.kind), (.slice sa a.set.length sc), (.slice aa a.args.length ac), (.int .i64 a.mn), (.int .i64 a.mx), (.bool a.neg)]) rfl agg27 siz27 rfl (Bo.cells rfl)) ?_
  refine WpL_val rfl rfl (by decide) (r_move (v := (.slice ta text.length tc)) rfl) ?_
  refine WpL_enter rfl rfl (by decide) (r_callF (vs := [(.agg #[(.int .i64 a.kind), (.slice sa a.set.length sc), (.slice aa a.args.length ac), (.int .i64 a.mn), (.int .i64 a.mx), (.bool a.neg)]), (.slice ta text.length tc)]) Try.func10 nm10 bd10 rfl) (tagged_c _ a _ _ text (ReAt.ext (Xt.trans (No.ext.trans (X19.trans Nf.ext))) a hat) (htx.ext (No.ext.trans (X19.trans Nf.ext))) |>.mono (R' := fun r w => r = .tuple #[.agg L.toArray, .bool (findO a text).isSome, .int .i64 (capP a text)] ∧ Ext _ w) (fun r w h => ⟨h.1.trans hV, h.2⟩)) ?_
  rintro _ w29 ⟨rfl, X29⟩
  replace Bo := X29.keep Bo
  replace Bf := X29.keep Bf
  replace E := E.ext X29
  refine WpL_val rfl rfl (by decide) (r_move (v := (.tuple #[(.agg L.toArray), (.bool ((findO a text).isSome)), (.int .i64 (capP a text))])) rfl) ?_
  refine WpL_val rfl rfl (by decide) (r_extract (vs := #[(.agg L.toArray), (.bool ((findO a text).isSome)), (.int .i64 (capP a text))]) (v := (.agg L.toArray)) rfl rfl) ?_
  refine WpL_val rfl rfl (by decide) (r_extract (vs := #[(.agg L.toArray), (.bool ((findO a text).isSome)), (.int .i64 (capP a text))]) (v := (.bool ((findO a text).isSome))) rfl rfl) ?_
  refine WpL_val rfl rfl (by decide) (r_extract (vs := #[(.agg L.toArray), (.bool ((findO a text).isSome)), (.int .i64 (capP a text))]) (v := (.int .i64 (capP a text))) rfl rfl) ?_
  refine s_allocStore (v := (.agg L.toArray)) (c := L.toArray) (n := 22) (by decide) zer33 rfl siz33 rfl rfl (by simpa using hLn) (by simpa using hL1) ?_
  intro bg wg Ng
  have Fg := Ng.ge E
  have Og_bo := Ng.lt Bo
  have Og_bf := Ng.lt Bf
  replace Bo := Ng.keep Bo
  replace Bf := Ng.keep Bf
  replace E := E.ext Ng.ext
  have Bg := Ng.blk
  refine WpL_val rfl rfl (by decide) (r_assign (v := (.bool ((findO a text).isSome))) rfl) ?_
  refine WpL_val rfl rfl (by decide) (r_assign (v := (.int .i64 (capP a text))) rfl) ?_
  refine WpL_nil ?_
  refine Wp_seq_region ?_
  refine WpL_val rfl rfl (by decide) (r_move (v := (.int .i64 (capP a text))) rfl) ?_
  refine WpL_val rfl rfl (by decide) (r_move (v := (.int .i64 (capP a text))) rfl) ?_
  refine WpL_val rfl rfl (by decide) (r_eql (k := .i64) (a := capP a text) (b := capP a text) rfl rfl) ?_
  refine WpL_val rfl rfl (by decide) (r_move (v := (.bool (decide ((capP a text : Int) = capP a text)))) rfl) ?_
  have hg1 : (decide ((capP a text : Int) = capP a text)) = true := by simp
  refine WpL_guard_yes (oj := _) rfl rfl (by decide) (congrArg Value.bool hg1) ?_
  refine WpL_val rfl rfl (by decide) (r_move (v := (.bool ((findO a text).isSome))) rfl) ?_
  refine WpL_guard_yes (oj := _) rfl rfl (by decide) (congrArg Value.bool hg1) ?_
  refine WpL_val rfl rfl (by decide) (r_move (v := (.bool ((findO a text).isSome))) rfl) ?_
  refine WpL_guard_yes (oj := _) rfl rfl (by decide) (congrArg Value.bool hg1) ?_
  refine WpL_val rfl rfl (by decide) (r_eqlB (p := (findO a text).isSome) (q := (findO a text).isSome) Try.underlying4 rfl rfl) ?_
  refine WpL_val rfl rfl (by decide) (r_pick (b := decide ((capP a text : Int) = capP a text)) (v := (.bool (((findO a text).isSome) == ((findO a text).isSome)))) rfl (by rw [hg1]; rfl)) ?_
  refine WpL_val rfl rfl (by decide) (r_move (v := (.bool (((findO a text).isSome) == ((findO a text).isSome)))) rfl) ?_
  have hg2 : (((findO a text).isSome) == ((findO a text).isSome)) = true := by simp
  refine WpL_guard_yes (oj := _) rfl rfl (by decide) (congrArg Value.bool hg2) ?_
  refine WpL_val rfl rfl (by decide) (r_loadAgg (vs := L) rfl agg33 siz33 hLn (Bf.cells (by simp))) ?_
  refine WpL_guard_yes (oj := _) rfl rfl (by decide) (congrArg Value.bool hg2) ?_
  refine WpL_val rfl rfl (by decide) (r_loadAgg (vs := L) rfl agg33 siz33 hLn (Bg.cells (by simp))) ?_
  refine WpL_guard_yes (oj := _) rfl rfl (by decide) (congrArg Value.bool hg2) ?_
  refine WpL_val (v := (.bool true)) rfl rfl (by decide) (r_eqFd hL hLn rfl rfl) ?_
  refine WpL_val rfl rfl (by decide) (r_pick (b := ((findO a text).isSome) == ((findO a text).isSome)) (v := (.bool true)) rfl (by rw [hg2]; rfl)) ?_
  refine WpL_val rfl rfl (by decide) (r_assign (v := (.bool true)) rfl) ?_
  refine WpL_nil ?_
  refine Wp_ret ?_
  refine fin_tmp Try.results3 (v := (.bool true)) rfl ?_
  exact ⟨rfl, E⟩
end Go.Proofs
