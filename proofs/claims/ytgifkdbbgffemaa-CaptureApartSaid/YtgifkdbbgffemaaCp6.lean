/- Contracts and plain lemmas, part 6. -/
import Derived.Tactics
import Derived.Deep.Quiet
import Derived.Laws.AppendOwn
import Derived.KernelRfl
import Derived.Laws.Entries
import Derived.Laws.Build
import Derived.Below
import Derived.RowKit3
import Derived.StillTail
import Derived.Sort.Grow
import Derived.Deep.Draws
import Derived.Test.YtgifkdbbgffemaaChecked
import Derived.Laws.StructEq
import Derived.MapKept
import Derived.Laws.BytesArg
import Derived.DeepKeys3
import Derived.Test.YtgifkdbbgffemaaCp5
namespace Go.Proofs
open Go Go.Eng Go.Sort
set_option maxRecDepth 100000
theorem intsw_own {w : World} {ta : Option Addr} {tn tc : Nat} {l : List Int} (h : IntsAt w (.slice ta tn tc) l) : l = [] ∨ ∃ b, (Value.slice ta tn tc).ownBlock = some b ∧ b < w.heap.size := by
  obtain ⟨a, c, e, _, _, h⟩ := h
  cases e
  rcases h with h | ⟨b, o, rfl, h⟩
  · exact .inl (by simpa using h)
  · cases l with
    | nil => exact .inl rfl
    | cons x l => exact .inr ⟨b, rfl, World.block_lt_of_cell? w _ (h 0 _ rfl 0 _ rfl)⟩
def findO (t : Re) (text : List Int) : Option (Nat × Nat × Grp) := if capP t text ≠ 0 then none else fromO text t 0
theorem findO_len (t : Re) (text : List Int) : (fndO (findO t text)).length = 22 := by
  unfold findO
  split
  · rfl
  · exact fndO_len _ 0 (Nat.le_refl _) (Nat.zero_le _)
theorem fndO_one (o : Option (Nat × Nat × Grp)) : ∀ v ∈ fndO o, v.oneCell' = true := by
  cases o with
  | none => exact fnd_one _ _ _
  | some q => exact fnd_one _ _ _
def findV (t : Re) (text : List Int) : Value := .tuple #[.agg (fndO (findO t text)).toArray, .bool (findO t text).isSome, .int .i64 (capP t text)]
set_option maxHeartbeats 2000000 in
theorem find_c (w0 : World) (t : Re) (vs : List Value) (v : Value) (text : List Int) (ht : ReAt w0 t vs) (htx : IntsAt w0 v text) :
    Ret Try.prog 9 #[.agg vs.toArray, v] w0 fun r w => r = findV t text ∧ Ext w0 w := by
  have ht0 := ht
  obtain ⟨sa, sc, aa, ac, rfl, hset, hlen, hargs⟩ := ht.form
  obtain ⟨ta, tc, rfl⟩ := SlAt.form htx
  simp only [List.length_map] at htx ⊢
  refine Ret_of Try.func9 rfl Try.ntmps9 (Nat.le_of_ble_eq_true rfl) ?_
  have E : Chg none1 w0 w0 := Chg.refl _ _
  refine Wp_seq_region ?_
  refine s_box (v := (.agg #[(.int .i64 t.kind), (.slice sa t.set.length sc), (.slice aa t.args.length ac), (.int .i64 t.mn), (.int .i64 t.mx), (.bool t.neg)])) (c := #[(.int .i64 t.kind), (.slice sa t.set.length sc), (.slice aa t.args.length ac), (.int .i64 t.mn), (.int .i64 t.mx), (.bool t.neg)]) (by decide) rfl rfl ?_
  intro bx wx Nx
  have Fx := Nx.ge E
  replace E := E.ext Nx.ext
  have Bx := Nx.blk
  refine s_alloc (by decide) zer33 rfl ?_
  intro bo wo No
  have Fo := No.ge E
  have Oo_bx := No.lt Bx
  replace Bx := No.keep Bx
  replace E := E.ext No.ext
  have Bo := No.blk
  refine WpL_val rfl rfl (by decide) (r_assign (v := (.bool false)) rfl) ?_
  refine WpL_val rfl rfl (by decide) (r_assign (v := (.int .i64 0)) rfl) ?_
  refine WpL_nil ?_
  refine Wp_seq ?_
  refine Wp_seq_region ?_
  refine WpL_val rfl rfl (by decide) (r_loadAgg (vs := [(.int .i64 t.kind), (.slice sa t.set.length sc), (.slice aa t.args.length ac), (.int .i64 t.mn), (.int .i64 t.mx), (.bool t.neg)]) rfl agg27 siz27 rfl (Bx.cells rfl)) ?_
  refine WpL_val rfl rfl (by decide) (r_move (v := (.slice ta text.length tc)) rfl) ?_
  refine WpL_enter rfl rfl (by decide) (r_callF (vs := [(.agg #[(.int .i64 t.kind), (.slice sa t.set.length sc), (.slice aa t.args.length ac), (.int .i64 t.mn), (.int .i64 t.mx), (.bool t.neg)]), (.slice ta text.length tc)]) Try.func20 nm20 bd20 rfl) (capchk_c _ t _ _ text (ReAt.ext E t ht0) (htx.ext E)) ?_
  rintro _ w9 ⟨rfl, X9⟩
  replace Bx := X9.keep Bx
  replace Bo := X9.keep Bo
  replace E := E.ext X9
  refine WpL_val rfl rfl (by decide) (r_assign (v := (.int .i64 (capP t text))) rfl) ?_
  refine WpL_nil ?_
  refine Wp_seq_region ?_
  refine WpL_val rfl rfl (by decide) (r_move (v := (.int .i64 (capP t text))) rfl) ?_
  refine WpL_val rfl rfl (by decide) (r_neq (k := .i64) (a := capP t text) (b := 0) rfl rfl) ?_
  refine WpL_nil ?_
  refine Wp_cond (b := decide ((capP t text : Int) ≠ 0)) rfl (fun h1 => ?_) (fun h1 => ?_)
  · have kh1 := h1
    replace h1 := of_decide_eq_true h1
    refine Wp_seq_region ?_
    refine WpL_val rfl rfl (by decide) (r_build (ps := []) (v := (.agg #[(.int .i64 0), (.int .i64 0), (.int .i64 0), (.int .i64 0), (.int .i64 0), (.int .i64 0), (.int .i64 0), (.int .i64 0), (.int .i64 0), (.int .i64 0), (.int .i64 0), (.int .i64 0), (.int .i64 0), (.int .i64 0), (.int .i64 0), (.int .i64 0), (.int .i64 0), (.int .i64 0), (.int .i64 0), (.int .i64 0), (.int .i64 0), (.int .i64 0)])) rfl (by kernel_rfl)) ?_
    refine WpL_val rfl rfl (by decide) (r_move (v := (.int .i64 (capP t text))) rfl) ?_
    refine s_storeAgg (b := bo) (o := 0) (c' := #[(.int .i64 0), (.int .i64 0), (.int .i64 0), (.int .i64 0), (.int .i64 0), (.int .i64 0), (.int .i64 0), (.int .i64 0), (.int .i64 0), (.int .i64 0), (.int .i64 0), (.int .i64 0), (.int .i64 0), (.int .i64 0), (.int .i64 0), (.int .i64 0), (.int .i64 0), (.int .i64 0), (.int .i64 0), (.int .i64 0), (.int .i64 0), (.int .i64 0)]) rfl rfl (by simp [Value.oneCell']) siz33 rfl Bo (by first | (simp; done) | exact Nat.le_of_ble_eq_true rfl) rfl ?_
    intro w2 S2
    replace Bx := S2.keep (by omega) Bx
    replace E := S2.step E (by first | exact Or.inl (by omega) | exact Or.inr rfl | exact Or.inr (by assumption) | exact Or.inr (by simp) | exact Or.inr (by omega) | exact Or.inr (by dsimp only; omega))
    replace Bo := S2.blk
    refine WpL_val rfl rfl (by decide) (r_assign (v := (.bool false)) rfl) ?_
    refine WpL_val rfl rfl (by decide) (r_assign (v := (.int .i64 (capP t text))) rfl) ?_
    refine WpL_nil ?_
    refine Wp_ret ?_
    refine thn_ret ?_
    refine fin_agg_tmp2 Try.results9 (vs := fndV 0 0 (List.replicate 10 (0, 0))) (b := bo) (v' := .bool false) (v'' := .int .i64 (capP t text)) rfl agg33 siz33 rfl (Bo.cells rfl) rfl rfl ?_
    exact ⟨by unfold findV findO; rw [if_pos h1]; rfl, E⟩
  · have kh1 := h1
    replace h1 := of_decide_eq_false h1
    have h0 : capP t text = 0 := by omega
    obtain ⟨hC, hn⟩ := capP_zero h0
    obtain ⟨z, hz⟩ : ∃ z, z = (w9).heap.size := ⟨_, rfl⟩
    have hfl := frg_len _ t (Nat.le_refl _) hC.ok hC.us hC.ln 0 0 0
    have hzs : w0.heap.size ≤ z := by rw [hz]; exact E.size
    have hln := hC.ln
    have hsz := hC.sz
    refine Wp_skip ?_
    refine thn_normal ?_
    refine Wp_seq_region ?_
    refine WpL_val rfl rfl (by decide) (r_loadAgg (vs := [(.int .i64 t.kind), (.slice sa t.set.length sc), (.slice aa t.args.length ac), (.int .i64 t.mn), (.int .i64 t.mx), (.bool t.neg)]) rfl agg27 siz27 rfl (Bx.cells rfl)) ?_
    refine WpL_enter rfl rfl (by decide) (r_callF (vs := [(.agg #[(.int .i64 t.kind), (.slice sa t.set.length sc), (.slice aa t.args.length ac), (.int .i64 t.mn), (.int .i64 t.mx), (.bool t.neg)])]) Try.func22 nm22 bd22 rfl) (translate_c _ (fun y => y < z) _ _ t (of_all _ t.size t (Nat.le_refl _) hC.ok hC.us hC.ln hC.sz) (ReAt.ext E t ht0) (Ext.refl _) (fun y h => by omega) (fun y h => by omega) (by omega) (by unfold tempsOf; omega) (by omega)) ?_
    rintro _ w19 ⟨⟨F', pb, rfl, hF1, hF2, hF3, hPr⟩, X19⟩
    replace Bx := X19.keep Bx
    replace Bo := X19.keep Bo
    replace E := E.ext X19
    obtain ⟨L, hL⟩ : ∃ L, L = fndO (fromO text t 0) := ⟨_, rfl⟩
    have hLn : L.length = 22 := by rw [hL]; exact fndO_len _ 0 (Nat.le_refl _) (Nat.zero_le _)
    have hL1 : ∀ v ∈ L, v.oneCell' = true := by rw [hL]; exact fndO_one _
    refine WpL_val rfl rfl (by decide) (r_move (v := (.slice ta text.length tc)) rfl) ?_
    refine WpL_enter rfl rfl (by decide) (r_callF (vs := [(.pointer (some ⟨pb, 0, none⟩)), (.slice ta text.length tc), (.int .i64 0)]) Try.func21 nm21 bd21 rfl) ((from_c F' _ pb t ta text.length tc 0 text hPr hF3 (htx.ext E) ((intsw_own htx).imp_right fun ⟨b, h1, h2⟩ => ⟨b, h1, hF1 b (by omega)⟩) (by omega) (wf_of t hC.ok hC.us) (by omega) (Nat.zero_le _)).mono (R' := fun r w => r = .tuple #[.agg L.toArray, .bool (fromO text t 0).isSome] ∧ Ext w19 w) (fun r w h => ⟨by rw [h.1, hL], h.2⟩)) ?_
    rintro _ w29 ⟨rfl, X29⟩
    replace Bx := X29.keep Bx
    replace Bo := X29.keep Bo
    replace E := E.ext X29
    refine WpL_val rfl rfl (by decide) (r_move (v := (.tuple #[(.agg L.toArray), (.bool ((fromO text t 0).isSome))])) rfl) ?_
    refine WpL_val rfl rfl (by decide) (r_extract (vs := #[(.agg L.toArray), (.bool ((fromO text t 0).isSome))]) (v := (.agg L.toArray)) rfl rfl) ?_
    refine WpL_val rfl rfl (by decide) (r_extract (vs := #[(.agg L.toArray), (.bool ((fromO text t 0).isSome))]) (v := (.bool ((fromO text t 0).isSome))) rfl rfl) ?_
    refine s_allocStore (v := (.agg L.toArray)) (c := L.toArray) (n := 22) (by decide) zer33 rfl siz33 rfl rfl (by simpa using hLn) (by simpa using hL1) ?_
    intro b3 w3 N3
    have F3 := N3.ge E
    have O3_bx := N3.lt Bx
    have O3_bo := N3.lt Bo
    replace Bx := N3.keep Bx
    replace Bo := N3.keep Bo
    replace E := E.ext N3.ext
    have B3 := N3.blk
    refine WpL_val rfl rfl (by decide) (r_assign (v := (.bool ((fromO text t 0).isSome))) rfl) ?_
    refine WpL_nil ?_
    refine Wp_seq_region ?_
    refine WpL_val rfl rfl (by decide) (r_loadAgg (vs := L) rfl agg33 siz33 hLn (B3.cells (by simp))) ?_
    refine WpL_val rfl rfl (by decide) (r_move (v := (.bool ((fromO text t 0).isSome))) rfl) ?_
    refine s_storeAgg (b := bo) (o := 0) (n := 22) (c' := L.toArray) (vs := L.toArray) rfl rfl (hL1) siz33 (by simpa using hLn) Bo (Nat.le_of_ble_eq_true rfl) (by simp [hLn, Value.cells]) ?_
    intro w4 S4
    replace Bx := S4.keep (by omega) Bx
    replace B3 := S4.keep (by omega) B3
    replace E := S4.step E (by first | exact Or.inl (by omega) | exact Or.inr rfl | exact Or.inr (by assumption) | exact Or.inr (by simp) | exact Or.inr (by omega) | exact Or.inr (by dsimp only; omega))
    replace Bo := S4.blk
    refine WpL_val rfl rfl (by decide) (r_assign (v := (.bool ((fromO text t 0).isSome))) rfl) ?_
    refine WpL_val rfl rfl (by decide) (r_assign (v := (.int .i64 0)) rfl) ?_
    refine WpL_nil ?_
    refine Wp_ret ?_
    refine fin_agg_tmp2 Try.results9 (vs := L) (b := bo) (v' := .bool (fromO text t 0).isSome) (v'' := .int .i64 0) rfl agg33 siz33 hLn (Bo.cells (by simp)) rfl rfl ?_
    exact ⟨by unfold findV findO; rw [if_neg h1, h0, hL], E⟩
end Go.Proofs
namespace Go.Proofs
open Go Go.Eng Go.Sort
set_option maxRecDepth 100000
theorem eqItems_refl {P : Program} {w : World} {dd n : Nat} {e : TypeId} {xs : Array Value} : ∀ is : List Nat, (∀ i ∈ is, ∃ v, (part e xs (i * n)).run P w = .ok v w ∧ (Op.equalIn dd e v v).run P w = .ok true w) → (Op.eqItems dd e n xs xs is).run P w = .ok true w
  | [], _ => by simp [Op.eqItems]
  | i :: is, h => by
    obtain ⟨v, h1, h2⟩ := h i (by simp)
    have ih := eqItems_refl is fun j hj => h j (by simp [hj])
    simp only [Op.eqItems, Sem.run_bind, h1, h2, Result.andThen_ok, Bool.not_true, Bool.false_eq_true, if_false]
    exact ih
theorem eqFields_refl {P : Program} {w : World} {dd : Nat} {xs : Array Value} : ∀ fs : List Field, (∀ f ∈ fs, ∃ v, (part f.type xs f.offset).run P w = .ok v w ∧ (Op.equalIn dd f.type v v).run P w = .ok true w) → (Op.eqFields dd xs xs fs).run P w = .ok true w
  | [], _ => by simp [Op.eqFields]
  | f :: fs, h => by
    obtain ⟨v, h1, h2⟩ := h f (by simp)
    have ih := eqFields_refl fs fun j hj => h j (by simp [hj])
    unfold Op.eqFields
    split
    · simp only [Sem.run_bind, h1, h2, Result.andThen_ok, Bool.not_true, Bool.false_eq_true, if_false]
      exact ih
    · exact ih
abbrev TGr : Nat := 31
theorem eqGr (w : World) (d : Nat) (G : Grp) (hG : G.length = 10) : (Op.equalIn (d + 3) TGr (.agg (grpV G).toArray) (.agg (grpV G).toArray)).run Try.prog w = .ok true w := by
  obtain ⟨i, hi⟩ : ∃ i, (Try.prog).info? 30 = some i := by
    have h : ((Try.prog).info? 30).isSome = true := by kernel_rfl
    exact Option.isSome_iff_exists.1 h
  have hc : (Try.prog).cellsOf 30 = 2 := by kernel_rfl
  rw [run_equalIn_array w (d + 2) _ _ Try.underlying31 hi, hc]
  refine eqItems_refl _ fun k hk => ?_
  have hk : k < 10 := List.mem_range.1 hk
  obtain ⟨q, hq⟩ := get_of_lt (l := G) (i := k) (by omega)
  have hs := grpV_get G k q hq
  have hl := grpV_len G
  refine ⟨.agg #[.int .i64 q.1, .int .i64 q.2], ?_, ?_⟩
  · have hag : (isAgg 30).run Try.prog w = .ok true w := by kernel_rfl
    have hsz : (sizeOf 30).run Try.prog w = .ok 2 w := by kernel_rfl
    unfold part
    simp only [Sem.run_bind, hag, hsz, Result.andThen_ok, if_true, Sem.run_pure]
    congr 2
    apply Array.ext'
    rw [Array.toList_extract, List.toList_toArray]
    apply List.ext_getElem?
    intro j
    simp only [List.extract, List.getElem?_take, List.getElem?_drop]
    match j with
    | 0 => rw [if_pos (by omega)]; exact hs.1
    | 1 => rw [if_pos (by omega)]; exact hs.2
    | j + 2 => rw [if_neg (by omega)]; rfl
  · rw [equalIn_pair d q.1 q.2 q.1 q.2 Try.underlying30 Try.underlying3 siz3 flat3]
    simp
theorem eqFd (w : World) (f t : Int) (G : Grp) (hG : G.length = 10) : (Op.equalIn 10000 TFd (.agg (fndV f t G).toArray) (.agg (fndV f t G).toArray)).run Try.prog w = .ok true w := by
  have hu : (Try.prog).underlying TFd = some (.struct ((Try.prog).fieldsOf TFd)) := by kernel_rfl
  have hst : (Try.prog).stoodInHeld TFd = false := by kernel_rfl
  have hm : ((Try.prog).fieldsOf TFd).toList.map (fun g => (g.type, g.offset)) = [(3, 0), (3, 1), (TGr, 2)] := by kernel_rfl
  have hl := grpV_len G
  have hp : (Try.prog).plainKey 3 = true := by kernel_rfl
  have hq : ∀ x : Int, (Op.equalIn (9998 + 1) 3 (.int .i64 x) (.int .i64 x)).run Try.prog w = .ok true w := fun x => by rw [run_equalIn_int w 9998 3 .i64 .i64 x x Try.underlying3]; simp
  rw [run_equalIn_struct w 9999 TFd _ _ hu hst]
  refine eqFields_refl _ fun g hg => ?_
  have h9 : (g.type, g.offset) ∈ [((3 : Nat), 0), (3, 1), (TGr, 2)] := by rw [← hm]; exact List.mem_map.2 ⟨g, hg, rfl⟩
  simp only [List.mem_cons, List.not_mem_nil, or_false, Prod.mk.injEq] at h9
  rcases h9 with ⟨e1, e2⟩ | ⟨e1, e2⟩ | ⟨e1, e2⟩
  · rw [e1, e2]; exact ⟨_, run_part_plain w hp (v := .int .i64 f) rfl, hq f⟩
  · rw [e1, e2]; exact ⟨_, run_part_plain w hp (v := .int .i64 t) rfl, hq t⟩
  · rw [e1, e2]
    refine ⟨.agg (grpV G).toArray, ?_, eqGr w 9996 G hG⟩
    have hag : (isAgg TGr).run Try.prog w = .ok true w := by kernel_rfl
    have hsz : (sizeOf TGr).run Try.prog w = .ok 20 w := by kernel_rfl
    unfold part
    simp only [Sem.run_bind, hag, hsz, Result.andThen_ok, if_true, Sem.run_pure]
    congr 2
    apply Array.ext'
    rw [Array.toList_extract, List.toList_toArray, List.toList_toArray]
    show (grpV G).take 20 = grpV G
    exact List.take_of_length_le (by omega)
theorem eqFo (w : World) (o : Option (Nat × Nat × Grp)) (h : (fndO o).length = 22) : (Op.equalIn 10000 TFd (.agg (fndO o).toArray) (.agg (fndO o).toArray)).run Try.prog w = .ok true w := by
  cases o with
  | none => exact eqFd w 0 0 _ rfl
  | some q =>
    refine eqFd w _ _ _ ?_
    simp only [fndO, fndV, List.length_append, grpV_len, List.length_cons, List.length_nil] at h
    omega
theorem eqgFd : Try.prog.eqGuardType Try.prog.depth TFd = false := by kernel_rfl
theorem r_neqFd {σ : Env} {w : World} {dst : Option Tmp} {ty t' : TypeId} {pos : String} {af : Array Edge} {g : Option (Nat × Bool)} {x y : Operand} {L : List Value} {o : Option (Nat × Nat × Grp)} (hL : L = fndO o) (hl : L.length = 22) (hx : ev σ x = .agg L.toArray) (hy : ev σ y = .agg L.toArray) :
    (execOp (ev σ) ⟨dst, .binOp .neq TFd x y t', ty, pos, af, g⟩).run Try.prog w = .ok (.value (.bool false)) w := by
  have h := eqFo w o (hL ▸ hl)
  rw [← hL] at h
  simp only [execOp, hx, hy, Sem.run_bind, run_eqGuard_agg w .neq TFd x y _ _ eqgFd, Result.andThen_ok, run_neq_struct, h]
  rfl
def begT : Re := .mk 9 [] [oneT 98] 2 0 false
abbrev begG : Grp := [(-1, -1), (-1, -1), (1, 2), (-1, -1), (-1, -1), (-1, -1), (-1, -1), (-1, -1), (-1, -1), (-1, -1)]
theorem beg_cap : capP begT [97, 98] = 0 := by decide
theorem beg_find : findO begT [97, 98] = some (1, 2, begG) := by
  have e0 : (crsOf [97, 98] begT 0 G0).head? = none := by decide +kernel
  have e1 : (crsOf [97, 98] begT 1 G0).head? = some (2, begG) := by decide +kernel
  unfold findO
  rw [if_neg (by rw [beg_cap]; decide), fromO, if_pos (by decide), e0]
  show fromO [97, 98] begT 1 = _
  rw [fromO, if_pos (by decide), e1]
theorem beg_val : findV begT [97, 98] = .tuple #[.agg (fndV 1 2 begG).toArray, .bool true, .int .i64 0] := by
  unfold findV
  rw [beg_find, beg_cap]
  rfl
set_option maxHeartbeats 1000000 in
theorem cbegun_c (w0 : World) : Ret Try.prog 6 #[] w0 fun v w => v = .bool true ∧ Ext w0 w := by
  refine Ret_of Try.func6 rfl Try.ntmps6 (Nat.le_of_ble_eq_true rfl) ?_
  have E : Chg none1 w0 w0 := Chg.refl _ _
  refine Wp_seq_region ?_
  refine WpL_val rfl rfl (by decide) (r_assign (v := (.bool false)) rfl) ?_
  refine WpL_nil ?_
  refine Wp_seq_region ?_
  refine WpL_enter rfl rfl (by decide) (r_callF (vs := [(.int .i64 98)]) Try.func17 nm17 bd17 rfl) (one_c _ 98) ?_
  rintro _ w9 ⟨b, rfl, hsp, X9⟩
  replace E := E.ext X9
  refine s_buildSlice (ps := [(0, (.agg #[(.int .i64 2), (.slice (some ⟨b, 0, none⟩) 1 1), (.slice none 0 0), (.int .i64 0), (.int .i64 0), (.bool false)]))]) (c := #[(.int .i64 2), (.slice (some ⟨b, 0, none⟩) 1 1), (.slice none 0 0), (.int .i64 0), (.int .i64 0), (.bool false)]) (by decide) rfl Try.underlying25 siz27 zer27 (by decide) (by decide) (by kernel_rfl) ?_
  intro bp wp Np
  have Fp := Np.ge E
  replace E := E.ext Np.ext
  have Bp := Np.blk
  refine WpL_val rfl rfl (by decide) (r_build (ps := [(0, (.int .i64 9)), (3, (.int .i64 2)), (2, (.slice (some ⟨bp, 0, none⟩) 1 1))]) (v := (.agg #[(.int .i64 9), (.slice none 0 0), (.slice (some ⟨bp, 0, none⟩) 1 1), (.int .i64 2), (.int .i64 0), (.bool false)])) rfl (by kernel_rfl)) ?_
  refine s_buildSlice (ps := [(0, (.int .i64 97)), (1, (.int .i64 98))]) (c := #[(.int .i64 97), (.int .i64 98)]) (by decide) rfl Try.underlying22 siz3 zer3 (by decide) (by decide) (by kernel_rfl) ?_
  intro bq wq Nq
  have Fq := Nq.ge E
  have Oq_bp := Nq.lt Bp
  replace Bp := Nq.keep Bp
  replace E := E.ext Nq.ext
  have Bq := Nq.blk
  refine WpL_enter rfl rfl (by decide) (r_callF (vs := [(.agg #[(.int .i64 9), (.slice none 0 0), (.slice (some ⟨bp, 0, none⟩) 1 1), (.int .i64 2), (.int .i64 0), (.bool false)]), (.slice (some ⟨bq, 0, none⟩) 2 2)]) Try.func9 nm9 bd9 rfl) ((find_c _ begT [.int .i64 9, .slice none 0 0, .slice (some ⟨bp, 0, none⟩) 1 1, .int .i64 2, .int .i64 0, .bool false] _ [97, 98] (ReAt.of (set := []) (args := [oneT 98]) (SlAt.nil _ _ _ _) (by simp) (.inr ⟨bp, 0, rfl, by simp only [ResAt]; exact ⟨⟨_, Bp.cells rfl, one_at ((hsp.ext Np.ext).ext Nq.ext)⟩, trivial⟩⟩)) (ints_of_blk [97, 98] Bq (by simp) (by simp))).mono (R' := fun v w => v = .tuple #[.agg (fndV 1 2 begG).toArray, .bool true, .int .i64 0] ∧ Ext wq w) (fun v w h => ⟨h.1.trans beg_val, h.2⟩)) ?_
  rintro _ w19 ⟨rfl, X19⟩
  replace Bp := X19.keep Bp
  replace Bq := X19.keep Bq
  replace E := E.ext X19
  refine WpL_val rfl rfl (by decide) (r_move (v := (.tuple #[(.agg #[(.int .i64 1), (.int .i64 2), (.int .i64 (-1)), (.int .i64 (-1)), (.int .i64 (-1)), (.int .i64 (-1)), (.int .i64 1), (.int .i64 2), (.int .i64 (-1)), (.int .i64 (-1)), (.int .i64 (-1)), (.int .i64 (-1)), (.int .i64 (-1)), (.int .i64 (-1)), (.int .i64 (-1)), (.int .i64 (-1)), (.int .i64 (-1)), (.int .i64 (-1)), (.int .i64 (-1)), (.int .i64 (-1)), (.int .i64 (-1)), (.int .i64 (-1))]), (.bool true), (.int .i64 0)])) rfl) ?_
  refine WpL_val rfl rfl (by decide) (r_extract (vs := #[(.agg #[(.int .i64 1), (.int .i64 2), (.int .i64 (-1)), (.int .i64 (-1)), (.int .i64 (-1)), (.int .i64 (-1)), (.int .i64 1), (.int .i64 2), (.int .i64 (-1)), (.int .i64 (-1)), (.int .i64 (-1)), (.int .i64 (-1)), (.int .i64 (-1)), (.int .i64 (-1)), (.int .i64 (-1)), (.int .i64 (-1)), (.int .i64 (-1)), (.int .i64 (-1)), (.int .i64 (-1)), (.int .i64 (-1)), (.int .i64 (-1)), (.int .i64 (-1))]), (.bool true), (.int .i64 0)]) (v := (.agg #[(.int .i64 1), (.int .i64 2), (.int .i64 (-1)), (.int .i64 (-1)), (.int .i64 (-1)), (.int .i64 (-1)), (.int .i64 1), (.int .i64 2), (.int .i64 (-1)), (.int .i64 (-1)), (.int .i64 (-1)), (.int .i64 (-1)), (.int .i64 (-1)), (.int .i64 (-1)), (.int .i64 (-1)), (.int .i64 (-1)), (.int .i64 (-1)), (.int .i64 (-1)), (.int .i64 (-1)), (.int .i64 (-1)), (.int .i64 (-1)), (.int .i64 (-1))])) rfl rfl) ?_
  refine WpL_val rfl rfl (by decide) (r_extract (vs := #[(.agg #[(.int .i64 1), (.int .i64 2), (.int .i64 (-1)), (.int .i64 (-1)), (.int .i64 (-1)), (.int .i64 (-1)), (.int .i64 1), (.int .i64 2), (.int .i64 (-1)), (.int .i64 (-1)), (.int .i64 (-1)), (.int .i64 (-1)), (.int .i64 (-1)), (.int .i64 (-1)), (.int .i64 (-1)), (.int .i64 (-1)), (.int .i64 (-1)), (.int .i64 (-1)), (.int .i64 (-1)), (.int .i64 (-1)), (.int .i64 (-1)), (.int .i64 (-1))]), (.bool true), (.int .i64 0)]) (v := (.bool true)) rfl rfl) ?_
  refine WpL_val rfl rfl (by decide) (r_extract (vs := #[(.agg #[(.int .i64 1), (.int .i64 2), (.int .i64 (-1)), (.int .i64 (-1)), (.int .i64 (-1)), (.int .i64 (-1)), (.int .i64 1), (.int .i64 2), (.int .i64 (-1)), (.int .i64 (-1)), (.int .i64 (-1)), (.int .i64 (-1)), (.int .i64 (-1)), (.int .i64 (-1)), (.int .i64 (-1)), (.int .i64 (-1)), (.int .i64 (-1)), (.int .i64 (-1)), (.int .i64 (-1)), (.int .i64 (-1)), (.int .i64 (-1)), (.int .i64 (-1))]), (.bool true), (.int .i64 0)]) (v := (.int .i64 0)) rfl rfl) ?_
  refine s_allocStore (v := (.agg #[(.int .i64 1), (.int .i64 2), (.int .i64 (-1)), (.int .i64 (-1)), (.int .i64 (-1)), (.int .i64 (-1)), (.int .i64 1), (.int .i64 2), (.int .i64 (-1)), (.int .i64 (-1)), (.int .i64 (-1)), (.int .i64 (-1)), (.int .i64 (-1)), (.int .i64 (-1)), (.int .i64 (-1)), (.int .i64 (-1)), (.int .i64 (-1)), (.int .i64 (-1)), (.int .i64 (-1)), (.int .i64 (-1)), (.int .i64 (-1)), (.int .i64 (-1))])) (c := #[(.int .i64 1), (.int .i64 2), (.int .i64 (-1)), (.int .i64 (-1)), (.int .i64 (-1)), (.int .i64 (-1)), (.int .i64 1), (.int .i64 2), (.int .i64 (-1)), (.int .i64 (-1)), (.int .i64 (-1)), (.int .i64 (-1)), (.int .i64 (-1)), (.int .i64 (-1)), (.int .i64 (-1)), (.int .i64 (-1)), (.int .i64 (-1)), (.int .i64 (-1)), (.int .i64 (-1)), (.int .i64 (-1)), (.int .i64 (-1)), (.int .i64 (-1))]) (n := 22) (by decide) zer33 rfl siz33 rfl rfl rfl (by simp [Value.oneCell']) ?_
  intro b1 w1 N1
  have F1 := N1.ge E
  have O1_bp := N1.lt Bp
  have O1_bq := N1.lt Bq
  replace Bp := N1.keep Bp
  replace Bq := N1.keep Bq
  replace E := E.ext N1.ext
  have B1 := N1.blk
  refine WpL_val rfl rfl (by decide) (r_assign (v := (.bool true)) rfl) ?_
  refine WpL_val rfl rfl (by decide) (r_assign (v := (.int .i64 0)) rfl) ?_
  refine WpL_nil ?_
  refine Wp_seq_region ?_
  refine WpL_val rfl rfl (by decide) (r_move (v := (.int .i64 0)) rfl) ?_
  refine WpL_val rfl rfl (by decide) (r_eql (k := .i64) (a := 0) (b := 0) rfl rfl) ?_
  refine WpL_val rfl rfl (by decide) (r_move (v := (.bool true)) rfl) ?_
  refine WpL_guard_yes (oj := _) rfl rfl (by decide) rfl ?_
  refine WpL_val rfl rfl (by decide) (r_move (v := (.bool true)) rfl) ?_
  refine WpL_val rfl rfl (by decide) (r_pick (b := true) (v := (.bool true)) rfl rfl) ?_
  refine WpL_val rfl rfl (by decide) (r_move (v := (.bool true)) rfl) ?_
  refine WpL_guard_yes (oj := _) rfl rfl (by decide) rfl ?_
  refine WpL_val rfl rfl (by decide) (r_fieldAddr (b := b1) (o := 0) (o' := 0) rfl Try.underlying33 rfl siz3 rfl) ?_
  refine WpL_guard_yes (oj := _) rfl rfl (by decide) rfl ?_
  refine WpL_val rfl rfl (by decide) (r_load (v := (.int .i64 1)) rfl flat3 (B1.cell rfl)) ?_
  refine WpL_guard_yes (oj := _) rfl rfl (by decide) rfl ?_
  refine WpL_val rfl rfl (by decide) (r_eql (k := .i64) (a := 1) (b := 1) rfl rfl) ?_
  refine WpL_val rfl rfl (by decide) (r_pick (b := true) (v := (.bool true)) rfl rfl) ?_
  refine WpL_val rfl rfl (by decide) (r_move (v := (.bool true)) rfl) ?_
  refine WpL_guard_yes (oj := _) rfl rfl (by decide) rfl ?_
  refine WpL_val rfl rfl (by decide) (r_fieldAddr (b := b1) (o := 0) (o' := 1) rfl Try.underlying33 rfl siz3 rfl) ?_
  refine WpL_guard_yes (oj := _) rfl rfl (by decide) rfl ?_
  refine WpL_val rfl rfl (by decide) (r_load (v := (.int .i64 2)) rfl flat3 (B1.cell rfl)) ?_
  refine WpL_guard_yes (oj := _) rfl rfl (by decide) rfl ?_
  refine WpL_val rfl rfl (by decide) (r_eql (k := .i64) (a := 2) (b := 2) rfl rfl) ?_
  refine WpL_val rfl rfl (by decide) (r_pick (b := true) (v := (.bool true)) rfl rfl) ?_
  refine WpL_val rfl rfl (by decide) (r_move (v := (.bool true)) rfl) ?_
  refine WpL_guard_yes (oj := _) rfl rfl (by decide) rfl ?_
  refine WpL_val rfl rfl (by decide) (r_fieldAddr (b := b1) (o := 0) (o' := 2) rfl Try.underlying33 rfl siz31 rfl) ?_
  refine WpL_guard_yes (oj := _) rfl rfl (by decide) rfl ?_
  refine WpL_val rfl rfl (by decide) (r_indexArr (b := b1) (o := 2) (i := 2) (o' := 6) rfl rfl rfl Try.underlying31 siz30 (by omega) (by omega)) ?_
  refine WpL_guard_yes (oj := _) rfl rfl (by decide) rfl ?_
  refine WpL_val rfl rfl (by decide) (r_loadAgg (vs := [(.int .i64 1), (.int .i64 2)]) rfl agg30 siz30 rfl (B1.cells rfl)) ?_
  refine WpL_guard_yes (oj := _) rfl rfl (by decide) rfl ?_
  refine WpL_val rfl rfl (by decide) (r_build (ps := [(0, (.int .i64 1)), (1, (.int .i64 2))]) (v := (.agg #[(.int .i64 1), (.int .i64 2)])) rfl (by kernel_rfl)) ?_
  refine WpL_guard_yes (oj := _) rfl rfl (by decide) rfl ?_
  refine WpL_val (v := (.bool true)) rfl rfl (by decide) ((r_eqlPair (a := 1) (b := 2) (c := 1) (f := 2) Try.underlying30 Try.underlying3 siz3 flat3 eqgPair rfl rfl).trans rfl) ?_
  refine WpL_val rfl rfl (by decide) (r_pick (b := true) (v := (.bool true)) rfl rfl) ?_
  refine WpL_val rfl rfl (by decide) (r_assign (v := (.bool true)) rfl) ?_
  refine WpL_nil ?_
  refine Wp_ret ?_
  refine fin_tmp Try.results6 (v := (.bool true)) rfl ?_
  exact ⟨rfl, E⟩
end Go.Proofs
namespace Go.Proofs
open Go Go.Eng Go.Sort
set_option maxRecDepth 100000
abbrev fndQ (q : Nat × Nat × Grp) : List Value := fndV (q.1 : Int) (q.2.1 : Int) q.2.2
def nextP (q : Nat × Nat × Grp) : Nat := if q.1 = q.2.1 then q.2.1 + 1 else q.2.1
def allF (text : List Int) (r : Re) : Nat → Nat → List (Nat × Nat × Grp)
  | 0, _ => []
  | n + 1, pos => match fromO text r pos with
    | none => []
    | some q => q :: allF text r n (nextP q)
theorem allF_none {text : List Int} {r : Re} {pos : Nat} (h : fromO text r pos = none) (n : Nat) : allF text r n pos = [] := by
  cases n with
  | zero => rfl
  | succ n => simp only [allF, h]
theorem allF_some {text : List Int} {r : Re} {pos n : Nat} {q : Nat × Nat × Grp} (h : fromO text r pos = some q) : allF text r (n + 1) pos = q :: allF text r n (nextP q) := by simp only [allF, h]
/-- All matches. -/
def allP (t : Re) (text : List Int) : List (Nat × Nat × Grp) := if capP t text ≠ 0 then [] else allF text t (text.length + 2) 0
theorem fromO_ok {text : List Int} {r : Re} : ∀ (n i : Nat), text.length + 1 - i ≤ n → ∀ q, fromO text r i = some q → i ≤ q.1 ∧ q.1 ≤ q.2.1 ∧ q.2.1 ≤ text.length ∧ q.2.2.length = 10
  | 0, i, h, q, hq => by
    rw [fromO, if_neg (by omega)] at hq
    cases hq
  | n + 1, i, h, q, hq => by
    rw [fromO] at hq
    by_cases h1 : i ≤ text.length
    · rw [if_pos h1] at hq
      cases h2 : (crsOf text r i G0).head? with
      | none =>
        rw [h2] at hq
        obtain ⟨a, b⟩ := fromO_ok n (i + 1) (by omega) q hq
        exact ⟨by omega, b⟩
      | some u =>
        rw [h2] at hq
        have := crsOf_ok text r i G0 h1 u (List.mem_of_mem_head? (by rw [h2]; rfl))
        cases hq
        exact ⟨Nat.le_refl _, this.1, this.2.1, by rw [this.2.2]; rfl⟩
    · rw [if_neg h1] at hq; cases hq
theorem nextP_lt {i : Nat} {q : Nat × Nat × Grp} {k : Nat} (h : i ≤ q.1 ∧ q.1 ≤ q.2.1 ∧ q.2.1 ≤ k) : i + 1 ≤ nextP q ∧ nextP q ≤ k + 1 := by
  unfold nextP; split <;> omega
theorem ten {α : Type} {G : List α} (h : G.length = 10) : ∃ a b c d e f g i j k, G = [a, b, c, d, e, f, g, i, j, k] := by
  match G, h with
  | [a, b, c, d, e, f, g, i, j, k], _ => exact ⟨a, b, c, d, e, f, g, i, j, k, rfl⟩
theorem fnd22 {o : Option (Nat × Nat × Grp)} (h : (fndO o).length = 22) : ∃ x0 x1 x2 x3 x4 x5 x6 x7 x8 x9 x10 x11 x12 x13 x14 x15 x16 x17 x18 x19 x20 x21 : Int, fndO o = [.int .i64 x0, .int .i64 x1, .int .i64 x2, .int .i64 x3, .int .i64 x4, .int .i64 x5, .int .i64 x6, .int .i64 x7, .int .i64 x8, .int .i64 x9, .int .i64 x10, .int .i64 x11, .int .i64 x12, .int .i64 x13, .int .i64 x14, .int .i64 x15, .int .i64 x16, .int .i64 x17, .int .i64 x18, .int .i64 x19, .int .i64 x20, .int .i64 x21] := by
  cases o with
  | none => exact ⟨_, _, _, _, _, _, _, _, _, _, _, _, _, _, _, _, _, _, _, _, _, _, rfl⟩
  | some q =>
    obtain ⟨f, t, G⟩ := q
    have hG : G.length = 10 := by
      simp only [fndO, fndV, List.length_append, grpV_len, List.length_cons, List.length_nil] at h
      omega
    obtain ⟨a, b, c, d, e, g, h, i, j, k, rfl⟩ := ten hG
    exact ⟨_, _, _, _, _, _, _, _, _, _, _, _, _, _, _, _, _, _, _, _, _, _, rfl⟩
theorem fndQ_len {q : Nat × Nat × Grp} (h : q.2.2.length = 10) : (fndQ q).length = 22 := fnd_len _ _ h
set_option maxHeartbeats 4000000 in
theorem all_c (w0 : World) (t : Re) (vs : List Value) (v : Value) (text : List Int) (ht : ReAt w0 t vs) (htx : IntsAt w0 v text) :
    Ret Try.prog 11 #[.agg vs.toArray, v] w0 fun r w => ∃ a c, r = .tuple #[.slice a (allP t text).length c, .int .i64 (capP t text)] ∧ SlAt w 22 (.slice a (allP t text).length c) ((allP t text).map fndQ) ∧ Ext w0 w := by
  have ht0 := ht
  obtain ⟨sa, sc, aa, ac, rfl, hset, hlen, hargs⟩ := ht.form
  obtain ⟨ta, tc, rfl⟩ := SlAt.form htx
  simp only [List.length_map] at htx ⊢
  refine Ret_of Try.func11 rfl Try.ntmps11 (Nat.le_of_ble_eq_true rfl) ?_
  have E : Chg none1 w0 w0 := Chg.refl _ _
  refine Wp_seq_region ?_
  refine s_box (v := (.agg #[(.int .i64 t.kind), (.slice sa t.set.length sc), (.slice aa t.args.length ac), (.int .i64 t.mn), (.int .i64 t.mx), (.bool t.neg)])) (c := #[(.int .i64 t.kind), (.slice sa t.set.length sc), (.slice aa t.args.length ac), (.int .i64 t.mn), (.int .i64 t.mx), (.bool t.neg)]) (by decide) rfl rfl ?_
  intro bx wx Nx
  have Fx := Nx.ge E
  replace E := E.ext Nx.ext
  have Bx := Nx.blk
  refine WpL_val rfl rfl (by decide) (r_assign (v := (.slice none 0 0)) rfl) ?_
  refine WpL_val rfl rfl (by decide) (r_assign (v := (.int .i64 0)) rfl) ?_
  refine WpL_nil ?_
  refine Wp_seq ?_
  refine Wp_seq_region ?_
  refine WpL_val rfl rfl (by decide) (r_loadAgg (vs := [(.int .i64 t.kind), (.slice sa t.set.length sc), (.slice aa t.args.length ac), (.int .i64 t.mn), (.int .i64 t.mx), (.bool t.neg)]) rfl agg27 siz27 rfl (Bx.cells rfl)) ?_
  refine WpL_val rfl rfl (by decide) (r_move (v := (.slice ta text.length tc)) rfl) ?_
  refine WpL_enter rfl rfl (by decide) (r_callF (vs := [(.agg #[(.int .i64 t.kind), (.slice sa t.set.length sc), (.slice aa t.args.length ac), (.int .i64 t.mn), (.int .i64 t.mx), (.bool t.neg)]), (.slice ta text.length tc)]) Try.func20 nm20 bd20 rfl) (capchk_c _ t _ _ text (ReAt.ext E t ht0) (htx.ext E)) ?_
  rintro _ w9 ⟨rfl, X9⟩
  replace Bx := X9.keep Bx
  replace E := E.ext X9
  refine WpL_val rfl rfl (by decide) (r_assign (v := (.int .i64 (capP t text))) rfl) ?_
  refine WpL_nil ?_
  refine Wp_seq_region ?_
  refine WpL_val rfl rfl (by decide) (r_move (v := (.int .i64 (capP t text))) rfl) ?_
  refine WpL_val rfl rfl (by decide) (r_neq (k := .i64) (a := capP t text) (b := 0) rfl rfl) ?_
  refine WpL_nil ?_
  refine Wp_cond (b := decide ((capP t text : Int) ≠ 0)) rfl (fun h1 => ?_) (fun h1 => ?_)
  · have kh1 := h1
    replace h1 := of_decide_eq_true h1
    refine Wp_seq_region ?_
    refine WpL_val rfl rfl (by decide) (r_move (v := (.int .i64 (capP t text))) rfl) ?_
    refine WpL_val rfl rfl (by decide) (r_assign (v := (.slice none 0 0)) rfl) ?_
    refine WpL_val rfl rfl (by decide) (r_assign (v := (.int .i64 (capP t text))) rfl) ?_
    refine WpL_nil ?_
    refine Wp_ret ?_
    refine thn_ret ?_
    refine fin_tmp2 Try.results11 (v := (.slice none 0 0)) (v' := (.int .i64 (capP t text))) rfl rfl ?_
    exact ⟨none, 0, by unfold allP; rw [if_pos h1]; rfl, by unfold allP; rw [if_pos h1]; exact SlAt.nil _ _ _ _, E⟩
  · have kh1 := h1
    replace h1 := of_decide_eq_false h1
    have h0 : capP t text = 0 := by omega
    obtain ⟨hC, hn⟩ := capP_zero h0
    obtain ⟨z, hz⟩ : ∃ z, z = (w9).heap.size := ⟨_, rfl⟩
    have hfl := frg_len _ t (Nat.le_refl _) hC.ok hC.us hC.ln 0 0 0
    have hzs : w0.heap.size ≤ z := by rw [hz]; exact E.size
    have hln := hC.ln
    have hsz := hC.sz
    refine Wp_skip ?_
    refine thn_normal ?_
    refine Wp_seq_region ?_
    refine WpL_val rfl rfl (by decide) (r_loadAgg (vs := [(.int .i64 t.kind), (.slice sa t.set.length sc), (.slice aa t.args.length ac), (.int .i64 t.mn), (.int .i64 t.mx), (.bool t.neg)]) rfl agg27 siz27 rfl (Bx.cells rfl)) ?_
    refine WpL_enter rfl rfl (by decide) (r_callF (vs := [(.agg #[(.int .i64 t.kind), (.slice sa t.set.length sc), (.slice aa t.args.length ac), (.int .i64 t.mn), (.int .i64 t.mx), (.bool t.neg)])]) Try.func22 nm22 bd22 rfl) (translate_c _ (fun y => y < z) _ _ t (of_all _ t.size t (Nat.le_refl _) hC.ok hC.us hC.ln hC.sz) (ReAt.ext E t ht0) (Ext.refl _) (fun y h => by omega) (fun y h => by omega) (by omega) (by unfold tempsOf; omega) (by omega)) ?_
    rintro _ w19 ⟨⟨F', pb, rfl, hF1, hF2, hF3, hPr⟩, X19⟩
    replace Bx := X19.keep Bx
    replace E := E.ext X19
    have htf : text = [] ∨ ∃ b, (Value.slice ta text.length tc).ownBlock = some b ∧ F' b := (intsw_own htx).imp_right fun ⟨b, h1, h2⟩ => ⟨b, h1, hF1 b (by omega)⟩
    obtain ⟨base, hbase⟩ : ∃ base, base = w19.heap.size := ⟨_, rfl⟩
    have hb0 : w0.heap.size ≤ base := by have := E.size; omega
    have hbx : bx < base := by have := Bx.lt; omega
    have hP0 : allP t text = allF text t (text.length + 2) 0 := by unfold allP; rw [if_neg (by omega)]
    rw [hP0, h0]
    have E2 : Chg none1 w19 w19 := Chg.refl _ _
    refine WpL_val rfl rfl (by decide) (r_assign (v := (.pointer (some ⟨pb, 0, none⟩))) rfl) ?_
    refine WpL_nil ?_
    refine Wp_seq_region ?_
    refine WpL_val rfl rfl (by decide) (r_assign (v := (.slice none 0 0)) rfl) ?_
    refine WpL_nil ?_
    refine Wp_seq_region ?_
    refine WpL_val rfl rfl (by decide) (r_assign (v := (.int .i64 0)) rfl) ?_
    refine WpL_nil ?_
    refine Wp_block ?_
    refine Wp_loop (fun nn_ σ W2 => ∃ (pos : Nat) (la : Option Addr) (lc : Nat) (acc : List (Nat × Nat × Grp)), (∃ jj_, σ = upds jj_ [(1, (.slice ta text.length tc)), (7, (.pointer (some ⟨pb, 0, none⟩))), (9, (.int .i64 ((pos : Nat) : Int))), (8, (.slice la acc.length lc))]) ∧ Chg none1 w0 W2 ∧ Chg none1 w19 W2 ∧ Blk W2 bx #[(.int .i64 t.kind), (.slice sa t.set.length sc), (.slice aa t.args.length ac), (.int .i64 t.mn), (.int .i64 t.mx), (.bool t.neg)] 27 ∧ (pos ≤ text.length + 1) ∧ (W2.ownsRow base TFd 22 (.slice la acc.length lc) acc.length (acc.map fndQ).flatten) ∧ (base ≤ W2.heap.size) ∧ (∃ n, text.length + 2 ≤ n + pos ∧ allF text t (text.length + 2) 0 = acc ++ allF text t n pos) ∧ (acc.length ≤ pos ∧ ∀ q ∈ acc, q.2.2.length = 10) ∧ nn_ = text.length + 1 - pos) (n := text.length + 1 - 0) ?_ ?_
    · exact ⟨0, none, 0, [], Fits.out ⟨rfl, rfl, rfl, rfl, trivial⟩, E, E2, Bx, Nat.zero_le _, World.ownsRow_nil _ _ _ _, (by omega), ⟨_, Nat.le_refl _, rfl⟩, ⟨Nat.le_refl _, fun q h => by cases h⟩, rfl⟩
    · clear E E2 Bx
      rintro _ _ W2 ⟨pos, la, lc, acc, ⟨j2, rfl⟩, E, E2, Bx, hp, hO, hbs, hrel, hal, rfl⟩
      obtain ⟨o, ho⟩ : ∃ o, o = fromO text t pos := ⟨_, rfl⟩
      obtain ⟨x0, x1, x2, x3, x4, x5, x6, x7, x8, x9, x10, x11, x12, x13, x14, x15, x16, x17, x18, x19, x20, x21, hx⟩ := fnd22 (o := o) (by rw [ho]; exact fndO_len _ pos (Nat.le_refl _) hp)
      refine Wp_block ?_
      refine Wp_seq_region ?_
      refine WpL_val rfl rfl (by decide) (r_move (v := (.pointer (some ⟨pb, 0, none⟩))) rfl) ?_
      refine WpL_val rfl rfl (by decide) (r_move (v := (.slice ta text.length tc)) rfl) ?_
      refine WpL_val rfl rfl (by decide) (r_move (v := (.int .i64 ((pos : Nat) : Int))) rfl) ?_
      refine WpL_enter rfl rfl (by decide) (r_callF (vs := [(.pointer (some ⟨pb, 0, none⟩)), (.slice ta text.length tc), (.int .i64 ((pos : Nat) : Int))]) Try.func21 nm21 bd21 rfl) ((from_c F' _ pb t ta text.length tc pos text (hPr.chg E2 (fun _ _ f => f)) (fun y h => Nat.lt_of_lt_of_le (hF3 y h) E2.size) (htx.ext E) htf (by omega) (wf_of t hC.ok hC.us) (by omega) hp).mono (R' := fun r w => r = .tuple #[.agg #[.int .i64 x0, .int .i64 x1, .int .i64 x2, .int .i64 x3, .int .i64 x4, .int .i64 x5, .int .i64 x6, .int .i64 x7, .int .i64 x8, .int .i64 x9, .int .i64 x10, .int .i64 x11, .int .i64 x12, .int .i64 x13, .int .i64 x14, .int .i64 x15, .int .i64 x16, .int .i64 x17, .int .i64 x18, .int .i64 x19, .int .i64 x20, .int .i64 x21], .bool o.isSome] ∧ Ext _ w) (fun r w h => ⟨by rw [h.1, ← ho, hx], h.2⟩)) ?_
      rintro _ w29 ⟨rfl, X29⟩
      replace Bx := X29.keep Bx
      replace hO := own_ext hO X29
      replace hbs := Nat.le_trans hbs X29.size
      replace E := E.ext X29
      replace E2 := E2.ext X29
      have hOz : ∀ b, (Value.slice la acc.length lc).ownBlock = some b → b < w29.heap.size := fun b h => (hO.lt b h).2
      refine WpL_val rfl rfl (by decide) (r_move (v := (.tuple #[(.agg #[(.int .i64 x0), (.int .i64 x1), (.int .i64 x2), (.int .i64 x3), (.int .i64 x4), (.int .i64 x5), (.int .i64 x6), (.int .i64 x7), (.int .i64 x8), (.int .i64 x9), (.int .i64 x10), (.int .i64 x11), (.int .i64 x12), (.int .i64 x13), (.int .i64 x14), (.int .i64 x15), (.int .i64 x16), (.int .i64 x17), (.int .i64 x18), (.int .i64 x19), (.int .i64 x20), (.int .i64 x21)]), (.bool o.isSome)])) rfl) ?_
      refine WpL_val rfl rfl (by decide) (r_extract (vs := #[(.agg #[(.int .i64 x0), (.int .i64 x1), (.int .i64 x2), (.int .i64 x3), (.int .i64 x4), (.int .i64 x5), (.int .i64 x6), (.int .i64 x7), (.int .i64 x8), (.int .i64 x9), (.int .i64 x10), (.int .i64 x11), (.int .i64 x12), (.int .i64 x13), (.int .i64 x14), (.int .i64 x15), (.int .i64 x16), (.int .i64 x17), (.int .i64 x18), (.int .i64 x19), (.int .i64 x20), (.int .i64 x21)]), (.bool o.isSome)]) (v := (.agg #[(.int .i64 x0), (.int .i64 x1), (.int .i64 x2), (.int .i64 x3), (.int .i64 x4), (.int .i64 x5), (.int .i64 x6), (.int .i64 x7), (.int .i64 x8), (.int .i64 x9), (.int .i64 x10), (.int .i64 x11), (.int .i64 x12), (.int .i64 x13), (.int .i64 x14), (.int .i64 x15), (.int .i64 x16), (.int .i64 x17), (.int .i64 x18), (.int .i64 x19), (.int .i64 x20), (.int .i64 x21)])) rfl rfl) ?_
      refine WpL_val rfl rfl (by decide) (r_extract (vs := #[(.agg #[(.int .i64 x0), (.int .i64 x1), (.int .i64 x2), (.int .i64 x3), (.int .i64 x4), (.int .i64 x5), (.int .i64 x6), (.int .i64 x7), (.int .i64 x8), (.int .i64 x9), (.int .i64 x10), (.int .i64 x11), (.int .i64 x12), (.int .i64 x13), (.int .i64 x14), (.int .i64 x15), (.int .i64 x16), (.int .i64 x17), (.int .i64 x18), (.int .i64 x19), (.int .i64 x20), (.int .i64 x21)]), (.bool o.isSome)]) (v := (.bool o.isSome)) rfl rfl) ?_
      refine s_allocStore (v := (.agg #[(.int .i64 x0), (.int .i64 x1), (.int .i64 x2), (.int .i64 x3), (.int .i64 x4), (.int .i64 x5), (.int .i64 x6), (.int .i64 x7), (.int .i64 x8), (.int .i64 x9), (.int .i64 x10), (.int .i64 x11), (.int .i64 x12), (.int .i64 x13), (.int .i64 x14), (.int .i64 x15), (.int .i64 x16), (.int .i64 x17), (.int .i64 x18), (.int .i64 x19), (.int .i64 x20), (.int .i64 x21)])) (c := #[(.int .i64 x0), (.int .i64 x1), (.int .i64 x2), (.int .i64 x3), (.int .i64 x4), (.int .i64 x5), (.int .i64 x6), (.int .i64 x7), (.int .i64 x8), (.int .i64 x9), (.int .i64 x10), (.int .i64 x11), (.int .i64 x12), (.int .i64 x13), (.int .i64 x14), (.int .i64 x15), (.int .i64 x16), (.int .i64 x17), (.int .i64 x18), (.int .i64 x19), (.int .i64 x20), (.int .i64 x21)]) (n := 22) (by decide) zer33 rfl siz33 rfl rfl rfl (by simp [Value.oneCell']) ?_
      intro bf wf Nf
      have Ff := Nf.ge E
      have Ff_E2 := Nf.ge E2
      have Of_bx := Nf.lt Bx
      replace Bx := Nf.keep Bx
      replace hO := own_ext hO Nf.ext
      replace hbs := Nat.le_trans hbs Nf.ext.size
      replace E := E.ext Nf.ext
      have Bf := Nf.blk
      replace E2 := E2.ext Nf.ext
      refine WpL_val rfl rfl (by decide) (r_assign (v := (.bool o.isSome)) rfl) ?_
      refine WpL_nil ?_
      refine Wp_seq ?_
      refine Wp_seq_region ?_
      refine WpL_val rfl rfl (by decide) (r_move (v := (.bool o.isSome)) rfl) ?_
      refine WpL_val rfl rfl (by decide) (r_not (b := o.isSome) rfl) ?_
      refine WpL_nil ?_
      refine Wp_cond (b := !o.isSome) rfl (fun hno => ?_) (fun hno => ?_)
      · have khno := hno
        replace hno := by simpa using hno
        have hn9 : fromO text t pos = none := by rw [← ho]; simpa using hno
        obtain ⟨n, hn1, hn2⟩ := hrel
        rw [allF_none hn9, List.append_nil] at hn2
        rw [hn2]
        refine Wp_seq_region ?_
        refine WpL_val rfl rfl (by decide) (r_move (v := (.slice la acc.length lc)) rfl) ?_
        refine WpL_val rfl rfl (by decide) (r_assign (v := (.slice la acc.length lc)) rfl) ?_
        refine WpL_val rfl rfl (by decide) (r_assign (v := (.int .i64 0)) rfl) ?_
        refine WpL_nil ?_
        refine Wp_ret ?_
        refine thn_ret ?_
        refine inB_ret ?_
        refine thn_ret ?_
        refine inB_ret ?_
        refine fin_tmp2 Try.results11 (v := (.slice la acc.length lc)) (v' := (.int .i64 0)) rfl rfl ?_
        exact ⟨la, lc, rfl, own_slat hO (fun r hr => by obtain ⟨q, hq, rfl⟩ := List.mem_map.1 hr; exact fndQ_len (hal.2 q hq)) (by simp) (by decide), E⟩
      · have khno := hno
        replace hno := by simpa using hno
        obtain ⟨q, hq⟩ : ∃ q, o = some q := by cases o with | none => simp at hno | some q => exact ⟨q, rfl⟩
        have hfq : fromO text t pos = some q := by rw [← ho, hq]
        obtain ⟨q1, q2, q3, q4⟩ := fromO_ok _ pos (Nat.le_refl _) q hfq
        have hqv : fndQ q = [.int .i64 x0, .int .i64 x1, .int .i64 x2, .int .i64 x3, .int .i64 x4, .int .i64 x5, .int .i64 x6, .int .i64 x7, .int .i64 x8, .int .i64 x9, .int .i64 x10, .int .i64 x11, .int .i64 x12, .int .i64 x13, .int .i64 x14, .int .i64 x15, .int .i64 x16, .int .i64 x17, .int .i64 x18, .int .i64 x19, .int .i64 x20, .int .i64 x21] := by rw [← hx, hq]; rfl
        have hx0 : x0 = ((q.1 : Nat) : Int) := by have := congrArg (fun l => l[0]?) hqv; simpa using this.symm
        have hx1 : x1 = ((q.2.1 : Nat) : Int) := by have := congrArg (fun l => l[1]?) hqv; simpa using this.symm
        refine Wp_skip ?_
        refine thn_normal ?_
        refine Wp_seq_region ?_
        refine WpL_val rfl rfl (by decide) (r_move (v := (.slice la acc.length lc)) rfl) ?_
        refine WpL_val rfl rfl (by decide) (r_loadAgg (vs := [(.int .i64 x0), (.int .i64 x1), (.int .i64 x2), (.int .i64 x3), (.int .i64 x4), (.int .i64 x5), (.int .i64 x6), (.int .i64 x7), (.int .i64 x8), (.int .i64 x9), (.int .i64 x10), (.int .i64 x11), (.int .i64 x12), (.int .i64 x13), (.int .i64 x14), (.int .i64 x15), (.int .i64 x16), (.int .i64 x17), (.int .i64 x18), (.int .i64 x19), (.int .i64 x20), (.int .i64 x21)]) rfl agg33 siz33 rfl (Bf.cells rfl)) ?_
        refine s_buildSlice (ps := [(0, (.agg #[(.int .i64 x0), (.int .i64 x1), (.int .i64 x2), (.int .i64 x3), (.int .i64 x4), (.int .i64 x5), (.int .i64 x6), (.int .i64 x7), (.int .i64 x8), (.int .i64 x9), (.int .i64 x10), (.int .i64 x11), (.int .i64 x12), (.int .i64 x13), (.int .i64 x14), (.int .i64 x15), (.int .i64 x16), (.int .i64 x17), (.int .i64 x18), (.int .i64 x19), (.int .i64 x20), (.int .i64 x21)]))]) (c := #[(.int .i64 x0), (.int .i64 x1), (.int .i64 x2), (.int .i64 x3), (.int .i64 x4), (.int .i64 x5), (.int .i64 x6), (.int .i64 x7), (.int .i64 x8), (.int .i64 x9), (.int .i64 x10), (.int .i64 x11), (.int .i64 x12), (.int .i64 x13), (.int .i64 x14), (.int .i64 x15), (.int .i64 x16), (.int .i64 x17), (.int .i64 x18), (.int .i64 x19), (.int .i64 x20), (.int .i64 x21)]) (by decide) rfl Try.underlying38 siz33 zer33 (by decide) (by decide) (by kernel_rfl) ?_
        intro bs ws Ns
        have Fs := Ns.ge E
        have Fs_E2 := Ns.ge E2
        have Os_bx := Ns.lt Bx
        have Os_bf := Ns.lt Bf
        replace Bx := Ns.keep Bx
        replace Bf := Ns.keep Bf
        replace hO := own_ext hO Ns.ext
        replace hbs := Nat.le_trans hbs Ns.ext.size
        replace E := E.ext Ns.ext
        have Bs := Ns.blk
        replace E2 := E2.ext Ns.ext
        refine s_append (base := base) (n := acc.length) (m := 1) (xs := (acc.map fndQ).flatten) (news := [(.int .i64 x0), (.int .i64 x1), (.int .i64 x2), (.int .i64 x3), (.int .i64 x4), (.int .i64 x5), (.int .i64 x6), (.int .i64 x7), (.int .i64 x8), (.int .i64 x9), (.int .i64 x10), (.int .i64 x11), (.int .i64 x12), (.int .i64 x13), (.int .i64 x14), (.int .i64 x15), (.int .i64 x16), (.int .i64 x17), (.int .i64 x18), (.int .i64 x19), (.int .i64 x20), (.int .i64 x21)]) (size := 22) (bytes := 176) (v := (.slice la acc.length lc)) (by decide) Try.underlying38 siz33 byt33 zer33 rfl (by decide) rfl hO rfl (rfl) (Bs.cells rfl) (by simp [Value.oneCell']) (by unfold maxLen; omega) (by omega) (hbs) ?_
        intro v9 w39 Ov9 Cv9 Dv9
        replace Bx := Cv9.keep (fun h => by have := (hO.lt _ h).1; omega) Bx
        replace Bf := Cv9.keep (fun h => by have := hOz _ h; have := Nf.eq; omega) Bf
        replace E := E.step Cv9 (fun x hx h => absurd (hO.lt x h).1 (by omega))
        replace E2 := E2.step Cv9 (fun x hx h => absurd (hO.lt x h).1 (by omega))
        obtain ⟨la2, lc2, rfl⟩ := own_form Ov9
        have hnx := nextP_lt ⟨q1, q2, q3⟩
        obtain ⟨n, hn1, hn2⟩ := hrel
        obtain ⟨m, rfl⟩ : ∃ m, n = m + 1 := ⟨n - 1, by omega⟩
        rw [allF_some hfq] at hn2
        have hO9 : (w39).ownsRow base TFd 22 (.slice la2 (acc ++ [q]).length lc2) (acc ++ [q]).length ((acc ++ [q]).map fndQ).flatten := by rw [List.map_append, List.flatten_append, List.length_append]; simpa [hqv] using Ov9
        have hl9 : (acc ++ [q]).length ≤ nextP q ∧ ∀ u ∈ acc ++ [q], u.2.2.length = 10 := ⟨by rw [List.length_append]; have := hal.1; simp only [List.length_cons, List.length_nil]; omega, fun u hu => by rcases List.mem_append.1 hu with h | h; exact hal.2 u h; rw [List.mem_singleton.1 h]; exact q4⟩
        have hr9 : ∃ n, text.length + 2 ≤ n + nextP q ∧ allF text t (text.length + 2) 0 = (acc ++ [q]) ++ allF text t n (nextP q) := ⟨m, by omega, by rw [hn2]; simp⟩
        have hl8 : acc.length + 1 = (acc ++ [q]).length := by simp
        have hb9 := Nat.le_trans hbs Cv9.size
        rw [hl8]
        refine WpL_val rfl rfl (by decide) (r_assign (v := (.slice la2 ((acc ++ [q]).length) lc2)) rfl) ?_
        refine WpL_nil ?_
        refine Wp_seq_region ?_
        refine WpL_val rfl rfl (by decide) (r_fieldAddr (b := bf) (o := 0) (o' := 1) rfl Try.underlying33 rfl siz3 rfl) ?_
        refine WpL_val rfl rfl (by decide) (r_load (v := (.int .i64 x1)) rfl flat3 (Bf.cell rfl)) ?_
        refine WpL_val rfl rfl (by decide) (r_assign (v := (.int .i64 x1)) rfl) ?_
        refine WpL_nil ?_
        refine Wp_seq_region ?_
        refine WpL_val rfl rfl (by decide) (r_fieldAddr (b := bf) (o := 0) (o' := 0) rfl Try.underlying33 rfl siz3 rfl) ?_
        refine WpL_val rfl rfl (by decide) (r_load (v := (.int .i64 x0)) rfl flat3 (Bf.cell rfl)) ?_
        refine WpL_val rfl rfl (by decide) (r_fieldAddr (b := bf) (o := 0) (o' := 1) rfl Try.underlying33 rfl siz3 rfl) ?_
        refine WpL_val rfl rfl (by decide) (r_load (v := (.int .i64 x1)) rfl flat3 (Bf.cell rfl)) ?_
        refine WpL_val rfl rfl (by decide) (r_eql (k := .i64) (a := x0) (b := x1) rfl rfl) ?_
        refine WpL_nil ?_
        refine Wp_cond (b := decide ((x0 : Int) = x1)) rfl (fun heq => ?_) (fun heq => ?_)
        · have kheq := heq
          replace heq := of_decide_eq_true heq
          have hnp : nextP q = q.2.1 + 1 := by unfold nextP; rw [if_pos (by omega)]
          refine Wp_region ?_
          refine WpL_val rfl rfl (by decide) (r_move (v := (.int .i64 x1)) rfl) ?_
          refine WpL_val rfl rfl (by decide) (r_add (k := .i64) (a := x1) (b := 1) (c := ((nextP q : Nat) : Int)) rfl rfl (by rw [hx1, hnp, wI64 (by omega)]; omega)) ?_
          refine WpL_val rfl rfl (by decide) (r_assign (v := (.int .i64 ((nextP q : Nat) : Int))) rfl) ?_
          refine WpL_nil ?_
          refine inB_normal ?_
          refine thn_normal ?_
          exact ⟨text.length + 1 - (nextP q), by omega, nextP q, la2, lc2, acc ++ [q], Fits.out ⟨rfl, rfl, rfl, rfl, trivial⟩, E, E2, Bx, hnx.2, hO9, hb9, hr9, hl9, rfl⟩
        · have kheq := heq
          replace heq := of_decide_eq_false heq
          have hnp : nextP q = q.2.1 := by unfold nextP; rw [if_neg (by omega)]
          rw [hx1, ← hnp]
          refine Wp_skip ?_
          refine inB_normal ?_
          refine thn_normal ?_
          exact ⟨text.length + 1 - (nextP q), by omega, nextP q, la2, lc2, acc ++ [q], Fits.out ⟨rfl, rfl, rfl, rfl, trivial⟩, E, E2, Bx, hnx.2, hO9, hb9, hr9, hl9, rfl⟩
end Go.Proofs
namespace Go.Proofs
open Go Go.Eng Go.Sort
set_option maxRecDepth 100000
theorem find_all (t : Re) (text : List Int) : findO t text = (allP t text).head? := by
  unfold findO allP
  split
  · rfl
  · cases h : fromO text t 0 with
    | none => rw [allF_none h]; rfl
    | some q => rw [allF_some h]; rfl
theorem allF_chain {text : List Int} {r : Re} : ∀ (n pos : Nat) (i : Nat) (q : Nat × Nat × Grp), (allF text r n pos)[i]? = some q → (q.1 ≤ q.2.1 ∧ q.2.1 ≤ text.length ∧ q.2.2.length = 10) ∧ ∀ q', (allF text r n pos)[i + 1]? = some q' → nextP q ≤ q'.1
  | 0, pos, i, q, h => by simp [allF] at h
  | n + 1, pos, i, q, h => by
    cases hf : fromO text r pos with
    | none => rw [allF_none hf] at h; simp at h
    | some u =>
      rw [allF_some hf] at h ⊢
      cases i with
      | succ i =>
        simp only [List.getElem?_cons_succ] at h ⊢
        exact allF_chain n (nextP u) i q h
      | zero =>
        simp only [List.getElem?_cons_zero, Option.some.injEq] at h
        subst h
        have h1 := fromO_ok _ pos (Nat.le_refl _) u hf
        refine ⟨h1.2, fun q' hq' => ?_⟩
        simp only [Nat.zero_add, List.getElem?_cons_succ] at hq'
        cases n with
        | zero => simp [allF] at hq'
        | succ n =>
          cases hg : fromO text r (nextP u) with
          | none => rw [allF_none hg] at hq'; simp at hq'
          | some u' =>
            rw [allF_some hg] at hq'
            simp only [List.getElem?_cons_zero, Option.some.injEq] at hq'
            subst hq'
            exact (fromO_ok _ (nextP u) (Nat.le_refl _) u' hg).1
theorem allP_chain {t : Re} {text : List Int} {i : Nat} {q : Nat × Nat × Grp} (h : (allP t text)[i]? = some q) : (q.1 ≤ q.2.1 ∧ q.2.1 ≤ text.length ∧ q.2.2.length = 10) ∧ ∀ q', (allP t text)[i + 1]? = some q' → nextP q ≤ q'.1 := by
  unfold allP at h ⊢
  by_cases h1 : capP t text = 0
  · rw [if_neg (by omega)] at h ⊢
    exact allF_chain _ _ _ _ h
  · rw [if_pos h1] at h; simp at h
theorem allP_nil {t : Re} {text : List Int} (h : capP t text ≠ 0) : allP t text = [] := by unfold allP; rw [if_pos h]
set_option maxHeartbeats 4000000 in
theorem apart_c (w0 : World) (v1 v2 : Value) (l t : List Int) (h1 : IntsAt w0 v1 l) (h2 : IntsAt w0 v2 t) :
    Ret Try.prog 4 #[v1, v2] w0 fun v w => v = .bool true ∧ Ext w0 w := by
  obtain ⟨a1, c1, rfl⟩ := SlAt.form h1
  obtain ⟨a2, c2, rfl⟩ := SlAt.form h2
  simp only [List.length_map] at h1 h2 ⊢
  refine Ret_of Try.func4 rfl Try.ntmps4 (Nat.le_of_ble_eq_true rfl) ?_
  have E : Chg none1 w0 w0 := Chg.refl _ _
  refine Wp_seq_region ?_
  refine WpL_val rfl rfl (by decide) (r_assign (v := (.bool false)) rfl) ?_
  refine WpL_nil ?_
  refine Wp_seq ?_
  refine Wp_seq_region ?_
  refine WpL_enter rfl rfl (by decide) (r_callF (vs := []) Try.func6 nm6 bd6 rfl) (cbegun_c _) ?_
  rintro _ w9 ⟨rfl, X9⟩
  replace E := E.ext X9
  refine WpL_val rfl rfl (by decide) (r_not (b := true) rfl) ?_
  refine WpL_nil ?_
  refine Wp_cond_false rfl ?_
  refine Wp_skip ?_
  refine thn_normal ?_
  refine Wp_seq_region ?_
  refine WpL_val rfl rfl (by decide) (r_move (v := (.slice a1 l.length c1)) rfl) ?_
  refine WpL_enter rfl rfl (by decide) (r_callF (vs := [(.slice a1 l.length c1)]) Try.func7 nm7 bd7 rfl) (mkReAll_c _ _ l (h1.ext E)) ?_
  rintro _ wa ⟨a, us, rfl, ga, za, ha, Xa⟩
  replace E := E.ext Xa
  have hat := ReIn.at a ha
  obtain ⟨sa, sc, aa, ac, rfl, _, _, _⟩ := ha.form
  refine WpL_val rfl rfl (by decide) (r_move (v := (.slice a2 t.length c2)) rfl) ?_
  refine WpL_enter rfl rfl (by decide) (r_callF (vs := [(.slice a2 t.length c2)]) Try.func8 nm8 bd8 rfl) (text_c _ _ t (h2.ext E)) ?_
  rintro _ wt ⟨ta, tc, text, rfl, htx, htl, htr, Xt⟩
  replace E := E.ext Xt
  obtain ⟨y0, y1, y2, y3, y4, y5, y6, y7, y8, y9, y10, y11, y12, y13, y14, y15, y16, y17, y18, y19, y20, y21, hy⟩ := fnd22 (o := findO a text) (findO_len _ _)
  refine s_allocStore (v := (.agg #[(.int .i64 a.kind), (.slice sa a.set.length sc), (.slice aa a.args.length ac), (.int .i64 a.mn), (.int .i64 a.mx), (.bool a.neg)])) (c := #[(.int .i64 a.kind), (.slice sa a.set.length sc), (.slice aa a.args.length ac), (.int .i64 a.mn), (.int .i64 a.mx), (.bool a.neg)]) (n := 6) (by decide) zer27 rfl siz27 rfl rfl rfl (by simp [Value.oneCell']) ?_
  intro bo wo No
  have Fo := No.ge E
  replace E := E.ext No.ext
  have Bo := No.blk
  refine WpL_val rfl rfl (by decide) (r_assign (v := (.slice ta text.length tc)) rfl) ?_
  refine WpL_nil ?_
  refine Wp_seq_region ?_
  refine WpL_val rfl rfl (by decide) (r_loadAgg (vs := [(.int .i64 a.kind), (.slice sa a.set.length sc), (.slice aa a.args.length ac), (.int .i64 a.mn), (.int .i64 a.mx), (.bool a.neg)]) rfl agg27 siz27 rfl (Bo.cells rfl)) ?_
  refine WpL_val rfl rfl (by decide) (r_move (v := (.slice ta text.length tc)) rfl) ?_
  refine WpL_enter rfl rfl (by decide) (r_callF (vs := [(.agg #[(.int .i64 a.kind), (.slice sa a.set.length sc), (.slice aa a.args.length ac), (.int .i64 a.mn), (.int .i64 a.mx), (.bool a.neg)]), (.slice ta text.length tc)]) Try.func11 nm11 bd11 rfl) (all_c _ a _ _ text (ReAt.ext (Xt.trans No.ext) a hat) (htx.ext No.ext)) ?_
  rintro _ w19 ⟨ra, rc, rfl, hall, X19⟩
  replace Bo := X19.keep Bo
  replace E := E.ext X19
  refine WpL_val rfl rfl (by decide) (r_move (v := (.tuple #[(.slice ra ((allP a text).length) rc), (.int .i64 (capP a text))])) rfl) ?_
  refine WpL_val rfl rfl (by decide) (r_extract (vs := #[(.slice ra ((allP a text).length) rc), (.int .i64 (capP a text))]) (v := (.slice ra ((allP a text).length) rc)) rfl rfl) ?_
  refine WpL_val rfl rfl (by decide) (r_extract (vs := #[(.slice ra ((allP a text).length) rc), (.int .i64 (capP a text))]) (v := (.int .i64 (capP a text))) rfl rfl) ?_
  refine WpL_val rfl rfl (by decide) (r_assign (v := (.slice ra ((allP a text).length) rc)) rfl) ?_
  refine WpL_val rfl rfl (by decide) (r_assign (v := (.int .i64 (capP a text))) rfl) ?_
  refine WpL_nil ?_
  refine Wp_seq_region ?_
  refine WpL_val rfl rfl (by decide) (r_loadAgg (vs := [(.int .i64 a.kind), (.slice sa a.set.length sc), (.slice aa a.args.length ac), (.int .i64 a.mn), (.int .i64 a.mx), (.bool a.neg)]) rfl agg27 siz27 rfl (Bo.cells rfl)) ?_
  refine WpL_val rfl rfl (by decide) (r_move (v := (.slice ta text.length tc)) rfl) ?_
  refine WpL_enter rfl rfl (by decide) (r_callF (vs := [(.agg #[(.int .i64 a.kind), (.slice sa a.set.length sc), (.slice aa a.args.length ac), (.int .i64 a.mn), (.int .i64 a.mx), (.bool a.neg)]), (.slice ta text.length tc)]) Try.func9 nm9 bd9 rfl) (find_c _ a _ _ text (ReAt.ext (Xt.trans (No.ext.trans X19)) a hat) (htx.ext (No.ext.trans X19)) |>.mono (R' := fun r w => r = .tuple #[.agg #[.int .i64 y0, .int .i64 y1, .int .i64 y2, .int .i64 y3, .int .i64 y4, .int .i64 y5, .int .i64 y6, .int .i64 y7, .int .i64 y8, .int .i64 y9, .int .i64 y10, .int .i64 y11, .int .i64 y12, .int .i64 y13, .int .i64 y14, .int .i64 y15, .int .i64 y16, .int .i64 y17, .int .i64 y18, .int .i64 y19, .int .i64 y20, .int .i64 y21], .bool (findO a text).isSome, .int .i64 (capP a text)] ∧ Ext _ w) (fun r w h => ⟨by rw [h.1]; unfold findV; rw [hy], h.2⟩)) ?_
  rintro _ w29 ⟨rfl, X29⟩
  replace Bo := X29.keep Bo
  replace E := E.ext X29
  replace hall := (hall.ext X29)
  refine WpL_val rfl rfl (by decide) (r_move (v := (.tuple #[(.agg #[(.int .i64 y0), (.int .i64 y1), (.int .i64 y2), (.int .i64 y3), (.int .i64 y4), (.int .i64 y5), (.int .i64 y6), (.int .i64 y7), (.int .i64 y8), (.int .i64 y9), (.int .i64 y10), (.int .i64 y11), (.int .i64 y12), (.int .i64 y13), (.int .i64 y14), (.int .i64 y15), (.int .i64 y16), (.int .i64 y17), (.int .i64 y18), (.int .i64 y19), (.int .i64 y20), (.int .i64 y21)]), (.bool ((findO a text).isSome)), (.int .i64 (capP a text))])) rfl) ?_
  refine WpL_val rfl rfl (by decide) (r_extract (vs := #[(.agg #[(.int .i64 y0), (.int .i64 y1), (.int .i64 y2), (.int .i64 y3), (.int .i64 y4), (.int .i64 y5), (.int .i64 y6), (.int .i64 y7), (.int .i64 y8), (.int .i64 y9), (.int .i64 y10), (.int .i64 y11), (.int .i64 y12), (.int .i64 y13), (.int .i64 y14), (.int .i64 y15), (.int .i64 y16), (.int .i64 y17), (.int .i64 y18), (.int .i64 y19), (.int .i64 y20), (.int .i64 y21)]), (.bool ((findO a text).isSome)), (.int .i64 (capP a text))]) (v := (.agg #[(.int .i64 y0), (.int .i64 y1), (.int .i64 y2), (.int .i64 y3), (.int .i64 y4), (.int .i64 y5), (.int .i64 y6), (.int .i64 y7), (.int .i64 y8), (.int .i64 y9), (.int .i64 y10), (.int .i64 y11), (.int .i64 y12), (.int .i64 y13), (.int .i64 y14), (.int .i64 y15), (.int .i64 y16), (.int .i64 y17), (.int .i64 y18), (.int .i64 y19), (.int .i64 y20), (.int .i64 y21)])) rfl rfl) ?_
  refine WpL_val rfl rfl (by decide) (r_extract (vs := #[(.agg #[(.int .i64 y0), (.int .i64 y1), (.int .i64 y2), (.int .i64 y3), (.int .i64 y4), (.int .i64 y5), (.int .i64 y6), (.int .i64 y7), (.int .i64 y8), (.int .i64 y9), (.int .i64 y10), (.int .i64 y11), (.int .i64 y12), (.int .i64 y13), (.int .i64 y14), (.int .i64 y15), (.int .i64 y16), (.int .i64 y17), (.int .i64 y18), (.int .i64 y19), (.int .i64 y20), (.int .i64 y21)]), (.bool ((findO a text).isSome)), (.int .i64 (capP a text))]) (v := (.bool ((findO a text).isSome))) rfl rfl) ?_
  refine WpL_val rfl rfl (by decide) (r_extract (vs := #[(.agg #[(.int .i64 y0), (.int .i64 y1), (.int .i64 y2), (.int .i64 y3), (.int .i64 y4), (.int .i64 y5), (.int .i64 y6), (.int .i64 y7), (.int .i64 y8), (.int .i64 y9), (.int .i64 y10), (.int .i64 y11), (.int .i64 y12), (.int .i64 y13), (.int .i64 y14), (.int .i64 y15), (.int .i64 y16), (.int .i64 y17), (.int .i64 y18), (.int .i64 y19), (.int .i64 y20), (.int .i64 y21)]), (.bool ((findO a text).isSome)), (.int .i64 (capP a text))]) (v := (.int .i64 (capP a text))) rfl rfl) ?_
  refine s_allocStore (v := (.agg #[(.int .i64 y0), (.int .i64 y1), (.int .i64 y2), (.int .i64 y3), (.int .i64 y4), (.int .i64 y5), (.int .i64 y6), (.int .i64 y7), (.int .i64 y8), (.int .i64 y9), (.int .i64 y10), (.int .i64 y11), (.int .i64 y12), (.int .i64 y13), (.int .i64 y14), (.int .i64 y15), (.int .i64 y16), (.int .i64 y17), (.int .i64 y18), (.int .i64 y19), (.int .i64 y20), (.int .i64 y21)])) (c := #[(.int .i64 y0), (.int .i64 y1), (.int .i64 y2), (.int .i64 y3), (.int .i64 y4), (.int .i64 y5), (.int .i64 y6), (.int .i64 y7), (.int .i64 y8), (.int .i64 y9), (.int .i64 y10), (.int .i64 y11), (.int .i64 y12), (.int .i64 y13), (.int .i64 y14), (.int .i64 y15), (.int .i64 y16), (.int .i64 y17), (.int .i64 y18), (.int .i64 y19), (.int .i64 y20), (.int .i64 y21)]) (n := 22) (by decide) zer33 rfl siz33 rfl rfl rfl (by simp [Value.oneCell']) ?_
  intro bf wf Nf
  have Ff := Nf.ge E
  have Of_bo := Nf.lt Bo
  replace Bo := Nf.keep Bo
  replace E := E.ext Nf.ext
  have Bf := Nf.blk
  refine WpL_val rfl rfl (by decide) (r_assign (v := (.bool ((findO a text).isSome))) rfl) ?_
  refine WpL_val rfl rfl (by decide) (r_assign (v := (.int .i64 (capP a text))) rfl) ?_
  refine WpL_nil ?_
  refine Wp_seq ?_
  refine Wp_seq_region ?_
  refine WpL_val rfl rfl (by decide) (r_move (v := (.int .i64 (capP a text))) rfl) ?_
  obtain ⟨e1, he1⟩ : ∃ e, (decide ((capP a text : Int) ≠ 0)) = e := ⟨_, rfl⟩
  refine WpL_val rfl rfl (by decide) ((r_neq (k := .i64) (a := capP a text) (b := 0) rfl rfl).trans (by rw [he1]; try rfl)) ?_
  refine WpL_val rfl rfl (by decide) (r_move (v := (.bool e1)) rfl) ?_
  refine WpL_guard_any (oj := _) (gv := (.bool e1)) (u := (bif e1 then undef else (.int .i64 (capP a text)))) rfl rfl (by decide) (by decide) rfl (by cases e1 <;> first | exact Or.inr ⟨Or.inl rfl, rfl⟩ | exact Or.inr ⟨Or.inr rfl, rfl⟩ | exact Or.inl ⟨rfl, r_move (v := (.int .i64 (capP a text))) rfl⟩) ?_
  obtain ⟨e2, he2⟩ : ∃ e, (decide ((capP a text : Int) ≠ 0)) = e := ⟨_, rfl⟩
  refine WpL_guard_any (oj := _) (gv := (.bool e1)) (u := (bif e1 then undef else (.bool e2))) rfl rfl (by decide) (by decide) rfl (by cases e1 <;> first | exact Or.inr ⟨Or.inl rfl, rfl⟩ | exact Or.inr ⟨Or.inr rfl, rfl⟩ | exact Or.inl ⟨rfl, (r_neq (k := .i64) (a := capP a text) (b := 0) rfl rfl).trans (by rw [he2]; try rfl)⟩) ?_
  obtain ⟨e3, he3⟩ : ∃ e, (e1 || e2) = e := ⟨_, rfl⟩
  refine WpL_val rfl rfl (by decide) (r_pick (b := e1) (v := .bool e3) rfl (by rw [← he3]; cases e1 <;> rfl)) ?_
  refine WpL_nil ?_
  subst he3
  subst he2
  subst he1
  refine Wp_cond (b := ((decide ((capP a text : Int) ≠ 0)) || (decide ((capP a text : Int) ≠ 0)))) rfl (fun hc => ?_) (fun hc => ?_)
  · have khc := hc
    have hc0 : capP a text ≠ 0 := by simpa using hc
    refine Wp_seq_region ?_
    refine WpL_val rfl rfl (by decide) (r_move (v := (.int .i64 (capP a text))) rfl) ?_
    refine WpL_val rfl rfl (by decide) (r_move (v := (.int .i64 (capP a text))) rfl) ?_
    obtain ⟨e5, he5⟩ : ∃ e, (decide ((capP a text : Int) = capP a text)) = e := ⟨_, rfl⟩
    refine WpL_val rfl rfl (by decide) ((r_eql (k := .i64) (a := capP a text) (b := capP a text) rfl rfl).trans (by rw [he5]; try rfl)) ?_
    refine WpL_val rfl rfl (by decide) (r_move (v := (.bool e5)) rfl) ?_
    refine WpL_guard_any (oj := _) (gv := (.bool e5)) (u := (bif e5 then (.slice ra ((allP a text).length) rc) else undef)) rfl rfl (by decide) (by decide) rfl (by cases e5 <;> first | exact Or.inr ⟨Or.inl rfl, rfl⟩ | exact Or.inr ⟨Or.inr rfl, rfl⟩ | exact Or.inl ⟨rfl, r_move (v := (.slice ra ((allP a text).length) rc)) rfl⟩) ?_
    refine WpL_guard_any (oj := _) (gv := (.bool e5)) (u := (bif e5 then (.int .i64 (((allP a text).length : Nat) : Int)) else undef)) rfl rfl (by decide) (by decide) rfl (by cases e5 <;> first | exact Or.inr ⟨Or.inl rfl, rfl⟩ | exact Or.inr ⟨Or.inr rfl, rfl⟩ | exact Or.inl ⟨rfl, r_lenSlice (ad := ra) (n := (allP a text).length) (cap := rc) Try.underlying38 rfl⟩) ?_
    obtain ⟨e6, he6⟩ : ∃ e, (decide (((((allP a text).length : Nat) : Int) : Int) = 0)) = e := ⟨_, rfl⟩
    refine WpL_guard_any (oj := _) (gv := (.bool e5)) (u := (bif e5 then (.bool e6) else undef)) rfl rfl (by decide) (by decide) rfl (by cases e5 <;> first | exact Or.inr ⟨Or.inl rfl, rfl⟩ | exact Or.inr ⟨Or.inr rfl, rfl⟩ | exact Or.inl ⟨rfl, (r_eql (k := .i64) (a := (((allP a text).length : Nat) : Int)) (b := 0) rfl rfl).trans (by rw [he6]; try rfl)⟩) ?_
    obtain ⟨e7, he7⟩ : ∃ e, (e5 && e6) = e := ⟨_, rfl⟩
    refine WpL_val rfl rfl (by decide) (r_pick (b := e5) (v := .bool e7) rfl (by rw [← he7]; cases e5 <;> rfl)) ?_
    refine WpL_val rfl rfl (by decide) (r_assign (v := (.bool e7)) rfl) ?_
    refine WpL_nil ?_
    subst he7
    subst he6
    subst he5
    refine Wp_ret ?_
    refine thn_ret ?_
    refine fin_tmp Try.results4 (v := (.bool ((decide ((capP a text : Int) = capP a text)) && (decide (((((allP a text).length : Nat) : Int) : Int) = 0))))) rfl ?_
    exact ⟨bool_eq (by rw [allP_nil hc0]; simp), E⟩
  · have khc := hc
    have hc0 : capP a text = 0 := by simpa using hc
    refine Wp_skip ?_
    refine thn_normal ?_
    refine Wp_seq ?_
    refine Wp_seq_region ?_
    refine WpL_val rfl rfl (by decide) (r_move (v := (.bool ((findO a text).isSome))) rfl) ?_
    refine WpL_val rfl rfl (by decide) (r_move (v := (.slice ra ((allP a text).length) rc)) rfl) ?_
    refine WpL_val rfl rfl (by decide) (r_lenSlice (ad := ra) (n := (allP a text).length) (cap := rc) Try.underlying38 rfl) ?_
    refine WpL_val rfl rfl (by decide) (r_gtr (k := .i64) (a := (((allP a text).length : Nat) : Int)) (b := 0) rfl rfl) ?_
    refine WpL_val rfl rfl (by decide) (r_neqB (p := (findO a text).isSome) (q := decide ((0 : Int) < (((allP a text).length : Nat) : Int))) Try.underlying4 rfl rfl) ?_
    refine WpL_nil ?_
    refine Wp_cond (b := ((findO a text).isSome) != (decide ((0 : Int) < (((allP a text).length : Nat) : Int)))) rfl (fun hs => ?_) (fun hs => ?_)
    · have khs := hs
      rw [find_all] at hs; cases hq : allP a text <;> simp [hq] at hs
    · have khs := hs
      replace hall := hall.ext Nf.ext
      have hlen9 := SlAt.le hall
      rw [List.length_map] at hlen9
      have E3 : Chg none1 wf wf := Chg.refl _ _
      refine Wp_skip ?_
      refine thn_normal ?_
      refine Wp_seq_region ?_
      refine WpL_val rfl rfl (by decide) (r_assign (v := (.int .i64 0)) rfl) ?_
      refine WpL_nil ?_
      refine Wp_seq ?_
      refine Wp_seq_region ?_
      refine WpL_val rfl rfl (by decide) (r_move (v := (.slice ra ((allP a text).length) rc)) rfl) ?_
      refine WpL_val rfl rfl (by decide) (r_lenSlice (ad := ra) (n := (allP a text).length) (cap := rc) Try.underlying38 rfl) ?_
      refine WpL_val rfl rfl (by decide) (r_move (v := (.int .i64 0)) rfl) ?_
      refine WpL_nil ?_
      refine Wp_block ?_
      refine Wp_loop (fun nn_ σ W9 => ∃ (i : Nat) (e : Nat), (∃ jj_, σ = upds jj_ [(6, (.slice ta text.length tc)), (9, (.pointer (some ⟨bf, 0, none⟩))), (53, (.slice ra ((allP a text).length) rc)), (54, (.int .i64 (((allP a text).length : Nat) : Int))), (55, (.int .i64 ((i : Nat) : Int))), (12, (.int .i64 ((e : Nat) : Int)))]) ∧ Chg none1 w0 W9 ∧ Chg none1 wf W9 ∧ Blk W9 bo #[(.int .i64 a.kind), (.slice sa a.set.length sc), (.slice aa a.args.length ac), (.int .i64 a.mn), (.int .i64 a.mx), (.bool a.neg)] 27 ∧ Blk W9 bf #[(.int .i64 y0), (.int .i64 y1), (.int .i64 y2), (.int .i64 y3), (.int .i64 y4), (.int .i64 y5), (.int .i64 y6), (.int .i64 y7), (.int .i64 y8), (.int .i64 y9), (.int .i64 y10), (.int .i64 y11), (.int .i64 y12), (.int .i64 y13), (.int .i64 y14), (.int .i64 y15), (.int .i64 y16), (.int .i64 y17), (.int .i64 y18), (.int .i64 y19), (.int .i64 y20), (.int .i64 y21)] 33 ∧ (i ≤ (allP a text).length) ∧ (∀ q, (allP a text)[i]? = some q → e ≤ q.1) ∧ nn_ = (allP a text).length - i) (n := (allP a text).length - 0) ?_ ?_
      · exact ⟨0, 0, Fits.out ⟨rfl, rfl, rfl, rfl, rfl, rfl, trivial⟩, E, E3, Bo, Bf, Nat.zero_le _, (fun q _ => Nat.zero_le _), rfl⟩
      · clear E E3 Bo Bf
        rintro _ _ W9 ⟨i, e, ⟨j9, rfl⟩, E, E3, Bo, Bf, hi, he, rfl⟩
        refine Wp_seq_region ?_
        refine WpL_val rfl rfl (by decide) (r_lss (k := .i64) (a := ((i : Nat) : Int)) (b := (((allP a text).length : Nat) : Int)) rfl rfl) ?_
        refine WpL_nil ?_
        refine Wp_seq ?_
        refine Wp_cond (b := decide ((((i : Nat) : Int) : Int) < (((allP a text).length : Nat) : Int))) rfl (fun hlt => ?_) (fun hlt => ?_)
        · have khlt := hlt
          replace hlt := of_decide_eq_true hlt
          obtain ⟨q, hq⟩ := get_of_lt (l := allP a text) (i := i) (by omega)
          obtain ⟨⟨q1, q2, q3⟩, q4⟩ := allP_chain hq
          have q5 := he q hq
          obtain ⟨x0, x1, x2, x3, x4, x5, x6, x7, x8, x9, x10, x11, x12, x13, x14, x15, x16, x17, x18, x19, x20, x21, hx⟩ := fnd22 (o := some q) (fndQ_len q3)
          have hx0 : x0 = ((q.1 : Nat) : Int) := by have := congrArg (fun l => l[0]?) hx; simpa [fndO] using this.symm
          have hx1 : x1 = ((q.2.1 : Nat) : Int) := by have := congrArg (fun l => l[1]?) hx; simpa [fndO] using this.symm
          obtain ⟨b, o, rfl, hcl⟩ := SlAt.at hall (by omega)
          have hcq := hcl i (fndQ q) (by simp [hq])
          rw [show fndQ q = [.int .i64 x0, .int .i64 x1, .int .i64 x2, .int .i64 x3, .int .i64 x4, .int .i64 x5, .int .i64 x6, .int .i64 x7, .int .i64 x8, .int .i64 x9, .int .i64 x10, .int .i64 x11, .int .i64 x12, .int .i64 x13, .int .i64 x14, .int .i64 x15, .int .i64 x16, .int .i64 x17, .int .i64 x18, .int .i64 x19, .int .i64 x20, .int .i64 x21] from hx] at hcq
          refine Wp_skip ?_
          refine thn_normal ?_
          refine Wp_seq ?_
          refine Wp_block ?_
          refine Wp_seq_region ?_
          refine WpL_val rfl rfl (by decide) (r_move (v := (.int .i64 ((i : Nat) : Int))) rfl) ?_
          refine WpL_val rfl rfl (by decide) (r_indexSlice (b := b) (o := o) (len := (allP a text).length) (cap := rc) (i := i) (o' := o + i * 22) rfl rfl rfl Try.underlying38 siz33 (by omega) (by omega)) ?_
          refine WpL_val rfl rfl (by decide) (r_loadAgg (vs := [(.int .i64 x0), (.int .i64 x1), (.int .i64 x2), (.int .i64 x3), (.int .i64 x4), (.int .i64 x5), (.int .i64 x6), (.int .i64 x7), (.int .i64 x8), (.int .i64 x9), (.int .i64 x10), (.int .i64 x11), (.int .i64 x12), (.int .i64 x13), (.int .i64 x14), (.int .i64 x15), (.int .i64 x16), (.int .i64 x17), (.int .i64 x18), (.int .i64 x19), (.int .i64 x20), (.int .i64 x21)]) rfl agg33 siz33 rfl (hcq.ext E3)) ?_
          refine s_alloc (by decide) zer33 rfl ?_
          intro bx wx Nx
          have Fx := Nx.ge E
          have Fx_E3 := Nx.ge E3
          have Ox_bo := Nx.lt Bo
          have Ox_bf := Nx.lt Bf
          replace Bo := Nx.keep Bo
          replace Bf := Nx.keep Bf
          replace E := E.ext Nx.ext
          have Bx := Nx.blk
          replace E3 := E3.ext Nx.ext
          refine WpL_val rfl rfl (by decide) (r_assign (v := (.int .i64 ((i : Nat) : Int))) rfl) ?_
          refine s_storeAgg (b := bx) (o := 0) (c' := #[(.int .i64 x0), (.int .i64 x1), (.int .i64 x2), (.int .i64 x3), (.int .i64 x4), (.int .i64 x5), (.int .i64 x6), (.int .i64 x7), (.int .i64 x8), (.int .i64 x9), (.int .i64 x10), (.int .i64 x11), (.int .i64 x12), (.int .i64 x13), (.int .i64 x14), (.int .i64 x15), (.int .i64 x16), (.int .i64 x17), (.int .i64 x18), (.int .i64 x19), (.int .i64 x20), (.int .i64 x21)]) rfl rfl (by simp [Value.oneCell']) siz33 rfl Bx (by first | (simp; done) | exact Nat.le_of_ble_eq_true rfl) rfl ?_
          intro w11 S11
          replace Bo := S11.keep (by omega) Bo
          replace Bf := S11.keep (by omega) Bf
          replace E := S11.step E (by first | exact Or.inl (by omega) | exact Or.inr rfl | exact Or.inr (by assumption) | exact Or.inr (by simp) | exact Or.inr (by omega) | exact Or.inr (by dsimp only; omega))
          replace E3 := S11.step E3 (Or.inl (by omega))
          replace Bx := S11.blk
          refine WpL_nil ?_
          refine Wp_seq ?_
          refine Wp_seq_region ?_
          refine WpL_val rfl rfl (by decide) (r_move (v := (.int .i64 ((i : Nat) : Int))) rfl) ?_
          refine WpL_val rfl rfl (by decide) (r_eql (k := .i64) (a := ((i : Nat) : Int)) (b := 0) rfl rfl) ?_
          refine WpL_val rfl rfl (by decide) (r_move (v := (.bool (decide ((((i : Nat) : Int) : Int) = 0)))) rfl) ?_
          rcases Bool.eq_false_or_eq_true (decide ((((i : Nat) : Int) : Int) = 0)) with hi0 | hi0
          · have khi0 := hi0
            replace khi0 := of_decide_eq_true khi0
            refine WpL_guard_yes (oj := _) rfl rfl (by decide) (congrArg Value.bool hi0) ?_
            refine WpL_val rfl rfl (by decide) (r_loadAgg (vs := [(.int .i64 x0), (.int .i64 x1), (.int .i64 x2), (.int .i64 x3), (.int .i64 x4), (.int .i64 x5), (.int .i64 x6), (.int .i64 x7), (.int .i64 x8), (.int .i64 x9), (.int .i64 x10), (.int .i64 x11), (.int .i64 x12), (.int .i64 x13), (.int .i64 x14), (.int .i64 x15), (.int .i64 x16), (.int .i64 x17), (.int .i64 x18), (.int .i64 x19), (.int .i64 x20), (.int .i64 x21)]) rfl agg33 siz33 rfl (Bx.cells rfl)) ?_
            refine WpL_guard_yes (oj := _) rfl rfl (by decide) (congrArg Value.bool hi0) ?_
            refine WpL_val rfl rfl (by decide) (r_loadAgg (vs := [(.int .i64 y0), (.int .i64 y1), (.int .i64 y2), (.int .i64 y3), (.int .i64 y4), (.int .i64 y5), (.int .i64 y6), (.int .i64 y7), (.int .i64 y8), (.int .i64 y9), (.int .i64 y10), (.int .i64 y11), (.int .i64 y12), (.int .i64 y13), (.int .i64 y14), (.int .i64 y15), (.int .i64 y16), (.int .i64 y17), (.int .i64 y18), (.int .i64 y19), (.int .i64 y20), (.int .i64 y21)]) rfl agg33 siz33 rfl (Bf.cells rfl)) ?_
            refine WpL_guard_yes (oj := _) rfl rfl (by decide) (congrArg Value.bool hi0) ?_
            refine WpL_val (v := (.bool false)) rfl rfl (by decide) (r_neqFd (L := fndO (some q)) rfl (fndQ_len q3) (congrArg (fun l : List Value => Value.agg l.toArray) hx.symm) (congrArg (fun l : List Value => Value.agg l.toArray) (hy.symm.trans (by rw [find_all, List.head?_eq_getElem?, ← hq, show i = 0 by omega])))) ?_
            refine WpL_val rfl rfl (by decide) (r_pick (b := decide ((((i : Nat) : Int) : Int) = 0)) (v := (.bool false)) rfl (by rw [hi0]; rfl)) ?_
            refine WpL_val rfl rfl (by decide) (r_move (v := (.bool false)) rfl) ?_
            refine WpL_guard_yes (oj := _) rfl rfl (by decide) rfl ?_
            refine WpL_val rfl rfl (by decide) (r_fieldAddr (b := bx) (o := 0) (o' := 0) rfl Try.underlying33 rfl siz3 rfl) ?_
            refine WpL_guard_yes (oj := _) rfl rfl (by decide) rfl ?_
            refine WpL_val rfl rfl (by decide) (r_load (v := (.int .i64 x0)) rfl flat3 (Bx.cell rfl)) ?_
            refine WpL_guard_yes (oj := _) rfl rfl (by decide) rfl ?_
            refine WpL_val rfl rfl (by decide) (r_move (v := (.int .i64 ((e : Nat) : Int))) rfl) ?_
            refine WpL_guard_yes (oj := _) rfl rfl (by decide) rfl ?_
            refine WpL_val rfl rfl (by decide) (r_lss (k := .i64) (a := x0) (b := ((e : Nat) : Int)) rfl rfl) ?_
            refine WpL_val rfl rfl (by decide) (r_pick (b := false) (v := (.bool (decide ((x0 : Int) < ((e : Nat) : Int))))) rfl rfl) ?_
            refine WpL_val rfl rfl (by decide) (r_move (v := (.bool (decide ((x0 : Int) < ((e : Nat) : Int))))) rfl) ?_
            have hg13 : (decide ((x0 : Int) < ((e : Nat) : Int))) = false := decide_eq_false (by omega)
            refine WpL_guard_yes (oj := _) rfl rfl (by decide) (congrArg Value.bool hg13) ?_
            refine WpL_val rfl rfl (by decide) (r_fieldAddr (b := bx) (o := 0) (o' := 1) rfl Try.underlying33 rfl siz3 rfl) ?_
            refine WpL_guard_yes (oj := _) rfl rfl (by decide) (congrArg Value.bool hg13) ?_
            refine WpL_val rfl rfl (by decide) (r_load (v := (.int .i64 x1)) rfl flat3 (Bx.cell rfl)) ?_
            refine WpL_guard_yes (oj := _) rfl rfl (by decide) (congrArg Value.bool hg13) ?_
            refine WpL_val rfl rfl (by decide) (r_fieldAddr (b := bx) (o := 0) (o' := 0) rfl Try.underlying33 rfl siz3 rfl) ?_
            refine WpL_guard_yes (oj := _) rfl rfl (by decide) (congrArg Value.bool hg13) ?_
            refine WpL_val rfl rfl (by decide) (r_load (v := (.int .i64 x0)) rfl flat3 (Bx.cell rfl)) ?_
            refine WpL_guard_yes (oj := _) rfl rfl (by decide) (congrArg Value.bool hg13) ?_
            refine WpL_val rfl rfl (by decide) (r_lss (k := .i64) (a := x1) (b := x0) rfl rfl) ?_
            refine WpL_val rfl rfl (by decide) (r_pick (b := decide ((x0 : Int) < ((e : Nat) : Int))) (v := (.bool (decide ((x1 : Int) < x0)))) rfl (by rw [hg13]; rfl)) ?_
            refine WpL_val rfl rfl (by decide) (r_move (v := (.bool (decide ((x1 : Int) < x0)))) rfl) ?_
            have hg14 : (decide ((x1 : Int) < x0)) = false := decide_eq_false (by omega)
            refine WpL_guard_yes (oj := _) rfl rfl (by decide) (congrArg Value.bool hg14) ?_
            refine WpL_val rfl rfl (by decide) (r_fieldAddr (b := bx) (o := 0) (o' := 1) rfl Try.underlying33 rfl siz3 rfl) ?_
            refine WpL_guard_yes (oj := _) rfl rfl (by decide) (congrArg Value.bool hg14) ?_
            refine WpL_val rfl rfl (by decide) (r_load (v := (.int .i64 x1)) rfl flat3 (Bx.cell rfl)) ?_
            refine WpL_guard_yes (oj := _) rfl rfl (by decide) (congrArg Value.bool hg14) ?_
            refine WpL_val rfl rfl (by decide) (r_move (v := (.slice ta text.length tc)) rfl) ?_
            refine WpL_guard_yes (oj := _) rfl rfl (by decide) (congrArg Value.bool hg14) ?_
            refine WpL_val rfl rfl (by decide) (r_lenSlice (ad := ta) (n := text.length) (cap := tc) Try.underlying22 rfl) ?_
            refine WpL_guard_yes (oj := _) rfl rfl (by decide) (congrArg Value.bool hg14) ?_
            refine WpL_val rfl rfl (by decide) (r_gtr (k := .i64) (a := x1) (b := ((text.length : Nat) : Int)) rfl rfl) ?_
            refine WpL_val rfl rfl (by decide) (r_pick (b := decide ((x1 : Int) < x0)) (v := (.bool (decide ((((text.length : Nat) : Int) : Int) < x1)))) rfl (by rw [hg14]; rfl)) ?_
            refine WpL_nil ?_
            have hc15 : (decide ((((text.length : Nat) : Int) : Int) < x1)) = false := decide_eq_false (by omega)
            refine Wp_cond_false (congrArg Value.bool hc15) ?_
            refine Wp_skip ?_
            refine thn_normal ?_
            refine Wp_seq_region ?_
            refine WpL_val rfl rfl (by decide) (r_fieldAddr (b := bx) (o := 0) (o' := 1) rfl Try.underlying33 rfl siz3 rfl) ?_
            refine WpL_val rfl rfl (by decide) (r_load (v := (.int .i64 x1)) rfl flat3 (Bx.cell rfl)) ?_
            refine WpL_val rfl rfl (by decide) (r_assign (v := (.int .i64 x1)) rfl) ?_
            refine WpL_nil ?_
            refine Wp_seq_region ?_
            refine WpL_val rfl rfl (by decide) (r_fieldAddr (b := bx) (o := 0) (o' := 0) rfl Try.underlying33 rfl siz3 rfl) ?_
            refine WpL_val rfl rfl (by decide) (r_load (v := (.int .i64 x0)) rfl flat3 (Bx.cell rfl)) ?_
            refine WpL_val rfl rfl (by decide) (r_fieldAddr (b := bx) (o := 0) (o' := 1) rfl Try.underlying33 rfl siz3 rfl) ?_
            refine WpL_val rfl rfl (by decide) (r_load (v := (.int .i64 x1)) rfl flat3 (Bx.cell rfl)) ?_
            refine WpL_val rfl rfl (by decide) (r_eql (k := .i64) (a := x0) (b := x1) rfl rfl) ?_
            refine WpL_nil ?_
            refine Wp_cond (b := decide ((x0 : Int) = x1)) rfl (fun heq => ?_) (fun heq => ?_)
            · have kheq := heq
              replace heq := of_decide_eq_true heq
              have hnp : nextP q = q.2.1 + 1 := by unfold nextP; rw [if_pos (by omega)]
              refine Wp_region ?_
              refine WpL_val rfl rfl (by decide) (r_move (v := (.int .i64 x1)) rfl) ?_
              refine WpL_val rfl rfl (by decide) (r_add (k := .i64) (a := x1) (b := 1) (c := ((nextP q : Nat) : Int)) rfl rfl (by rw [hx1, hnp, wI64 (by omega)]; omega)) ?_
              refine WpL_val rfl rfl (by decide) (r_assign (v := (.int .i64 ((nextP q : Nat) : Int))) rfl) ?_
              refine WpL_nil ?_
              refine inB_normal ?_
              refine thn_normal ?_
              refine Wp_region ?_
              refine WpL_val rfl rfl (by decide) (r_add (k := .i64) (a := ((i : Nat) : Int)) (b := 1) (c := ((i : Nat) : Int) + 1) rfl rfl (wI64 (by omega))) ?_
              refine WpL_val rfl rfl (by decide) (r_move (v := (.int .i64 (((i : Nat) : Int) + 1))) rfl) ?_
              refine WpL_nil ?_
              refine thn_normal ?_
              exact ⟨(allP a text).length - (i + 1), by omega, i + 1, nextP q, Fits.out ⟨rfl, rfl, rfl, rfl, rfl, rfl, trivial⟩, E, E3, Bo, Bf, (by omega), q4, rfl⟩
            · have kheq := heq
              replace heq := of_decide_eq_false heq
              have hnp : nextP q = q.2.1 := by unfold nextP; rw [if_neg (by omega)]
              rw [hx1, ← hnp]
              refine Wp_skip ?_
              refine inB_normal ?_
              refine thn_normal ?_
              refine Wp_region ?_
              refine WpL_val rfl rfl (by decide) (r_add (k := .i64) (a := ((i : Nat) : Int)) (b := 1) (c := ((i : Nat) : Int) + 1) rfl rfl (wI64 (by omega))) ?_
              refine WpL_val rfl rfl (by decide) (r_move (v := (.int .i64 (((i : Nat) : Int) + 1))) rfl) ?_
              refine WpL_nil ?_
              refine thn_normal ?_
              exact ⟨(allP a text).length - (i + 1), by omega, i + 1, nextP q, Fits.out ⟨rfl, rfl, rfl, rfl, rfl, rfl, trivial⟩, E, E3, Bo, Bf, (by omega), q4, rfl⟩
          · have khi0 := hi0
            replace khi0 := of_decide_eq_false khi0
            refine WpL_guard_no (oj := _) rfl rfl (by decide) (v := .bool false) (congrArg Value.bool hi0) (Or.inl rfl) ?_
            refine WpL_guard_no (oj := _) rfl rfl (by decide) (v := .bool false) (congrArg Value.bool hi0) (Or.inl rfl) ?_
            refine WpL_guard_no (oj := _) rfl rfl (by decide) (v := .bool false) (congrArg Value.bool hi0) (Or.inl rfl) ?_
            refine WpL_val rfl rfl (by decide) (r_pick (b := decide ((((i : Nat) : Int) : Int) = 0)) (v := (.bool false)) rfl (by rw [hi0]; rfl)) ?_
            refine WpL_val rfl rfl (by decide) (r_move (v := (.bool false)) rfl) ?_
            refine WpL_guard_yes (oj := _) rfl rfl (by decide) rfl ?_
            refine WpL_val rfl rfl (by decide) (r_fieldAddr (b := bx) (o := 0) (o' := 0) rfl Try.underlying33 rfl siz3 rfl) ?_
            refine WpL_guard_yes (oj := _) rfl rfl (by decide) rfl ?_
            refine WpL_val rfl rfl (by decide) (r_load (v := (.int .i64 x0)) rfl flat3 (Bx.cell rfl)) ?_
            refine WpL_guard_yes (oj := _) rfl rfl (by decide) rfl ?_
            refine WpL_val rfl rfl (by decide) (r_move (v := (.int .i64 ((e : Nat) : Int))) rfl) ?_
            refine WpL_guard_yes (oj := _) rfl rfl (by decide) rfl ?_
            refine WpL_val rfl rfl (by decide) (r_lss (k := .i64) (a := x0) (b := ((e : Nat) : Int)) rfl rfl) ?_
            refine WpL_val rfl rfl (by decide) (r_pick (b := false) (v := (.bool (decide ((x0 : Int) < ((e : Nat) : Int))))) rfl rfl) ?_
            refine WpL_val rfl rfl (by decide) (r_move (v := (.bool (decide ((x0 : Int) < ((e : Nat) : Int))))) rfl) ?_
            have hg17 : (decide ((x0 : Int) < ((e : Nat) : Int))) = false := decide_eq_false (by omega)
            refine WpL_guard_yes (oj := _) rfl rfl (by decide) (congrArg Value.bool hg17) ?_
            refine WpL_val rfl rfl (by decide) (r_fieldAddr (b := bx) (o := 0) (o' := 1) rfl Try.underlying33 rfl siz3 rfl) ?_
            refine WpL_guard_yes (oj := _) rfl rfl (by decide) (congrArg Value.bool hg17) ?_
            refine WpL_val rfl rfl (by decide) (r_load (v := (.int .i64 x1)) rfl flat3 (Bx.cell rfl)) ?_
            refine WpL_guard_yes (oj := _) rfl rfl (by decide) (congrArg Value.bool hg17) ?_
            refine WpL_val rfl rfl (by decide) (r_fieldAddr (b := bx) (o := 0) (o' := 0) rfl Try.underlying33 rfl siz3 rfl) ?_
            refine WpL_guard_yes (oj := _) rfl rfl (by decide) (congrArg Value.bool hg17) ?_
            refine WpL_val rfl rfl (by decide) (r_load (v := (.int .i64 x0)) rfl flat3 (Bx.cell rfl)) ?_
            refine WpL_guard_yes (oj := _) rfl rfl (by decide) (congrArg Value.bool hg17) ?_
            refine WpL_val rfl rfl (by decide) (r_lss (k := .i64) (a := x1) (b := x0) rfl rfl) ?_
            refine WpL_val rfl rfl (by decide) (r_pick (b := decide ((x0 : Int) < ((e : Nat) : Int))) (v := (.bool (decide ((x1 : Int) < x0)))) rfl (by rw [hg17]; rfl)) ?_
            refine WpL_val rfl rfl (by decide) (r_move (v := (.bool (decide ((x1 : Int) < x0)))) rfl) ?_
            have hg18 : (decide ((x1 : Int) < x0)) = false := decide_eq_false (by omega)
            refine WpL_guard_yes (oj := _) rfl rfl (by decide) (congrArg Value.bool hg18) ?_
            refine WpL_val rfl rfl (by decide) (r_fieldAddr (b := bx) (o := 0) (o' := 1) rfl Try.underlying33 rfl siz3 rfl) ?_
            refine WpL_guard_yes (oj := _) rfl rfl (by decide) (congrArg Value.bool hg18) ?_
            refine WpL_val rfl rfl (by decide) (r_load (v := (.int .i64 x1)) rfl flat3 (Bx.cell rfl)) ?_
            refine WpL_guard_yes (oj := _) rfl rfl (by decide) (congrArg Value.bool hg18) ?_
            refine WpL_val rfl rfl (by decide) (r_move (v := (.slice ta text.length tc)) rfl) ?_
            refine WpL_guard_yes (oj := _) rfl rfl (by decide) (congrArg Value.bool hg18) ?_
            refine WpL_val rfl rfl (by decide) (r_lenSlice (ad := ta) (n := text.length) (cap := tc) Try.underlying22 rfl) ?_
            refine WpL_guard_yes (oj := _) rfl rfl (by decide) (congrArg Value.bool hg18) ?_
            refine WpL_val rfl rfl (by decide) (r_gtr (k := .i64) (a := x1) (b := ((text.length : Nat) : Int)) rfl rfl) ?_
            refine WpL_val rfl rfl (by decide) (r_pick (b := decide ((x1 : Int) < x0)) (v := (.bool (decide ((((text.length : Nat) : Int) : Int) < x1)))) rfl (by rw [hg18]; rfl)) ?_
            refine WpL_nil ?_
            have hc19 : (decide ((((text.length : Nat) : Int) : Int) < x1)) = false := decide_eq_false (by omega)
            refine Wp_cond_false (congrArg Value.bool hc19) ?_
            refine Wp_skip ?_
            refine thn_normal ?_
            refine Wp_seq_region ?_
            refine WpL_val rfl rfl (by decide) (r_fieldAddr (b := bx) (o := 0) (o' := 1) rfl Try.underlying33 rfl siz3 rfl) ?_
            refine WpL_val rfl rfl (by decide) (r_load (v := (.int .i64 x1)) rfl flat3 (Bx.cell rfl)) ?_
            refine WpL_val rfl rfl (by decide) (r_assign (v := (.int .i64 x1)) rfl) ?_
            refine WpL_nil ?_
            refine Wp_seq_region ?_
            refine WpL_val rfl rfl (by decide) (r_fieldAddr (b := bx) (o := 0) (o' := 0) rfl Try.underlying33 rfl siz3 rfl) ?_
            refine WpL_val rfl rfl (by decide) (r_load (v := (.int .i64 x0)) rfl flat3 (Bx.cell rfl)) ?_
            refine WpL_val rfl rfl (by decide) (r_fieldAddr (b := bx) (o := 0) (o' := 1) rfl Try.underlying33 rfl siz3 rfl) ?_
            refine WpL_val rfl rfl (by decide) (r_load (v := (.int .i64 x1)) rfl flat3 (Bx.cell rfl)) ?_
            refine WpL_val rfl rfl (by decide) (r_eql (k := .i64) (a := x0) (b := x1) rfl rfl) ?_
            refine WpL_nil ?_
            refine Wp_cond (b := decide ((x0 : Int) = x1)) rfl (fun heq => ?_) (fun heq => ?_)
            · have kheq := heq
              replace heq := of_decide_eq_true heq
              have hnp : nextP q = q.2.1 + 1 := by unfold nextP; rw [if_pos (by omega)]
              refine Wp_region ?_
              refine WpL_val rfl rfl (by decide) (r_move (v := (.int .i64 x1)) rfl) ?_
              refine WpL_val rfl rfl (by decide) (r_add (k := .i64) (a := x1) (b := 1) (c := ((nextP q : Nat) : Int)) rfl rfl (by rw [hx1, hnp, wI64 (by omega)]; omega)) ?_
              refine WpL_val rfl rfl (by decide) (r_assign (v := (.int .i64 ((nextP q : Nat) : Int))) rfl) ?_
              refine WpL_nil ?_
              refine inB_normal ?_
              refine thn_normal ?_
              refine Wp_region ?_
              refine WpL_val rfl rfl (by decide) (r_add (k := .i64) (a := ((i : Nat) : Int)) (b := 1) (c := ((i : Nat) : Int) + 1) rfl rfl (wI64 (by omega))) ?_
              refine WpL_val rfl rfl (by decide) (r_move (v := (.int .i64 (((i : Nat) : Int) + 1))) rfl) ?_
              refine WpL_nil ?_
              refine thn_normal ?_
              exact ⟨(allP a text).length - (i + 1), by omega, i + 1, nextP q, Fits.out ⟨rfl, rfl, rfl, rfl, rfl, rfl, trivial⟩, E, E3, Bo, Bf, (by omega), q4, rfl⟩
            · have kheq := heq
              replace heq := of_decide_eq_false heq
              have hnp : nextP q = q.2.1 := by unfold nextP; rw [if_neg (by omega)]
              rw [hx1, ← hnp]
              refine Wp_skip ?_
              refine inB_normal ?_
              refine thn_normal ?_
              refine Wp_region ?_
              refine WpL_val rfl rfl (by decide) (r_add (k := .i64) (a := ((i : Nat) : Int)) (b := 1) (c := ((i : Nat) : Int) + 1) rfl rfl (wI64 (by omega))) ?_
              refine WpL_val rfl rfl (by decide) (r_move (v := (.int .i64 (((i : Nat) : Int) + 1))) rfl) ?_
              refine WpL_nil ?_
              refine thn_normal ?_
              exact ⟨(allP a text).length - (i + 1), by omega, i + 1, nextP q, Fits.out ⟨rfl, rfl, rfl, rfl, rfl, rfl, trivial⟩, E, E3, Bo, Bf, (by omega), q4, rfl⟩
        · have khlt := hlt
          replace hlt := of_decide_eq_false hlt
          refine Wp_exit ?_
          refine thn_exit ?_
          refine thn_exit ?_
          refine inB_here ?_
          refine thn_normal ?_
          refine Wp_seq_region ?_
          refine WpL_val rfl rfl (by decide) (r_assign (v := (.bool true)) rfl) ?_
          refine WpL_nil ?_
          refine Wp_ret ?_
          refine fin_tmp Try.results4 (v := (.bool true)) rfl ?_
          exact ⟨rfl, E⟩
end Go.Proofs
