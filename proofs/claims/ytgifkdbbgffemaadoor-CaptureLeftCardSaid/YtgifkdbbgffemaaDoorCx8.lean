/- Contracts and plain lemmas, part 8. -/
import Derived.Tactics
import Derived.Deep.Quiet
import Derived.Laws.AppendOwn
import Derived.KernelRfl
import Derived.Laws.Entries
import Derived.Laws.Build
import Derived.Below
import Derived.RowKit3
import Derived.StillTail
import Derived.Sort.Grow
import Derived.Deep.Draws
import Derived.Test.YtgifkdbbgffemaaDoorChecked
import Derived.Laws.StructEq
import Derived.MapKept
import Derived.Laws.BytesArg
import Derived.DeepKeys3
import Derived.Test.YtgifkdbbgffemaaDoorCx7
namespace Go.Proofs
open Go Go.Eng Go.Sort
set_option maxRecDepth 100000
theorem intsw_own {w : World} {ta : Option Addr} {tn tc : Nat} {l : List Int} (h : IntsAt w (.slice ta tn tc) l) : l = [] ∨ ∃ b, (Value.slice ta tn tc).ownBlock = some b ∧ b < w.heap.size := by
  obtain ⟨a, c, e, _, _, h⟩ := h
  cases e
  rcases h with h | ⟨b, o, rfl, h⟩
  · exact .inl (by simpa using h)
  · cases l with
    | nil => exact .inl rfl
    | cons x l => exact .inr ⟨b, rfl, World.block_lt_of_cell? w _ (h 0 _ rfl 0 _ rfl)⟩
def findO (t : Re) (text : List Int) : Option (Nat × Nat × Grp) := if capP t text ≠ 0 then none else fromO text t 0
theorem findO_len (t : Re) (text : List Int) : (fndO (findO t text)).length = 22 := by
  unfold findO
  split
  · rfl
  · exact fndO_len _ 0 (Nat.le_refl _) (Nat.zero_le _)
theorem fndO_one (o : Option (Nat × Nat × Grp)) : ∀ v ∈ fndO o, v.oneCell' = true := by
  cases o with
  | none => exact fnd_one _ _ _
  | some q => exact fnd_one _ _ _
def findV (t : Re) (text : List Int) : Value := .tuple #[.agg (fndO (findO t text)).toArray, .bool (findO t text).isSome, .int .i64 (capP t text)]
set_option maxHeartbeats 2000000 in
theorem find_c (w0 : World) (t : Re) (vs : List Value) (v : Value) (text : List Int) (ht : ReAt w0 t vs) (htx : IntsAt w0 v text) :
    Ret Tryd.prog 9 #[.agg vs.toArray, v] w0 fun r w => r = findV t text ∧ Ext w0 w := by
  have ht0 := ht
  obtain ⟨sa, sc, aa, ac, rfl, hset, hlen, hargs⟩ := ht.form
  obtain ⟨ta, tc, rfl⟩ := SlAt.form htx
  simp only [List.length_map] at htx ⊢
  refine Ret_of Tryd.func9 rfl Tryd.ntmps9 (Nat.le_of_ble_eq_true rfl) ?_
  have E : Chg none1 w0 w0 := Chg.refl _ _
  refine Wp_seq_region ?_
  refine s_box (v := (.agg #[(.int .i64 t.kind), (.slice sa t.set.length sc), (.slice aa t.args.length ac), (.int .i64 t.mn), (.int .i64 t.mx), (.bool t.neg)])) (c := #[(.int .i64 t.kind), (.slice sa t.set.length sc), (.slice aa t.args.length ac), (.int .i64 t.mn), (.int .i64 t.mx), (.bool t.neg)]) (by decide) rfl rfl ?_
  intro bx wx Nx
  have Fx := Nx.ge E
  replace E := E.ext Nx.ext
  have Bx := Nx.blk
  refine s_alloc (by decide) zer33 rfl ?_
  intro bo wo No
  have Fo := No.ge E
  have Oo_bx := No.lt Bx
  replace Bx := No.keep Bx
  replace E := E.ext No.ext
  have Bo := No.blk
  refine WpL_val rfl rfl (by decide) (r_assign (v := (.bool false)) rfl) ?_
  refine WpL_val rfl rfl (by decide) (r_assign (v := (.int .i64 0)) rfl) ?_
  refine WpL_nil ?_
  refine Wp_seq ?_
  refine Wp_seq_region ?_
  refine WpL_val rfl rfl (by decide) (r_loadAgg (vs := [(.int .i64 t.kind), (.slice sa t.set.length sc), (.slice aa t.args.length ac), (.int .i64 t.mn), (.int .i64 t.mx), (.bool t.neg)]) rfl agg27 siz27 rfl (Bx.cells rfl)) ?_
  refine WpL_val rfl rfl (by decide) (r_move (v := (.slice ta text.length tc)) rfl) ?_
  refine WpL_enter rfl rfl (by decide) (r_callF (vs := [(.agg #[(.int .i64 t.kind), (.slice sa t.set.length sc), (.slice aa t.args.length ac), (.int .i64 t.mn), (.int .i64 t.mx), (.bool t.neg)]), (.slice ta text.length tc)]) Tryd.func22 nm22 bd22 rfl) (capchk_c _ t _ _ text (ReAt.ext E t ht0) (htx.ext E)) ?_
  rintro _ w9 ⟨rfl, X9⟩
  replace Bx := X9.keep Bx
  replace Bo := X9.keep Bo
  replace E := E.ext X9
  refine WpL_val rfl rfl (by decide) (r_assign (v := (.int .i64 (capP t text))) rfl) ?_
  refine WpL_nil ?_
  refine Wp_seq_region ?_
  refine WpL_val rfl rfl (by decide) (r_move (v := (.int .i64 (capP t text))) rfl) ?_
  refine WpL_val rfl rfl (by decide) (r_neq (k := .i64) (a := capP t text) (b := 0) rfl rfl) ?_
  refine WpL_nil ?_
  refine Wp_cond (b := decide ((capP t text : Int) ≠ 0)) rfl (fun h1 => ?_) (fun h1 => ?_)
  · have kh1 := h1
    replace h1 := of_decide_eq_true h1
    refine Wp_seq_region ?_
    refine WpL_val rfl rfl (by decide) (r_build (ps := []) (v := (.agg #[(.int .i64 0), (.int .i64 0), (.int .i64 0), (.int .i64 0), (.int .i64 0), (.int .i64 0), (.int .i64 0), (.int .i64 0), (.int .i64 0), (.int .i64 0), (.int .i64 0), (.int .i64 0), (.int .i64 0), (.int .i64 0), (.int .i64 0), (.int .i64 0), (.int .i64 0), (.int .i64 0), (.int .i64 0), (.int .i64 0), (.int .i64 0), (.int .i64 0)])) rfl (by kernel_rfl)) ?_
    refine WpL_val rfl rfl (by decide) (r_move (v := (.int .i64 (capP t text))) rfl) ?_
    refine s_storeAgg (b := bo) (o := 0) (c' := #[(.int .i64 0), (.int .i64 0), (.int .i64 0), (.int .i64 0), (.int .i64 0), (.int .i64 0), (.int .i64 0), (.int .i64 0), (.int .i64 0), (.int .i64 0), (.int .i64 0), (.int .i64 0), (.int .i64 0), (.int .i64 0), (.int .i64 0), (.int .i64 0), (.int .i64 0), (.int .i64 0), (.int .i64 0), (.int .i64 0), (.int .i64 0), (.int .i64 0)]) rfl rfl (by simp [Value.oneCell']) siz33 rfl Bo (by first | (simp; done) | exact Nat.le_of_ble_eq_true rfl) rfl ?_
    intro w2 S2
    replace Bx := S2.keep (by omega) Bx
    replace E := S2.step E (by first | exact Or.inl (by omega) | exact Or.inr rfl | exact Or.inr (by assumption) | exact Or.inr (by simp) | exact Or.inr (by omega) | exact Or.inr (by dsimp only; omega))
    replace Bo := S2.blk
    refine WpL_val rfl rfl (by decide) (r_assign (v := (.bool false)) rfl) ?_
    refine WpL_val rfl rfl (by decide) (r_assign (v := (.int .i64 (capP t text))) rfl) ?_
    refine WpL_nil ?_
    refine Wp_ret ?_
    refine thn_ret ?_
    refine fin_agg_tmp2 Tryd.results9 (vs := fndV 0 0 (List.replicate 10 (0, 0))) (b := bo) (v' := .bool false) (v'' := .int .i64 (capP t text)) rfl agg33 siz33 rfl (Bo.cells rfl) rfl rfl ?_
    exact ⟨by unfold findV findO; rw [if_pos h1]; rfl, E⟩
  · have kh1 := h1
    replace h1 := of_decide_eq_false h1
    have h0 : capP t text = 0 := by omega
    obtain ⟨hC, hn⟩ := capP_zero h0
    obtain ⟨z, hz⟩ : ∃ z, z = (w9).heap.size := ⟨_, rfl⟩
    have hfl := frg_len _ t (Nat.le_refl _) hC.ok hC.us hC.ln 0 0 0
    have hzs : w0.heap.size ≤ z := by rw [hz]; exact E.size
    have hln := hC.ln
    have hsz := hC.sz
    refine Wp_skip ?_
    refine thn_normal ?_
    refine Wp_seq_region ?_
    refine WpL_val rfl rfl (by decide) (r_loadAgg (vs := [(.int .i64 t.kind), (.slice sa t.set.length sc), (.slice aa t.args.length ac), (.int .i64 t.mn), (.int .i64 t.mx), (.bool t.neg)]) rfl agg27 siz27 rfl (Bx.cells rfl)) ?_
    refine WpL_enter rfl rfl (by decide) (r_callF (vs := [(.agg #[(.int .i64 t.kind), (.slice sa t.set.length sc), (.slice aa t.args.length ac), (.int .i64 t.mn), (.int .i64 t.mx), (.bool t.neg)])]) Tryd.func24 nm24 bd24 rfl) (translate_c _ (fun y => y < z) _ _ t (of_all _ t.size t (Nat.le_refl _) hC.ok hC.us hC.ln hC.sz) (ReAt.ext E t ht0) (Ext.refl _) (fun y h => by omega) (fun y h => by omega) (by omega) (by unfold tempsOf; omega) (by omega)) ?_
    rintro _ w19 ⟨⟨F', pb, rfl, hF1, hF2, hF3, hPr⟩, X19⟩
    replace Bx := X19.keep Bx
    replace Bo := X19.keep Bo
    replace E := E.ext X19
    obtain ⟨L, hL⟩ : ∃ L, L = fndO (fromO text t 0) := ⟨_, rfl⟩
    have hLn : L.length = 22 := by rw [hL]; exact fndO_len _ 0 (Nat.le_refl _) (Nat.zero_le _)
    have hL1 : ∀ v ∈ L, v.oneCell' = true := by rw [hL]; exact fndO_one _
    refine WpL_val rfl rfl (by decide) (r_move (v := (.slice ta text.length tc)) rfl) ?_
    refine WpL_enter rfl rfl (by decide) (r_callF (vs := [(.pointer (some ⟨pb, 0, none⟩)), (.slice ta text.length tc), (.int .i64 0)]) Tryd.func23 nm23 bd23 rfl) ((from_c F' _ pb t ta text.length tc 0 text hPr hF3 (htx.ext E) ((intsw_own htx).imp_right fun ⟨b, h1, h2⟩ => ⟨b, h1, hF1 b (by omega)⟩) (by omega) (wf_of t hC.ok hC.us) (by omega) (Nat.zero_le _)).mono (R' := fun r w => r = .tuple #[.agg L.toArray, .bool (fromO text t 0).isSome] ∧ Ext w19 w) (fun r w h => ⟨by rw [h.1, hL], h.2⟩)) ?_
    rintro _ w29 ⟨rfl, X29⟩
    replace Bx := X29.keep Bx
    replace Bo := X29.keep Bo
    replace E := E.ext X29
    refine WpL_val rfl rfl (by decide) (r_move (v := (.tuple #[(.agg L.toArray), (.bool ((fromO text t 0).isSome))])) rfl) ?_
    refine WpL_val rfl rfl (by decide) (r_extract (vs := #[(.agg L.toArray), (.bool ((fromO text t 0).isSome))]) (v := (.agg L.toArray)) rfl rfl) ?_
    refine WpL_val rfl rfl (by decide) (r_extract (vs := #[(.agg L.toArray), (.bool ((fromO text t 0).isSome))]) (v := (.bool ((fromO text t 0).isSome))) rfl rfl) ?_
    refine s_allocStore (v := (.agg L.toArray)) (c := L.toArray) (n := 22) (by decide) zer33 rfl siz33 rfl rfl (by simpa using hLn) (by simpa using hL1) ?_
    intro b3 w3 N3
    have F3 := N3.ge E
    have O3_bx := N3.lt Bx
    have O3_bo := N3.lt Bo
    replace Bx := N3.keep Bx
    replace Bo := N3.keep Bo
    replace E := E.ext N3.ext
    have B3 := N3.blk
    refine WpL_val rfl rfl (by decide) (r_assign (v := (.bool ((fromO text t 0).isSome))) rfl) ?_
    refine WpL_nil ?_
    refine Wp_seq_region ?_
    refine WpL_val rfl rfl (by decide) (r_loadAgg (vs := L) rfl agg33 siz33 hLn (B3.cells (by simp))) ?_
    refine WpL_val rfl rfl (by decide) (r_move (v := (.bool ((fromO text t 0).isSome))) rfl) ?_
    refine s_storeAgg (b := bo) (o := 0) (n := 22) (c' := L.toArray) (vs := L.toArray) rfl rfl (hL1) siz33 (by simpa using hLn) Bo (Nat.le_of_ble_eq_true rfl) (by simp [hLn, Value.cells]) ?_
    intro w4 S4
    replace Bx := S4.keep (by omega) Bx
    replace B3 := S4.keep (by omega) B3
    replace E := S4.step E (by first | exact Or.inl (by omega) | exact Or.inr rfl | exact Or.inr (by assumption) | exact Or.inr (by simp) | exact Or.inr (by omega) | exact Or.inr (by dsimp only; omega))
    replace Bo := S4.blk
    refine WpL_val rfl rfl (by decide) (r_assign (v := (.bool ((fromO text t 0).isSome))) rfl) ?_
    refine WpL_val rfl rfl (by decide) (r_assign (v := (.int .i64 0)) rfl) ?_
    refine WpL_nil ?_
    refine Wp_ret ?_
    refine fin_agg_tmp2 Tryd.results9 (vs := L) (b := bo) (v' := .bool (fromO text t 0).isSome) (v'' := .int .i64 0) rfl agg33 siz33 hLn (Bo.cells (by simp)) rfl rfl ?_
    exact ⟨by unfold findV findO; rw [if_neg h1, h0, hL], E⟩
end Go.Proofs
namespace Go.Proofs
open Go Go.Eng Go.Sort
set_option maxRecDepth 100000
inductive All2 {α β : Type} (R : α → β → Prop) : List α → List β → Prop
  | nil : All2 R [] []
  | cons {a : α} {b : β} {la : List α} {lb : List β} : R a b → All2 R la lb → All2 R (a :: la) (b :: lb)
def Hits (l : List Crs) (j : Nat) : Prop := ∃ q ∈ l, q.1 = j
/-- A function of courses goes where a relation says. -/
def Crel (n : Nat) (f : CFn) (R : Rl) : Prop := ∀ p g j, p ≤ n → (Hits (f p g) j ↔ R p j = true)
theorem hits_flat {l : List Crs} {k : Crs → List Crs} {j : Nat} : Hits (l.flatMap k) j ↔ ∃ u ∈ l, Hits (k u) j := by
  simp only [Hits, List.mem_flatMap]
  constructor
  · rintro ⟨q, ⟨u, hu, hq⟩, h⟩; exact ⟨u, hu, q, hq, h⟩
  · rintro ⟨u, hu, q, hq, h⟩; exact ⟨q, ⟨u, hu, hq⟩, h⟩
theorem hits_one {p j : Nat} {g : Grp} : Hits [(p, g)] j ↔ j = p := by simp [Hits, eq_comm]
theorem hits_app {a b : List Crs} {j : Nat} : Hits (a ++ b) j ↔ Hits a j ∨ Hits b j := by
  simp only [Hits, List.mem_append]
  constructor
  · rintro ⟨q, h | h, e⟩; exact .inl ⟨q, h, e⟩; exact .inr ⟨q, h, e⟩
  · rintro (⟨q, h, e⟩ | ⟨q, h, e⟩); exact ⟨q, .inl h, e⟩; exact ⟨q, .inr h, e⟩
/-- One behind the other. -/
theorem hits_then {n : Nat} {f : CFn} {A B : Rl} (a : Wf n A) (hf : Crel n f A) {k : Crs → List Crs} (hk : ∀ u j, u.1 ≤ n → (Hits (k u) j ↔ B u.1 j = true)) (p : Nat) (g : Grp) (j : Nat) (hp : p ≤ n) :
    Hits ((f p g).flatMap k) j ↔ ∃ m, A p m = true ∧ B m j = true := by
  rw [hits_flat]
  constructor
  · rintro ⟨u, hu, h⟩
    have h1 := (hf p g u.1 hp).1 ⟨u, hu, rfl⟩
    exact ⟨u.1, h1, (hk u j (a _ _ h1).2).1 h⟩
  · rintro ⟨m, h1, h2⟩
    obtain ⟨u, hu, rfl⟩ := (hf p g m hp).2 h1
    exact ⟨u, hu, (hk u j (a _ _ h1).2).2 h2⟩
theorem crel_id (n : Nat) : Crel n (fun p g => [(p, g)]) (idR n) := fun p g j hp => by rw [hits_one, id_iff]; exact ⟨fun h => ⟨hp, h⟩, fun h => h.2⟩
theorem foldThen_from {n : Nat} (hn : n ≤ 24) : ∀ (M : List Rl) (A : Rl), Wf n A → (∀ x ∈ M, Wf n x) → M.foldl (fun a x => thenR a x n) A = thenR A (M.foldl (fun a x => thenR a x n) (idR n)) n
  | [], A, a, _ => by
    refine rl_ext fun i k => ?_
    rw [List.foldl_nil, List.foldl_nil, then_iff hn a]
    constructor
    · intro h; exact ⟨k, h, (id_iff _ _ _).2 ⟨(a _ _ h).2, rfl⟩⟩
    · rintro ⟨j, h1, h2⟩; rw [id_iff] at h2; rw [h2.2]; exact h1
  | x :: M, A, a, h => by
    have hx := h x (by simp)
    have hM : ∀ y ∈ M, Wf n y := fun y hy => h y (by simp [hy])
    rw [List.foldl_cons, List.foldl_cons, foldThen_from hn M _ (wf_then a hx) hM, foldThen_from hn M (thenR (idR n) x n) (wf_then (wf_id n) hx) hM, id_then hn hx, then_assoc hn a hx]
theorem crel_seq {n : Nat} (hn : n ≤ 24) : ∀ (L : List CFn) (M : List Rl), All2 (Crel n) L M → (∀ x ∈ M, Wf n x) → Crel n (seqC L) (M.foldl (fun a x => thenR a x n) (idR n))
  | _, _, .nil, _ => crel_id n
  | _, _, .cons (a := f) (b := x) (la := L) (lb := M) hf hl, h => by
    have hx := h x (by simp)
    have hM : ∀ y ∈ M, Wf n y := fun y hy => h y (by simp [hy])
    have ih := crel_seq hn L M hl hM
    intro p g j hp
    rw [List.foldl_cons, id_then hn hx, foldThen_from hn M x hx hM, then_iff hn hx]
    exact hits_then hx hf (fun u j hu => ih u.1 u.2 j hu) p g j hp
theorem foldOr_iff : ∀ (M : List Rl) (A : Rl) (i j : Nat), M.foldl orR A i j = true ↔ A i j = true ∨ ∃ x ∈ M, x i j = true
  | [], A, i, j => by simp
  | x :: M, A, i, j => by
    rw [List.foldl_cons, foldOr_iff M, or_iff]
    constructor
    · rintro ((h | h) | ⟨y, hy, h⟩)
      · exact .inl h
      · exact .inr ⟨x, by simp, h⟩
      · exact .inr ⟨y, by simp [hy], h⟩
    · rintro (h | ⟨y, hy, h⟩)
      · exact .inl (.inl h)
      · rcases List.mem_cons.1 hy with rfl | hy
        · exact .inl (.inr h)
        · exact .inr ⟨y, hy, h⟩
theorem crel_alt {n : Nat} : ∀ (L : List CFn) (M : List Rl), All2 (Crel n) L M → Crel n (altsC L) (M.foldl orR noR)
  | _, _, .nil => fun p g j _ => by simp [altsC, Hits, noR]
  | _, _, .cons (a := f) (b := x) (la := L) (lb := M) hf hl => by
    have ih := crel_alt L M hl
    intro p g j hp
    have ih := ih p g j hp
    rw [foldOr_iff] at ih
    unfold altsC at ih ⊢
    rw [List.flatMap_cons, hits_app, hf p g j hp, ih, foldOr_iff]
    constructor
    · rintro (h | h | ⟨y, hy, h⟩)
      · exact .inr ⟨x, by simp, h⟩
      · exact .inl h
      · exact .inr ⟨y, by simp [hy], h⟩
    · rintro (h | ⟨y, hy, h⟩)
      · exact .inr (.inl h)
      · rcases List.mem_cons.1 hy with rfl | hy
        · exact .inl h
        · exact .inr (.inr ⟨y, hy, h⟩)
/-- Repetition by courses that consume something. -/
theorem crel_more {n : Nat} (hn : n ≤ 24) {f : CFn} {A : Rl} (a : Wf n A) (hf : Crel n f A) : ∀ (d p : Nat) (g : Grp) (j : Nat), p ≤ n → (Hits (moreC f d p g) j ↔ ∃ m, m ≤ d ∧ powR n A m p j = true)
  | 0, p, g, j, hp => by
    simp only [moreC]
    rw [hits_one]
    constructor
    · rintro rfl; exact ⟨0, Nat.le_refl _, (id_iff _ _ _).2 ⟨hp, rfl⟩⟩
    · rintro ⟨m, hm, h⟩
      obtain rfl : m = 0 := by omega
      exact ((id_iff _ _ _).1 h).2
  | d + 1, p, g, j, hp => by
    have ih := crel_more hn a hf d
    simp only [moreC]
    rw [hits_app, hits_one, hits_flat]
    constructor
    · rintro (⟨u, hu, h⟩ | rfl)
      · have h1 := (hf p g u.1 hp).1 ⟨u, hu, rfl⟩
        split at h
        · obtain ⟨m, hm, h2⟩ := (ih u.1 u.2 j (a _ _ h1).2).1 h
          exact ⟨m + 1, by omega, by rw [pow_left hn a, then_iff hn a]; exact ⟨u.1, h1, h2⟩⟩
        · obtain ⟨_, hq, _⟩ := h; cases hq
      · exact ⟨0, Nat.zero_le _, (id_iff _ _ _).2 ⟨hp, rfl⟩⟩
    · rintro ⟨m, hm, h⟩
      induction m with
      | zero => exact .inr ((id_iff _ _ _).1 h).2
      | succ m ihm =>
        rw [pow_left hn a, then_iff hn a] at h
        obtain ⟨k, h1, h2⟩ := h
        have hk := a _ _ h1
        rcases Nat.lt_or_ge p k with hlt | hge
        · obtain ⟨u, hu, rfl⟩ := (hf p g k hp).2 h1
          exact .inl ⟨u, hu, by rw [if_pos hlt]; exact (ih u.1 u.2 j hk.2).2 ⟨m, by omega, h2⟩⟩
        · obtain rfl : k = p := by omega
          exact ihm (by omega) h2
theorem crel_times {n : Nat} (hn : n ≤ 24) {f : CFn} {A : Rl} (a : Wf n A) (hf : Crel n f A) : ∀ k, Crel n (timesC f k) (powR n A k)
  | 0 => by simp only [timesC, powR]; exact crel_id n
  | k + 1 => fun p g j hp => by
    simp only [timesC]
    rw [pow_left hn a, then_iff hn a]
    exact hits_then a hf (fun u j hu => crel_times hn a hf k u.1 u.2 j hu) p g j hp
theorem star_pow {n : Nat} (hn : n ≤ 24) {A : Rl} (a : Wf n A) (i j : Nat) : ∀ m, starN n A m i j = true ↔ ∃ k, k ≤ m ∧ powR n A k i j = true
  | 0 => by
    simp only [starN]
    constructor
    · intro h; exact ⟨0, Nat.le_refl _, h⟩
    · rintro ⟨k, hk, h⟩
      obtain rfl : k = 0 := by omega
      exact h
  | m + 1 => by
    simp only [starN]
    rw [or_iff, then_iff hn (wf_star a m)]
    constructor
    · rintro (h | ⟨u, h1, h2⟩)
      · obtain ⟨k, hk, h⟩ := (star_pow hn a i j m).1 h
        exact ⟨k, by omega, h⟩
      · obtain ⟨k, hk, h⟩ := (star_pow hn a i u m).1 h1
        exact ⟨k + 1, by omega, by simp only [powR]; exact (then_iff hn (wf_pow a k) i j).2 ⟨u, h, h2⟩⟩
    · rintro ⟨k, hk, h⟩
      cases k with
      | zero => exact .inl ((star_pow hn a i j m).2 ⟨0, Nat.zero_le _, h⟩)
      | succ k =>
        simp only [powR] at h
        obtain ⟨u, h1, h2⟩ := (then_iff hn (wf_pow a k) i j).1 h
        exact .inr ⟨u, (star_pow hn a i u m).2 ⟨k, by omega, h1⟩, h2⟩
theorem pow_add {n : Nat} (hn : n ≤ 24) {A : Rl} (a : Wf n A) (i j : Nat) (x : Nat) : ∀ y, powR n A (x + y) i j = true ↔ ∃ u, powR n A x i u = true ∧ powR n A y u j = true
  | 0 => by
    simp only [powR, Nat.add_zero]
    constructor
    · intro h; exact ⟨j, h, (id_iff _ _ _).2 ⟨(wf_pow a x _ _ h).2, rfl⟩⟩
    · rintro ⟨u, h1, h2⟩; rw [((id_iff _ _ _).1 h2).2]; exact h1
  | y + 1 => by
    show thenR (powR n A (x + y)) A n i j = true ↔ ∃ u, powR n A x i u = true ∧ thenR (powR n A y) A n u j = true
    rw [then_iff hn (wf_pow a _)]
    constructor
    · rintro ⟨k, h1, h2⟩
      obtain ⟨u, h3, h4⟩ := (pow_add hn a i k x y).1 h1
      exact ⟨u, h3, (then_iff hn (wf_pow a y) u j).2 ⟨k, h4, h2⟩⟩
    · rintro ⟨u, h3, h4⟩
      obtain ⟨k, h5, h2⟩ := (then_iff hn (wf_pow a y) u j).1 h4
      exact ⟨k, (pow_add hn a i k x y).2 ⟨u, h3, h5⟩, h2⟩
theorem crel_no (n : Nat) : Crel n noC noR := fun p g j _ => by simp [noC, noR, Hits]
theorem crel_head {n : Nat} {L : List CFn} {M : List Rl} (h : All2 (Crel n) L M) : Crel n (L.headD noC) (M.headD noR) := by
  cases h with
  | nil => exact crel_no n
  | cons h _ => exact h
theorem wf_hd {n : Nat} {M : List Rl} (h : ∀ x ∈ M, Wf n x) : Wf n (M.headD noR) := by
  cases M with
  | nil => exact wf_no n
  | cons x _ => exact h x (by simp)
theorem crel_set (text : List Int) (set : List (Int × Int)) : Crel text.length (fun p g => if setOk text set p then [(p + 1, g)] else []) (setR text set) := fun p g j hp => by
  have h1 : setR text set p j = (setOk text set p && decide (j = p + 1)) := rfl
  rw [h1]
  show Hits (if setOk text set p = true then [(p + 1, g)] else []) j ↔ _
  cases setOk text set p with
  | false => simp [Hits]
  | true =>
    rw [if_pos rfl, hits_one, Bool.true_and, decide_eq_true_iff]
theorem crel_look {n : Nat} (hn : n ≤ 24) {f : CFn} {A : Rl} (hA : Wf n A) (hf : Crel n f A) (ng : Bool) : Crel n (fun p g => if (!(f p G0).isEmpty) = ng then [] else [(p, g)]) (lookR n A ng) := fun p g j hp => by
  have he : (!(f p G0).isEmpty) = decide (maskN 25 (A p) ≠ 0) := by
    rw [Bool.eq_iff_iff, decide_eq_true_iff, Ne, mask_eq_zero]
    constructor
    · intro h1 h2
      cases hl : f p G0 with
      | nil => rw [hl] at h1; simp at h1
      | cons q l =>
        have h3 := (hf p G0 q.1 hp).1 ⟨q, by rw [hl]; simp, rfl⟩
        rw [h2 q.1 (by have := hA _ _ h3; omega)] at h3
        cases h3
    · intro h1
      cases hl : f p G0 with
      | cons q l => rfl
      | nil =>
        refine absurd (fun j hj => ?_) h1
        cases h3 : A p j with
        | false => rfl
        | true =>
          obtain ⟨q, hq, _⟩ := (hf p G0 j hp).2 h3
          rw [hl] at hq; cases hq
  dsimp only
  rw [he]
  unfold lookR
  rw [decide_eq_true hp, Bool.true_and]
  generalize decide (maskN 25 (A p) ≠ 0) = e
  cases e <;> cases ng
  · rw [if_pos rfl]; simp [Hits]
  · rw [if_neg (by decide), hits_one]; simp
  · rw [if_neg (by decide), hits_one]; simp
  · rw [if_pos rfl]; simp [Hits]
theorem crel_K {text : List Int} (hn : text.length ≤ 24) (k : Int) (set : List (Int × Int)) (L : List CFn) (M : List Rl) (mn mx : Int) (ng : Bool) (hk : k ≠ 7 ∧ k ≠ 8) (h6 : k = 6 → 0 ≤ mn ∧ mn ≤ mx) (h : All2 (Crel text.length) L M) (hw : ∀ x ∈ M, Wf text.length x) :
    Crel text.length (crsK text k set L mn mx ng) (relK text k set M mn mx ng) := by
  have hA := wf_hd hw
  have hf := crel_head h
  unfold crsK relK
  split
  · exact crel_id _
  split
  · exact crel_set text set
  split
  · exact crel_seq hn L M h hw
  split
  · exact crel_alt L M h
  rw [if_neg hk.1, if_neg hk.2]
  split
  · intro p g j hp
    rw [crel_more hn hA hf _ p g j hp, star_pow hn hA]
  split
  · rename_i h66
    obtain ⟨g1, g2⟩ := h6 h66
    intro p g j hp
    rw [hits_then (B := fun m j => decide (∃ y, y ≤ (mx - mn).toNat ∧ powR text.length (M.headD noR) y m j = true)) (wf_pow hA _) (crel_times hn hA hf mn.toNat) (fun u j hu => by rw [crel_more hn hA hf _ u.1 u.2 j hu, decide_eq_true_iff]) p g j hp, rep_iff]
    constructor
    · rintro ⟨m, h1, h2⟩
      obtain ⟨y, hy, h2⟩ := of_decide_eq_true h2
      exact ⟨mn.toNat + y, by omega, by omega, (pow_add hn hA p j _ y).2 ⟨m, h1, h2⟩⟩
    · rintro ⟨m, h1, h2, h3⟩
      obtain ⟨y, rfl⟩ : ∃ y, m = mn.toNat + y := ⟨m - mn.toNat, by omega⟩
      obtain ⟨u, h4, h5⟩ := (pow_add hn hA p j _ y).1 h3
      exact ⟨u, h4, decide_eq_true ⟨y, by omega, h5⟩⟩
  split
  · intro p g j hp
    rw [← hf p g j hp]
    simp only [grpC, Hits, List.mem_map]
    constructor
    · rintro ⟨_, ⟨q, hq, rfl⟩, e⟩; exact ⟨q, hq, e⟩
    · rintro ⟨q, hq, e⟩; exact ⟨_, ⟨q, hq, rfl⟩, e⟩
  split
  · exact crel_look hn hA hf ng
  · exact crel_no _
mutual
theorem crs_rel {text : List Int} (hn : text.length ≤ 24) : ∀ t : Re, okRe t → usesB [7, 8] t = false → Crel text.length (crsOf text t) (relOf text t)
  | .mk k set args mn mx ng, hok, hu => by
    simp only [crsOf, relOf]
    have hN := node_inv (okRe_node hok)
    have h6 := hN.rep
    simp only [Re.kind, Re.mn, Re.mx] at h6
    simp only [usesB, Bool.or_eq_false_iff] at hu
    refine crel_K hn k set _ _ mn mx ng (by have := hu.1; simp at this; exact this) (fun h => ⟨(h6 h).1, (h6 h).2.1⟩) (crss_rel hn args (okRe_args hok) hu.2) ?_
    exact wf_rels text args
theorem crss_rel {text : List Int} (hn : text.length ≤ 24) : ∀ ts : List Re, okRes ts → usesBs [7, 8] ts = false → All2 (Crel text.length) (crssOf text ts) (relsOf text ts)
  | [], _, _ => .nil
  | t :: ts, hok, hu => by
    simp only [okRes] at hok
    simp only [usesBs, Bool.or_eq_false_iff] at hu
    simp only [crssOf, relsOf]
    exact .cons (crs_rel hn t hok.1 hu.1) (crss_rel hn ts hok.2 hu.2)
end
end Go.Proofs
namespace Go.Proofs
open Go Go.Eng Go.Sort
set_option maxRecDepth 100000
/-- The groups of a course are those it began with, or lie within it. -/
def Gk (text : List Int) (f : CFn) : Prop := ∀ p g, p ≤ text.length → ∀ q ∈ f p g, ∀ (i : Nat) (a b : Int), q.2[i]? = some (a, b) → g[i]? = some (a, b) ∨ ((p : Int) ≤ a ∧ a ≤ b ∧ b ≤ (q.1 : Int))
abbrev Ck (text : List Int) (f : CFn) : Prop := CrsOk text f ∧ Gk text f
theorem gk_seq {text : List Int} : ∀ {L : List CFn}, (∀ f ∈ L, Ck text f) → Gk text (seqC L)
  | [], _, p, g, hp, q, hq => by simp [seqC] at hq; subst hq; exact fun i a b h => .inl h
  | f :: L, h, p, g, hp, q, hq => by
    simp only [seqC, List.mem_flatMap] at hq
    obtain ⟨u, hu, hq⟩ := hq
    obtain ⟨h1, h2, h3⟩ := (h f (by simp)).1 p g hp u hu
    obtain ⟨h4, h5, h6⟩ := seqC_ok (fun x hx => (h x (by simp [hx])).1) u.1 u.2 h2 q hq
    intro i a b hi
    rcases gk_seq (fun x hx => h x (by simp [hx])) u.1 u.2 h2 q hq i a b hi with h7 | h7
    · rcases (h f (by simp)).2 p g hp u hu i a b h7 with h8 | h8
      · exact .inl h8
      · exact .inr (by omega)
    · exact .inr (by omega)
theorem gk_more {text : List Int} {f : CFn} (h : Ck text f) : ∀ n, Gk text (moreC f n)
  | 0, p, g, hp, q, hq => by simp [moreC] at hq; subst hq; exact fun i a b h => .inl h
  | n + 1, p, g, hp, q, hq => by
    simp only [moreC, List.mem_append, List.mem_flatMap, List.mem_singleton] at hq
    rcases hq with ⟨u, hu, hq⟩ | rfl
    · obtain ⟨h1, h2, h3⟩ := h.1 p g hp u hu
      split at hq
      · obtain ⟨h4, h5, h6⟩ := moreC_ok h.1 n u.1 u.2 h2 q hq
        intro i a b hi
        rcases gk_more h n u.1 u.2 h2 q hq i a b hi with h7 | h7
        · rcases h.2 p g hp u hu i a b h7 with h8 | h8
          · exact .inl h8
          · exact .inr (by omega)
        · exact .inr (by omega)
      · cases hq
    · exact fun i a b h => .inl h
theorem gk_times {text : List Int} {f : CFn} (h : Ck text f) : ∀ n, Gk text (timesC f n)
  | 0, p, g, hp, q, hq => by simp [timesC] at hq; subst hq; exact fun i a b h => .inl h
  | n + 1, p, g, hp, q, hq => by
    simp only [timesC, List.mem_flatMap] at hq
    obtain ⟨u, hu, hq⟩ := hq
    obtain ⟨h1, h2, h3⟩ := h.1 p g hp u hu
    obtain ⟨h4, h5, h6⟩ := timesC_ok h.1 n u.1 u.2 h2 q hq
    intro i a b hi
    rcases gk_times h n u.1 u.2 h2 q hq i a b hi with h7 | h7
    · rcases h.2 p g hp u hu i a b h7 with h8 | h8
      · exact .inl h8
      · exact .inr (by omega)
    · exact .inr (by omega)
theorem ck_head {text : List Int} {L : List CFn} (h : ∀ f ∈ L, Ck text f) : Ck text (L.headD noC) := by
  cases L with
  | nil => exact ⟨fun p g hp q hq => (by cases hq), fun p g hp q hq => (by cases hq)⟩
  | cons f L => exact h f (by simp)
theorem gk_K {text : List Int} {k : Int} {set : List (Int × Int)} {L : List CFn} {mn mx : Int} {ng : Bool} (h : ∀ f ∈ L, Ck text f) : Gk text (crsK text k set L mn mx ng) := by
  have hc := ck_head h
  unfold crsK
  split
  · intro p g hp q hq
    simp at hq; subst hq; exact fun i a b h => .inl h
  split
  · intro p g hp q hq
    dsimp only at hq
    split at hq
    · simp at hq; subst hq; exact fun i a b h => .inl h
    · cases hq
  split
  · exact gk_seq h
  split
  · intro p g hp q hq
    simp only [altsC, List.mem_flatMap] at hq
    obtain ⟨f, hf, hq⟩ := hq
    exact (h f hf).2 p g hp q hq
  split
  · exact gk_more hc _
  split
  · intro p g hp q hq
    simp only [List.mem_flatMap] at hq
    obtain ⟨u, hu, hq⟩ := hq
    obtain ⟨h1, h2, h3⟩ := timesC_ok hc.1 _ p g hp u hu
    obtain ⟨h4, h5, h6⟩ := moreC_ok hc.1 _ u.1 u.2 h2 q hq
    intro i a b hi
    rcases gk_more hc _ u.1 u.2 h2 q hq i a b hi with h7 | h7
    · rcases gk_times hc _ p g hp u hu i a b h7 with h8 | h8
      · exact .inl h8
      · exact .inr (by omega)
    · exact .inr (by omega)
  split
  · intro p g hp q hq
    simp only [grpC, List.mem_map] at hq
    obtain ⟨u, hu, rfl⟩ := hq
    obtain ⟨h1, h2, h3⟩ := hc.1 p g hp u hu
    intro i a b hi
    dsimp only at hi ⊢
    rw [List.getElem?_set] at hi
    split at hi
    · split at hi
      · cases hi; exact .inr ⟨Int.le_refl _, by omega, Int.le_refl _⟩
      · cases hi
    · exact hc.2 p g hp u hu i a b hi
  split
  · intro p g hp q hq
    dsimp only at hq
    split at hq
    · cases hq
    · simp at hq; subst hq; exact fun i a b h => .inl h
  · intro p g hp q hq; cases hq
mutual
theorem crs_gk (text : List Int) : ∀ t : Re, Gk text (crsOf text t)
  | .mk k set args mn mx ng => by
    simp only [crsOf]
    exact gk_K fun f hf => ⟨crssOf_ok text args f hf, crss_gk text args f hf⟩
theorem crss_gk (text : List Int) : ∀ ts : List Re, ∀ f ∈ crssOf text ts, Gk text f
  | [], f, h => by simp [crssOf] at h
  | t :: ts, f, h => by
    simp only [crssOf, List.mem_cons] at h
    rcases h with rfl | h
    · exact crs_gk text t
    · exact crss_gk text ts f h
end
/-- What is found from a position on. -/
theorem fromO_rel {text : List Int} {r : Re} {R : Rl} (hR : Crel text.length (crsOf text r) R) (hw : Wf text.length R) : ∀ (n i : Nat), text.length + 1 - i ≤ n →
    match fromO text r i with
    | none => ∀ i', i ≤ i' → ∀ j, R i' j = false
    | some q => i ≤ q.1 ∧ q.1 ≤ q.2.1 ∧ q.2.1 ≤ text.length ∧ R q.1 q.2.1 = true ∧ (∀ i', i ≤ i' → i' < q.1 → ∀ j, R i' j = false) ∧ ∀ (k : Nat) (a b : Int), q.2.2[k]? = some (a, b) → (a = -1 ∧ b = -1) ∨ ((q.1 : Int) ≤ a ∧ a ≤ b ∧ b ≤ (q.2.1 : Int))
  | 0, i, h => by
    rw [fromO, if_neg (by omega)]
    intro i' hi j
    cases hr : R i' j with
    | false => rfl
    | true => have := hw _ _ hr; omega
  | n + 1, i, h => by
    rw [fromO]
    by_cases h1 : i ≤ text.length
    · rw [if_pos h1]
      cases h2 : (crsOf text r i G0).head? with
      | some u =>
        have hm : u ∈ crsOf text r i G0 := List.mem_of_mem_head? (by rw [h2]; rfl)
        obtain ⟨g1, g2, g3⟩ := crsOf_ok text r i G0 h1 u hm
        refine ⟨Nat.le_refl _, g1, g2, (hR i G0 u.1 h1).1 ⟨u, hm, rfl⟩, fun i' h3 h4 => by omega, fun k a b hk => ?_⟩
        rcases crs_gk text r i G0 h1 u hm k a b hk with h5 | h5
        · unfold G0 at h5
          rw [List.getElem?_replicate] at h5
          split at h5
          · cases h5; exact .inl ⟨rfl, rfl⟩
          · cases h5
        · exact .inr h5
      | none =>
        have hno : ∀ j, R i j = false := fun j => by
          cases hr : R i j with
          | false => rfl
          | true =>
            obtain ⟨q, hq, _⟩ := (hR i G0 j h1).2 hr
            rw [List.head?_eq_none_iff] at h2
            rw [h2] at hq; cases hq
        have ih := fromO_rel hR hw n (i + 1) (by omega)
        dsimp only
        split at ih
        · rename_i h3
          try rw [h3]
          intro i' hi j
          rcases Nat.lt_or_ge i i' with h4 | h4
          · exact ih i' h4 j
          · obtain rfl : i' = i := by omega
            exact hno j
        · rename_i q h3
          try rw [h3]
          obtain ⟨a1, a2, a3, a4, a5, a6⟩ := ih
          refine ⟨by omega, a2, a3, a4, fun i' h5 h6 j => ?_, a6⟩
          rcases Nat.lt_or_ge i i' with h7 | h7
          · exact a5 i' h7 h6 j
          · obtain rfl : i' = i := by omega
            exact hno j
    · rw [if_neg h1]
      intro i' hi j
      cases hr : R i' j with
      | false => rfl
      | true => have := hw _ _ hr; omega
theorem mem_row {R : Rl} {i p : Nat} {q : Nat × Nat} : q ∈ rowL R i p ↔ q.1 = i ∧ q.2 < p ∧ R i q.2 = true := by
  unfold rowL
  simp only [List.mem_map, List.mem_filter, List.mem_range]
  constructor
  · rintro ⟨j, ⟨h1, h2⟩, rfl⟩; exact ⟨rfl, h1, h2⟩
  · rintro ⟨rfl, h1, h2⟩; exact ⟨q.2, ⟨h1, h2⟩, rfl⟩
theorem mem_pairs {R : Rl} {n : Nat} {q : Nat × Nat} : q ∈ pairsL R n ↔ q.1 < n ∧ q.2 < 25 ∧ R q.1 q.2 = true := by
  unfold pairsL
  simp only [List.mem_flatMap, List.mem_range, mem_row]
  constructor
  · rintro ⟨i, h1, rfl, h2, h3⟩; exact ⟨h1, h2, h3⟩
  · rintro ⟨h1, h2, h3⟩; exact ⟨q.1, h1, rfl, h2, h3⟩
theorem pairs_head {R : Rl} {i j : Nat} (hp : ∀ i', i' < i → ∀ j, R i' j = false) (hj : j < 25) (hr : R i j = true) : ∀ m, i < m → ∃ y l, pairsL R m = (i, y) :: l
  | 0, h => by omega
  | m + 1, h => by
    rw [pairsL_succ]
    rcases Nat.lt_or_ge i m with h1 | h1
    · obtain ⟨y, l, e⟩ := pairs_head hp hj hr m h1
      exact ⟨y, l ++ rowL R m 25, by rw [e]; rfl⟩
    · obtain rfl : i = m := by omega
      have h2 : pairsL R i = [] := by
        rw [List.eq_nil_iff_forall_not_mem]
        intro q hq
        rw [mem_pairs] at hq
        rw [hp q.1 hq.1 q.2] at hq
        exact absurd hq.2.2 (by decide)
      have h3 : (i, j) ∈ rowL R i 25 := mem_row.2 ⟨rfl, hj, hr⟩
      rw [h2, List.nil_append]
      cases hl : rowL R i 25 with
      | nil => rw [hl] at h3; cases h3
      | cons q l =>
        have h4 : q ∈ rowL R i 25 := by rw [hl]; simp
        exact ⟨q.2, l, by rw [← (mem_row.1 h4).1]⟩
/-- What is found, and what is matched. -/
theorem left_law {t : Re} {text : List Int} (hc : capP t text = 0) (hn : text.length ≤ 24) :
    checkP t text = 0 ∧ match findO t text with
    | none => pairsL (relOf text t) (text.length + 1) = []
    | some q => (∃ y l, pairsL (relOf text t) (text.length + 1) = (q.1, y) :: l) ∧ (q.1, q.2.1) ∈ pairsL (relOf text t) (text.length + 1) ∧ q.2.2.length = 10 ∧ ∀ (k : Nat) (a b : Int), q.2.2[k]? = some (a, b) → (a = -1 ∧ b = -1) ∨ ((q.1 : Int) ≤ a ∧ a ≤ b ∧ b ≤ (q.2.1 : Int)) := by
  obtain ⟨hC, _⟩ := capP_zero hc
  have hw := wf_rel text t
  have h1 := fromO_rel (crs_rel hn t hC.ok hC.us) hw _ 0 (Nat.le_refl _)
  refine ⟨?_, ?_⟩
  · have hfit : fitsE t 40 = 0 := (fitsE_zero (by decide) (by decide)).2 ⟨hC.ok, by have := hC.sz; omega⟩
    have hru : ¬ (text.any fun r => !runeB r) = true := by
      unfold capP at hc
      split at hc
      · omega
      split at hc
      · cases hc
      split at hc
      · cases hc
      · assumption
    unfold checkP
    rw [if_neg (by omega), if_neg (by omega), if_neg hru]
  · unfold findO
    rw [if_neg (by omega)]
    cases hf : fromO text t 0 with
    | none =>
      rw [hf] at h1
      rw [List.eq_nil_iff_forall_not_mem]
      intro q hq
      rw [mem_pairs, h1 q.1 (Nat.zero_le _) q.2] at hq
      exact absurd hq.2.2 (by decide)
    | some q =>
      rw [hf] at h1
      obtain ⟨a1, a2, a3, a4, a5, a6⟩ := h1
      have hl := fndO_len (text := text) (r := t) _ 0 (Nat.le_refl _) (Nat.zero_le _)
      rw [hf] at hl
      refine ⟨pairs_head (fun i' h => a5 i' (Nat.zero_le _) h) (by omega) a4 _ (by omega), mem_pairs.2 ⟨by omega, by omega, a4⟩, ?_, a6⟩
      simp only [fndO, fndV, List.length_append, grpV_len, List.length_cons, List.length_nil] at hl
      omega
end Go.Proofs
namespace Go.Proofs
open Go Go.Eng Go.Sort
set_option maxRecDepth 100000
def begT : Re := .mk 9 [] [oneT 98] 2 0 false
abbrev begG : Grp := [(-1, -1), (-1, -1), (1, 2), (-1, -1), (-1, -1), (-1, -1), (-1, -1), (-1, -1), (-1, -1), (-1, -1)]
theorem beg_cap : capP begT [97, 98] = 0 := by decide
theorem beg_find : findO begT [97, 98] = some (1, 2, begG) := by
  have e0 : (crsOf [97, 98] begT 0 G0).head? = none := by decide +kernel
  have e1 : (crsOf [97, 98] begT 1 G0).head? = some (2, begG) := by decide +kernel
  unfold findO
  rw [if_neg (by rw [beg_cap]; decide), fromO, if_pos (by decide), e0]
  show fromO [97, 98] begT 1 = _
  rw [fromO, if_pos (by decide), e1]
theorem beg_val : findV begT [97, 98] = .tuple #[.agg (fndV 1 2 begG).toArray, .bool true, .int .i64 0] := by
  unfold findV
  rw [beg_find, beg_cap]
  rfl
set_option maxHeartbeats 1000000 in
theorem cbegun_c (w0 : World) : Ret Tryd.prog 5 #[] w0 fun v w => v = .bool true ∧ Ext w0 w := by
  refine Ret_of Tryd.func5 rfl Tryd.ntmps5 (Nat.le_of_ble_eq_true rfl) ?_
  have E : Chg none1 w0 w0 := Chg.refl _ _
  refine Wp_seq_region ?_
  refine WpL_val rfl rfl (by decide) (r_assign (v := (.bool false)) rfl) ?_
  refine WpL_nil ?_
  refine Wp_seq_region ?_
  refine WpL_enter rfl rfl (by decide) (r_callF (vs := [(.int .i64 98)]) Tryd.func13 nm13 bd13 rfl) (one_c _ 98) ?_
  rintro _ w9 ⟨b, rfl, hsp, X9⟩
  replace E := E.ext X9
  refine s_buildSlice (ps := [(0, (.agg #[(.int .i64 2), (.slice (some ⟨b, 0, none⟩) 1 1), (.slice none 0 0), (.int .i64 0), (.int .i64 0), (.bool false)]))]) (c := #[(.int .i64 2), (.slice (some ⟨b, 0, none⟩) 1 1), (.slice none 0 0), (.int .i64 0), (.int .i64 0), (.bool false)]) (by decide) rfl Tryd.underlying25 siz27 zer27 (by decide) (by decide) (by kernel_rfl) ?_
  intro bp wp Np
  have Fp := Np.ge E
  replace E := E.ext Np.ext
  have Bp := Np.blk
  refine WpL_val rfl rfl (by decide) (r_build (ps := [(0, (.int .i64 9)), (3, (.int .i64 2)), (2, (.slice (some ⟨bp, 0, none⟩) 1 1))]) (v := (.agg #[(.int .i64 9), (.slice none 0 0), (.slice (some ⟨bp, 0, none⟩) 1 1), (.int .i64 2), (.int .i64 0), (.bool false)])) rfl (by kernel_rfl)) ?_
  refine s_buildSlice (ps := [(0, (.int .i64 97)), (1, (.int .i64 98))]) (c := #[(.int .i64 97), (.int .i64 98)]) (by decide) rfl Tryd.underlying22 siz3 zer3 (by decide) (by decide) (by kernel_rfl) ?_
  intro bq wq Nq
  have Fq := Nq.ge E
  have Oq_bp := Nq.lt Bp
  replace Bp := Nq.keep Bp
  replace E := E.ext Nq.ext
  have Bq := Nq.blk
  refine WpL_enter rfl rfl (by decide) (r_callF (vs := [(.agg #[(.int .i64 9), (.slice none 0 0), (.slice (some ⟨bp, 0, none⟩) 1 1), (.int .i64 2), (.int .i64 0), (.bool false)]), (.slice (some ⟨bq, 0, none⟩) 2 2)]) Tryd.func9 nm9 bd9 rfl) ((find_c _ begT [.int .i64 9, .slice none 0 0, .slice (some ⟨bp, 0, none⟩) 1 1, .int .i64 2, .int .i64 0, .bool false] _ [97, 98] (ReAt.of (set := []) (args := [oneT 98]) (SlAt.nil _ _ _ _) (by simp) (.inr ⟨bp, 0, rfl, by simp only [ResAt]; exact ⟨⟨_, Bp.cells rfl, one_at ((hsp.ext Np.ext).ext Nq.ext)⟩, trivial⟩⟩)) (ints_of_blk [97, 98] Bq (by simp) (by simp))).mono (R' := fun v w => v = .tuple #[.agg (fndV 1 2 begG).toArray, .bool true, .int .i64 0] ∧ Ext wq w) (fun v w h => ⟨h.1.trans beg_val, h.2⟩)) ?_
  rintro _ w19 ⟨rfl, X19⟩
  replace Bp := X19.keep Bp
  replace Bq := X19.keep Bq
  replace E := E.ext X19
  refine WpL_val rfl rfl (by decide) (r_move (v := (.tuple #[(.agg #[(.int .i64 1), (.int .i64 2), (.int .i64 (-1)), (.int .i64 (-1)), (.int .i64 (-1)), (.int .i64 (-1)), (.int .i64 1), (.int .i64 2), (.int .i64 (-1)), (.int .i64 (-1)), (.int .i64 (-1)), (.int .i64 (-1)), (.int .i64 (-1)), (.int .i64 (-1)), (.int .i64 (-1)), (.int .i64 (-1)), (.int .i64 (-1)), (.int .i64 (-1)), (.int .i64 (-1)), (.int .i64 (-1)), (.int .i64 (-1)), (.int .i64 (-1))]), (.bool true), (.int .i64 0)])) rfl) ?_
  refine WpL_val rfl rfl (by decide) (r_extract (vs := #[(.agg #[(.int .i64 1), (.int .i64 2), (.int .i64 (-1)), (.int .i64 (-1)), (.int .i64 (-1)), (.int .i64 (-1)), (.int .i64 1), (.int .i64 2), (.int .i64 (-1)), (.int .i64 (-1)), (.int .i64 (-1)), (.int .i64 (-1)), (.int .i64 (-1)), (.int .i64 (-1)), (.int .i64 (-1)), (.int .i64 (-1)), (.int .i64 (-1)), (.int .i64 (-1)), (.int .i64 (-1)), (.int .i64 (-1)), (.int .i64 (-1)), (.int .i64 (-1))]), (.bool true), (.int .i64 0)]) (v := (.agg #[(.int .i64 1), (.int .i64 2), (.int .i64 (-1)), (.int .i64 (-1)), (.int .i64 (-1)), (.int .i64 (-1)), (.int .i64 1), (.int .i64 2), (.int .i64 (-1)), (.int .i64 (-1)), (.int .i64 (-1)), (.int .i64 (-1)), (.int .i64 (-1)), (.int .i64 (-1)), (.int .i64 (-1)), (.int .i64 (-1)), (.int .i64 (-1)), (.int .i64 (-1)), (.int .i64 (-1)), (.int .i64 (-1)), (.int .i64 (-1)), (.int .i64 (-1))])) rfl rfl) ?_
  refine WpL_val rfl rfl (by decide) (r_extract (vs := #[(.agg #[(.int .i64 1), (.int .i64 2), (.int .i64 (-1)), (.int .i64 (-1)), (.int .i64 (-1)), (.int .i64 (-1)), (.int .i64 1), (.int .i64 2), (.int .i64 (-1)), (.int .i64 (-1)), (.int .i64 (-1)), (.int .i64 (-1)), (.int .i64 (-1)), (.int .i64 (-1)), (.int .i64 (-1)), (.int .i64 (-1)), (.int .i64 (-1)), (.int .i64 (-1)), (.int .i64 (-1)), (.int .i64 (-1)), (.int .i64 (-1)), (.int .i64 (-1))]), (.bool true), (.int .i64 0)]) (v := (.bool true)) rfl rfl) ?_
  refine WpL_val rfl rfl (by decide) (r_extract (vs := #[(.agg #[(.int .i64 1), (.int .i64 2), (.int .i64 (-1)), (.int .i64 (-1)), (.int .i64 (-1)), (.int .i64 (-1)), (.int .i64 1), (.int .i64 2), (.int .i64 (-1)), (.int .i64 (-1)), (.int .i64 (-1)), (.int .i64 (-1)), (.int .i64 (-1)), (.int .i64 (-1)), (.int .i64 (-1)), (.int .i64 (-1)), (.int .i64 (-1)), (.int .i64 (-1)), (.int .i64 (-1)), (.int .i64 (-1)), (.int .i64 (-1)), (.int .i64 (-1))]), (.bool true), (.int .i64 0)]) (v := (.int .i64 0)) rfl rfl) ?_
  refine s_allocStore (v := (.agg #[(.int .i64 1), (.int .i64 2), (.int .i64 (-1)), (.int .i64 (-1)), (.int .i64 (-1)), (.int .i64 (-1)), (.int .i64 1), (.int .i64 2), (.int .i64 (-1)), (.int .i64 (-1)), (.int .i64 (-1)), (.int .i64 (-1)), (.int .i64 (-1)), (.int .i64 (-1)), (.int .i64 (-1)), (.int .i64 (-1)), (.int .i64 (-1)), (.int .i64 (-1)), (.int .i64 (-1)), (.int .i64 (-1)), (.int .i64 (-1)), (.int .i64 (-1))])) (c := #[(.int .i64 1), (.int .i64 2), (.int .i64 (-1)), (.int .i64 (-1)), (.int .i64 (-1)), (.int .i64 (-1)), (.int .i64 1), (.int .i64 2), (.int .i64 (-1)), (.int .i64 (-1)), (.int .i64 (-1)), (.int .i64 (-1)), (.int .i64 (-1)), (.int .i64 (-1)), (.int .i64 (-1)), (.int .i64 (-1)), (.int .i64 (-1)), (.int .i64 (-1)), (.int .i64 (-1)), (.int .i64 (-1)), (.int .i64 (-1)), (.int .i64 (-1))]) (n := 22) (by decide) zer33 rfl siz33 rfl rfl rfl (by simp [Value.oneCell']) ?_
  intro b1 w1 N1
  have F1 := N1.ge E
  have O1_bp := N1.lt Bp
  have O1_bq := N1.lt Bq
  replace Bp := N1.keep Bp
  replace Bq := N1.keep Bq
  replace E := E.ext N1.ext
  have B1 := N1.blk
  refine WpL_val rfl rfl (by decide) (r_assign (v := (.bool true)) rfl) ?_
  refine WpL_val rfl rfl (by decide) (r_assign (v := (.int .i64 0)) rfl) ?_
  refine WpL_nil ?_
  refine Wp_seq_region ?_
  refine WpL_val rfl rfl (by decide) (r_move (v := (.int .i64 0)) rfl) ?_
  refine WpL_val rfl rfl (by decide) (r_eql (k := .i64) (a := 0) (b := 0) rfl rfl) ?_
  refine WpL_val rfl rfl (by decide) (r_move (v := (.bool true)) rfl) ?_
  refine WpL_guard_yes (oj := _) rfl rfl (by decide) rfl ?_
  refine WpL_val rfl rfl (by decide) (r_move (v := (.bool true)) rfl) ?_
  refine WpL_val rfl rfl (by decide) (r_pick (b := true) (v := (.bool true)) rfl rfl) ?_
  refine WpL_val rfl rfl (by decide) (r_move (v := (.bool true)) rfl) ?_
  refine WpL_guard_yes (oj := _) rfl rfl (by decide) rfl ?_
  refine WpL_val rfl rfl (by decide) (r_fieldAddr (b := b1) (o := 0) (o' := 0) rfl Tryd.underlying33 rfl siz3 rfl) ?_
  refine WpL_guard_yes (oj := _) rfl rfl (by decide) rfl ?_
  refine WpL_val rfl rfl (by decide) (r_load (v := (.int .i64 1)) rfl flat3 (B1.cell rfl)) ?_
  refine WpL_guard_yes (oj := _) rfl rfl (by decide) rfl ?_
  refine WpL_val rfl rfl (by decide) (r_eql (k := .i64) (a := 1) (b := 1) rfl rfl) ?_
  refine WpL_val rfl rfl (by decide) (r_pick (b := true) (v := (.bool true)) rfl rfl) ?_
  refine WpL_val rfl rfl (by decide) (r_move (v := (.bool true)) rfl) ?_
  refine WpL_guard_yes (oj := _) rfl rfl (by decide) rfl ?_
  refine WpL_val rfl rfl (by decide) (r_fieldAddr (b := b1) (o := 0) (o' := 1) rfl Tryd.underlying33 rfl siz3 rfl) ?_
  refine WpL_guard_yes (oj := _) rfl rfl (by decide) rfl ?_
  refine WpL_val rfl rfl (by decide) (r_load (v := (.int .i64 2)) rfl flat3 (B1.cell rfl)) ?_
  refine WpL_guard_yes (oj := _) rfl rfl (by decide) rfl ?_
  refine WpL_val rfl rfl (by decide) (r_eql (k := .i64) (a := 2) (b := 2) rfl rfl) ?_
  refine WpL_val rfl rfl (by decide) (r_pick (b := true) (v := (.bool true)) rfl rfl) ?_
  refine WpL_val rfl rfl (by decide) (r_move (v := (.bool true)) rfl) ?_
  refine WpL_guard_yes (oj := _) rfl rfl (by decide) rfl ?_
  refine WpL_val rfl rfl (by decide) (r_fieldAddr (b := b1) (o := 0) (o' := 2) rfl Tryd.underlying33 rfl siz31 rfl) ?_
  refine WpL_guard_yes (oj := _) rfl rfl (by decide) rfl ?_
  refine WpL_val rfl rfl (by decide) (r_indexArr (b := b1) (o := 2) (i := 2) (o' := 6) rfl rfl rfl Tryd.underlying31 siz30 (by omega) (by omega)) ?_
  refine WpL_guard_yes (oj := _) rfl rfl (by decide) rfl ?_
  refine WpL_val rfl rfl (by decide) (r_loadAgg (vs := [(.int .i64 1), (.int .i64 2)]) rfl agg30 siz30 rfl (B1.cells rfl)) ?_
  refine WpL_guard_yes (oj := _) rfl rfl (by decide) rfl ?_
  refine WpL_val rfl rfl (by decide) (r_build (ps := [(0, (.int .i64 1)), (1, (.int .i64 2))]) (v := (.agg #[(.int .i64 1), (.int .i64 2)])) rfl (by kernel_rfl)) ?_
  refine WpL_guard_yes (oj := _) rfl rfl (by decide) rfl ?_
  refine WpL_val (v := (.bool true)) rfl rfl (by decide) ((r_eqlPair (a := 1) (b := 2) (c := 1) (f := 2) Tryd.underlying30 Tryd.underlying3 siz3 flat3 eqgPair rfl rfl).trans rfl) ?_
  refine WpL_val rfl rfl (by decide) (r_pick (b := true) (v := (.bool true)) rfl rfl) ?_
  refine WpL_val rfl rfl (by decide) (r_assign (v := (.bool true)) rfl) ?_
  refine WpL_nil ?_
  refine Wp_ret ?_
  refine fin_tmp Tryd.results5 (v := (.bool true)) rfl ?_
  exact ⟨rfl, E⟩
end Go.Proofs
namespace Go.Proofs
open Go Go.Eng Go.Sort
set_option maxRecDepth 100000
theorem ten {α : Type} {G : List α} (h : G.length = 10) : ∃ a b c d e f g i j k, G = [a, b, c, d, e, f, g, i, j, k] := by
  match G, h with
  | [a, b, c, d, e, f, g, i, j, k], _ => exact ⟨a, b, c, d, e, f, g, i, j, k, rfl⟩
theorem fnd22 {o : Option (Nat × Nat × Grp)} (h : (fndO o).length = 22) : ∃ x0 x1 x2 x3 x4 x5 x6 x7 x8 x9 x10 x11 x12 x13 x14 x15 x16 x17 x18 x19 x20 x21 : Int, fndO o = [.int .i64 x0, .int .i64 x1, .int .i64 x2, .int .i64 x3, .int .i64 x4, .int .i64 x5, .int .i64 x6, .int .i64 x7, .int .i64 x8, .int .i64 x9, .int .i64 x10, .int .i64 x11, .int .i64 x12, .int .i64 x13, .int .i64 x14, .int .i64 x15, .int .i64 x16, .int .i64 x17, .int .i64 x18, .int .i64 x19, .int .i64 x20, .int .i64 x21] := by
  cases o with
  | none => exact ⟨_, _, _, _, _, _, _, _, _, _, _, _, _, _, _, _, _, _, _, _, _, _, rfl⟩
  | some q =>
    obtain ⟨f, t, G⟩ := q
    have hG : G.length = 10 := by
      simp only [fndO, fndV, List.length_append, grpV_len, List.length_cons, List.length_nil] at h
      omega
    obtain ⟨a, b, c, d, e, g, h, i, j, k, rfl⟩ := ten hG
    exact ⟨_, _, _, _, _, _, _, _, _, _, _, _, _, _, _, _, _, _, _, _, _, _, rfl⟩
end Go.Proofs
namespace Go.Proofs
open Go Go.Eng Go.Sort
set_option maxRecDepth 100000
theorem r_indexW {P : Program} {σ : Env} {w : World} {dst : Option Tmp} {ty : TypeId} {pos : String} {af : Array Edge} {g : Option (Nat × Bool)} {x y : Operand} {t e len n i : Nat} {cs c' : Array Value} {k : IntKind} {a : Int} (hu : P.underlying t = some (.array len e)) (hs : Siz P e n) (hg : aggB P e = true) (hx : ev σ x = .agg cs) (hy : ev σ y = .int k a) (ha : a = ((i : Nat) : Int)) (hi : i < len) (hv : cs.extract (i * n) (i * n + n) = c') :
    (execOp (ev σ) ⟨dst, .index t x y, ty, pos, af, g⟩).run P w = .ok (.value (.agg c')) w := by
  subst ha; subst hv
  simp [execOp, hx, hy, Instr.index, asIntOf, run_underlying hu, hs.run, hi, part, aggB.run hg]
theorem grp_ext {G : Grp} {k : Nat} {q : Int × Int} (hq : G[k]? = some q) : (grpV G).toArray.extract (k * 2) (k * 2 + 2) = #[.int .i64 q.1, .int .i64 q.2] := by
  have hs := grpV_get G k q hq
  apply Array.ext'
  rw [Array.toList_extract, List.toList_toArray]
  apply List.ext_getElem?
  intro j
  simp only [List.extract, List.getElem?_take, List.getElem?_drop]
  match j with
  | 0 => rw [if_pos (by omega)]; exact hs.1
  | 1 => rw [if_pos (by omega)]; exact hs.2
  | j + 2 => rw [if_neg (by omega)]; rfl
def pairBl (x y : Int) : Nat × Nat → Bool := fun q => decide (x = (q.1 : Int)) && decide (y = (q.2 : Int))
theorem idxpl_c (w0 : World) (v : Value) (x y : Int) (l : List (Nat × Nat)) (hs : PairsAt w0 v l) :
    Ret Tryd.prog 28 #[v, .agg #[.int .i64 x, .int .i64 y]] w0 fun r w => r = .int .i64 (idx (pairBl x y) l) ∧ Ext w0 w := by
  obtain ⟨a, c, rfl⟩ := SlAt.form hs
  have hlen : l.length ≤ 9223372036854775807 := by simpa using SlAt.le hs
  simp only [List.length_map] at hs ⊢
  refine Ret_of Tryd.func28 rfl Tryd.ntmps28 (Nat.le_of_ble_eq_true rfl) ?_
  have E : Chg none1 w0 w0 := Chg.refl _ _
  refine Wp_seq_region ?_
  refine s_box (v := (.agg #[(.int .i64 x), (.int .i64 y)])) (c := #[(.int .i64 x), (.int .i64 y)]) (by decide) rfl rfl ?_
  intro b1 w1 N1
  have F1 := N1.ge E
  replace E := E.ext N1.ext
  have B1 := N1.blk
  refine WpL_val rfl rfl (by decide) (r_assign (v := (.int .i64 0)) rfl) ?_
  refine WpL_nil ?_
  refine Wp_seq ?_
  refine Wp_seq_region ?_
  refine WpL_val rfl rfl (by decide) (r_move (v := (.slice a l.length c)) rfl) ?_
  refine WpL_val rfl rfl (by decide) (r_lenSlice (ad := a) (n := l.length) (cap := c) Tryd.underlying37 rfl) ?_
  refine WpL_val rfl rfl (by decide) (r_move (v := (.int .i64 0)) rfl) ?_
  refine WpL_nil ?_
  refine Wp_block ?_
  refine Wp_loop (fun nn_ σ W2 => ∃ (k : Nat), (∃ jj_, σ = upds jj_ [(0, (.slice a l.length c)), (3, (.pointer (some ⟨b1, 0, none⟩))), (7, (.int .i64 ((l.length : Nat) : Int))), (8, (.int .i64 ((k : Nat) : Int)))]) ∧ Chg none1 w0 W2 ∧ Blk W2 b1 #[(.int .i64 x), (.int .i64 y)] 30 ∧ (k ≤ l.length) ∧ (∀ (i : Nat) (q : Nat × Nat), i < k → l[i]? = some q → pairBl x y q = false) ∧ nn_ = l.length - k) (n := l.length - 0) ?_ ?_
  · exact ⟨0, Fits.out ⟨rfl, rfl, rfl, rfl, trivial⟩, E, B1, Nat.zero_le _, (fun i y h => absurd h (Nat.not_lt_zero _)), rfl⟩
  · clear E B1
    rintro _ _ W2 ⟨k, ⟨j2, rfl⟩, E, B1, hk, hno, rfl⟩
    refine Wp_seq_region ?_
    refine WpL_val rfl rfl (by decide) (r_lss (k := .i64) (a := ((k : Nat) : Int)) (b := ((l.length : Nat) : Int)) rfl rfl) ?_
    refine WpL_nil ?_
    refine Wp_seq ?_
    refine Wp_cond (b := decide ((((k : Nat) : Int) : Int) < ((l.length : Nat) : Int))) rfl (fun hlt => ?_) (fun hlt => ?_)
    · have khlt := hlt
      replace hlt := of_decide_eq_true hlt
      obtain ⟨q, hq⟩ := get_of_lt (l := l) (i := k) (by omega)
      obtain ⟨b, o, rfl, hcells⟩ := pairs_cells hs (by omega)
      refine Wp_skip ?_
      refine thn_normal ?_
      refine Wp_seq ?_
      refine Wp_block ?_
      refine Wp_seq_region ?_
      refine WpL_val rfl rfl (by decide) (r_move (v := (.int .i64 ((k : Nat) : Int))) rfl) ?_
      refine WpL_val rfl rfl (by decide) (r_assign (v := (.int .i64 ((k : Nat) : Int))) rfl) ?_
      refine WpL_nil ?_
      refine Wp_seq_draw 5 mixed (by kernel_rfl) ?_
      intro w4 X4 _
      replace B1 := X4.keep B1
      replace E := E.ext X4
      refine WpT_val rfl rfl (by decide) (r_loadAgg (vs := [(.int .i64 x), (.int .i64 y)]) rfl agg30 siz30 rfl (B1.cells rfl)) ?_
      refine WpT_val rfl rfl (by decide) (r_move (v := (.slice (some ⟨b, o, none⟩) l.length c)) rfl) ?_
      refine WpT_val rfl rfl (by decide) (r_move (v := (.int .i64 ((k : Nat) : Int))) rfl) ?_
      refine WpT_val rfl rfl (by decide) (r_indexSlice (b := b) (o := o) (len := l.length) (cap := c) (i := k) (o' := o + k * 2) rfl rfl rfl Tryd.underlying37 siz30 (by omega) (by omega)) ?_
      refine WpT_val rfl rfl (by decide) (r_loadAgg (vs := [(.int .i64 ((q.1 : Nat) : Int)), (.int .i64 ((q.2 : Nat) : Int))]) rfl agg30 siz30 rfl ((hcells k q hq).ext E)) ?_
      refine WpT_zero ?_
      refine WpL_val (v := (.bool (pairBl x y q))) rfl rfl (by decide) (r_eqlPair (a := x) (b := y) (c := (q.1 : Int)) (f := (q.2 : Int)) Tryd.underlying30 Tryd.underlying3 siz3 flat3 eqgPair rfl rfl) ?_
      refine WpL_nil ?_
      refine Wp_cond (b := pairBl x y q) rfl (fun hp => ?_) (fun hp => ?_)
      · have khp := hp
        refine Wp_seq_region ?_
        refine WpL_val rfl rfl (by decide) (r_move (v := (.int .i64 ((k : Nat) : Int))) rfl) ?_
        refine WpL_val rfl rfl (by decide) (r_assign (v := (.int .i64 ((k : Nat) : Int))) rfl) ?_
        refine WpL_nil ?_
        refine Wp_ret ?_
        refine inB_ret ?_
        refine thn_ret ?_
        refine thn_ret ?_
        refine inB_ret ?_
        refine thn_ret ?_
        refine fin_tmp Tryd.results28 (v := (.int .i64 ((k : Nat) : Int))) rfl ?_
        exact ⟨int_eq (idx_hit hq hp hno).symm, E⟩
      · have khp := hp
        refine Wp_skip ?_
        refine inB_normal ?_
        refine thn_normal ?_
        refine Wp_region ?_
        refine WpL_val rfl rfl (by decide) (r_add (k := .i64) (a := ((k : Nat) : Int)) (b := 1) (c := ((k : Nat) : Int) + 1) rfl rfl (wI64 (by omega))) ?_
        refine WpL_val rfl rfl (by decide) (r_move (v := (.int .i64 (((k : Nat) : Int) + 1))) rfl) ?_
        refine WpL_nil ?_
        refine thn_normal ?_
        exact ⟨l.length - (k + 1), by omega, k + 1, Fits.out ⟨rfl, rfl, rfl, rfl, trivial⟩, E, B1, (by omega), below_next hq hp hno, rfl⟩
    · have khlt := hlt
      replace hlt := of_decide_eq_false hlt
      have hkk : k = l.length := by omega
      refine Wp_exit ?_
      refine thn_exit ?_
      refine thn_exit ?_
      refine inB_here ?_
      refine thn_normal ?_
      refine Wp_seq_region ?_
      refine WpL_val rfl rfl (by decide) (r_assign (v := (.int .i64 (-1))) rfl) ?_
      refine WpL_nil ?_
      refine Wp_ret ?_
      refine fin_tmp Tryd.results28 (v := (.int .i64 (-1))) rfl ?_
      exact ⟨int_eq (idx_miss fun i y hy => hno i y (by have := lt_of_get hy; omega) hy).symm, E⟩
theorem haspl_c (w0 : World) (v : Value) (x y : Int) (l : List (Nat × Nat)) (hs : PairsAt w0 v l) :
    Ret Tryd.prog 11 #[v, .agg #[.int .i64 x, .int .i64 y]] w0 fun r w => r = .bool (l.any (pairBl x y)) ∧ Ext w0 w := by
  refine Ret_of Tryd.func11 rfl Tryd.ntmps11 (Nat.le_of_ble_eq_true rfl) ?_
  have E : Chg none1 w0 w0 := Chg.refl _ _
  refine Wp_seq_region ?_
  refine s_box (v := (.agg #[(.int .i64 x), (.int .i64 y)])) (c := #[(.int .i64 x), (.int .i64 y)]) (by decide) rfl rfl ?_
  intro b1 w1 N1
  have F1 := N1.ge E
  replace E := E.ext N1.ext
  have B1 := N1.blk
  refine WpL_val rfl rfl (by decide) (r_assign (v := (.bool false)) rfl) ?_
  refine WpL_nil ?_
  refine Wp_seq_region ?_
  refine WpL_val rfl rfl (by decide) (r_move (v := v) rfl) ?_
  refine WpL_val rfl rfl (by decide) (r_loadAgg (vs := [(.int .i64 x), (.int .i64 y)]) rfl agg30 siz30 rfl (B1.cells rfl)) ?_
  refine WpL_enter rfl rfl (by decide) (r_callF (vs := [v, (.agg #[(.int .i64 x), (.int .i64 y)])]) Tryd.func28 nm28 bd28 rfl) (idxpl_c _ v x y l (SlAt.ext hs E)) ?_
  rintro _ w9 ⟨rfl, X9⟩
  replace B1 := X9.keep B1
  replace E := E.ext X9
  refine WpL_val rfl rfl (by decide) (r_geq (k := .i64) (a := idx (pairBl x y) l) (b := 0) rfl rfl) ?_
  refine WpL_val rfl rfl (by decide) (r_assign (v := (.bool (decide ((0 : Int) ≤ idx (pairBl x y) l)))) rfl) ?_
  refine WpL_nil ?_
  refine Wp_ret ?_
  refine fin_tmp Tryd.results11 (v := (.bool (decide ((0 : Int) ≤ idx (pairBl x y) l)))) rfl ?_
  exact ⟨bool_eq (idx_any _ l), E⟩
theorem any_pairBl {l : List (Nat × Nat)} {a b : Nat} (h : (a, b) ∈ l) : l.any (pairBl (a : Int) (b : Int)) = true := by
  rw [List.any_eq_true]
  exact ⟨_, h, by simp [pairBl]⟩
set_option maxHeartbeats 4000000 in
theorem left_c (w0 : World) (hT : TabOk w0) (v1 v2 : Value) (l t : List Int) (h1 : IntsAt w0 v1 l) (h2 : IntsAt w0 v2 t) :
    Ret Tryd.prog 3 #[v1, v2] w0 fun v w => v = .bool true ∧ Ext w0 w := by
  obtain ⟨a1, c1, rfl⟩ := SlAt.form h1
  obtain ⟨a2, c2, rfl⟩ := SlAt.form h2
  simp only [List.length_map] at h1 h2 ⊢
  refine Ret_of Tryd.func3 rfl Tryd.ntmps3 (Nat.le_of_ble_eq_true rfl) ?_
  have E : Chg none1 w0 w0 := Chg.refl _ _
  refine Wp_seq_region ?_
  refine WpL_val rfl rfl (by decide) (r_assign (v := (.bool false)) rfl) ?_
  refine WpL_nil ?_
  refine Wp_seq ?_
  refine Wp_seq_region ?_
  refine WpL_enter rfl rfl (by decide) (r_callF (vs := []) Tryd.func5 nm5 bd5 rfl) (cbegun_c _) ?_
  rintro _ w9 ⟨rfl, X9⟩
  replace E := E.ext X9
  refine WpL_val rfl rfl (by decide) (r_not (b := true) rfl) ?_
  refine WpL_val rfl rfl (by decide) (r_move (v := (.bool false)) rfl) ?_
  refine WpL_guard_yes (oj := _) rfl rfl (by decide) rfl ?_
  refine WpL_enter rfl rfl (by decide) (r_callF (vs := []) Tryd.func6 nm6 bd6 rfl) (begun_c _ (hT.ext E)) ?_
  rintro _ w8 ⟨rfl, X8⟩
  replace E := E.ext X8
  refine WpL_guard_yes (oj := _) rfl rfl (by decide) rfl ?_
  refine WpL_val rfl rfl (by decide) (r_not (b := true) rfl) ?_
  refine WpL_val rfl rfl (by decide) (r_pick (b := false) (v := (.bool false)) rfl rfl) ?_
  refine WpL_nil ?_
  refine Wp_cond_false rfl ?_
  refine Wp_skip ?_
  refine thn_normal ?_
  refine Wp_seq_region ?_
  refine WpL_val rfl rfl (by decide) (r_move (v := (.slice a1 l.length c1)) rfl) ?_
  refine WpL_enter rfl rfl (by decide) (r_callF (vs := [(.slice a1 l.length c1)]) Tryd.func7 nm7 bd7 rfl) (mkReAll_c _ _ l (h1.ext E)) ?_
  rintro _ wa ⟨a, us, rfl, ga, za, ha, Xa⟩
  replace E := E.ext Xa
  have hat := ReIn.at a ha
  obtain ⟨sa, sc, aa, ac, rfl, _, _, _⟩ := ha.form
  refine WpL_val rfl rfl (by decide) (r_move (v := (.slice a2 t.length c2)) rfl) ?_
  refine WpL_enter rfl rfl (by decide) (r_callF (vs := [(.slice a2 t.length c2)]) Tryd.func8 nm8 bd8 rfl) (text_c _ _ t (h2.ext E)) ?_
  rintro _ wt ⟨ta, tc, text, rfl, htx, htl, htr, Xt⟩
  replace E := E.ext Xt
  obtain ⟨y0, y1, y2, y3, y4, y5, y6, y7, y8, y9, y10, y11, y12, y13, y14, y15, y16, y17, y18, y19, y20, y21, hy⟩ := fnd22 (o := findO a text) (findO_len _ _)
  refine s_allocStore (v := (.agg #[(.int .i64 a.kind), (.slice sa a.set.length sc), (.slice aa a.args.length ac), (.int .i64 a.mn), (.int .i64 a.mx), (.bool a.neg)])) (c := #[(.int .i64 a.kind), (.slice sa a.set.length sc), (.slice aa a.args.length ac), (.int .i64 a.mn), (.int .i64 a.mx), (.bool a.neg)]) (n := 6) (by decide) zer27 rfl siz27 rfl rfl rfl (by simp [Value.oneCell']) ?_
  intro bo wo No
  have Fo := No.ge E
  replace E := E.ext No.ext
  have Bo := No.blk
  refine WpL_val rfl rfl (by decide) (r_assign (v := (.slice ta text.length tc)) rfl) ?_
  refine WpL_nil ?_
  refine Wp_seq_region ?_
  refine WpL_val rfl rfl (by decide) (r_loadAgg (vs := [(.int .i64 a.kind), (.slice sa a.set.length sc), (.slice aa a.args.length ac), (.int .i64 a.mn), (.int .i64 a.mx), (.bool a.neg)]) rfl agg27 siz27 rfl (Bo.cells rfl)) ?_
  refine WpL_val rfl rfl (by decide) (r_move (v := (.slice ta text.length tc)) rfl) ?_
  refine WpL_enter rfl rfl (by decide) (r_callF (vs := [(.agg #[(.int .i64 a.kind), (.slice sa a.set.length sc), (.slice aa a.args.length ac), (.int .i64 a.mn), (.int .i64 a.mx), (.bool a.neg)]), (.slice ta text.length tc)]) Tryd.func9 nm9 bd9 rfl) (find_c _ a _ _ text (ReAt.ext (Xt.trans No.ext) a hat) (htx.ext No.ext) |>.mono (R' := fun r w => r = .tuple #[.agg #[.int .i64 y0, .int .i64 y1, .int .i64 y2, .int .i64 y3, .int .i64 y4, .int .i64 y5, .int .i64 y6, .int .i64 y7, .int .i64 y8, .int .i64 y9, .int .i64 y10, .int .i64 y11, .int .i64 y12, .int .i64 y13, .int .i64 y14, .int .i64 y15, .int .i64 y16, .int .i64 y17, .int .i64 y18, .int .i64 y19, .int .i64 y20, .int .i64 y21], .bool (findO a text).isSome, .int .i64 (capP a text)] ∧ Ext _ w) (fun r w h => ⟨by rw [h.1]; unfold findV; rw [hy], h.2⟩)) ?_
  rintro _ w29 ⟨rfl, X29⟩
  replace Bo := X29.keep Bo
  replace E := E.ext X29
  refine WpL_val rfl rfl (by decide) (r_move (v := (.tuple #[(.agg #[(.int .i64 y0), (.int .i64 y1), (.int .i64 y2), (.int .i64 y3), (.int .i64 y4), (.int .i64 y5), (.int .i64 y6), (.int .i64 y7), (.int .i64 y8), (.int .i64 y9), (.int .i64 y10), (.int .i64 y11), (.int .i64 y12), (.int .i64 y13), (.int .i64 y14), (.int .i64 y15), (.int .i64 y16), (.int .i64 y17), (.int .i64 y18), (.int .i64 y19), (.int .i64 y20), (.int .i64 y21)]), (.bool ((findO a text).isSome)), (.int .i64 (capP a text))])) rfl) ?_
  refine WpL_val rfl rfl (by decide) (r_extract (vs := #[(.agg #[(.int .i64 y0), (.int .i64 y1), (.int .i64 y2), (.int .i64 y3), (.int .i64 y4), (.int .i64 y5), (.int .i64 y6), (.int .i64 y7), (.int .i64 y8), (.int .i64 y9), (.int .i64 y10), (.int .i64 y11), (.int .i64 y12), (.int .i64 y13), (.int .i64 y14), (.int .i64 y15), (.int .i64 y16), (.int .i64 y17), (.int .i64 y18), (.int .i64 y19), (.int .i64 y20), (.int .i64 y21)]), (.bool ((findO a text).isSome)), (.int .i64 (capP a text))]) (v := (.agg #[(.int .i64 y0), (.int .i64 y1), (.int .i64 y2), (.int .i64 y3), (.int .i64 y4), (.int .i64 y5), (.int .i64 y6), (.int .i64 y7), (.int .i64 y8), (.int .i64 y9), (.int .i64 y10), (.int .i64 y11), (.int .i64 y12), (.int .i64 y13), (.int .i64 y14), (.int .i64 y15), (.int .i64 y16), (.int .i64 y17), (.int .i64 y18), (.int .i64 y19), (.int .i64 y20), (.int .i64 y21)])) rfl rfl) ?_
  refine WpL_val rfl rfl (by decide) (r_extract (vs := #[(.agg #[(.int .i64 y0), (.int .i64 y1), (.int .i64 y2), (.int .i64 y3), (.int .i64 y4), (.int .i64 y5), (.int .i64 y6), (.int .i64 y7), (.int .i64 y8), (.int .i64 y9), (.int .i64 y10), (.int .i64 y11), (.int .i64 y12), (.int .i64 y13), (.int .i64 y14), (.int .i64 y15), (.int .i64 y16), (.int .i64 y17), (.int .i64 y18), (.int .i64 y19), (.int .i64 y20), (.int .i64 y21)]), (.bool ((findO a text).isSome)), (.int .i64 (capP a text))]) (v := (.bool ((findO a text).isSome))) rfl rfl) ?_
  refine WpL_val rfl rfl (by decide) (r_extract (vs := #[(.agg #[(.int .i64 y0), (.int .i64 y1), (.int .i64 y2), (.int .i64 y3), (.int .i64 y4), (.int .i64 y5), (.int .i64 y6), (.int .i64 y7), (.int .i64 y8), (.int .i64 y9), (.int .i64 y10), (.int .i64 y11), (.int .i64 y12), (.int .i64 y13), (.int .i64 y14), (.int .i64 y15), (.int .i64 y16), (.int .i64 y17), (.int .i64 y18), (.int .i64 y19), (.int .i64 y20), (.int .i64 y21)]), (.bool ((findO a text).isSome)), (.int .i64 (capP a text))]) (v := (.int .i64 (capP a text))) rfl rfl) ?_
  refine s_allocStore (v := (.agg #[(.int .i64 y0), (.int .i64 y1), (.int .i64 y2), (.int .i64 y3), (.int .i64 y4), (.int .i64 y5), (.int .i64 y6), (.int .i64 y7), (.int .i64 y8), (.int .i64 y9), (.int .i64 y10), (.int .i64 y11), (.int .i64 y12), (.int .i64 y13), (.int .i64 y14), (.int .i64 y15), (.int .i64 y16), (.int .i64 y17), (.int .i64 y18), (.int .i64 y19), (.int .i64 y20), (.int .i64 y21)])) (c := #[(.int .i64 y0), (.int .i64 y1), (.int .i64 y2), (.int .i64 y3), (.int .i64 y4), (.int .i64 y5), (.int .i64 y6), (.int .i64 y7), (.int .i64 y8), (.int .i64 y9), (.int .i64 y10), (.int .i64 y11), (.int .i64 y12), (.int .i64 y13), (.int .i64 y14), (.int .i64 y15), (.int .i64 y16), (.int .i64 y17), (.int .i64 y18), (.int .i64 y19), (.int .i64 y20), (.int .i64 y21)]) (n := 22) (by decide) zer33 rfl siz33 rfl rfl rfl (by simp [Value.oneCell']) ?_
  intro bf wf Nf
  have Ff := Nf.ge E
  have Of_bo := Nf.lt Bo
  replace Bo := Nf.keep Bo
  replace E := E.ext Nf.ext
  have Bf := Nf.blk
  refine WpL_val rfl rfl (by decide) (r_assign (v := (.bool ((findO a text).isSome))) rfl) ?_
  refine WpL_val rfl rfl (by decide) (r_assign (v := (.int .i64 (capP a text))) rfl) ?_
  refine WpL_nil ?_
  refine Wp_seq ?_
  refine Wp_seq_region ?_
  refine WpL_val rfl rfl (by decide) (r_move (v := (.int .i64 (capP a text))) rfl) ?_
  refine WpL_val rfl rfl (by decide) (r_neq (k := .i64) (a := capP a text) (b := 0) rfl rfl) ?_
  refine WpL_nil ?_
  refine Wp_cond (b := decide ((capP a text : Int) ≠ 0)) rfl (fun hc => ?_) (fun hc => ?_)
  · have khc := hc
    replace hc := of_decide_eq_true hc
    refine Wp_seq_region ?_
    refine WpL_val rfl rfl (by decide) (r_move (v := (.bool ((findO a text).isSome))) rfl) ?_
    refine WpL_val rfl rfl (by decide) (r_not (b := (findO a text).isSome) rfl) ?_
    refine WpL_val rfl rfl (by decide) (r_assign (v := (.bool (!((findO a text).isSome)))) rfl) ?_
    refine WpL_nil ?_
    refine Wp_ret ?_
    refine thn_ret ?_
    refine fin_tmp Tryd.results3 (v := (.bool (!((findO a text).isSome)))) rfl ?_
    exact ⟨bool_eq (by unfold findO; rw [if_pos hc]; rfl), E⟩
  · have khc := hc
    replace hc := of_decide_eq_false hc
    have hc0 : capP a text = 0 := by omega
    obtain ⟨hcp, hlaw⟩ := left_law hc0 (show text.length ≤ 24 by omega)
    obtain ⟨pl, hpl⟩ : ∃ pl, pl = pairsL (relOf text a) (text.length + 1) := ⟨_, rfl⟩
    rw [← hpl] at hlaw
    obtain ⟨pn, hpn⟩ : ∃ pn, pn = pl.length := ⟨_, rfl⟩
    refine Wp_skip ?_
    refine thn_normal ?_
    refine Wp_seq_region ?_
    refine WpL_val rfl rfl (by decide) (r_loadAgg (vs := [(.int .i64 a.kind), (.slice sa a.set.length sc), (.slice aa a.args.length ac), (.int .i64 a.mn), (.int .i64 a.mx), (.bool a.neg)]) rfl agg27 siz27 rfl (Bo.cells rfl)) ?_
    refine WpL_val rfl rfl (by decide) (r_move (v := (.slice ta text.length tc)) rfl) ?_
    refine WpL_enter rfl rfl (by decide) (r_callF (vs := [(.agg #[(.int .i64 a.kind), (.slice sa a.set.length sc), (.slice aa a.args.length ac), (.int .i64 a.mn), (.int .i64 a.mx), (.bool a.neg)]), (.slice ta text.length tc)]) Tryd.func10 nm10 bd10 rfl) ((pairs_c _ a _ _ text (ReAt.ext (Xt.trans (No.ext.trans (X29.trans Nf.ext))) a hat) (htx.ext (No.ext.trans (X29.trans Nf.ext))) (hT.ext E)).mono (R' := fun v w => (∃ a c, v = .tuple #[.slice a pn c, .int .i64 0] ∧ PairsAt w (.slice a pn c) pl) ∧ Ext _ w) (by rintro v w ⟨a, c, h1, h2, h3⟩; rw [hcp, if_pos rfl, ← hpl, ← hpn] at h1 h2; exact ⟨⟨a, c, h1, h2⟩, h3⟩)) ?_
    rintro _ w39 ⟨⟨pa, pc, rfl, hps⟩, X39⟩
    replace Bo := X39.keep Bo
    replace Bf := X39.keep Bf
    replace E := E.ext X39
    refine WpL_val rfl rfl (by decide) (r_move (v := (.tuple #[(.slice pa pn pc), (.int .i64 0)])) rfl) ?_
    refine WpL_val rfl rfl (by decide) (r_extract (vs := #[(.slice pa pn pc), (.int .i64 0)]) (v := (.slice pa pn pc)) rfl rfl) ?_
    refine WpL_val rfl rfl (by decide) (r_extract (vs := #[(.slice pa pn pc), (.int .i64 0)]) (v := (.int .i64 0)) rfl rfl) ?_
    refine WpL_val rfl rfl (by decide) (r_assign (v := (.slice pa pn pc)) rfl) ?_
    refine WpL_val rfl rfl (by decide) (r_assign (v := (.int .i64 0)) rfl) ?_
    refine WpL_nil ?_
    refine Wp_seq ?_
    refine Wp_seq_region ?_
    refine WpL_val rfl rfl (by decide) (r_move (v := (.int .i64 0)) rfl) ?_
    refine WpL_val rfl rfl (by decide) (r_neq (k := .i64) (a := 0) (b := 0) rfl rfl) ?_
    refine WpL_val rfl rfl (by decide) (r_move (v := (.bool false)) rfl) ?_
    refine WpL_guard_yes (oj := _) rfl rfl (by decide) rfl ?_
    obtain ⟨e2, he2⟩ : ∃ e, ((findO a text).isSome) = e := ⟨_, rfl⟩
    refine WpL_val rfl rfl (by decide) (r_move (v := .bool e2) (congrArg Value.bool he2)) ?_
    refine WpL_guard_yes (oj := _) rfl rfl (by decide) rfl ?_
    refine WpL_val rfl rfl (by decide) (r_move (v := (.slice pa pn pc)) rfl) ?_
    refine WpL_guard_yes (oj := _) rfl rfl (by decide) rfl ?_
    refine WpL_val rfl rfl (by decide) (r_lenSlice (ad := pa) (n := pn) (cap := pc) Tryd.underlying37 rfl) ?_
    refine WpL_guard_yes (oj := _) rfl rfl (by decide) rfl ?_
    obtain ⟨e3, he3⟩ : ∃ e, (decide ((0 : Int) < ((pn : Nat) : Int))) = e := ⟨_, rfl⟩
    refine WpL_val rfl rfl (by decide) ((r_gtr (k := .i64) (a := ((pn : Nat) : Int)) (b := 0) rfl rfl).trans (by rw [he3]; try rfl)) ?_
    refine WpL_guard_yes (oj := _) rfl rfl (by decide) rfl ?_
    refine WpL_val rfl rfl (by decide) (r_neqB (p := e2) (q := e3) Tryd.underlying4 rfl rfl) ?_
    refine WpL_val rfl rfl (by decide) (r_pick (b := false) (v := (.bool (e2 != e3))) rfl rfl) ?_
    refine WpL_nil ?_
    subst he3
    subst he2
    refine Wp_cond (b := ((findO a text).isSome) != (decide ((0 : Int) < ((pn : Nat) : Int)))) rfl (fun hs => ?_) (fun hs => ?_)
    · have khs := hs
      cases hf : findO a text with | none => (rw [hf] at hlaw hs; rw [hlaw] at hpn; simp [hpn] at hs) | some q => (rw [hf] at hlaw hs; obtain ⟨⟨y, l9, e9⟩, _⟩ := hlaw; rw [e9] at hpn; simp [hpn] at hs)
    · have khs := hs
      refine Wp_skip ?_
      refine thn_normal ?_
      refine Wp_seq ?_
      refine Wp_seq_region ?_
      refine WpL_val rfl rfl (by decide) (r_move (v := (.bool ((findO a text).isSome))) rfl) ?_
      refine WpL_val rfl rfl (by decide) (r_not (b := (findO a text).isSome) rfl) ?_
      refine WpL_nil ?_
      refine Wp_cond (b := !((findO a text).isSome)) rfl (fun hok => ?_) (fun hok => ?_)
      · have khok := hok
        replace hok := by simpa using hok
        refine Wp_seq_region ?_
        refine WpL_val rfl rfl (by decide) (r_assign (v := (.bool true)) rfl) ?_
        refine WpL_nil ?_
        refine Wp_ret ?_
        refine thn_ret ?_
        refine fin_tmp Tryd.results3 (v := (.bool true)) rfl ?_
        exact ⟨rfl, E⟩
      · have khok := hok
        replace hok := by simpa using hok
        obtain ⟨q, hq⟩ : ∃ q, findO a text = some q := by cases hf : findO a text with | none => (rw [hf] at hok; simp at hok) | some q => exact ⟨q, rfl⟩
        rw [hq] at hlaw hy
        obtain ⟨⟨y, l9, e9⟩, hmem, hgl, hgr⟩ := hlaw
        have hy0 : y0 = ((q.1 : Nat) : Int) := by have := congrArg (fun l => l[0]?) hy; simpa [fndO] using this.symm
        have hy1 : y1 = ((q.2.1 : Nat) : Int) := by have := congrArg (fun l => l[1]?) hy; simpa [fndO] using this.symm
        have hG : grpV q.2.2 = [.int .i64 y2, .int .i64 y3, .int .i64 y4, .int .i64 y5, .int .i64 y6, .int .i64 y7, .int .i64 y8, .int .i64 y9, .int .i64 y10, .int .i64 y11, .int .i64 y12, .int .i64 y13, .int .i64 y14, .int .i64 y15, .int .i64 y16, .int .i64 y17, .int .i64 y18, .int .i64 y19, .int .i64 y20, .int .i64 y21] := congrArg (List.drop 2) hy
        have hpn0 : 0 < pn := by rw [hpn, e9]; simp
        obtain ⟨pb, po, rfl, hcl⟩ := pairs_cells hps hpn0
        have hc1 := hcl 0 (q.1, y) (by rw [e9]; rfl)
        dsimp only at hc1
        rw [← hy0] at hc1
        have E3 : Chg none1 w39 w39 := Chg.refl _ _
        refine Wp_skip ?_
        refine thn_normal ?_
        refine Wp_seq ?_
        refine Wp_seq_region ?_
        refine WpL_val rfl rfl (by decide) (r_fieldAddr (b := bf) (o := 0) (o' := 2) rfl Tryd.underlying33 rfl siz31 rfl) ?_
        refine WpL_val rfl rfl (by decide) (r_loadAgg (vs := [(.int .i64 y2), (.int .i64 y3), (.int .i64 y4), (.int .i64 y5), (.int .i64 y6), (.int .i64 y7), (.int .i64 y8), (.int .i64 y9), (.int .i64 y10), (.int .i64 y11), (.int .i64 y12), (.int .i64 y13), (.int .i64 y14), (.int .i64 y15), (.int .i64 y16), (.int .i64 y17), (.int .i64 y18), (.int .i64 y19), (.int .i64 y20), (.int .i64 y21)]) rfl agg31 siz31 rfl (Bf.cells rfl)) ?_
        refine WpL_val rfl rfl (by decide) (r_move (v := (.int .i64 0)) rfl) ?_
        refine WpL_nil ?_
        refine Wp_block ?_
        refine Wp_loop (fun nn_ σ W6 => ∃ (i : Nat), (∃ jj_, σ = upds jj_ [(7, (.pointer (some ⟨bf, 0, none⟩))), (10, (.slice (some ⟨pb, po, none⟩) pn pc)), (52, (.agg #[(.int .i64 y2), (.int .i64 y3), (.int .i64 y4), (.int .i64 y5), (.int .i64 y6), (.int .i64 y7), (.int .i64 y8), (.int .i64 y9), (.int .i64 y10), (.int .i64 y11), (.int .i64 y12), (.int .i64 y13), (.int .i64 y14), (.int .i64 y15), (.int .i64 y16), (.int .i64 y17), (.int .i64 y18), (.int .i64 y19), (.int .i64 y20), (.int .i64 y21)])), (53, (.int .i64 ((i : Nat) : Int)))]) ∧ Chg none1 w0 W6 ∧ Chg none1 w39 W6 ∧ Blk W6 bo #[(.int .i64 a.kind), (.slice sa a.set.length sc), (.slice aa a.args.length ac), (.int .i64 a.mn), (.int .i64 a.mx), (.bool a.neg)] 27 ∧ Blk W6 bf #[(.int .i64 y0), (.int .i64 y1), (.int .i64 y2), (.int .i64 y3), (.int .i64 y4), (.int .i64 y5), (.int .i64 y6), (.int .i64 y7), (.int .i64 y8), (.int .i64 y9), (.int .i64 y10), (.int .i64 y11), (.int .i64 y12), (.int .i64 y13), (.int .i64 y14), (.int .i64 y15), (.int .i64 y16), (.int .i64 y17), (.int .i64 y18), (.int .i64 y19), (.int .i64 y20), (.int .i64 y21)] 33 ∧ (i ≤ 10) ∧ nn_ = 10 - i) (n := 10 - 0) ?_ ?_
        · exact ⟨0, Fits.out ⟨rfl, rfl, rfl, rfl, trivial⟩, E, E3, Bo, Bf, Nat.zero_le _, rfl⟩
        · clear E E3 Bo Bf
          rintro _ _ W6 ⟨i, ⟨j6, rfl⟩, E, E3, Bo, Bf, hi, rfl⟩
          refine Wp_seq_region ?_
          refine WpL_val rfl rfl (by decide) (r_lss (k := .i64) (a := ((i : Nat) : Int)) (b := 10) rfl rfl) ?_
          refine WpL_nil ?_
          refine Wp_seq ?_
          refine Wp_cond (b := decide ((((i : Nat) : Int) : Int) < 10)) rfl (fun hlt => ?_) (fun hlt => ?_)
          · have khlt := hlt
            replace hlt := of_decide_eq_true hlt
            obtain ⟨⟨g1, g2⟩, hgi⟩ := get_of_lt (l := q.2.2) (i := i) (by omega)
            have hgk := hgr i g1 g2 hgi
            refine Wp_skip ?_
            refine thn_normal ?_
            refine Wp_seq ?_
            refine Wp_block ?_
            refine Wp_seq_region ?_
            refine WpL_val rfl rfl (by decide) (r_indexW (i := i) (n := 2) (c' := #[.int .i64 g1, .int .i64 g2]) Tryd.underlying31 siz30 agg30 rfl rfl rfl (by omega) (by have := grp_ext hgi; rw [hG] at this; exact this)) ?_
            refine s_allocStore (v := (.agg #[(.int .i64 g1), (.int .i64 g2)])) (c := #[(.int .i64 g1), (.int .i64 g2)]) (n := 2) (by decide) zer30 rfl siz30 rfl rfl rfl (by simp [Value.oneCell']) ?_
            intro b8 w8 N8
            have F8 := N8.ge E
            have F8_E3 := N8.ge E3
            have O8_bo := N8.lt Bo
            have O8_bf := N8.lt Bf
            replace Bo := N8.keep Bo
            replace Bf := N8.keep Bf
            replace E := E.ext N8.ext
            have B8 := N8.blk
            replace E3 := E3.ext N8.ext
            refine WpL_nil ?_
            refine Wp_seq_region ?_
            refine WpL_val rfl rfl (by decide) (r_loadAgg (vs := [(.int .i64 g1), (.int .i64 g2)]) rfl agg30 siz30 rfl (B8.cells rfl)) ?_
            refine WpL_val rfl rfl (by decide) (r_build (ps := [(0, (.int .i64 (-1))), (1, (.int .i64 (-1)))]) (v := (.agg #[(.int .i64 (-1)), (.int .i64 (-1))])) rfl (by kernel_rfl)) ?_
            refine WpL_val (v := (.bool (!(decide (g1 = -1) && decide (g2 = -1))))) rfl rfl (by decide) (r_neqPair Tryd.underlying30 Tryd.underlying3 siz3 flat3 eqgPair rfl rfl) ?_
            refine WpL_val rfl rfl (by decide) (r_move (v := (.bool (!(decide (g1 = -1) && decide (g2 = -1))))) rfl) ?_
            rcases Bool.eq_false_or_eq_true (!(decide (g1 = -1) && decide (g2 = -1))) with hne | hne
            · have khne := hne
              have hgk2 : y0 ≤ g1 ∧ g1 ≤ g2 ∧ g2 ≤ y1 := by rcases hgk with ⟨e1, e2⟩ | h; (rw [e1, e2] at hne; cases hne); omega
              refine WpL_guard_yes (oj := _) rfl rfl (by decide) (congrArg Value.bool hne) ?_
              refine WpL_val rfl rfl (by decide) (r_indexArr (b := b8) (o := 0) (i := 0) (o' := 0) rfl rfl rfl Tryd.underlying30 siz3 (by omega) (by omega)) ?_
              refine WpL_guard_yes (oj := _) rfl rfl (by decide) (congrArg Value.bool hne) ?_
              refine WpL_val rfl rfl (by decide) (r_load (v := (.int .i64 g1)) rfl flat3 (B8.cell rfl)) ?_
              refine WpL_guard_yes (oj := _) rfl rfl (by decide) (congrArg Value.bool hne) ?_
              refine WpL_val rfl rfl (by decide) (r_fieldAddr (b := bf) (o := 0) (o' := 0) rfl Tryd.underlying33 rfl siz3 rfl) ?_
              refine WpL_guard_yes (oj := _) rfl rfl (by decide) (congrArg Value.bool hne) ?_
              refine WpL_val rfl rfl (by decide) (r_load (v := (.int .i64 y0)) rfl flat3 (Bf.cell rfl)) ?_
              refine WpL_guard_yes (oj := _) rfl rfl (by decide) (congrArg Value.bool hne) ?_
              refine WpL_val rfl rfl (by decide) (r_lss (k := .i64) (a := g1) (b := y0) rfl rfl) ?_
              refine WpL_guard_yes (oj := _) rfl rfl (by decide) (congrArg Value.bool hne) ?_
              refine WpL_val rfl rfl (by decide) (r_move (v := (.bool (decide ((g1 : Int) < y0)))) rfl) ?_
              have hg10 : (decide ((g1 : Int) < y0)) = false := decide_eq_false (by omega)
              refine WpL_guard_yes (oj := _) rfl rfl (by decide) (congrArg Value.bool hg10) ?_
              refine WpL_val rfl rfl (by decide) (r_indexArr (b := b8) (o := 0) (i := 0) (o' := 0) rfl rfl rfl Tryd.underlying30 siz3 (by omega) (by omega)) ?_
              refine WpL_guard_yes (oj := _) rfl rfl (by decide) (congrArg Value.bool hg10) ?_
              refine WpL_val rfl rfl (by decide) (r_load (v := (.int .i64 g1)) rfl flat3 (B8.cell rfl)) ?_
              refine WpL_guard_yes (oj := _) rfl rfl (by decide) (congrArg Value.bool hg10) ?_
              refine WpL_val rfl rfl (by decide) (r_indexArr (b := b8) (o := 0) (i := 1) (o' := 1) rfl rfl rfl Tryd.underlying30 siz3 (by omega) (by omega)) ?_
              refine WpL_guard_yes (oj := _) rfl rfl (by decide) (congrArg Value.bool hg10) ?_
              refine WpL_val rfl rfl (by decide) (r_load (v := (.int .i64 g2)) rfl flat3 (B8.cell rfl)) ?_
              refine WpL_guard_yes (oj := _) rfl rfl (by decide) (congrArg Value.bool hg10) ?_
              refine WpL_val rfl rfl (by decide) (r_gtr (k := .i64) (a := g1) (b := g2) rfl rfl) ?_
              refine WpL_guard_yes (oj := _) rfl rfl (by decide) (congrArg Value.bool hne) ?_
              refine WpL_val rfl rfl (by decide) (r_pick (b := decide ((g1 : Int) < y0)) (v := (.bool (decide ((g2 : Int) < g1)))) rfl (by rw [hg10]; rfl)) ?_
              refine WpL_guard_yes (oj := _) rfl rfl (by decide) (congrArg Value.bool hne) ?_
              refine WpL_val rfl rfl (by decide) (r_move (v := (.bool (decide ((g2 : Int) < g1)))) rfl) ?_
              have hg11 : (decide ((g2 : Int) < g1)) = false := decide_eq_false (by omega)
              refine WpL_guard_yes (oj := _) rfl rfl (by decide) (congrArg Value.bool hg11) ?_
              refine WpL_val rfl rfl (by decide) (r_indexArr (b := b8) (o := 0) (i := 1) (o' := 1) rfl rfl rfl Tryd.underlying30 siz3 (by omega) (by omega)) ?_
              refine WpL_guard_yes (oj := _) rfl rfl (by decide) (congrArg Value.bool hg11) ?_
              refine WpL_val rfl rfl (by decide) (r_load (v := (.int .i64 g2)) rfl flat3 (B8.cell rfl)) ?_
              refine WpL_guard_yes (oj := _) rfl rfl (by decide) (congrArg Value.bool hg11) ?_
              refine WpL_val rfl rfl (by decide) (r_fieldAddr (b := bf) (o := 0) (o' := 1) rfl Tryd.underlying33 rfl siz3 rfl) ?_
              refine WpL_guard_yes (oj := _) rfl rfl (by decide) (congrArg Value.bool hg11) ?_
              refine WpL_val rfl rfl (by decide) (r_load (v := (.int .i64 y1)) rfl flat3 (Bf.cell rfl)) ?_
              refine WpL_guard_yes (oj := _) rfl rfl (by decide) (congrArg Value.bool hg11) ?_
              refine WpL_val rfl rfl (by decide) (r_gtr (k := .i64) (a := g2) (b := y1) rfl rfl) ?_
              refine WpL_guard_yes (oj := _) rfl rfl (by decide) (congrArg Value.bool hne) ?_
              refine WpL_val rfl rfl (by decide) (r_pick (b := decide ((g2 : Int) < g1)) (v := (.bool (decide ((y1 : Int) < g2)))) rfl (by rw [hg11]; rfl)) ?_
              refine WpL_val rfl rfl (by decide) (r_pick (b := !(decide (g1 = -1) && decide (g2 = -1))) (v := (.bool (decide ((y1 : Int) < g2)))) rfl (by rw [hne]; rfl)) ?_
              refine WpL_nil ?_
              have hc12 : (decide ((y1 : Int) < g2)) = false := decide_eq_false (by omega)
              refine Wp_cond_false (congrArg Value.bool hc12) ?_
              refine Wp_skip ?_
              refine inB_normal ?_
              refine thn_normal ?_
              refine Wp_region ?_
              refine WpL_val rfl rfl (by decide) (r_add (k := .i64) (a := ((i : Nat) : Int)) (b := 1) (c := ((i : Nat) : Int) + 1) rfl rfl (wI64 (by omega))) ?_
              refine WpL_val rfl rfl (by decide) (r_move (v := (.int .i64 (((i : Nat) : Int) + 1))) rfl) ?_
              refine WpL_nil ?_
              refine thn_normal ?_
              exact ⟨10 - (i + 1), by omega, i + 1, Fits.out ⟨rfl, rfl, rfl, rfl, trivial⟩, E, E3, Bo, Bf, (by omega), rfl⟩
            · have khne := hne
              refine WpL_guard_no (oj := _) rfl rfl (by decide) (v := .bool false) (congrArg Value.bool hne) (Or.inl rfl) ?_
              refine WpL_guard_no (oj := _) rfl rfl (by decide) (v := .bool false) (congrArg Value.bool hne) (Or.inl rfl) ?_
              refine WpL_guard_no (oj := _) rfl rfl (by decide) (v := .bool false) (congrArg Value.bool hne) (Or.inl rfl) ?_
              refine WpL_guard_no (oj := _) rfl rfl (by decide) (v := .bool false) (congrArg Value.bool hne) (Or.inl rfl) ?_
              refine WpL_guard_no (oj := _) rfl rfl (by decide) (v := .bool false) (congrArg Value.bool hne) (Or.inl rfl) ?_
              refine WpL_guard_no (oj := _) rfl rfl (by decide) (v := .bool false) (congrArg Value.bool hne) (Or.inl rfl) ?_
              refine WpL_guard_no (oj := _) rfl rfl (by decide) (v := undef) rfl (Or.inr rfl) ?_
              refine WpL_guard_no (oj := _) rfl rfl (by decide) (v := undef) rfl (Or.inr rfl) ?_
              refine WpL_guard_no (oj := _) rfl rfl (by decide) (v := undef) rfl (Or.inr rfl) ?_
              refine WpL_guard_no (oj := _) rfl rfl (by decide) (v := undef) rfl (Or.inr rfl) ?_
              refine WpL_guard_no (oj := _) rfl rfl (by decide) (v := undef) rfl (Or.inr rfl) ?_
              refine WpL_guard_no (oj := _) rfl rfl (by decide) (v := .bool false) (congrArg Value.bool hne) (Or.inl rfl) ?_
              refine WpL_guard_no (oj := _) rfl rfl (by decide) (v := .bool false) (congrArg Value.bool hne) (Or.inl rfl) ?_
              refine WpL_guard_no (oj := _) rfl rfl (by decide) (v := undef) rfl (Or.inr rfl) ?_
              refine WpL_guard_no (oj := _) rfl rfl (by decide) (v := undef) rfl (Or.inr rfl) ?_
              refine WpL_guard_no (oj := _) rfl rfl (by decide) (v := undef) rfl (Or.inr rfl) ?_
              refine WpL_guard_no (oj := _) rfl rfl (by decide) (v := undef) rfl (Or.inr rfl) ?_
              refine WpL_guard_no (oj := _) rfl rfl (by decide) (v := undef) rfl (Or.inr rfl) ?_
              refine WpL_guard_no (oj := _) rfl rfl (by decide) (v := .bool false) (congrArg Value.bool hne) (Or.inl rfl) ?_
              refine WpL_val rfl rfl (by decide) (r_pick (b := !(decide (g1 = -1) && decide (g2 = -1))) (v := (.bool false)) rfl (by rw [hne]; rfl)) ?_
              refine WpL_nil ?_
              refine Wp_cond_false rfl ?_
              refine Wp_skip ?_
              refine inB_normal ?_
              refine thn_normal ?_
              refine Wp_region ?_
              refine WpL_val rfl rfl (by decide) (r_add (k := .i64) (a := ((i : Nat) : Int)) (b := 1) (c := ((i : Nat) : Int) + 1) rfl rfl (wI64 (by omega))) ?_
              refine WpL_val rfl rfl (by decide) (r_move (v := (.int .i64 (((i : Nat) : Int) + 1))) rfl) ?_
              refine WpL_nil ?_
              refine thn_normal ?_
              exact ⟨10 - (i + 1), by omega, i + 1, Fits.out ⟨rfl, rfl, rfl, rfl, trivial⟩, E, E3, Bo, Bf, (by omega), rfl⟩
          · have khlt := hlt
            replace hlt := of_decide_eq_false hlt
            have hk0 : decide (y0 = y0) = true := decide_eq_true rfl
            refine Wp_exit ?_
            refine thn_exit ?_
            refine thn_exit ?_
            refine inB_here ?_
            refine thn_normal ?_
            refine Wp_seq ?_
            obtain ⟨Fs13, hFs13⟩ : ∃ Fs : List Fact, Fs = [.eq (.slice (some ⟨pb, po, none⟩) pn pc), .eq (.pointer (some ⟨pb, po + 0 * 2, none⟩)), .eq (.pointer (some ⟨pb, po + 0 * 2 + 0, none⟩)), .eq (.int .i64 y0), .eq (.pointer (some ⟨bf, 0, none⟩)), .eq (.int .i64 y0), .eq (.bool true), .eq (.bool true), .eq (.slice (some ⟨pb, po, none⟩) pn pc), .eq (.pointer (some ⟨bf, 0, none⟩)), .eq (.int .i64 y0), .eq (.pointer (some ⟨bf, 1, none⟩)), .eq (.int .i64 y1), .eq (.agg #[(.int .i64 y0), (.int .i64 y1)]), .eq (.bool (pl.any (pairBl y0 y1))), .eq (.bool (pl.any (pairBl y0 y1))), .eq (.bool (pl.any (pairBl y0 y1)))] := ⟨_, rfl⟩
            refine Wp_dag [81, 82, 83, 84, 85, 86, 87, 88, 89, 90, 91, 92, 93, 94, 95, 96, 4] [[], [0], [1], [2], [], [4], [3, 5], [6], [7], [7], [7, 9], [7], [7, 11], [7, 10, 12], [7, 8, 13], [7, 14], [0, 1, 2, 3, 4, 5, 6, 7, 8, 9, 10, 11, 12, 13, 14, 15]] Fs13 hFs13 mixed (by kernel_rfl) (by kernel_rfl) ?_ ?_
            · intro wd X0
              refine DagSteps.cons (fun s' w' X U H => Or.inl ⟨?_, ?_⟩) ?_
              · exact Guarded_none rfl
              · exact Does_val (r_move (v := (.slice (some ⟨pb, po, none⟩) pn pc)) (U 10 rfl)) (Ext.refl _) rfl
              refine DagSteps.cons (fun s' w' X U H => Or.inl ⟨?_, ?_⟩) ?_
              · exact Guarded_none rfl
              · have e81 : s' 81 = (.slice (some ⟨pb, po, none⟩) pn pc) := H 0 rfl 81 (.eq (.slice (some ⟨pb, po, none⟩) pn pc)) rfl (by rw [hFs13]; rfl)
                exact Does_val (r_indexSlice (b := pb) (o := po) (len := pn) (cap := pc) (i := 0) (o' := po + 0 * 2) e81 rfl (by omega) Tryd.underlying37 siz30 (by omega) (by omega)) (Ext.refl _) rfl
              refine DagSteps.cons (fun s' w' X U H => Or.inl ⟨?_, ?_⟩) ?_
              · exact Guarded_none rfl
              · have e82 : s' 82 = (.pointer (some ⟨pb, po + 0 * 2, none⟩)) := H 1 rfl 82 (.eq (.pointer (some ⟨pb, po + 0 * 2, none⟩))) rfl (by rw [hFs13]; rfl)
                exact Does_val (r_indexArr (b := pb) (o := po + 0 * 2) (i := 0) (o' := po + 0 * 2 + 0) e82 rfl rfl Tryd.underlying30 siz3 (by omega) (by omega)) (Ext.refl _) rfl
              refine DagSteps.cons (fun s' w' X U H => Or.inl ⟨?_, ?_⟩) ?_
              · exact Guarded_none rfl
              · have e83 : s' 83 = (.pointer (some ⟨pb, po + 0 * 2 + 0, none⟩)) := H 2 rfl 83 (.eq (.pointer (some ⟨pb, po + 0 * 2 + 0, none⟩))) rfl (by rw [hFs13]; rfl)
                exact Does_val (r_load (v := (.int .i64 y0)) e83 flat3 ((Chg.ext E3 (X0.trans X)).cell (fun f => f) (hc1 0 _ rfl))) (Ext.refl _) rfl
              refine DagSteps.cons (fun s' w' X U H => Or.inl ⟨?_, ?_⟩) ?_
              · exact Guarded_none rfl
              · exact Does_val (r_fieldAddr (b := bf) (o := 0) (o' := 0) (U 7 rfl) Tryd.underlying33 rfl siz3 rfl) (Ext.refl _) rfl
              refine DagSteps.cons (fun s' w' X U H => Or.inl ⟨?_, ?_⟩) ?_
              · exact Guarded_none rfl
              · have e85 : s' 85 = (.pointer (some ⟨bf, 0, none⟩)) := H 4 rfl 85 (.eq (.pointer (some ⟨bf, 0, none⟩))) rfl (by rw [hFs13]; rfl)
                exact Does_val (r_load (v := (.int .i64 y0)) e85 flat3 (((X0.trans X).keep Bf).cell rfl)) (Ext.refl _) rfl
              refine DagSteps.cons (fun s' w' X U H => Or.inl ⟨?_, ?_⟩) ?_
              · exact Guarded_none rfl
              · have e84 : s' 84 = (.int .i64 y0) := H 3 rfl 84 (.eq (.int .i64 y0)) rfl (by rw [hFs13]; rfl)
                have e86 : s' 86 = (.int .i64 y0) := H 5 rfl 86 (.eq (.int .i64 y0)) rfl (by rw [hFs13]; rfl)
                exact Does_val (Eq.trans (r_eql (k := .i64) (a := y0) (b := y0) e84 e86) (by rw [hk0])) (Ext.refl _) rfl
              refine DagSteps.cons (fun s' w' X U H => Or.inl ⟨?_, ?_⟩) ?_
              · exact Guarded_none rfl
              · have e87 : s' 87 = (.bool true) := H 6 rfl 87 (.eq (.bool true)) rfl (by rw [hFs13]; rfl)
                exact Does_val (r_move (v := (.bool true)) e87) (Ext.refl _) rfl
              refine DagSteps.cons (fun s' w' X U H => Or.inl ⟨?_, ?_⟩) ?_
              · exact Guarded_some rfl rfl (d := 88) (H 7 rfl 88 (.eq (.bool true)) rfl (by rw [hFs13]; rfl))
              · exact Does_val (r_move (v := (.slice (some ⟨pb, po, none⟩) pn pc)) (U 10 rfl)) (Ext.refl _) rfl
              refine DagSteps.cons (fun s' w' X U H => Or.inl ⟨?_, ?_⟩) ?_
              · exact Guarded_some rfl rfl (d := 88) (H 7 rfl 88 (.eq (.bool true)) rfl (by rw [hFs13]; rfl))
              · exact Does_val (r_fieldAddr (b := bf) (o := 0) (o' := 0) (U 7 rfl) Tryd.underlying33 rfl siz3 rfl) (Ext.refl _) rfl
              refine DagSteps.cons (fun s' w' X U H => Or.inl ⟨?_, ?_⟩) ?_
              · exact Guarded_some rfl rfl (d := 88) (H 7 rfl 88 (.eq (.bool true)) rfl (by rw [hFs13]; rfl))
              · have e90 : s' 90 = (.pointer (some ⟨bf, 0, none⟩)) := H 9 rfl 90 (.eq (.pointer (some ⟨bf, 0, none⟩))) rfl (by rw [hFs13]; rfl)
                exact Does_val (r_load (v := (.int .i64 y0)) e90 flat3 (((X0.trans X).keep Bf).cell rfl)) (Ext.refl _) rfl
              refine DagSteps.cons (fun s' w' X U H => Or.inl ⟨?_, ?_⟩) ?_
              · exact Guarded_some rfl rfl (d := 88) (H 7 rfl 88 (.eq (.bool true)) rfl (by rw [hFs13]; rfl))
              · exact Does_val (r_fieldAddr (b := bf) (o := 0) (o' := 1) (U 7 rfl) Tryd.underlying33 rfl siz3 rfl) (Ext.refl _) rfl
              refine DagSteps.cons (fun s' w' X U H => Or.inl ⟨?_, ?_⟩) ?_
              · exact Guarded_some rfl rfl (d := 88) (H 7 rfl 88 (.eq (.bool true)) rfl (by rw [hFs13]; rfl))
              · have e92 : s' 92 = (.pointer (some ⟨bf, 1, none⟩)) := H 11 rfl 92 (.eq (.pointer (some ⟨bf, 1, none⟩))) rfl (by rw [hFs13]; rfl)
                exact Does_val (r_load (v := (.int .i64 y1)) e92 flat3 (((X0.trans X).keep Bf).cell rfl)) (Ext.refl _) rfl
              refine DagSteps.cons (fun s' w' X U H => Or.inl ⟨?_, ?_⟩) ?_
              · exact Guarded_some rfl rfl (d := 88) (H 7 rfl 88 (.eq (.bool true)) rfl (by rw [hFs13]; rfl))
              · have e91 : s' 91 = (.int .i64 y0) := H 10 rfl 91 (.eq (.int .i64 y0)) rfl (by rw [hFs13]; rfl)
                have e93 : s' 93 = (.int .i64 y1) := H 12 rfl 93 (.eq (.int .i64 y1)) rfl (by rw [hFs13]; rfl)
                exact Does_val (r_build (ps := [(0, (.int .i64 y0)), (1, (.int .i64 y1))]) (v := (.agg #[(.int .i64 y0), (.int .i64 y1)])) (bld2 e91 e93) (by kernel_rfl)) (Ext.refl _) rfl
              refine DagSteps.cons (fun s' w' X U H => Or.inl ⟨?_, ?_⟩) ?_
              · exact Guarded_some rfl rfl (d := 88) (H 7 rfl 88 (.eq (.bool true)) rfl (by rw [hFs13]; rfl))
              · have e89 : s' 89 = (.slice (some ⟨pb, po, none⟩) pn pc) := H 8 rfl 89 (.eq (.slice (some ⟨pb, po, none⟩) pn pc)) rfl (by rw [hFs13]; rfl)
                have e94 : s' 94 = (.agg #[(.int .i64 y0), (.int .i64 y1)]) := H 13 rfl 94 (.eq (.agg #[(.int .i64 y0), (.int .i64 y1)])) rfl (by rw [hFs13]; rfl)
                exact Does_enter (r_callF (vs := [(.slice (some ⟨pb, po, none⟩) pn pc), (.agg #[(.int .i64 y0), (.int .i64 y1)])]) Tryd.func11 nm11 bd11 (lst2 e89 e94)) (haspl_c _ _ y0 y1 pl (SlAt.ext hps (E3.trans (X0.trans X))))
              refine DagSteps.cons (fun s' w' X U H => Or.inl ⟨?_, ?_⟩) ?_
              · exact Guarded_none rfl
              · have e88 : s' 88 = (.bool true) := H 7 rfl 88 (.eq (.bool true)) rfl (by rw [hFs13]; rfl)
                have e95 : s' 95 = (.bool (pl.any (pairBl y0 y1))) := H 14 rfl 95 (.eq (.bool (pl.any (pairBl y0 y1)))) rfl (by rw [hFs13]; rfl)
                exact Does_val (r_pick (b := true) (v := (.bool (pl.any (pairBl y0 y1)))) e88 e95) (Ext.refl _) rfl
              refine DagSteps.cons (fun s' w' X U H => Or.inl ⟨?_, ?_⟩) ?_
              · exact Guarded_none rfl
              · have e96 : s' 96 = (.bool (pl.any (pairBl y0 y1))) := H 15 rfl 96 (.eq (.bool (pl.any (pairBl y0 y1)))) rfl (by rw [hFs13]; rfl)
                exact Does_val (r_assign (v := (.bool (pl.any (pairBl y0 y1)))) e96) (Ext.refl _) rfl
              exact DagSteps.nil
            · intro s' w13 X13 U H
              obtain ⟨j13, rfl⟩ := Fits.out (σ := s') (l := [(4, (.bool (pl.any (pairBl y0 y1))))]) ⟨(show s' 4 = (.bool (pl.any (pairBl y0 y1))) from H 16 4 (.eq (.bool (pl.any (pairBl y0 y1)))) rfl (by rw [hFs13]; rfl)), trivial⟩
              clear U H
              replace Bo := X13.keep Bo
              replace Bf := X13.keep Bf
              replace E := E.ext X13
              replace E3 := E3.ext X13
              refine thn_normal ?_
              refine Wp_ret ?_
              refine fin_tmp Tryd.results3 (v := (.bool (pl.any (pairBl y0 y1)))) rfl ?_
              exact ⟨bool_eq (by rw [hy0, hy1]; simpa using any_pairBl hmem), E⟩
end Go.Proofs
