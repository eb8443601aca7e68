/- Contracts and plain lemmas, part 7. -/
import Derived.Tactics
import Derived.Deep.Quiet
import Derived.Laws.AppendOwn
import Derived.KernelRfl
import Derived.Laws.Entries
import Derived.Laws.Build
import Derived.Below
import Derived.RowKit3
import Derived.StillTail
import Derived.Sort.Grow
import Derived.Deep.Draws
import Derived.Test.YtdcgaapnkflhmaaGreatChecked
import Derived.Laws.StructEq
import Derived.MapKept
import Derived.Laws.BytesArg
import Derived.Defers
import Derived.Recover
import Derived.Shelf.SlSortCmp.WholeK
import Derived.Shelf.Sort.Plain
import Derived.Shelf.Slices.CompactI
import Derived.Test.YtdcgaapnkflhmaaGreatProg
import Derived.Shelf.Small.Bits
import Derived.DeepKeys3
import Derived.OpenShut
import Derived.ChangeSlices
import Derived.Test.YtdcgaapnkflhmaaGreatRows
import Derived.SizedLaws
import Derived.Test.YtdcgaapnkflhmaaGreatZn6
namespace Go.Proofs
open Go Go.Eng Go.Sort
set_option maxRecDepth 100000
theorem glu1_idle (w0 : World) (b1 b2 : Nat) : CallsD Tryz.prog 92 #[.pointer (some ⟨b1, 0, none⟩), .pointer (some ⟨b2, 0, none⟩)] .returning w0 fun e u1 w' => (∃ r, e = .returned r ∧ Ext w0 w') ∧ u1 = .returning := by
 refine CallsD_recover (v := .nilIface) Tryz.func92 rfl Tryz.ntmps92 (Nat.le_of_ble_eq_true rfl) rfl rfl (by decide) (fun _ _ => r_recover) (.inl ⟨rfl, rfl, rfl⟩) ?_
 have E : Chg none1 w0 w0 := Chg.refl _ _
 refine qV (r_assertNil Tryz.underlying124 zer124 rfl) ?_
 refine qM (.tuple #[(.agg #[]), (.bool false)]) rfl ?_
 refine qV (r_extract (vs := #[(.agg #[]), (.bool false)]) (v := (.agg #[])) rfl rfl) ?_
 refine qV (r_extract (vs := #[(.agg #[]), (.bool false)]) (v := (.bool false)) rfl rfl) ?_
 refine s_allocStore (v := (.agg #[])) (c := #[]) (n := 0) (by decide) zer124 rfl siz124 rfl rfl rfl (by simp [Value.oneCell']) ?_
 intro b1 w1 N1
 have F1 := N1.ge E
 replace E := E.ext N1.ext
 have B1 := N1.blk
 refine qA (.bool false) rfl ?_
 refine WpL_nil (Wp_seq_region ?_)
 refine qM (.bool false) rfl ?_
 refine WpL_nil ?_
 refine Wp_cond_false rfl ?_
 refine Wp_skip ?_
 refine fin_none Tryz.results92 ?_
 exact E
theorem glu1_panic (w0 : World) (bd be : Nat) (h1 : Blk w0 bd #[.int .i64 0, .int .i64 0, .slice none 0 0, .slice none 0 0, .slice none 0 0] TNf) (h2 : Blk w0 be #[.int .i64 0] 27) (hne : bd ≠ be) :
  CallsD Tryz.prog 92 #[.pointer (some ⟨bd, 0, none⟩), .pointer (some ⟨be, 0, none⟩)] (.panicking lgN) w0 fun e u1 w' => (∃ r, e = .returned r ∧ (Blk w' bd #[.int .i64 0, .int .i64 0, .slice none 0 0, .slice none 0 0, .slice none 0 0] TNf ∧ Blk w' be #[.int .i64 2] 27 ∧ Chg (fun y => y = bd ∨ y = be) w0 w')) ∧ u1 = .panicking [{ v := .iface 124 (.agg #[]), recovered := true }] := by
 have hl1 := h1.lt
 have hl2 := h2.lt
 refine CallsD_recover (v := (.iface 124 (.agg #[]))) Tryz.func92 rfl Tryz.ntmps92 (Nat.le_of_ble_eq_true rfl) rfl rfl (by decide) (fun _ _ => r_recover) (.inr ⟨[], rfl, rfl⟩) ?_
 have E : Chg (fun y => y = bd ∨ y = be) w0 w0 := Chg.refl _ _
 refine qV (r_assertYes Tryz.underlying124 rfl) ?_
 refine qM (.tuple #[(.agg #[]), (.bool true)]) rfl ?_
 refine qV (r_extract (vs := #[(.agg #[]), (.bool true)]) (v := (.agg #[])) rfl rfl) ?_
 refine qV (r_extract (vs := #[(.agg #[]), (.bool true)]) (v := (.bool true)) rfl rfl) ?_
 refine s_allocStore (v := (.agg #[])) (c := #[]) (n := 0) (by decide) zer124 rfl siz124 rfl rfl rfl (by simp [Value.oneCell']) ?_
 intro b1 w1 N1
 have F1 := N1.ge E
 have O1_bd := N1.lt h1
 have O1_be := N1.lt h2
 replace h1 := N1.keep h1
 replace h2 := N1.keep h2
 replace E := E.ext N1.ext
 have B1 := N1.blk
 refine qA (.bool true) rfl ?_
 refine WpL_nil (Wp_seq_region ?_)
 refine qM (.bool true) rfl ?_
 refine WpL_nil ?_
 refine Wp_cond_true rfl ?_
 refine Wp_region ?_
 refine qV (r_build (ps := []) (v := (.agg #[(I6 0), (I6 0), (.slice none 0 0), (.slice none 0 0), (.slice none 0 0)])) rfl (by kernel_rfl)) ?_
 refine s_storeAgg (b := bd) (o := 0) (c' := #[(I6 0), (I6 0), (.slice none 0 0), (.slice none 0 0), (.slice none 0 0)]) rfl rfl (by simp [Value.oneCell']) siz26 rfl h1 (by first | (simp; done) | exact Nat.le_of_ble_eq_true rfl) rfl ?_
 intro w2 S2
 replace h2 := S2.keep (by omega) h2
 replace B1 := S2.keep (by omega) B1
 replace E := S2.step E (by first | exact Or.inl (by omega) | exact Or.inr rfl | exact Or.inr (by assumption) | exact Or.inr (by simp) | exact Or.inr (by omega) | exact Or.inr (by dsimp only; omega))
 replace h1 := S2.blk
 refine s_store (b := be) (o := 0) (c' := #[(I6 2)]) (v := (I6 2)) rfl rfl rfl siz27 h2 (by simp) rfl ?_
 intro w3 S3
 replace h1 := S3.keep (by omega) h1
 replace B1 := S3.keep (by omega) B1
 replace E := S3.step E (by first | exact Or.inl (by omega) | exact Or.inr rfl | exact Or.inr (by assumption) | exact Or.inr (by simp) | exact Or.inr (by omega) | exact Or.inr (by dsimp only; omega))
 replace h2 := S3.blk
 refine WpL_nil ?_
 refine fin_none Tryz.results92 ?_
 exact ⟨h1, h2, E⟩
theorem hi_glu1 (w : World) (cap : Array Value) : (callFunc 92 cap).run Tryz.prog w = .ok (.enter 92 cap) w := run_callF Tryz.func92 kQ kQ
theorem ends0_len (p : Pt) : (ends0 p).length ≤ 1 := by unfold ends0; split <;> simp
/-- Numbers in a block of F. -/
def IntsF (F : Nat → Prop) (w : World) (v : Value) (l : List Int) : Prop := IntsAt w v l ∧ (l = [] ∨ ∃ b, v.ownBlock = some b ∧ F b)
theorem IntsF.chg {F M : Nat → Prop} {w w' : World} {v : Value} {l : List Int} (h : IntsF F w v l) (c : Chg M w w') (hM : ∀ y, F y → ¬ M y) : IntsF F w' v l := by
 refine ⟨slAt_keep h.1 c ?_, h.2⟩
 rcases h.2 with h1 | ⟨b, h1, h2⟩
 ·exact .inl (by rw [h1]; rfl)
 ·exact .inr ⟨b, h1, hM b h2⟩
theorem IntsF.ext {F : Nat → Prop} {w w' : World} {v : Value} {l : List Int} (h : IntsF F w v l) (e : Ext w w') : IntsF F w' v l := h.chg e fun _ _ f => f
theorem IntsF.mono {F F' : Nat → Prop} {w : World} {v : Value} {l : List Int} (h : IntsF F w v l) (hF : ∀ y, F y → F' y) : IntsF F' w v l := ⟨h.1, h.2.imp id fun ⟨b, h1, h2⟩ => ⟨b, h1, hF b h2⟩⟩
theorem EdB.more {F S : Nat → Prop} {w : World} {base : Nat} {xv : Value} {es : List Ed} (h : EdB F w base xv es) (hS : ∀ y, S y → base ≤ y ∧ y < w.heap.size ∧ xv.ownBlock ≠ some y) : EdB (fun y => F y ∨ S y) w base xv es := by
 obtain ⟨⟨rows, h1, h2⟩, h3, h4⟩ := h
 exact ⟨⟨rows, h1, h2.mono fun y hy => .inl hy⟩, fun b hb hf => hf.elim (h3 b hb) fun h => (hS b h).2.2 hb, fun y hy => hy.elim (h4 y) fun h => ⟨(hS y h).1, (hS y h).2.1⟩⟩
theorem EdB.own {F : Nat → Prop} {w : World} {base : Nat} {xv : Value} {es : List Ed} (h : EdB F w base xv es) {b : Nat} (hb : xv.ownBlock = some b) : base ≤ b ∧ b < w.heap.size := by
 obtain ⟨⟨rows, h1, _⟩, _⟩ := h
 exact h1.lt b hb
/-- The sets that are put in are sets of the expression. -/
def GSets (S : List Sp → Prop) (f : GF) : Prop := ∀ g g' p, (∀ z ∈ g.sets, S z) → f g = some (g', p) → ∀ z ∈ g'.sets, S z
theorem catGs_sets {S : List Sp → Prop} : ∀ (fs : List GF), (∀ f ∈ fs, GSets S f) → ∀ (g g' : GS) (o p : Pt), (∀ z ∈ g.sets, S z) → catGs fs g o = some (g', p) → ∀ z ∈ g'.sets, S z
  | [], _, g, g', o, p, h, e => by
    simp only [catGs, Option.some.injEq, Prod.mk.injEq] at e
    obtain ⟨rfl, rfl⟩ := e; exact h
  | f :: fs, hf, g, g', o, p, h, e => by
    rw [catGs] at e
    obtain ⟨⟨g1, p1⟩, e1, e2⟩ := Option.bind_eq_some_iff.1 e
    have h1 : ∀ z ∈ (catK g1 o p1).sets, S z := hf f List.mem_cons_self g g1 p1 h e1
    exact catGs_sets fs (fun f' h' => hf f' (List.mem_cons_of_mem _ h')) _ _ _ _ h1 e2
theorem altGs_sets {S : List Sp → Prop} : ∀ (fs : List GF), (∀ f ∈ fs, GSets S f) → ∀ (g g' : GS) (o p : Pt), (∀ z ∈ g.sets, S z) → altGs fs g o = some (g', p) → ∀ z ∈ g'.sets, S z
  | [], _, g, g', o, p, h, e => by
    simp only [altGs, Option.some.injEq, Prod.mk.injEq] at e
    obtain ⟨rfl, rfl⟩ := e; exact h
  | f :: fs, hf, g, g', o, p, h, e => by
    rw [altGs] at e
    obtain ⟨⟨g1, p1⟩, e1, e2⟩ := Option.bind_eq_some_iff.1 e
    exact altGs_sets fs (fun f' h' => hf f' (List.mem_cons_of_mem _ h')) _ _ _ _ (hf f List.mem_cons_self _ _ _ h e1) e2
theorem repGs_sets {S : List Sp → Prop} {f : GF} (hf : GSets S f) {mn : Int} {g : GS} (hg : ∀ z ∈ g.sets, S z) : ∀ (k : Nat) (g' : GS) (p : Pt), repGs f mn g k = some (g', p) → ∀ z ∈ g'.sets, S z
  | 0, g', p, e => by
    simp only [repGs, Option.some.injEq, Prod.mk.injEq] at e
    obtain ⟨rfl, rfl⟩ := e; exact hg
  | k + 1, g', p, e => by
    rw [repGs] at e
    obtain ⟨⟨g1, o⟩, e1, e2⟩ := Option.bind_eq_some_iff.1 e
    obtain ⟨⟨g2, q⟩, e3, e4⟩ := Option.bind_eq_some_iff.1 e2
    simp only [Option.some.injEq, Prod.mk.injEq] at e4
    obtain ⟨rfl, rfl⟩ := e4
    have h1 : ∀ z ∈ g2.sets, S z := hf g1 g2 q (repGs_sets hf hg k g1 o e1) e3
    exact h1
theorem gnode_sets {S : List Sp → Prop} {k : Int} {z : List Sp} {mn mx : Int} {fs : List GF} (hz : k = 2 → S z) (hf : ∀ f ∈ fs, GSets S f) : GSets S (gnode k z mn mx fs) := by
  intro g g' p hg e
  unfold gnode at e
  split at e
  · simp only [Option.some.injEq, Prod.mk.injEq] at e
    obtain ⟨rfl, rfl⟩ := e; exact hg
  split at e
  · rename_i h2
    unfold setK at e
    split at e
    · cases e
    · simp only [Option.some.injEq, Prod.mk.injEq] at e
      obtain ⟨rfl, rfl⟩ := e
      intro y hy
      rcases List.mem_append.1 hy with h1 | h1
      · exact hg y h1
      · rw [List.mem_singleton.1 h1]; exact hz h2
  split at e
  · exact catGs_sets fs hf _ _ _ _ hg e
  split at e
  · exact altGs_sets fs hf _ _ _ _ hg e
  split at e
  · cases fs with
    | nil => cases e
    | cons f fs =>
      simp only at e
      obtain ⟨⟨g1, p1⟩, e1, e2⟩ := Option.bind_eq_some_iff.1 e
      simp only [Option.some.injEq, Prod.mk.injEq] at e2
      obtain ⟨rfl, rfl⟩ := e2
      have h1 : ∀ z ∈ g1.sets, S z := hf f List.mem_cons_self g g1 p1 hg e1
      exact h1
  split at e
  · cases fs with
    | nil => cases e
    | cons f fs => exact repGs_sets (hf f List.mem_cons_self) hg _ _ _ e
  split at e
  · cases fs with
    | nil => cases e
    | cons f fs => exact hf f List.mem_cons_self _ _ _ hg e
  · simp only [Option.some.injEq, Prod.mk.injEq] at e
    obtain ⟨rfl, rfl⟩ := e; exact hg
theorem gkO_sets : ∀ (n : Nat) (x : Re), x.size ≤ n → okRe x → GSets (fun z => checkE z = 0) (gkO x) := by
  intro n
  induction n with
  | zero => intro x h; have := x.size_pos; omega
  | succ n ih =>
  intro x hn hok
  have hz := node_chk (okRe_node hok)
  have hf : ∀ f ∈ gkL x.args, GSets (fun z => checkE z = 0) f := fun f hf => by
    rw [gkL_map] at hf
    obtain ⟨y, hy, rfl⟩ := List.mem_map.1 hf
    obtain ⟨i, hi⟩ := List.getElem?_of_mem hy
    have h1 := Re.size_arg hi
    exact ih y (by omega) (okRes_get (okRe_args hok) hi)
  cases x
  rw [gkO]
  exact gnode_sets hz hf
theorem edgO_at (g : GS) (s k : Nat) {z : List Sp} (hz : g.sets[k]? = some z) : edgO g s ((k + 1 : Nat) : Int) = ((s : Int), ((k + 1 : Nat) : Int), z) := by
 unfold edgO
 have e : ((k + 1 : Nat) : Int).toNat - 1 = k := by omega
 rw [e, List.getD_eq_getElem?_getD, hz]; rfl
theorem rowE_eq {g : GS} {p : Pt} {s : Nat} {l : List Nat} (hl : (folG g p)[s]? = some l) : rowE g p s = (upS (nZ l)).map (edgO g s) := by
 unfold rowE
 rw [List.getD_eq_getElem?_getD, hl]; rfl
theorem inU {l : List Nat} {t : Int} {n : Nat} (h : ∀ x ∈ l, 0 < x ∧ x ≤ n) (ht : t ∈ upS (nZ l)) : ∃ k : Nat, t = ((k + 1 : Nat) : Int) ∧ k < n := by
 rw [upS_mem] at ht
 obtain ⟨x, hx, rfl⟩ := List.mem_map.1 ht
 have := h x hx
 exact ⟨x - 1, by omega, by omega⟩
set_option maxHeartbeats 4000000 in
theorem glush_c (w0 : World) (t : Re) (vs : List Value) (ht : ReAt w0 t vs) : Ret Tryz.prog 44 #[.agg vs.toArray] w0 fun r w => NfR w0.heap.size (GkP t) r w ∧ Ext w0 w := by
 have ht0 := ht
 obtain ⟨sa, sc, aa, ac, rfl, _, _, _⟩ := ht.form
 refine CallsA_of Tryz.func44 rfl Tryz.ntmps44 (Nat.le_of_ble_eq_true rfl) ?_
 have E : Chg none1 w0 w0 := Chg.refl _ _
 refine WpA_seq_region ?_
 refine s_box (v := (.agg (R6 t sa sc aa ac))) (c := (R6 t sa sc aa ac)) (by decide) rfl rfl ?_
 intro bb wb Nb
 have Fb := Nb.ge E
 replace E := E.ext Nb.ext
 have Bb := Nb.blk
 refine s_alloc (c := #[(I6 0), (I6 0), (.slice none 0 0), (.slice none 0 0), (.slice none 0 0)]) (by decide) zer26 rfl ?_
 intro br wr Nr
 have Fr := Nr.ge E
 have Or_bb := Nr.lt Bb
 replace Bb := Nr.keep Bb
 replace E := E.ext Nr.ext
 have Br := Nr.blk
 refine s_alloc (c := #[(I6 0)]) (by decide) zer27 rfl ?_
 intro be we Ne
 have Fe := Ne.ge E
 have Oe_bb := Ne.lt Bb
 have Oe_br := Ne.lt Br
 replace Bb := Ne.keep Bb
 replace Br := Ne.keep Br
 replace E := E.ext Ne.ext
 have Be := Ne.blk
 refine WpL_nil (WpA_assoc (WpA_seq_region ?_))
 refine qV (r_loadAgg (vs := [(I6 t.kind), (.slice sa t.set.length sc), (.slice aa t.args.length ac), (I6 t.mn), (I6 t.mx), (.bool t.neg)]) rfl agg48 siz48 rfl (Bb.cells rfl)) ?_
 refine WpL_enter rfl rfl (by decide) (r_callF (vs := [(.agg (R6 t sa sc aa ac))]) Tryz.func91 kQ kQ rfl) (simple_c _ t _ (ReAt.ext E t ht0)) ?_
 rintro _ w9 ⟨rfl, X9⟩
 replace Bb := X9.keep Bb
 replace Br := X9.keep Br
 replace Be := X9.keep Be
 replace E := E.ext X9
 refine qA (I6 (simE t)) rfl ?_
 refine WpL_nil (WpA_seq_region ?_)
 refine qM (I6 (simE t)) rfl ?_
 refine qV (r_neq (k := .i64) (a := simE t) (b := 0) rfl rfl) ?_
 refine WpL_nil ?_
 refine WpA_cond (b := decide ((simE t : Int) ≠ 0)) rfl (fun h0 => ?_) (fun h0 => ?_)
 ·have kh0 := h0
  replace h0 := of_decide_eq_true h0
  refine Wp_seq_region ?_
  refine qV (r_build (ps := []) (v := (.agg #[(I6 0), (I6 0), (.slice none 0 0), (.slice none 0 0), (.slice none 0 0)])) rfl (by kernel_rfl)) ?_
  refine qM (I6 (simE t)) rfl ?_
  refine s_storeAgg (b := br) (o := 0) (c' := #[(I6 0), (I6 0), (.slice none 0 0), (.slice none 0 0), (.slice none 0 0)]) rfl rfl (by simp [Value.oneCell']) siz26 rfl Br (by first | (simp; done) | exact Nat.le_of_ble_eq_true rfl) rfl ?_
  intro w1 S1
  replace Bb := S1.keep (by omega) Bb
  replace Be := S1.keep (by omega) Be
  replace E := S1.step E (by first | exact Or.inl (by omega) | exact Or.inr rfl | exact Or.inr (by assumption) | exact Or.inr (by simp) | exact Or.inr (by omega) | exact Or.inr (by dsimp only; omega))
  replace Br := S1.blk
  refine s_store (b := be) (o := 0) (c' := #[(I6 (simE t))]) (v := (I6 (simE t))) rfl rfl rfl siz27 Be (by simp) rfl ?_
  intro w2 S2
  replace Bb := S2.keep (by omega) Bb
  replace Br := S2.keep (by omega) Br
  replace E := S2.step E (by first | exact Or.inl (by omega) | exact Or.inr rfl | exact Or.inr (by assumption) | exact Or.inr (by simp) | exact Or.inr (by omega) | exact Or.inr (by dsimp only; omega))
  replace Be := S2.blk
  refine WpL_nil (Wp_ret ?_)
  exact fun a ha => ⟨_, res_agg_cell (vs := [.int .i64 0, .int .i64 0, .slice none 0 0, .slice none 0 0, .slice none 0 0]) Tryz.results44 rfl rfl agg26 siz26 rfl (Br.cells rfl) flat27 (Be.cell rfl) ha, _, rfl, nfR_zero (.inl ⟨h0, rfl, rfl⟩), E⟩
 ·have kh0 := h0
  replace h0 := of_decide_eq_false h0
  have hs0 : simE t = 0 := by omega
  obtain ⟨hok, hsz, hus⟩ := simE_zero.1 hs0
  refine WpA_seq_regionD ?_
  refine WpLA_val rfl rfl (by decide) (r_makeFunc (vs := []) (us := [(P6 br 0), (P6 be 0)]) rfl rfl) ?_
  refine WpLA_defer rfl rfl (r_defer rfl) ?_
  refine Wp_seq_region ?_
  refine s_buildSlice (ps := [(0, (.slice none 0 0))]) (c := #[(.slice none 0 0)]) (by decide) rfl Tryz.underlying49 siz22 zer22 (by decide) (by decide) (by kernel_rfl) ?_
  intro bl wl Nl
  have Fl := Nl.ge E
  have Ol_bb := Nl.lt Bb
  have Ol_br := Nl.lt Br
  have Ol_be := Nl.lt Be
  replace Bb := Nl.keep Bb
  replace Br := Nl.keep Br
  replace Be := Nl.keep Be
  replace E := E.ext Nl.ext
  have Bl := Nl.blk
  refine qV (r_build (ps := [(1, (.slice (some ⟨bl, 0, none⟩) 1 1))]) (v := (.agg #[(.slice none 0 0), (.slice (some ⟨bl, 0, none⟩) 1 1)])) rfl (by kernel_rfl)) ?_
  refine s_box (v := (.agg #[(.slice none 0 0), (.slice (some ⟨bl, 0, none⟩) 1 1)])) (c := #[(.slice none 0 0), (.slice (some ⟨bl, 0, none⟩) 1 1)]) (by decide) rfl rfl ?_
  intro bg wg Ng
  have Fg := Ng.ge E
  have Og_bb := Ng.lt Bb
  have Og_br := Ng.lt Br
  have Og_be := Ng.lt Be
  have Og_bl := Ng.lt Bl
  replace Bb := Ng.keep Bb
  replace Br := Ng.keep Br
  replace Be := Ng.keep Be
  replace Bl := Ng.keep Bl
  replace E := E.ext Ng.ext
  have Bg := Ng.blk
  refine qA (P6 bg 0) rfl ?_
  refine WpL_nil (Wp_seq_region ?_)
  refine qM (P6 bg 0) rfl ?_
  refine qV (r_loadAgg (vs := [(I6 t.kind), (.slice sa t.set.length sc), (.slice aa t.args.length ac), (I6 t.mn), (I6 t.mx), (.bool t.neg)]) rfl agg48 siz48 rfl (Bb.cells rfl)) ?_
  have hlt : br < bl ∧ be < bl ∧ bb < bl ∧ w0.heap.size ≤ br ∧ w0.heap.size ≤ be ∧ br ≠ be ∧ bl < bg := ⟨by omega, by omega, by omega, by omega, by omega, by omega, by omega⟩
  have T0 := gkst0 (base := bl) (Nat.le_refl _) hlt.2.2.2.2.2.2 Bl Bg
  have hw0 : w0.heap.size ≤ bl := by omega
  refine WpL_enterX rfl rfl (by decide) (r_callF (vs := [(P6 bg 0), (.agg (R6 t sa sc aa ac))]) Tryz.func93 kQ kQ rfl) (gkOf_c w0 44 t (by omega) (by omega) hok hus bl bg _ _ _ _ _ gs0 _ ht0 E (fun y hy => by show y < bl; omega) T0 gi0 rowB0) (fun w' h => fun a ha => leaves_end (X := fun w9 => Blk w9 br #[.int .i64 0, .int .i64 0, .slice none 0 0, .slice none 0 0, .slice none 0 0] TNf ∧ Blk w9 be #[.int .i64 2] 27 ∧ Chg (fun y => y = br ∨ y = be) w' w9) rfl (by intro h; cases h) (hi_glu1 _ _) ((glu1_panic _ br be (h.2.keep (T0.kept (show br < bl by omega)) Br) (h.2.keep (T0.kept (show be < bl by omega)) Be) (by omega)).mono fun e9 u9 w9 h9 => by obtain ⟨⟨r9, h1, h2⟩, h3⟩ := h9; exact ⟨⟨r9, h1⟩, by rw [h3]; rfl, h2⟩) (fun w9 h9 => ⟨_, res_agg_cell (vs := [.int .i64 0, .int .i64 0, .slice none 0 0, .slice none 0 0, .slice none 0 0]) Tryz.results44 rfl rfl agg26 siz26 rfl (h9.1.cells rfl) flat27 (h9.2.1.cell rfl) ha, _, rfl, nfR_zero (.inr (.inl ⟨hs0, h.1, rfl, rfl⟩)), (E.step h.2 (fun y hy hh => absurd hh (T0.kept (show y < bl by omega)))).step h9.2.2 (fun y hy hh => by rcases hh with hh | hh <;> omega)⟩)) ?_
  rintro _ w19 ⟨g, p, F2, s2, f2, v2, hgk, ⟨pa, pc, pa2, pc2, rfl, hp1, hp2⟩, G⟩
  replace Bb := G.chg.keep ((T0.kept (by show _ < bl; omega))) Bb
  replace Br := G.chg.keep ((T0.kept (by show _ < bl; omega))) Br
  replace Be := G.chg.keep ((T0.kept (by show _ < bl; omega))) Be
  replace E := E.step G.chg ((fun y hy hh => absurd hh (T0.kept (show y < bl by omega))))
  have hok1 := gkO_ok t gs0 g p gi0 hgk
  have hI := hok1.inv
  have hI1 := hI.1
  have hI2 := hI.2
  have hst := G.st
  have hfl : (g.fol.map nRow).length = g.fol.length := List.length_map _
  obtain ⟨fa, fc, rfl⟩ := own_form (hst.fol.l.on (n := g.fol.length) hfl.symm)
  obtain ⟨us0, hsown, _⟩ := hst.sets
  obtain ⟨ya, yc, rfl⟩ := own_form hsown
  obtain ⟨gb, hgb, _, _⟩ := own_cells (hst.fol.l.on (n := g.fol.length) hfl.symm) (by omega)
  subst hgb
  have hblk := hst.blk
  have hgbl := hst.fol.lt (b := gb) (.inl rfl)
  have hbgl := hblk.lt
  have hne : gb ≠ br ∧ gb ≠ be ∧ gb ≠ bb ∧ gb ≠ bg := ⟨fun e => hst.hfF gb (.inl rfl) (e ▸ G.sub _ (show br < bl by omega)), fun e => hst.hfF gb (.inl rfl) (e ▸ G.sub _ (show be < bl by omega)), fun e => hst.hfF gb (.inl rfl) (e ▸ G.sub _ (show bb < bl by omega)), fun e => hst.aps.2 (.inl (by rw [← e]; rfl))⟩
  have E6 : Chg none1 w19 w19 := Chg.refl _ _
  refine s_allocStore (v := (.agg #[(.bool p.nul), (.slice pa p.fst.length pc), (.slice pa2 p.lst.length pc2)])) (c := #[(.bool p.nul), (.slice pa p.fst.length pc), (.slice pa2 p.lst.length pc2)]) (n := 3) (by decide) zer130 rfl siz130 rfl rfl rfl (by simp [Value.oneCell']) ?_
  intro bp wp Np
  have Fp := Np.ge E
  have Fp_E6 := Np.ge E6
  have Op_bb := Np.lt Bb
  have Op_br := Np.lt Br
  have Op_be := Np.lt Be
  have Op_bg := Np.lt hblk
  replace Bb := Np.keep Bb
  replace Br := Np.keep Br
  replace Be := Np.keep Be
  replace hblk := Np.keep hblk
  replace E := E.ext Np.ext
  have Bp := Np.blk
  replace E6 := E6.ext Np.ext
  refine WpL_nil ?_
  have hstE := hst.ext E6
  have hp1E := hp1.ext E6
  have hp2E := hp2.ext E6
  have hbpl : gb < bp := by have := Np.eq; omega
  have hz_3 : w0.heap.size ≤ wp.heap.size := E.size
  have lz_3_bb : bb < wp.heap.size := Bb.lt
  have lz_3_br : br < wp.heap.size := Br.lt
  have lz_3_be : be < wp.heap.size := Be.lt
  have lz_3_bg : bg < wp.heap.size := hblk.lt
  have lz_3_bp : bp < wp.heap.size := Bp.lt
  refine Wp_seq ?_
  obtain ⟨Fs3, hFs3⟩ : ∃ Fs : List FctS, Fs = [(eF (P6 bg 0)), (eF (P6 bg 0)), (eF (P6 bg 1)), (eF (.slice (some ⟨gb, 0, none⟩) g.fol.length fc)), (eF (P6 bp 1)), (eF (.slice pa p.fst.length pc)), (eF undef), (eF undef)] := ⟨_, rfl⟩
  refine Wp_dagS (MsL []) [true, true, true, true, true, true, false, false] [6, 7] [25, 26, 27, 28, 29, 30, 111, 112] [[], [0], [1], [2], [], [4], [], []] [[], [0], [1, 0], [2, 1, 0], [], [4], [], []] Fs3 hFs3 (by kernel_rfl) mixed (by kernel_rfl) (by kernel_rfl) (by kernel_rfl) (by kernel_rfl) ?_ ?_
  ·intro wd X0
   refine qZ (fun S s' w' hi hN X U V H => ?_) ?_
   ·replace X := xN0 X
    exact DoesT_pure (r_move (v := (P6 bg 0)) (U 5 rfl)) rfl
   refine qZ (fun S s' w' hi hN X U V H => ?_) ?_
   ·replace X := xN0 X
    have e25 := (H 0 rfl).2 25 _ rfl (by rw [hFs3]; rfl)
    exact DoesT_pure (r_nilCheck (a := ⟨bg, 0, none⟩) e25) rfl
   refine qZ (fun S s' w' hi hN X U V H => ?_) ?_
   ·replace X := xN0 X
    have e26 := (H 1 rfl).2 26 _ rfl (by rw [hFs3]; rfl)
    exact DoesT_pure (r_fieldAddr (b := bg) (o := 0) (o' := 1) e26 Tryz.underlying128 rfl siz49 rfl) rfl
   refine qZ (fun S s' w' hi hN X U V H => ?_) ?_
   ·replace X := xN0 X
    have e27 := (H 2 rfl).2 27 _ rfl (by rw [hFs3]; rfl)
    exact DoesT_pure (r_load (v := (.slice (some ⟨gb, 0, none⟩) g.fol.length fc)) e27 flat49 (((X0.trans X).keep hblk).cell rfl)) rfl
   refine qZ (fun S s' w' hi hN X U V H => ?_) ?_
   ·replace X := xN0 X
    exact DoesT_pure (r_fieldAddr (b := bp) (o := 0) (o' := 1) (U 6 rfl) Tryz.underlying130 rfl siz22 rfl) rfl
   refine qZ (fun S s' w' hi hN X U V H => ?_) ?_
   ·replace X := xN0 X
    have e29 := (H 4 rfl).2 29 _ rfl (by rw [hFs3]; rfl)
    exact DoesT_pure (r_load (v := (.slice pa p.fst.length pc)) e29 flat22 (((X0.trans X).keep Bp).cell rfl)) rfl
   refine DagStepsS.tail (DagStepsS.tail ?_)
   exact DagStepsS.nil
  ·intro s' wd3 w3 X0 X3 U H
   replace X3 := X3.mono (M' := none1) (fun y _ h => by
     obtain ⟨j, hj, h⟩ := h
     exact h.elim)
   have e28 := H 3 rfl 28 _ rfl (by rw [hFs3]; rfl)
   have e30 := H 5 rfl 30 _ rfl (by rw [hFs3]; rfl)
   obtain ⟨j3, rfl⟩ := Fits.out (σ := s') (l := [(2, (.pointer (some ⟨br, 0, none⟩))), (3, (.pointer (some ⟨be, 0, none⟩))), (5, (.pointer (some ⟨bg, 0, none⟩))), (6, (.pointer (some ⟨bp, 0, none⟩))), (28, (.slice (some ⟨gb, 0, none⟩) g.fol.length fc)), (30, (.slice pa p.fst.length pc))]) ⟨U 2 rfl, U 3 rfl, U 5 rfl, U 6 rfl, e28, e30, trivial⟩
   clear U H
   replace Bb := (X0.trans X3).keep Bb
   replace Br := (X0.trans X3).keep Br
   replace Be := (X0.trans X3).keep Be
   replace hblk := (X0.trans X3).keep hblk
   replace Bp := (X0.trans X3).keep Bp
   replace X3 := X0.trans X3
   replace hstE := hstE.ext X3
   replace hp1E := hp1E.ext X3
   replace hp2E := hp2E.ext X3
   replace E := E.ext X3
   obtain ⟨cur, hBo, hcs⟩ := own_blkG (hstE.fol.l.on (n := g.fol.length) hfl.symm)
   have hBo0 := hBo
   have hPx : True := trivial
   refine qV (r_indexSlice (b := gb) (o := 0) (len := g.fol.length) (cap := fc) (i := 0) (o' := 0) rfl rfl rfl Tryz.underlying49 siz22 (by omega) (by omega)) ?_
   refine s_store (b := gb) (o := 0) (c' := cur.setIfInBounds (0 + 0) (.slice pa p.fst.length pc)) (v := (.slice pa p.fst.length pc)) rfl rfl rfl siz22 hBo (by omega) (rfl) ?_
   intro w4 S4
   replace hPx := S4
   replace Bb := S4.keep (by omega) Bb
   replace Br := S4.keep (by omega) Br
   replace Be := S4.keep (by omega) Be
   replace hblk := S4.keep (by omega) hblk
   replace Bp := S4.keep (by omega) Bp
   replace E := S4.step E (by first | exact Or.inl (by omega) | exact Or.inr rfl | exact Or.inr (by assumption) | exact Or.inr (by simp) | exact Or.inr (by omega) | exact Or.inr (by dsimp only; omega))
   replace hBo := S4.blk
   obtain ⟨hrows, us, hsown2, hsetF⟩ := fol_end hstE rfl (by omega) hBo0 hp1E (by simpa using hPx)
   have hp2F := hp2E.chg hPx.chg fun y hy e => hst.hfF y (.inl (by have e' : y = gb := e; rw [e']; rfl)) hy
   have E7 : Chg none1 w4 w4 := Chg.refl _ _
   refine WpL_nil (thn_normal (Wp_seq_region ?_))
   refine qM (P6 bg 0) rfl ?_
   refine qV (r_nilCheck (a := ⟨bg, 0, none⟩) rfl) ?_
   refine qF bg 0 0 rfl Tryz.underlying128 rfl siz52 rfl ?_
   refine qV (r_load (v := (.slice ya g.sets.length yc)) rfl flat52 (hblk.cell rfl)) ?_
   refine qV (r_lenSlice (ad := ya) (n := g.sets.length) (cap := yc) Tryz.underlying52 rfl) ?_
   refine qV (r_add (k := .i64) (a := (g.sets.length : Int)) (b := 1) (c := ((g.sets.length + 1 : Nat) : Int)) rfl rfl ((wI64 (by omega)).trans (by omega))) ?_
   refine qV (r_build (ps := [(0, (I6 ((g.sets.length + 1 : Nat) : Int)))]) (v := (.agg #[(I6 ((g.sets.length + 1 : Nat) : Int)), (I6 0), (.slice none 0 0), (.slice none 0 0), (.slice none 0 0)])) rfl (by kernel_rfl)) ?_
   refine s_allocStore (v := (.agg #[(I6 ((g.sets.length + 1 : Nat) : Int)), (I6 0), (.slice none 0 0), (.slice none 0 0), (.slice none 0 0)])) (c := #[(I6 ((g.sets.length + 1 : Nat) : Int)), (I6 0), (.slice none 0 0), (.slice none 0 0), (.slice none 0 0)]) (n := 5) (by decide) zer26 rfl siz26 rfl rfl rfl (by simp [Value.oneCell']) ?_
   intro bn wn Nn
   have Fn := Nn.ge E
   have Fn_E7 := Nn.ge E7
   have On_bb := Nn.lt Bb
   have On_br := Nn.lt Br
   have On_be := Nn.lt Be
   have On_bg := Nn.lt hblk
   have On_bp := Nn.lt Bp
   replace Bb := Nn.keep Bb
   replace Br := Nn.keep Br
   replace Be := Nn.keep Be
   replace hblk := Nn.keep hblk
   replace Bp := Nn.keep Bp
   replace E := E.ext Nn.ext
   have Bn := Nn.blk
   replace E7 := E7.ext Nn.ext
   refine WpL_nil ?_
   obtain ⟨n5, hn5⟩ : ∃ n5, n5 = (wn).heap.size := ⟨_, rfl⟩
   have hb5 : bn < n5 ∧ bg < n5 ∧ bp < n5 ∧ br < n5 ∧ be < n5 ∧ bb < n5 ∧ w0.heap.size ≤ n5 := ⟨by rw [hn5]; exact Bn.lt, by rw [hn5]; exact hblk.lt, by rw [hn5]; exact Bp.lt, by rw [hn5]; exact Br.lt, by rw [hn5]; exact Be.lt, by rw [hn5]; exact Bb.lt, by rw [hn5]; exact E.size⟩
   have hE75 := E7.size
   refine Wp_cut (fun σ W5 => ∃ (ea : Option Addr) (ec m : Nat), (∃ jj_, σ = upds jj_ [(2, (P6 br 0)), (3, (P6 be 0)), (5, (P6 bg 0)), (6, (P6 bp 0)), (7, (P6 bn 0))]) ∧ Chg none1 w0 W5 ∧ Chg none1 w4 W5 ∧ Blk W5 bb (R6 t sa sc aa ac) 48 ∧ Blk W5 br #[(I6 0), (I6 0), (.slice none 0 0), (.slice none 0 0), (.slice none 0 0)] 26 ∧ Blk W5 be #[(I6 0)] 27 ∧ Blk W5 bg #[(.slice ya g.sets.length yc), (.slice (some ⟨gb, 0, none⟩) g.fol.length fc)] TGk ∧ Blk W5 bp #[(.bool p.nul), (.slice pa p.fst.length pc), (.slice pa2 p.lst.length pc2)] 130 ∧ Blk W5 bn (#[Value.int .i64 ((g.sets.length + 1 : Nat) : Int), .int .i64 0, .slice ea m ec, .slice none 0 0, .slice none 0 0]) 26 ∧ (m = (ends0 p).length) ∧ (W5.ownsRow n5 TDI 1 (.slice ea m ec) m ((ends0 p).map (Value.int .i64))) ∧ (n5 ≤ W5.heap.size)) ?_ ?_
   ·skip
    refine Wp_seq_region ?_
    refine qF bp 0 0 rfl Tryz.underlying130 rfl siz4 rfl ?_
    refine qV (r_load (v := (.bool p.nul)) rfl flat4 (Bp.cell rfl)) ?_
    refine WpL_nil ?_
    refine Wp_cond (b := p.nul) rfl (fun hpn => ?_) (fun hpn => ?_)
    ·have khpn := hpn
     have he0 : ends0 p = [0] := by unfold ends0; rw [if_pos hpn]
     have hoz : (wn).ownsRow n5 TDI 1 (.slice none 0 0) 0 [] := World.ownsRow_nil _ _ _ _
     have hs5 : n5 ≤ (wn).heap.size := Nat.le_of_eq hn5
     refine Wp_region ?_
     refine qF bn 0 2 rfl Tryz.underlying26 rfl siz22 rfl ?_
     refine qV (r_load (v := (.slice none 0 0)) rfl flat22 (Bn.cell rfl)) ?_
     refine s_buildSlice (ps := [(0, (I6 0))]) (c := #[(I6 0)]) (by decide) rfl Tryz.underlying22 siz3 zer3 (by decide) (by decide) (by kernel_rfl) ?_
     intro b7 w7 N7
     have F7 := N7.ge E
     have F7_E7 := N7.ge E7
     have O7_bb := N7.lt Bb
     have O7_br := N7.lt Br
     have O7_be := N7.lt Be
     have O7_bg := N7.lt hblk
     have O7_bp := N7.lt Bp
     have O7_bn := N7.lt Bn
     replace Bb := N7.keep Bb
     replace Br := N7.keep Br
     replace Be := N7.keep Be
     replace hblk := N7.keep hblk
     replace Bp := N7.keep Bp
     replace Bn := N7.keep Bn
     replace hoz := own_ext hoz N7.ext
     replace hs5 := Nat.le_trans hs5 N7.ext.size
     replace E := E.ext N7.ext
     have B7 := N7.blk
     replace E7 := E7.ext N7.ext
     refine s_append (base := n5) (n := 0) (m := 1) (xs := []) (news := [(I6 0)]) (size := 1) (bytes := 8) (v := (.slice none 0 0)) (by decide) Tryz.underlying22 siz3 byt3 zer3 rfl (by decide) rfl hoz rfl (rfl) (B7.cells rfl) (by simp [Value.oneCell']) (by unfold maxLen; omega) (by omega) (hs5) ?_
     intro v7 w59 Ov7 Cv7 Dv7
     replace Bb := Cv7.keep (fun h => by have := (hoz.lt _ h).1; omega) Bb
     replace Br := Cv7.keep (fun h => by have := (hoz.lt _ h).1; omega) Br
     replace Be := Cv7.keep (fun h => by have := (hoz.lt _ h).1; omega) Be
     replace hblk := Cv7.keep (fun h => by have := (hoz.lt _ h).1; omega) hblk
     replace Bp := Cv7.keep (fun h => by have := (hoz.lt _ h).1; omega) Bp
     replace Bn := Cv7.keep (fun h => by have := (hoz.lt _ h).1; omega) Bn
     replace E := E.step Cv7 (fun x hx h => absurd (hoz.lt x h).1 (by omega))
     replace E7 := E7.step Cv7 (fun x hx h => absurd (hoz.lt x h).1 (by omega))
     obtain ⟨ea1, ec1, rfl⟩ := own_form Ov7
     have hO7 := Ov7
     have hs7 := Nat.le_trans hs5 Cv7.size
     refine qF bn 0 2 rfl Tryz.underlying26 rfl siz22 rfl ?_
     refine s_store (b := bn) (o := 2) (c' := #[(I6 ((g.sets.length + 1 : Nat) : Int)), (I6 0), (.slice ea1 (0 + 1) ec1), (.slice none 0 0), (.slice none 0 0)]) (v := (.slice ea1 (0 + 1) ec1)) rfl rfl rfl siz22 Bn (by simp) rfl ?_
     intro w8 S8
     replace hO7 := own_chg hO7 S8.chg fun y hy h => by have h' : y = bn := h; have := (hO7.lt y hy).1; omega
     replace hs7 := Nat.le_trans hs7 S8.chg.size
     replace Bb := S8.keep (by omega) Bb
     replace Br := S8.keep (by omega) Br
     replace Be := S8.keep (by omega) Be
     replace hblk := S8.keep (by omega) hblk
     replace Bp := S8.keep (by omega) Bp
     replace E := S8.step E (by first | exact Or.inl (by omega) | exact Or.inr rfl | exact Or.inr (by assumption) | exact Or.inr (by simp) | exact Or.inr (by omega) | exact Or.inr (by dsimp only; omega))
     replace E7 := S8.step E7 (Or.inl (by omega))
     replace Bn := S8.blk
     refine WpL_nil (thn_normal ?_)
     exact ⟨ea1, ec1, 0 + 1, Fits.out ⟨rfl, rfl, rfl, rfl, rfl, trivial⟩, E, E7, Bb, Br, Be, hblk, Bp, Bn, (by rw [he0]; rfl), (by rw [he0]; simpa using hO7), hs7⟩
    ·have khpn := hpn
     have he0 : ends0 p = [] := by unfold ends0; rw [if_neg (by rw [hpn]; decide)]
     refine Wp_skip (thn_normal ?_)
     exact ⟨none, 0, 0, Fits.out ⟨rfl, rfl, rfl, rfl, rfl, trivial⟩, E, E7, Bb, Br, Be, hblk, Bp, Bn, (by rw [he0]; rfl), (by rw [he0]; exact World.ownsRow_nil _ _ _ _), Nat.le_of_eq hn5⟩
   ·clear E E7 Bb Br Be hblk Bp Bn
    rintro _ W5 ⟨ea, ec, m, ⟨j5, rfl⟩, E, E7, Bb, Br, Be, hblk, Bp, Bn, hm, hoe, hs5⟩
    have hel := ends0_len p
    have hll := hok1.lst.len
    have hp2I := hp2F.1.ext E7
    refine Wp_seq_region ?_
    refine qF bn 0 2 rfl Tryz.underlying26 rfl siz22 rfl ?_
    refine qV (r_load (v := (.slice ea m ec)) rfl flat22 (Bn.cell rfl)) ?_
    refine qF bp 0 2 rfl Tryz.underlying130 rfl siz22 rfl ?_
    refine qV (r_load (v := (.slice pa2 p.lst.length pc2)) rfl flat22 (Bp.cell rfl)) ?_
    refine s_appendAny (base := n5) (n := m) (m := p.lst.length) (xs := ((ends0 p).map (Value.int .i64))) (news := ((nZ p.lst).map (Value.int .i64))) (size := 1) (bytes := 8) (v := (.slice ea m ec)) (by decide) Tryz.underlying22 siz3 byt3 zer3 rfl (by decide) rfl hoe rfl ((by rw [List.length_map, nZ_len, Nat.mul_one])) (ints_any hp2I) (ints_one _) (by unfold maxLen; omega) (by omega) (hs5) ?_
    intro v8 w69 Ov8 Cv8 Dv8
    replace Bb := Cv8.keep (fun h => by have := (hoe.lt _ h).1; omega) Bb
    replace Br := Cv8.keep (fun h => by have := (hoe.lt _ h).1; omega) Br
    replace Be := Cv8.keep (fun h => by have := (hoe.lt _ h).1; omega) Be
    replace hblk := Cv8.keep (fun h => by have := (hoe.lt _ h).1; omega) hblk
    replace Bp := Cv8.keep (fun h => by have := (hoe.lt _ h).1; omega) Bp
    replace Bn := Cv8.keep (fun h => by have := (hoe.lt _ h).1; omega) Bn
    replace E := E.step Cv8 (fun x hx h => absurd (hoe.lt x h).1 (by omega))
    replace E7 := E7.step Cv8 (fun x hx h => absurd (hoe.lt x h).1 (by omega))
    obtain ⟨ea2, ec2, rfl⟩ := own_form Ov8
    have hs9 := Nat.le_trans hs5 Cv8.size
    have hO8 : w69.ownsRow n5 TDI 1 (.slice ea2 (m + p.lst.length) ec2) (m + p.lst.length) ((ends0 p ++ nZ p.lst).map (Value.int .i64)) := by rw [List.map_append]; exact Ov8
    refine qF bn 0 2 rfl Tryz.underlying26 rfl siz22 rfl ?_
    refine s_store (b := bn) (o := 2) (c' := #[(I6 ((g.sets.length + 1 : Nat) : Int)), (I6 0), (.slice ea2 (m + p.lst.length) ec2), (.slice none 0 0), (.slice none 0 0)]) (v := (.slice ea2 (m + p.lst.length) ec2)) rfl rfl rfl siz22 Bn (by simp) rfl ?_
    intro w9 S9
    replace hs9 := Nat.le_trans hs9 S9.chg.size
    replace hO8 := own_chg hO8 S9.chg fun y hy h => by have h' : y = bn := h; have := (hO8.lt y hy).1; omega
    replace Bb := S9.keep (by omega) Bb
    replace Br := S9.keep (by omega) Br
    replace Be := S9.keep (by omega) Be
    replace hblk := S9.keep (by omega) hblk
    replace Bp := S9.keep (by omega) Bp
    replace E := S9.step E (by first | exact Or.inl (by omega) | exact Or.inr rfl | exact Or.inr (by assumption) | exact Or.inr (by simp) | exact Or.inr (by omega) | exact Or.inr (by dsimp only; omega))
    replace E7 := S9.step E7 (Or.inl (by omega))
    replace Bn := S9.blk
    refine WpL_nil (Wp_seq_region ?_)
    refine qF bn 0 2 rfl Tryz.underlying26 rfl siz22 rfl ?_
    refine qV (r_load (v := (.slice ea2 (m + p.lst.length) ec2)) rfl flat22 (Bn.cell rfl)) ?_
    refine WpL_enter rfl rfl (by decide) (r_callF (vs := [(.slice ea2 (m + p.lst.length) ec2)]) Tryz.func94 kQ kQ rfl) (sortW_c _ n5 (m + p.lst.length) ea2 ec2 (ends0 p ++ nZ p.lst) (by rw [List.length_append, nZ_len, hm]) (.inr hO8) (by omega)) ?_
    rintro _ w79 ⟨rfl, hSr, C79⟩
    replace Bb := C79.keep ((fun h => by have := (hO8.lt _ h.2).1; omega)) Bb
    replace Br := C79.keep ((fun h => by have := (hO8.lt _ h.2).1; omega)) Br
    replace Be := C79.keep ((fun h => by have := (hO8.lt _ h.2).1; omega)) Be
    replace hblk := C79.keep ((fun h => by have := (hO8.lt _ h.2).1; omega)) hblk
    replace Bp := C79.keep ((fun h => by have := (hO8.lt _ h.2).1; omega)) Bp
    replace Bn := C79.keep ((fun h => by have := (hO8.lt _ h.2).1; omega)) Bn
    replace E := E.step C79 ((fun x hx h => by have := (hO8.lt _ h.2).1; omega))
    replace E7 := E7.step C79 (fun x hx h => by have := (hO8.lt _ h.2).1; omega)
    refine WpL_nil (Wp_seq_region ?_)
    refine qF bn 0 2 rfl Tryz.underlying26 rfl siz22 rfl ?_
    refine qV (r_load (v := (.slice ea2 (m + p.lst.length) ec2)) rfl flat22 (Bn.cell rfl)) ?_
    refine WpL_enter rfl rfl (by decide) (r_callF (vs := [(.slice ea2 (m + p.lst.length) ec2)]) Tryz.func95 kQ kQ rfl) (compW_c _ n5 _ _ hSr) ?_
    rintro _ w89 ⟨⟨ea3, ec3, rfl, hEn, hEb⟩, C89⟩
    replace Bb := C89.keep ((fun h => by have := (hO8.lt _ h.2).1; omega)) Bb
    replace Br := C89.keep ((fun h => by have := (hO8.lt _ h.2).1; omega)) Br
    replace Be := C89.keep ((fun h => by have := (hO8.lt _ h.2).1; omega)) Be
    replace hblk := C89.keep ((fun h => by have := (hO8.lt _ h.2).1; omega)) hblk
    replace Bp := C89.keep ((fun h => by have := (hO8.lt _ h.2).1; omega)) Bp
    replace Bn := C89.keep ((fun h => by have := (hO8.lt _ h.2).1; omega)) Bn
    replace E := E.step C89 ((fun x hx h => by have := (hO8.lt _ h.2).1; omega))
    replace E7 := E7.step C89 (fun x hx h => by have := (hO8.lt _ h.2).1; omega)
    obtain ⟨n8, hn8⟩ : ∃ n8, n8 = w89.heap.size := ⟨_, rfl⟩
    have hQ : IntsF (fun y => n5 ≤ y ∧ y < n8) w89 (.slice ea3 (endsG p).length ec3) (endsG p) := ⟨hEn, hEb.imp id fun ⟨b, h1, h2, h3⟩ => ⟨b, h1, h2, by omega⟩⟩
    have hs8 : n8 ≤ w89.heap.size := Nat.le_of_eq hn8
    have h58 : n5 ≤ n8 := by have := C79.size; have := C89.size; omega
    refine qF bn 0 2 rfl Tryz.underlying26 rfl siz22 rfl ?_
    refine s_store (b := bn) (o := 2) (c' := #[(I6 ((g.sets.length + 1 : Nat) : Int)), (I6 0), (.slice ea3 ((endsG p).length) ec3), (.slice none 0 0), (.slice none 0 0)]) (v := (.slice ea3 ((endsG p).length) ec3)) rfl rfl rfl siz22 Bn (by simp) rfl ?_
    intro w10 S10
    replace hQ := hQ.chg S10.chg fun y hy h => by have h' : y = bn := h; omega
    replace hs8 := Nat.le_trans hs8 S10.chg.size
    replace Bb := S10.keep (by omega) Bb
    replace Br := S10.keep (by omega) Br
    replace Be := S10.keep (by omega) Be
    replace hblk := S10.keep (by omega) hblk
    replace Bp := S10.keep (by omega) Bp
    replace E := S10.step E (by first | exact Or.inl (by omega) | exact Or.inr rfl | exact Or.inr (by assumption) | exact Or.inr (by simp) | exact Or.inr (by omega) | exact Or.inr (by dsimp only; omega))
    replace E7 := S10.step E7 (Or.inl (by omega))
    replace Bn := S10.blk
    refine WpL_nil (Wp_seq (Wp_seq_region ?_))
    refine qM (P6 bg 0) rfl ?_
    refine qV (r_nilCheck (a := ⟨bg, 0, none⟩) rfl) ?_
    refine qF bg 0 1 rfl Tryz.underlying128 rfl siz49 rfl ?_
    refine qV (r_load (v := (.slice (some ⟨gb, 0, none⟩) g.fol.length fc)) rfl flat49 (hblk.cell rfl)) ?_
    refine qV (r_lenSlice (ad := some ⟨gb, 0, none⟩) (n := g.fol.length) (cap := fc) Tryz.underlying49 rfl) ?_
    refine qM (I6 0) rfl ?_
    refine WpL_nil (Wp_block ?_)
    obtain ⟨n6, hn6⟩ : ∃ n6, n6 = (w10).heap.size := ⟨_, rfl⟩
    have h86 : n8 ≤ n6 := by rw [hn6]; exact hs8
    refine Wp_loop (fun nn_ σ W11 => ∃ (s m6 : Nat) (F : Nat → Prop) (xa : Option Addr) (xc : Nat), (∃ jj_, σ = upds jj_ [(2, (P6 br 0)), (3, (P6 be 0)), (5, (P6 bg 0)), (7, (P6 bn 0)), (62, (.slice (some ⟨gb, 0, none⟩) g.fol.length fc)), (63, (I6 (g.fol.length : Int))), (64, (I6 (s : Int)))]) ∧ Chg none1 w0 W11 ∧ Chg none1 w4 W11 ∧ Blk W11 bb (R6 t sa sc aa ac) 48 ∧ Blk W11 br #[(I6 0), (I6 0), (.slice none 0 0), (.slice none 0 0), (.slice none 0 0)] 26 ∧ Blk W11 be #[(I6 0)] 27 ∧ Blk W11 bg #[(.slice ya g.sets.length yc), (.slice (some ⟨gb, 0, none⟩) g.fol.length fc)] TGk ∧ Blk W11 bp #[(.bool p.nul), (.slice pa p.fst.length pc), (.slice pa2 p.lst.length pc2)] 130 ∧ Blk W11 bn (#[Value.int .i64 ((g.sets.length + 1 : Nat) : Int), .int .i64 0, .slice ea3 (endsG p).length ec3, .slice none 0 0, .slice xa m6 xc]) TNf ∧ (s ≤ g.fol.length) ∧ (m6 = (edgU g p s).length) ∧ (EdB F W11 n6 (.slice xa m6 xc) (edgU g p s)) ∧ (m6 ≤ 20000) ∧ (IntsF (fun y => n5 ≤ y ∧ y < n8) W11 (.slice ea3 (endsG p).length ec3) (endsG p)) ∧ (n6 ≤ W11.heap.size) ∧ nn_ = g.fol.length - s) (n := g.fol.length - 0) ?_ ?_
    ·exact ⟨0, 0, _, none, 0, Fits.out ⟨rfl, rfl, rfl, rfl, rfl, rfl, rfl, trivial⟩, E, E7, Bb, Br, Be, hblk, Bp, Bn, Nat.zero_le _, rfl, EdB.start _ _, Nat.zero_le _, hQ, Nat.le_of_eq hn6, rfl⟩
    ·clear E E7 Bb Br Be hblk Bp Bn
     rintro _ _ W11 ⟨s, m6, F, xa, xc, ⟨j11, rfl⟩, E, E7, Bb, Br, Be, hblk, Bp, Bn, hs, hm6, hX, hm20, hQ6, hs6, rfl⟩
     refine Wp_seq_region ?_
     refine qV (r_lss (k := .i64) (a := (s : Int)) (b := (g.fol.length : Int)) rfl rfl) ?_
     refine WpL_nil (Wp_seq ?_)
     refine Wp_cond (b := decide (((s : Int) : Int) < (g.fol.length : Int))) rfl (fun hlt9 => ?_) (fun hlt9 => ?_)
     ·have khlt9 := hlt9
      replace hlt9 := of_decide_eq_true hlt9
      obtain ⟨l, hl⟩ := get_of_lt (l := folG g p) (i := s) (by unfold folG; rw [List.length_set]; omega)
      have hfi := fol_in hok1 hl
      have htb : t.size * 499 ≤ 40 * 499 := Nat.mul_le_mul_right _ (by omega)
      obtain ⟨lv, hlc, hli⟩ := hrows s l hl
      obtain ⟨la, lc, rfl⟩ := SlAt.form hli
      rw [List.length_map, nZ_len] at hlc hli
      have E8 : Chg none1 W11 W11 := Chg.refl _ _
      refine Wp_skip (thn_normal (Wp_seq (Wp_block (Wp_seq_region ?_))))
      refine qM (I6 (s : Int)) rfl ?_
      refine qV (r_indexSlice (b := gb) (o := 0) (len := g.fol.length) (cap := fc) (i := s) (o' := 0 + s) rfl rfl rfl Tryz.underlying49 siz22 (by omega) (by omega)) ?_
      refine qV (r_load (v := (.slice la l.length lc)) rfl flat22 (Ext.cell E7 hlc)) ?_
      refine qA (I6 (s : Int)) rfl ?_
      refine qA (.slice la l.length lc) rfl ?_
      refine WpL_nil (Wp_seq_region ?_)
      refine qM (.slice la l.length lc) rfl ?_
      obtain ⟨n7, hn7⟩ : ∃ n7, n7 = (W11).heap.size := ⟨_, rfl⟩
      have h67 : n6 ≤ n7 := by rw [hn7]; exact hs6
      refine WpL_enter rfl rfl (by decide) (r_callF (vs := [(.slice la l.length lc)]) Tryz.func96 kQ kQ rfl) (cloneW_c _ _ (nZ l) (IntsAt.ext hli E7) (by rw [nZ_len]; omega)) ?_
      rintro _ w99 ⟨⟨ua, uc, rfl, hU0⟩, X99⟩
      replace Bb := X99.keep Bb
      replace Br := X99.keep Br
      replace Be := X99.keep Be
      replace hblk := X99.keep hblk
      replace Bp := X99.keep Bp
      replace Bn := X99.keep Bn
      replace E := E.ext X99
      replace E7 := E7.ext X99
      replace E8 := E8.ext X99
      rw [← hn7] at hU0
      have hUl : ∀ x, (nZ l ≠ [] ∧ (Value.slice ua (nZ l).length uc).ownBlock = some x) → n7 ≤ x := fun x h => by have := ((hU0.resolve_left h.1).lt x h.2).1; omega
      refine qA (.slice ua ((nZ l).length) uc) rfl ?_
      refine WpL_nil (Wp_seq_region ?_)
      refine qM (.slice ua ((nZ l).length) uc) rfl ?_
      refine WpL_enter rfl rfl (by decide) (r_callF (vs := [(.slice ua ((nZ l).length) uc)]) Tryz.func94 kQ kQ rfl) (sortW_c _ _ (nZ l).length ua uc (nZ l) rfl hU0 (by rw [nZ_len]; omega)) ?_
      rintro _ w109 ⟨rfl, hS9, C109⟩
      replace Bb := C109.keep ((fun h => by have := hUl _ h; omega)) Bb
      replace Br := C109.keep ((fun h => by have := hUl _ h; omega)) Br
      replace Be := C109.keep ((fun h => by have := hUl _ h; omega)) Be
      replace hblk := C109.keep ((fun h => by have := hUl _ h; omega)) hblk
      replace Bp := C109.keep ((fun h => by have := hUl _ h; omega)) Bp
      replace Bn := C109.keep ((fun h => by have := hUl _ h; omega)) Bn
      replace E := E.step C109 ((fun x hx h => by have := hUl _ h; omega))
      refine WpL_nil (Wp_seq_region ?_)
      refine qM (.slice ua ((nZ l).length) uc) rfl ?_
      refine WpL_enter rfl rfl (by decide) (r_callF (vs := [(.slice ua ((nZ l).length) uc)]) Tryz.func95 kQ kQ rfl) (compW_c _ n7 _ _ hS9) ?_
      rintro _ w119 ⟨⟨va, vc, rfl, hV, hVb⟩, C119⟩
      replace Bb := C119.keep ((fun h => by have := hUl _ ⟨fun e => h.1 (by rw [e]; exact List.mergeSort_nil), h.2⟩; omega)) Bb
      replace Br := C119.keep ((fun h => by have := hUl _ ⟨fun e => h.1 (by rw [e]; exact List.mergeSort_nil), h.2⟩; omega)) Br
      replace Be := C119.keep ((fun h => by have := hUl _ ⟨fun e => h.1 (by rw [e]; exact List.mergeSort_nil), h.2⟩; omega)) Be
      replace hblk := C119.keep ((fun h => by have := hUl _ ⟨fun e => h.1 (by rw [e]; exact List.mergeSort_nil), h.2⟩; omega)) hblk
      replace Bp := C119.keep ((fun h => by have := hUl _ ⟨fun e => h.1 (by rw [e]; exact List.mergeSort_nil), h.2⟩; omega)) Bp
      replace Bn := C119.keep ((fun h => by have := hUl _ ⟨fun e => h.1 (by rw [e]; exact List.mergeSort_nil), h.2⟩; omega)) Bn
      replace E := E.step C119 ((fun x hx h => by have := hUl _ ⟨fun e => h.1 (by rw [e]; exact List.mergeSort_nil), h.2⟩; omega))
      replace E8 := (E8.step C109 (fun x hx h => by have := hUl _ h; omega)).step C119 (fun x hx h => by have := hUl _ ⟨fun e => h.1 (by rw [e]; exact List.mergeSort_nil), h.2⟩; omega)
      replace E7 := (E7.step C109 (fun x hx h => by have := hUl _ h; omega)).step C119 (fun x hx h => by have := hUl _ ⟨fun e => h.1 (by rw [e]; exact List.mergeSort_nil), h.2⟩; omega)
      have hXm := (hX.ext E8).more (S := fun y => upS (nZ l) ≠ [] ∧ (Value.slice va (upS (nZ l)).length vc).ownBlock = some y) fun y hy => by obtain ⟨b, h1, h2, h3⟩ := hVb.resolve_left hy.1; obtain rfl : b = y := Option.some.inj (h1.symm.trans hy.2); exact ⟨by omega, h3, fun h9 => by have := (hX.own h9).2; omega⟩
      have hU : IntsF (fun y => F y ∨ (upS (nZ l) ≠ [] ∧ (Value.slice va (upS (nZ l)).length vc).ownBlock = some y)) w119 (.slice va (upS (nZ l)).length vc) (upS (nZ l)) := ⟨hV, (Classical.em (upS (nZ l) = [])).imp id fun h0 => by obtain ⟨b, h1, _⟩ := hVb.resolve_left h0; exact ⟨b, h1, .inr ⟨h0, h1⟩⟩⟩
      have hQ8 := hQ6.ext E8
      have hs88 : n6 ≤ w119.heap.size := by have := E8.size; omega
      have hrow : edgU g p (s + 1) = edgU g p s ++ (upS (nZ l)).map (edgO g s) := by rw [edgU, rowE_eq hl]
      refine qV (r_lenSlice (ad := va) (n := (upS (nZ l)).length) (cap := vc) Tryz.underlying22 rfl) ?_
      refine qM (I6 0) rfl ?_
      refine WpL_nil (Wp_block ?_)
      refine Wp_loop (fun nn_ σ W13 => ∃ (j m7 : Nat) (F7 : Nat → Prop) (xa7 : Option Addr) (xc7 : Nat), (∃ jj_, σ = upds jj_ [(2, (P6 br 0)), (3, (P6 be 0)), (5, (P6 bg 0)), (7, (P6 bn 0)), (8, (I6 (s : Int))), (62, (.slice (some ⟨gb, 0, none⟩) g.fol.length fc)), (63, (I6 (g.fol.length : Int))), (64, (I6 (s : Int))), (74, (.slice va ((upS (nZ l)).length) vc)), (75, (I6 (((upS (nZ l)).length : Nat) : Int))), (76, (I6 (j : Int)))]) ∧ Chg none1 w0 W13 ∧ Chg none1 w4 W13 ∧ Blk W13 bb (R6 t sa sc aa ac) 48 ∧ Blk W13 br #[(I6 0), (I6 0), (.slice none 0 0), (.slice none 0 0), (.slice none 0 0)] 26 ∧ Blk W13 be #[(I6 0)] 27 ∧ Blk W13 bg #[(.slice ya g.sets.length yc), (.slice (some ⟨gb, 0, none⟩) g.fol.length fc)] TGk ∧ Blk W13 bp #[(.bool p.nul), (.slice pa p.fst.length pc), (.slice pa2 p.lst.length pc2)] 130 ∧ Blk W13 bn (#[Value.int .i64 ((g.sets.length + 1 : Nat) : Int), .int .i64 0, .slice ea3 (endsG p).length ec3, .slice none 0 0, .slice xa7 m7 xc7]) TNf ∧ (j ≤ (upS (nZ l)).length) ∧ (m7 = (edgU g p s ++ ((upS (nZ l)).take j).map (edgO g s)).length) ∧ (EdB F7 W13 n6 (.slice xa7 m7 xc7) (edgU g p s ++ ((upS (nZ l)).take j).map (edgO g s))) ∧ (m7 ≤ 20000) ∧ (IntsF F7 W13 (.slice va (upS (nZ l)).length vc) (upS (nZ l))) ∧ (IntsF (fun y => n5 ≤ y ∧ y < n8) W13 (.slice ea3 (endsG p).length ec3) (endsG p)) ∧ (n6 ≤ W13.heap.size) ∧ nn_ = (upS (nZ l)).length - j) (n := (upS (nZ l)).length - 0) ?_ ?_
      ·exact ⟨0, m6, _, xa, xc, Fits.out ⟨rfl, rfl, rfl, rfl, rfl, rfl, rfl, rfl, rfl, rfl, rfl, trivial⟩, E, E7, Bb, Br, Be, hblk, Bp, Bn, Nat.zero_le _, (by simpa using hm6), (by simpa using hXm), hm20, hU, hQ8, hs88, rfl⟩
      ·clear E E7 Bb Br Be hblk Bp Bn
       rintro _ _ W13 ⟨j, m7, F7, xa7, xc7, ⟨j13, rfl⟩, E, E7, Bb, Br, Be, hblk, Bp, Bn, hj, hm7, hX7, hm70, hU7, hQ7, hs7, rfl⟩
       have hul : (upS (nZ l)).length ≤ 9223372036854775807 := by have := SlAt.le hU7.1; rwa [List.length_map] at this
       refine Wp_seq_region ?_
       refine qV (r_lss (k := .i64) (a := (j : Int)) (b := (((upS (nZ l)).length : Nat) : Int)) rfl rfl) ?_
       refine WpL_nil (Wp_seq ?_)
       refine Wp_cond (b := decide (((j : Int) : Int) < (((upS (nZ l)).length : Nat) : Int))) rfl (fun hlt8 => ?_) (fun hlt8 => ?_)
       ·have khlt8 := hlt8
        replace hlt8 := of_decide_eq_true hlt8
        obtain ⟨t9, ht9⟩ := get_of_lt (l := upS (nZ l)) (i := j) (by omega)
        obtain ⟨k, rfl, hk⟩ := inU hfi.2 (List.mem_of_getElem? ht9)
        obtain ⟨vb, vo, rfl, hvc⟩ := ints_cells hU7.1 (by omega)
        obtain ⟨z, hz⟩ := get_of_lt (l := g.sets) (i := k) hk
        obtain ⟨u, hu⟩ := get_of_lt (l := us) (i := k) (by have := hsetF.1; omega)
        have hsp := (hsetF.2 k u z hu hz).1
        obtain ⟨za, zc, rfl⟩ := SlAt.form hsp
        rw [List.length_map] at hu hsp
        obtain ⟨yb, rfl, _, hyc⟩ := own_cells hsown2 (by omega)
        have hyc0 := hyc k _ hu
        have hsl : z.length ≤ 16 := by have h9 : checkE z = 0 := gkO_sets _ t (Nat.le_refl _) hok _ _ _ (fun z hz => (by cases hz)) hgk z (List.mem_of_getElem? hz); unfold checkE at h9; split at h9; cases h9; omega
        refine Wp_skip (thn_normal (Wp_seq (Wp_block (Wp_seq_region ?_))))
        refine qV (r_indexSlice (b := vb) (o := vo) (len := (upS (nZ l)).length) (cap := vc) (i := j) (o' := vo + j) rfl rfl rfl Tryz.underlying22 siz3 (by omega) (by omega)) ?_
        refine qV (r_load (v := (I6 ((k + 1 : Nat) : Int))) rfl flat3 (hvc j _ ht9)) ?_
        obtain ⟨⟨rows, hownX, hrowsX⟩, hxF, hFl⟩ := hX7
        rw [← hm7] at hownX
        refine qA (I6 ((k + 1 : Nat) : Int)) rfl ?_
        refine WpL_nil ?_
        obtain ⟨z1, hz1⟩ : ∃ z1, z1 = (W13).heap.size := ⟨_, rfl⟩
        have hz_15 : w0.heap.size ≤ W13.heap.size := E.size
        have lz_15_bb : bb < W13.heap.size := Bb.lt
        have lz_15_br : br < W13.heap.size := Br.lt
        have lz_15_be : be < W13.heap.size := Be.lt
        have lz_15_bg : bg < W13.heap.size := hblk.lt
        have lz_15_bp : bp < W13.heap.size := Bp.lt
        have lz_15_bn : bn < W13.heap.size := Bn.lt
        refine Wp_seq ?_
        obtain ⟨Fs15, hFs15⟩ : ∃ Fs : List FctS, Fs = [(eF (P6 bn 4)), (eF (.slice xa7 m7 xc7)), (eF (I6 (s : Int))), (eF (I6 ((k + 1 : Nat) : Int))), (eF (P6 bg 0)), (eF (P6 bg 0)), (eF (P6 bg 0)), (eF (.slice (some ⟨yb, 0, none⟩) g.sets.length yc)), (eF (I6 ((k + 1 : Nat) : Int))), (eF (I6 (k : Int))), (eF (.pointer (some ⟨yb, 0 + k, none⟩))), (eF (.slice za z.length zc)), (fun _ _ => cloG z z1), (fun _ _ => edG (s : Int) ((k + 1 : Nat) : Int) z z1), (fun _ _ => elG (s : Int) ((k + 1 : Nat) : Int) z z1), (fun _ _ => apG n6 m7 rows.flatten (.slice xa7 m7 xc7) z1 (s : Int) ((k + 1 : Nat) : Int) z), (eF undef), (eF undef)] := ⟨_, rfl⟩
        refine Wp_dagS (MsL [(15, (fun q => (Value.slice xa7 m7 xc7).ownBlock = some q))]) [true, true, true, true, true, true, true, true, true, true, true, true, true, true, true, true, false, false] [16, 17] [80, 81, 82, 83, 84, 85, 86, 87, 88, 89, 90, 91, 92, 93, 94, 95, 121, 122] [[], [0], [], [], [], [4], [5], [6], [], [8], [7, 9], [10], [11], [2, 3, 12], [13], [1, 12, 14], [], []] [[], [0], [], [], [], [4], [5, 4], [6, 5, 4], [], [8], [7, 6, 5, 4, 9, 8], [10, 7, 6, 5, 4, 9, 8], [11, 10, 7, 6, 5, 4, 9, 8], [2, 3, 12, 11, 10, 7, 6, 5, 4, 9, 8], [13, 2, 3, 12, 11, 10, 7, 6, 5, 4, 9, 8], [1, 0, 12, 11, 10, 7, 6, 5, 4, 9, 8, 14, 13, 2, 3], [], []] Fs15 hFs15 (by kernel_rfl) mixed (by kernel_rfl) (by kernel_rfl) (by kernel_rfl) (by kernel_rfl) ?_ ?_
        ·intro wd X0
         refine qZ (fun S s' w' hi hN X U V H => ?_) ?_
         ·replace X := xN1 (hN 15 rfl) X
          exact DoesT_pure (r_fieldAddr (b := bn) (o := 0) (o' := 4) (U 7 rfl) Tryz.underlying26 rfl siz24 rfl) rfl
         refine qZ (fun S s' w' hi hN X U V H => ?_) ?_
         ·replace X := xN1 (hN 15 rfl) X
          have e80 := (H 0 rfl).2 80 _ rfl (by rw [hFs15]; rfl)
          exact DoesT_pure (r_load (v := (.slice xa7 m7 xc7)) e80 flat24 (((X0.trans X).keep Bn).cell rfl)) rfl
         refine qZ (fun S s' w' hi hN X U V H => ?_) ?_
         ·replace X := xN1 (hN 15 rfl) X
          exact DoesT_pure (r_move (v := (I6 (s : Int))) (U 8 rfl)) rfl
         refine qZ (fun S s' w' hi hN X U V H => ?_) ?_
         ·replace X := xN1 (hN 15 rfl) X
          exact DoesT_pure (r_move (v := (I6 ((k + 1 : Nat) : Int))) (U 11 rfl)) rfl
         refine qZ (fun S s' w' hi hN X U V H => ?_) ?_
         ·replace X := xN1 (hN 15 rfl) X
          exact DoesT_pure (r_move (v := (P6 bg 0)) (U 5 rfl)) rfl
         refine qZ (fun S s' w' hi hN X U V H => ?_) ?_
         ·replace X := xN1 (hN 15 rfl) X
          have e84 := (H 4 rfl).2 84 _ rfl (by rw [hFs15]; rfl)
          exact DoesT_pure (r_nilCheck (a := ⟨bg, 0, none⟩) e84) rfl
         refine qZ (fun S s' w' hi hN X U V H => ?_) ?_
         ·replace X := xN1 (hN 15 rfl) X
          have e85 := (H 5 rfl).2 85 _ rfl (by rw [hFs15]; rfl)
          exact DoesT_pure (r_fieldAddr (b := bg) (o := 0) (o' := 0) e85 Tryz.underlying128 rfl siz52 rfl) rfl
         refine qZ (fun S s' w' hi hN X U V H => ?_) ?_
         ·replace X := xN1 (hN 15 rfl) X
          have e86 := (H 6 rfl).2 86 _ rfl (by rw [hFs15]; rfl)
          exact DoesT_pure (r_load (v := (.slice (some ⟨yb, 0, none⟩) g.sets.length yc)) e86 flat52 (((X0.trans X).keep hblk).cell rfl)) rfl
         refine qZ (fun S s' w' hi hN X U V H => ?_) ?_
         ·replace X := xN1 (hN 15 rfl) X
          exact DoesT_pure (r_move (v := (I6 ((k + 1 : Nat) : Int))) (U 11 rfl)) rfl
         refine qZ (fun S s' w' hi hN X U V H => ?_) ?_
         ·replace X := xN1 (hN 15 rfl) X
          have e88 := (H 8 rfl).2 88 _ rfl (by rw [hFs15]; rfl)
          exact DoesT_pure (r_sub (c := (k : Int)) e88 rfl ((wI64 (by omega)).trans (by omega))) rfl
         refine qZ (fun S s' w' hi hN X U V H => ?_) ?_
         ·replace X := xN1 (hN 15 rfl) X
          have e87 := (H 7 rfl).2 87 _ rfl (by rw [hFs15]; rfl)
          have e89 := (H 9 rfl).2 89 _ rfl (by rw [hFs15]; rfl)
          exact DoesT_pure (r_indexSlice (b := yb) (o := 0) (len := g.sets.length) (cap := yc) (i := k) (o' := 0 + k) e87 e89 rfl Tryz.underlying52 siz37 (by omega) (by omega)) rfl
         refine qZ (fun S s' w' hi hN X U V H => ?_) ?_
         ·replace X := xN1 (hN 15 rfl) X
          have e90 := (H 10 rfl).2 90 _ rfl (by rw [hFs15]; rfl)
          exact DoesT_pure (r_load (v := (.slice za z.length zc)) e90 flat37 (by simpa using (Chg.ext E7 (X0.trans X)).cell (fun f => f) hyc0)) rfl
         refine DagStepsS.cons (StabS.chg (U := (fun y => (fun q => (Value.slice xa7 m7 xc7).ownBlock = some q) y)) (cloG_chg (fun q h => by have := (hownX.lt q h).2; omega)) (fun p y hp hw h => by
            rcases MsL_or h with ⟨rfl, h0⟩ | h0
            ·exact h0
            exact h0.elim)) (LocS.const) (fun S s' w' hi hN X U V H => Or.inl ⟨Guarded_none rfl, ?_⟩) ?_
         ·replace X := xN1 (hN 15 rfl) X
          have e91 := (H 11 rfl).2 91 _ rfl (by rw [hFs15]; rfl)
          exact DoesT_callE (r_callF (vs := [(.slice za z.length zc)]) Tryz.func38 kQ kQ (lst1 e91)) ((clones_c _ _ z (SlAt.ext hsp (Ext.trans E7 (X0.trans X))) (by omega)).mono (fun v w h => ⟨(⟨h.1.1, own_low h.1.2 (by have := X0.size; have := X.size; omega)⟩ : cloG z z1 v w), h.2⟩))
         refine DagStepsS.cons (StabS.chg (U := (fun y => (fun q => (Value.slice xa7 m7 xc7).ownBlock = some q) y)) (edG_chg (fun q h => by have := (hownX.lt q h).2; omega)) (fun p y hp hw h => by
            rcases MsL_or h with ⟨rfl, h0⟩ | h0
            ·exact h0
            exact h0.elim)) (LocS.const) (fun S s' w' hi hN X U V H => Or.inl ⟨Guarded_none rfl, ?_⟩) ?_
         ·replace X := xN1 (hN 15 rfl) X
          have e82 := (H 2 rfl).2 82 _ rfl (by rw [hFs15]; rfl)
          have e83 := (H 3 rfl).2 83 _ rfl (by rw [hFs15]; rfl)
          obtain ⟨⟨a92, c92, e92⟩, O92⟩ := (show ((fun _ _ => cloG z z1) : FctS) S s' (s' 92) w' from (H 12 rfl).2 92 (fun _ _ => cloG z z1) rfl (by rw [hFs15]; rfl))
          exact DoesT_pure (r_build (ps := [(0, .int .i64 (s : Int)), (1, .int .i64 ((k + 1 : Nat) : Int)), (2, .slice a92 z.length c92)]) (v := .agg #[.int .i64 (s : Int), .int .i64 ((k + 1 : Nat) : Int), .slice a92 z.length c92]) (bld3 e82 e83 e92) (by kernel_rfl)) ⟨a92, c92, rfl, ⟨a92, c92, rfl⟩, e92 ▸ O92⟩
         refine DagStepsS.cons (StabS.chg (U := (fun y => (fun q => (Value.slice xa7 m7 xc7).ownBlock = some q) y)) (elG_chg (fun q h => by have := (hownX.lt q h).2; omega)) (fun p y hp hw h => by
            rcases MsL_or h with ⟨rfl, h0⟩ | h0
            ·exact h0
            exact h0.elim)) (LocS.const) (fun S s' w' hi hN X U V H => Or.inl ⟨Guarded_none rfl, ?_⟩) ?_
         ·replace X := xN1 (hN 15 rfl) X
          obtain ⟨a93, c93, e93, O93⟩ := (show ((fun _ _ => edG ((s : Nat) : Int) ((k + 1 : Nat) : Int) z z1) : FctS) S s' (s' 93) w' from (H 13 rfl).2 93 (fun _ _ => edG ((s : Nat) : Int) ((k + 1 : Nat) : Int) z z1) rfl (by rw [hFs15]; rfl))
          exact DoesT_litE e93 (by have := X0.size; have := X.size; omega) O93
         refine DagStepsS.cons (StabS.chg (U := none1) (apG_ext _ _ _ _ _ _ _ _) (fun p y hp hw h => by
            rcases MsL_or h with ⟨rfl, h0⟩ | h0
            ·exact absurd rfl hp
            exact h0.elim)) (LocS.const) (fun S s' w' hi hN X U V H => Or.inl ⟨Guarded_none rfl, ?_⟩) ?_
         ·replace X := xN1 hi X
          have e81 := (H 1 rfl).2 81 _ rfl (by rw [hFs15]; rfl)
          obtain ⟨b94, a94, c94, e94, B94, g94, O94⟩ := (show ((fun _ _ => elG ((s : Nat) : Int) ((k + 1 : Nat) : Int) z z1) : FctS) S s' (s' 94) w' from (H 14 rfl).2 94 (fun _ _ => elG ((s : Nat) : Int) ((k + 1 : Nat) : Int) z z1) rfl (by rw [hFs15]; rfl))
          exact DoesT_appE e81 (own_ext (own_ext hownX X0) X) e94 B94 O94 (by omega) (by have := X0.size; have := X.size; omega) (fun q h => .inl ⟨rfl, h⟩) (fun q h => by rcases h with h | h; exact (by have := (hownX.lt q h.2).2; omega); exact h.elim) (by have := X0.size; have := X.size; omega)
         refine DagStepsS.tail (DagStepsS.tail ?_)
         exact DagStepsS.nil
        ·intro s' wd15 w15 X0 X15 U H
         replace X15 := X15.mono (M' := (fun y => (fun q => (Value.slice xa7 m7 xc7).ownBlock = some q) y)) (fun y _ h => by
           obtain ⟨j, hj, h⟩ := h
           rcases MsL_or h with ⟨rfl, h0⟩ | h0
           ·exact h0
           exact h0.elim)
         obtain ⟨a95, c95, ⟨⟨u95, v95, e95⟩, O95, D95⟩, K95⟩ := (show ((fun _ _ => apG n6 m7 rows.flatten (.slice xa7 m7 xc7) z1 ((s : Nat) : Int) ((k + 1 : Nat) : Int) z) : FctS) (allS [true, true, true, true, true, true, true, true, true, true, true, true, true, true, true, true, false, false]) s' (s' 95) w15 from H 15 rfl 95 (fun _ _ => apG n6 m7 rows.flatten (.slice xa7 m7 xc7) z1 ((s : Nat) : Int) ((k + 1 : Nat) : Int) z) rfl (by rw [hFs15]; rfl))
         obtain ⟨j15, rfl⟩ := Fits.out (σ := s') (l := [(2, (.pointer (some ⟨br, 0, none⟩))), (3, (.pointer (some ⟨be, 0, none⟩))), (5, (.pointer (some ⟨bg, 0, none⟩))), (7, (.pointer (some ⟨bn, 0, none⟩))), (8, (.int .i64 ((s : Nat) : Int))), (62, (.slice (some ⟨gb, 0, none⟩) g.fol.length fc)), (63, (.int .i64 ((g.fol.length : Nat) : Int))), (64, (.int .i64 ((s : Nat) : Int))), (74, (.slice (some ⟨vb, vo, none⟩) ((upS (nZ l)).length) vc)), (75, (.int .i64 (((upS (nZ l)).length : Nat) : Int))), (76, (.int .i64 ((j : Nat) : Int))), (95, (.slice u95 (m7 + 1) v95))]) ⟨U 2 rfl, U 3 rfl, U 5 rfl, U 7 rfl, U 8 rfl, U 62 rfl, U 63 rfl, U 64 rfl, U 74 rfl, U 75 rfl, U 76 rfl, e95, trivial⟩
         clear U H
         replace Bb := Chg.keep X15 (fun h => by have := (hownX.lt _ h).1; omega) (X0.keep Bb)
         replace Br := Chg.keep X15 (fun h => by have := (hownX.lt _ h).1; omega) (X0.keep Br)
         replace Be := Chg.keep X15 (fun h => by have := (hownX.lt _ h).1; omega) (X0.keep Be)
         replace hblk := Chg.keep X15 (fun h => by have := (hownX.lt _ h).1; omega) (X0.keep hblk)
         replace Bp := Chg.keep X15 (fun h => by have := (hownX.lt _ h).1; omega) (X0.keep Bp)
         replace Bn := Chg.keep X15 (fun h => by have := (hownX.lt _ h).1; omega) (X0.keep Bn)
         have hXm7 := Chg.trans (Ext.chg X0) X15
         replace E := (E.ext X0).step X15 (fun q hq h => by have := (hownX.lt q h).1; omega)
         replace E7 := (E7.ext X0).step X15 (fun q hq h => by have := (hownX.lt q h).1; omega)
         rw [e95] at O95 D95
         have hX9 := EdB.push hownX hm7 hrowsX hxF hFl hXm7 hz1 (by omega) O95 D95 K95
         have hU9 := (hU7.chg hXm7 fun y hy h => hxF y h hy).mono (F' := fun y => F7 y ∨ (Value.slice a95 z.length c95).ownBlock = some y) fun y hy => .inl hy
         have hQ9 := hQ7.chg hXm7 fun y hy h => by have := (hownX.lt y h).1; omega
         have hs9 := Nat.le_trans hs7 hXm7.size
         have htk : edgU g p s ++ ((upS (nZ l)).take (j + 1)).map (edgO g s) = edgU g p s ++ ((upS (nZ l)).take j).map (edgO g s) ++ [(((s : Nat) : Int), ((k + 1 : Nat) : Int), z)] := by rw [map_take _ ht9, edgO_at g s k hz, List.append_assoc]
         have hm9 : m7 + 1 = (edgU g p s ++ ((upS (nZ l)).take (j + 1)).map (edgO g s)).length := by rw [htk, List.length_append, ← hm7]; rfl
         refine qF bn 0 4 rfl Tryz.underlying26 rfl siz24 rfl ?_
         refine s_store (b := bn) (o := 4) (c' := #[(I6 ((g.sets.length + 1 : Nat) : Int)), (I6 0), (.slice ea3 ((endsG p).length) ec3), (.slice none 0 0), (.slice u95 (m7 + 1) v95)]) (v := (.slice u95 (m7 + 1) v95)) rfl rfl rfl siz24 Bn (by simp) rfl ?_
         intro w16 S16
         replace hX9 := hX9.chg S16.chg fun y h => by have h' : y = _ := h; omega
         replace hU9 := hU9.chg S16.chg fun y hy h => by have h' : y = _ := h; have := (hX9.2.2 y hy).1; omega
         replace hQ9 := hQ9.chg S16.chg fun y hy h => by have h' : y = _ := h; omega
         replace hs9 := Nat.le_trans hs9 S16.chg.size
         replace Bb := S16.keep (by omega) Bb
         replace Br := S16.keep (by omega) Br
         replace Be := S16.keep (by omega) Be
         replace hblk := S16.keep (by omega) hblk
         replace Bp := S16.keep (by omega) Bp
         replace E := S16.step E (by first | exact Or.inl (by omega) | exact Or.inr rfl | exact Or.inr (by assumption) | exact Or.inr (by simp) | exact Or.inr (by omega) | exact Or.inr (by dsimp only; omega))
         replace E7 := S16.step E7 (Or.inl (by omega))
         replace Bn := S16.blk
         refine WpL_nil (thn_normal (Wp_seq_region ?_))
         refine qF bn 0 4 rfl Tryz.underlying26 rfl siz24 rfl ?_
         refine qV (r_load (v := (.slice u95 (m7 + 1) v95)) rfl flat24 (Bn.cell rfl)) ?_
         refine qV (r_lenSlice (ad := u95) (n := (m7 + 1)) (cap := v95) Tryz.underlying24 rfl) ?_
         refine qV (r_gtr (k := .i64) (a := (((m7 + 1) : Nat) : Int)) (b := 20000) rfl rfl) ?_
         refine WpL_nil ?_
         refine Wp_cond (b := decide ((20000 : Int) < (((m7 + 1) : Nat) : Int))) rfl (fun hbig => ?_) (fun hbig => ?_)
         ·have khbig := hbig
          replace hbig := of_decide_eq_true hbig
          have hle1 := edgU_le g p (s := s + 1) (m := g.fol.length) (by omega)
          have hbg : 20000 < (edgG g p).length := by rw [hrow, List.length_append, List.length_map] at hle1; rw [List.length_append, List.length_map, List.length_take] at hm9; unfold edgG; omega
          refine Wp_seq_region ?_
          refine qV (r_build (ps := []) (v := (.agg #[(I6 0), (I6 0), (.slice none 0 0), (.slice none 0 0), (.slice none 0 0)])) rfl (by kernel_rfl)) ?_
          refine s_storeAgg (b := br) (o := 0) (c' := #[(I6 0), (I6 0), (.slice none 0 0), (.slice none 0 0), (.slice none 0 0)]) rfl rfl (by simp [Value.oneCell']) siz26 rfl Br (by first | (simp; done) | exact Nat.le_of_ble_eq_true rfl) rfl ?_
          intro w18 S18
          replace hX9 := hX9.chg S18.chg fun y h => by have h' : y = _ := h; omega
          replace hU9 := hU9.chg S18.chg fun y hy h => by have h' : y = _ := h; have := (hX9.2.2 y hy).1; omega
          replace hQ9 := hQ9.chg S18.chg fun y hy h => by have h' : y = _ := h; omega
          replace hs9 := Nat.le_trans hs9 S18.chg.size
          replace Bb := S18.keep (by omega) Bb
          replace Be := S18.keep (by omega) Be
          replace hblk := S18.keep (by omega) hblk
          replace Bp := S18.keep (by omega) Bp
          replace Bn := S18.keep (by omega) Bn
          replace E := S18.step E (by first | exact Or.inl (by omega) | exact Or.inr rfl | exact Or.inr (by assumption) | exact Or.inr (by simp) | exact Or.inr (by omega) | exact Or.inr (by dsimp only; omega))
          replace Br := S18.blk
          refine s_store (b := be) (o := 0) (c' := #[(I6 2)]) (v := (I6 2)) rfl rfl rfl siz27 Be (by simp) rfl ?_
          intro w19 S19
          replace hX9 := hX9.chg S19.chg fun y h => by have h' : y = _ := h; omega
          replace hU9 := hU9.chg S19.chg fun y hy h => by have h' : y = _ := h; have := (hX9.2.2 y hy).1; omega
          replace hQ9 := hQ9.chg S19.chg fun y hy h => by have h' : y = _ := h; omega
          replace hs9 := Nat.le_trans hs9 S19.chg.size
          replace Bb := S19.keep (by omega) Bb
          replace Br := S19.keep (by omega) Br
          replace hblk := S19.keep (by omega) hblk
          replace Bp := S19.keep (by omega) Bp
          replace Bn := S19.keep (by omega) Bn
          replace E := S19.step E (by first | exact Or.inl (by omega) | exact Or.inr rfl | exact Or.inr (by assumption) | exact Or.inr (by simp) | exact Or.inr (by omega) | exact Or.inr (by dsimp only; omega))
          replace Be := S19.blk
          refine WpL_nil (Wp_ret (inB_ret (thn_ret (thn_ret (inB_ret (inB_ret (thn_ret (thn_ret (inB_ret (thn_ret ?_))))))))))
          exact fun a ha => leaves_end (X := Ext _) rfl (by intro h; cases h) (hi_glu1 _ _) ((glu1_idle _ br be).mono fun e9 u9 w9 h9 => by obtain ⟨⟨r9, h1, h2⟩, h3⟩ := h9; exact ⟨⟨r9, h1⟩, by rw [h3]; rfl, h2⟩) (fun w9 h9 => ⟨_, res_agg_cell (vs := [.int .i64 0, .int .i64 0, .slice none 0 0, .slice none 0 0, .slice none 0 0]) Tryz.results44 rfl rfl agg26 siz26 rfl ((Ext.keep h9 Br).cells rfl) flat27 ((Ext.keep h9 Be).cell rfl) ha, _, rfl, nfR_zero (.inr (.inr ⟨hs0, g, p, hgk, hok1, .inr ⟨rfl, rfl, hbg⟩⟩)), E.ext h9⟩)
         ·have khbig := hbig
          replace hbig := of_decide_eq_false hbig
          refine Wp_skip (inB_normal (thn_normal (Wp_region ?_)))
          refine qV (r_add (k := .i64) (a := (j : Int)) (b := 1) (c := (j : Int) + 1) rfl rfl (wI64 (by omega))) ?_
          refine qM (I6 ((j : Int) + 1)) rfl ?_
          refine WpL_nil (thn_normal ?_)
          exact ⟨(upS (nZ l)).length - (j + 1), by omega, j + 1, m7 + 1, _, u95, v95, Fits.out ⟨rfl, rfl, rfl, rfl, rfl, rfl, rfl, rfl, rfl, rfl, rfl, trivial⟩, E, E7, Bb, Br, Be, hblk, Bp, Bn, (by omega), hm9, (by rw [htk]; exact hX9), (by omega), hU9, hQ9, hs9, rfl⟩
       ·have khlt8 := hlt8
        replace hlt8 := of_decide_eq_false hlt8
        have hjj : j = (upS (nZ l)).length := by omega
        subst hjj
        rw [List.take_length, ← hrow] at hm7 hX7
        refine Wp_exit (thn_exit (thn_exit (inB_here (inB_normal (thn_normal (Wp_region ?_))))))
        refine qV (r_add (k := .i64) (a := (s : Int)) (b := 1) (c := (s : Int) + 1) rfl rfl (wI64 (by omega))) ?_
        refine qM (I6 ((s : Int) + 1)) rfl ?_
        refine WpL_nil (thn_normal ?_)
        exact ⟨g.fol.length - (s + 1), by omega, s + 1, m7, F7, xa7, xc7, Fits.out ⟨rfl, rfl, rfl, rfl, rfl, rfl, rfl, trivial⟩, E, E7, Bb, Br, Be, hblk, Bp, Bn, (by omega), hm7, hX7, hm70, hQ7, hs7, rfl⟩
     ·have khlt9 := hlt9
      replace hlt9 := of_decide_eq_false hlt9
      have hss : s = g.fol.length := by omega
      subst hss
      refine Wp_exit (thn_exit (thn_exit (inB_here (thn_normal (Wp_seq_region ?_)))))
      refine qV (r_loadAgg (vs := [(I6 ((g.sets.length + 1 : Nat) : Int)), (I6 0), (.slice ea3 ((endsG p).length) ec3), (.slice none 0 0), (.slice xa m6 xc)]) rfl agg26 siz26 rfl (Bn.cells rfl)) ?_
      refine s_storeAgg (b := br) (o := 0) (c' := #[(I6 ((g.sets.length + 1 : Nat) : Int)), (I6 0), (.slice ea3 ((endsG p).length) ec3), (.slice none 0 0), (.slice xa m6 xc)]) rfl rfl (by simp [Value.oneCell']) siz26 rfl Br (by first | (simp; done) | exact Nat.le_of_ble_eq_true rfl) rfl ?_
      intro w20 S20
      replace hX := hX.chg S20.chg fun y h => by have h' : y = _ := h; omega
      replace hQ6 := hQ6.chg S20.chg fun y hy h => by have h' : y = _ := h; omega
      replace Bb := S20.keep (by omega) Bb
      replace Be := S20.keep (by omega) Be
      replace hblk := S20.keep (by omega) hblk
      replace Bp := S20.keep (by omega) Bp
      replace Bn := S20.keep (by omega) Bn
      replace E := S20.step E (by first | exact Or.inl (by omega) | exact Or.inr rfl | exact Or.inr (by assumption) | exact Or.inr (by simp) | exact Or.inr (by omega) | exact Or.inr (by dsimp only; omega))
      replace Br := S20.blk
      refine s_store (b := be) (o := 0) (c' := #[(I6 0)]) (v := (I6 0)) rfl rfl rfl siz27 Be (by simp) rfl ?_
      intro w21 S21
      replace hX := hX.chg S21.chg fun y h => by have h' : y = _ := h; omega
      replace hQ6 := hQ6.chg S21.chg fun y hy h => by have h' : y = _ := h; omega
      replace Bb := S21.keep (by omega) Bb
      replace Br := S21.keep (by omega) Br
      replace hblk := S21.keep (by omega) hblk
      replace Bp := S21.keep (by omega) Bp
      replace Bn := S21.keep (by omega) Bn
      replace E := S21.step E (by first | exact Or.inl (by omega) | exact Or.inr rfl | exact Or.inr (by assumption) | exact Or.inr (by simp) | exact Or.inr (by omega) | exact Or.inr (by dsimp only; omega))
      replace Be := S21.blk
      refine WpL_nil (Wp_ret ?_)
      have hN : NfNew w0.heap.size _ (nfG g p) [.int .i64 ((g.sets.length + 1 : Nat) : Int), .int .i64 0, .slice ea3 (endsG p).length ec3, .slice none 0 0, .slice xa m6 xc] := fun M w7 c hM => by
       have h1 := hQ6.chg c fun y hy h => by have := hM y h; omega
       have h2 := (hX.chg c fun y h => by have := hM y h; omega).at
       subst hm6
       exact ⟨_, _, none, 0, _, _, rfl, h1.1, SlAt.nil w7 2 _ _, h2⟩
      exact fun a ha => leaves_end (X := Ext _) rfl (by intro h; cases h) (hi_glu1 _ _) ((glu1_idle _ br be).mono fun e9 u9 w9 h9 => by obtain ⟨⟨r9, h1, h2⟩, h3⟩ := h9; exact ⟨⟨r9, h1⟩, by rw [h3]; rfl, h2⟩) (fun w9 h9 => ⟨_, res_agg_cell (vs := [.int .i64 ((g.sets.length + 1 : Nat) : Int), .int .i64 0, .slice ea3 (endsG p).length ec3, .slice none 0 0, .slice xa m6 xc]) Tryz.results44 rfl rfl agg26 siz26 rfl ((Ext.keep h9 Br).cells rfl) flat27 ((Ext.keep h9 Be).cell rfl) ha, _, rfl, ⟨nfG g p, ea3, ec3, none, 0, xa, xc, _, by rw [hm6]; rfl, by rw [hm6] at hN; exact hN.ext h9, .inr (.inr ⟨hs0, g, p, hgk, hok1, .inl ⟨rfl, rfl, by unfold edgG; omega⟩⟩)⟩, E.ext h9⟩)
end Go.Proofs
namespace Go.Proofs
open Go Go.Eng Go.Sort
set_option maxRecDepth 100000
abbrev oneB : Re := .mk 2 [(97, 97)] [] 0 0 false
abbrev starB : Re := .mk 5 [] [oneB] 0 0 false
def nfB : Nf := ⟨2, 0, [0, 1], [], [(0, 1, [(97, 97)]), (1, 1, [(97, 97)])]⟩
theorem gkB : gkO starB gs0 = some (⟨[[(97, 97)]], [[], [1]]⟩, ⟨true, [1], [1]⟩) := by kernel_rfl
theorem up01 : upS [0, 1] = [0, 1] := lt_unique (upS_inc _) (by decide) fun x => upS_mem
theorem up1 : upS [1] = [1] := lt_unique (upS_inc _) (by decide) fun x => upS_mem
theorem nfGB : nfG ⟨[[(97, 97)]], [[], [1]]⟩ ⟨true, [1], [1]⟩ = nfB := by
 have e : nfG ⟨[[(97, 97)]], [[], [1]]⟩ ⟨true, [1], [1]⟩ = ⟨2, 0, upS [0, 1], [], ([] ++ (upS [1]).map (edgO ⟨[[(97, 97)]], [[], [1]]⟩ 0)) ++ (upS [1]).map (edgO ⟨[[(97, 97)]], [[], [1]]⟩ 1)⟩ := rfl
 rw [e, up01, up1]; rfl
theorem glush_star {n : Nf} {e : Int} (h : GkP starB n e) : e = 0 ∧ n = nfB := by
 have h0 : simE starB = 0 := simE_zero.2 ⟨by simp only [starB, oneB, okRe, okRes, and_true]; decide, by decide, by decide⟩
 rcases h with ⟨h1, _⟩ | ⟨_, h1, _⟩ | ⟨_, g, p, h1, h2, h3⟩
 ·exact absurd h0 h1
 ·rw [gkB] at h1; cases h1
 ·rw [gkB] at h1
  cases h1
  rw [nfGB] at h3
  have h8 : edgG ⟨[[(97, 97)]], [[], [1]]⟩ ⟨true, [1], [1]⟩ = nfB.edges := congrArg Nf.edges nfGB
  rw [h8] at h3
  rcases h3 with ⟨h5, h6, _⟩ | ⟨_, _, h7⟩
  ·exact ⟨h5, h6⟩
  ·exact absurd h7 (by decide)
theorem okB9 : OkN nfB := ⟨by decide, by decide, by decide, by decide, by decide, by decide, by decide, by decide⟩
theorem accB : Acc nfB [97, 97] := ⟨1, by decide, .edge (t := 1) (z := [(97, 97)]) (by decide) (by decide) (.edge (t := 1) (z := [(97, 97)]) (by decide) (by decide) (.nil 1))⟩
theorem runB9 {n : Nf} {b : Bool} {e : Int} (hn : n = nfB) (h : RunP n [97, 97] b e) : e = 0 ∧ b = true := by
 subst hn
 have hc := chkN_zero.2 okB9
 rcases h with ⟨h1, _⟩ | ⟨_, h1, _⟩ | ⟨_, _, h1, _⟩ | ⟨_, _, _, h1, h2⟩
 ·exact absurd hc h1
 ·simp at h1
 ·exact absurd h1 (by decide)
 ·exact ⟨h2, h1.2 accB⟩
theorem spN_c (w0 : World) (lo hi : Int) : Ret Tryz.prog 97 #[.int .i64 lo, .int .i64 hi] w0 fun v w => v = .agg #[.int .i64 lo, .int .i64 hi] ∧ Ext w0 w := by
 refine Ret_of Tryz.func97 rfl Tryz.ntmps97 (Nat.le_of_ble_eq_true rfl) ?_
 have E : Chg none1 w0 w0 := Chg.refl _ _
 refine Wp_seq_region ?_
 refine s_alloc (c := #[(I6 0), (I6 0)]) (by decide) zer80 rfl ?_
 intro b1 w1 N1
 have F1 := N1.ge E
 replace E := E.ext N1.ext
 have B1 := N1.blk
 refine WpL_nil (Wp_seq_region ?_)
 refine qM (I6 lo) rfl ?_
 refine qM (I6 hi) rfl ?_
 refine qV (r_build (ps := [(0, (I6 lo)), (1, (I6 hi))]) (v := (.agg #[(I6 lo), (I6 hi)])) rfl (by kernel_rfl)) ?_
 refine s_storeAgg (b := b1) (o := 0) (c' := #[(I6 lo), (I6 hi)]) rfl rfl (by simp [Value.oneCell']) siz80 rfl B1 (by first | (simp; done) | exact Nat.le_of_ble_eq_true rfl) rfl ?_
 intro w2 S2
 replace E := S2.step E (by first | exact Or.inl (by omega) | exact Or.inr rfl | exact Or.inr (by assumption) | exact Or.inr (by simp) | exact Or.inr (by omega) | exact Or.inr (by dsimp only; omega))
 replace B1 := S2.blk
 refine WpL_nil (Wp_ret ?_)
 refine fin_agg Tryz.results97 (vs := [(.int .i64 lo), (.int .i64 hi)]) (b := b1) rfl agg80 siz80 rfl (B1.cells rfl) ?_
 exact ⟨rfl, E⟩
theorem loneN_c (w0 : World) : Ret Tryz.prog 46 #[.int .i64 97] w0 fun v w => (∃ b, v = .agg #[.int .i64 2, .slice (some ⟨b, 0, none⟩) 1 1, .slice none 0 0, .int .i64 0, .int .i64 0, .bool false] ∧ ReAt w oneB [.int .i64 2, .slice (some ⟨b, 0, none⟩) 1 1, .slice none 0 0, .int .i64 0, .int .i64 0, .bool false]) ∧ Ext w0 w := by
 refine Ret_of Tryz.func46 rfl Tryz.ntmps46 (Nat.le_of_ble_eq_true rfl) ?_
 have E : Chg none1 w0 w0 := Chg.refl _ _
 refine Wp_seq_region ?_
 refine s_alloc (c := #[(I6 0), (.slice none 0 0), (.slice none 0 0), (I6 0), (I6 0), (.bool false)]) (by decide) zer48 rfl ?_
 intro bo wo No
 have Fo := No.ge E
 replace E := E.ext No.ext
 have Bo := No.blk
 refine WpL_nil (Wp_seq_region ?_)
 refine qM (I6 97) rfl ?_
 refine qM (I6 97) rfl ?_
 refine WpL_enter rfl rfl (by decide) (r_callF (vs := [(I6 97), (I6 97)]) Tryz.func97 kQ kQ rfl) (spN_c _ 97 97) ?_
 rintro _ w9 ⟨rfl, X9⟩
 replace Bo := X9.keep Bo
 replace E := E.ext X9
 refine s_buildSlice (ps := [(0, (.agg #[(I6 97), (I6 97)]))]) (c := #[(I6 97), (I6 97)]) (by decide) rfl Tryz.underlying37 siz80 zer80 (by decide) (by decide) (by kernel_rfl) ?_
 intro bs ws Ns
 have Fs := Ns.ge E
 have Os_bo := Ns.lt Bo
 replace Bo := Ns.keep Bo
 replace E := E.ext Ns.ext
 have Bs := Ns.blk
 refine qV (r_build (ps := [(0, (I6 2)), (1, (.slice (some ⟨bs, 0, none⟩) 1 1))]) (v := (.agg #[(I6 2), (.slice (some ⟨bs, 0, none⟩) 1 1), (.slice none 0 0), (I6 0), (I6 0), (.bool false)])) rfl (by kernel_rfl)) ?_
 refine s_storeAgg (b := bo) (o := 0) (c' := #[(I6 2), (.slice (some ⟨bs, 0, none⟩) 1 1), (.slice none 0 0), (I6 0), (I6 0), (.bool false)]) rfl rfl (by simp [Value.oneCell']) siz48 rfl Bo (by first | (simp; done) | exact Nat.le_of_ble_eq_true rfl) rfl ?_
 intro w1 S1
 replace Bs := S1.keep (by omega) Bs
 replace E := S1.step E (by first | exact Or.inl (by omega) | exact Or.inr rfl | exact Or.inr (by assumption) | exact Or.inr (by simp) | exact Or.inr (by omega) | exact Or.inr (by dsimp only; omega))
 replace Bo := S1.blk
 refine WpL_nil (Wp_ret ?_)
 refine fin_agg Tryz.results46 (vs := [(.int .i64 2), (.slice (some ⟨bs, 0, none⟩) 1 1), (.slice none 0 0), (.int .i64 0), (.int .i64 0), (.bool false)]) (b := bo) rfl agg48 siz48 rfl (Bo.cells rfl) ?_
 exact ⟨⟨bs, rfl, ReAt.of (set := [(97, 97)]) (args := []) (spans_of_blk [(97, 97)] Bs (by simp) (by simp)) (by simp) (.inl rfl)⟩, E⟩
theorem lstarN_c (w0 : World) (t : Re) (vs : List Value) (ht : ReAt w0 t vs) : Ret Tryz.prog 45 #[.agg vs.toArray] w0 fun v w => (∃ b, v = .agg #[.int .i64 5, .slice none 0 0, .slice (some ⟨b, 0, none⟩) 1 1, .int .i64 0, .int .i64 0, .bool false] ∧ ReAt w (.mk 5 [] [t] 0 0 false) [.int .i64 5, .slice none 0 0, .slice (some ⟨b, 0, none⟩) 1 1, .int .i64 0, .int .i64 0, .bool false]) ∧ Ext w0 w := by
 have ht0 := ht
 obtain ⟨sa, sc, aa, ac, rfl, hset, hlen, hargs⟩ := ht.form
 refine Ret_of Tryz.func45 rfl Tryz.ntmps45 (Nat.le_of_ble_eq_true rfl) ?_
 have E : Chg none1 w0 w0 := Chg.refl _ _
 refine Wp_seq_region ?_
 refine s_box (v := (.agg (R6 t sa sc aa ac))) (c := (R6 t sa sc aa ac)) (by decide) rfl rfl ?_
 intro bp wp Np
 have Fp := Np.ge E
 replace E := E.ext Np.ext
 have Bp := Np.blk
 refine s_alloc (c := #[(I6 0), (.slice none 0 0), (.slice none 0 0), (I6 0), (I6 0), (.bool false)]) (by decide) zer48 rfl ?_
 intro bo wo No
 have Fo := No.ge E
 have Oo_bp := No.lt Bp
 replace Bp := No.keep Bp
 replace E := E.ext No.ext
 have Bo := No.blk
 refine WpL_nil (Wp_seq_region ?_)
 refine qV (r_loadAgg (vs := [(I6 t.kind), (.slice sa t.set.length sc), (.slice aa t.args.length ac), (I6 t.mn), (I6 t.mx), (.bool t.neg)]) rfl agg48 siz48 rfl (Bp.cells rfl)) ?_
 refine s_buildSlice (ps := [(0, (.agg (R6 t sa sc aa ac)))]) (c := (R6 t sa sc aa ac)) (by decide) rfl Tryz.underlying46 siz48 zer48 (by decide) (by decide) (by kernel_rfl) ?_
 intro bq wq Nq
 have Fq := Nq.ge E
 have Oq_bp := Nq.lt Bp
 have Oq_bo := Nq.lt Bo
 replace Bp := Nq.keep Bp
 replace Bo := Nq.keep Bo
 replace E := E.ext Nq.ext
 have Bq := Nq.blk
 refine qV (r_build (ps := [(0, (I6 5)), (2, (.slice (some ⟨bq, 0, none⟩) 1 1))]) (v := (.agg #[(I6 5), (.slice none 0 0), (.slice (some ⟨bq, 0, none⟩) 1 1), (I6 0), (I6 0), (.bool false)])) rfl (by kernel_rfl)) ?_
 refine s_storeAgg (b := bo) (o := 0) (c' := #[(I6 5), (.slice none 0 0), (.slice (some ⟨bq, 0, none⟩) 1 1), (I6 0), (I6 0), (.bool false)]) rfl rfl (by simp [Value.oneCell']) siz48 rfl Bo (by first | (simp; done) | exact Nat.le_of_ble_eq_true rfl) rfl ?_
 intro w1 S1
 replace Bp := S1.keep (by omega) Bp
 replace Bq := S1.keep (by omega) Bq
 replace E := S1.step E (by first | exact Or.inl (by omega) | exact Or.inr rfl | exact Or.inr (by assumption) | exact Or.inr (by simp) | exact Or.inr (by omega) | exact Or.inr (by dsimp only; omega))
 replace Bo := S1.blk
 refine WpL_nil (Wp_ret ?_)
 refine fin_agg Tryz.results45 (vs := [(.int .i64 5), (.slice none 0 0), (.slice (some ⟨bq, 0, none⟩) 1 1), (.int .i64 0), (.int .i64 0), (.bool false)]) (b := bo) rfl agg48 siz48 rfl (Bo.cells rfl) ?_
 exact ⟨⟨bq, rfl, ReAt.of (set := []) (args := [t]) (SlAt.nil _ _ _ _) (by simp) (.inr ⟨bq, 0, rfl, by simp only [ResAt]; exact ⟨⟨_, Bq.cells rfl, ReAt.ext E t ht0⟩, trivial⟩⟩)⟩, E⟩
theorem nfabegun_c (w0 : World) : Ret Tryz.prog 10 #[] w0 fun v w => v = .bool true ∧ Ext w0 w := by
 refine Ret_of Tryz.func10 rfl Tryz.ntmps10 (Nat.le_of_ble_eq_true rfl) ?_
 have E : Chg none1 w0 w0 := Chg.refl _ _
 refine Wp_seq_region ?_
 refine qA (.bool false) rfl ?_
 refine WpL_nil (Wp_seq_region ?_)
 refine WpL_enter rfl rfl (by decide) (r_callF (vs := [(I6 97)]) Tryz.func46 kQ kQ rfl) (loneN_c _) ?_
 rintro _ w1 ⟨⟨b, rfl, hsp⟩, X1⟩
 replace E := E.ext X1
 refine WpL_enter rfl rfl (by decide) (r_callF (vs := [(.agg #[(I6 2), (.slice (some ⟨b, 0, none⟩) 1 1), (.slice none 0 0), (I6 0), (I6 0), (.bool false)])]) Tryz.func45 kQ kQ rfl) (lstarN_c _ oneB _ hsp) ?_
 rintro _ w2 ⟨⟨b2, rfl, hst⟩, X2⟩
 replace E := E.ext X2
 refine WpL_enter rfl rfl (by decide) (r_callF (vs := [(.agg #[(I6 5), (.slice none 0 0), (.slice (some ⟨b2, 0, none⟩) 1 1), (I6 0), (I6 0), (.bool false)])]) Tryz.func44 kQ kQ rfl) (glush_c _ starB _ hst) ?_
 rintro _ w9 ⟨⟨n, ea, ec, pa, pc, xa, xc, er, rfl, hN, hP⟩, X9⟩
 replace E := E.ext X9
 obtain ⟨he0, hnb⟩ := glush_star hP
 refine qM (.tuple #[(.agg #[(I6 n.states), (I6 n.start), (.slice ea n.ends.length ec), (.slice pa n.eps.length pc), (.slice xa n.edges.length xc)]), (I6 er)]) rfl ?_
 refine qV (r_extract (vs := #[(.agg #[(I6 n.states), (I6 n.start), (.slice ea n.ends.length ec), (.slice pa n.eps.length pc), (.slice xa n.edges.length xc)]), (I6 er)]) (v := (.agg #[(I6 n.states), (I6 n.start), (.slice ea n.ends.length ec), (.slice pa n.eps.length pc), (.slice xa n.edges.length xc)])) rfl rfl) ?_
 refine qV (r_extract (vs := #[(.agg #[(I6 n.states), (I6 n.start), (.slice ea n.ends.length ec), (.slice pa n.eps.length pc), (.slice xa n.edges.length xc)]), (I6 er)]) (v := (I6 er)) rfl rfl) ?_
 refine s_allocStore (v := (.agg #[(I6 n.states), (I6 n.start), (.slice ea n.ends.length ec), (.slice pa n.eps.length pc), (.slice xa n.edges.length xc)])) (c := #[(I6 n.states), (I6 n.start), (.slice ea n.ends.length ec), (.slice pa n.eps.length pc), (.slice xa n.edges.length xc)]) (n := 5) (by decide) zer26 rfl siz26 rfl rfl rfl (by simp [Value.oneCell']) ?_
 intro bn wn Nn
 have Fn := Nn.ge E
 replace hN := hN.ext Nn.ext
 replace E := E.ext Nn.ext
 have Bn := Nn.blk
 refine qA (I6 er) rfl ?_
 refine WpL_nil (Wp_seq_region ?_)
 refine qV (r_loadAgg (vs := [(I6 n.states), (I6 n.start), (.slice ea n.ends.length ec), (.slice pa n.eps.length pc), (.slice xa n.edges.length xc)]) rfl agg26 siz26 rfl (Bn.cells rfl)) ?_
 refine s_buildSlice (ps := [(0, (I6 97)), (1, (I6 97))]) (c := #[(I6 97), (I6 97)]) (by decide) rfl Tryz.underlying22 siz3 zer3 (by decide) (by decide) (by kernel_rfl) ?_
 intro bk wk Nk
 have Fk := Nk.ge E
 have Ok_bn := Nk.lt Bn
 replace Bn := Nk.keep Bn
 replace hN := hN.ext Nk.ext
 replace E := E.ext Nk.ext
 have Bk := Nk.blk
 refine WpL_enter rfl rfl (by decide) (r_callF (vs := [(.agg #[(I6 n.states), (I6 n.start), (.slice ea n.ends.length ec), (.slice pa n.eps.length pc), (.slice xa n.edges.length xc)]), (.slice (some ⟨bk, 0, none⟩) 2 2)]) Tryz.func7 kQ kQ rfl) (nrun_c _ n _ _ [97, 97] hN.at (ints_of_blk [97, 97] Bk (by simp) (by simp))) ?_
 rintro _ w19 ⟨⟨rb, re, rfl, hR⟩, X19⟩
 replace Bn := X19.keep Bn
 replace Bk := X19.keep Bk
 replace hN := hN.ext X19
 replace E := E.ext X19
 obtain ⟨hre, hrb⟩ := runB9 hnb hR
 refine qM (.tuple #[(.bool rb), (I6 re)]) rfl ?_
 refine qV (r_extract (vs := #[(.bool rb), (I6 re)]) (v := (.bool rb)) rfl rfl) ?_
 refine qV (r_extract (vs := #[(.bool rb), (I6 re)]) (v := (I6 re)) rfl rfl) ?_
 refine qA (.bool rb) rfl ?_
 refine qA (I6 re) rfl ?_
 refine WpL_nil (Wp_seq_region ?_)
 refine qM (I6 er) rfl ?_
 obtain ⟨e1, he1⟩ : ∃ e, (decide ((er : Int) = 0)) = e := ⟨_, rfl⟩
 refine qV ((r_eql (k := .i64) (a := er) (b := 0) rfl rfl).trans (by rw [he1]; try rfl)) ?_
 refine qM (.bool e1) rfl ?_
 refine qG (.bool e1) (yU e1 (I6 re)) (by cases e1 <;> first | exact gA | exact gB | exact .inl ⟨rfl, r_move (v := (I6 re)) rfl⟩) ?_
 obtain ⟨e2, he2⟩ : ∃ e, (decide ((re : Int) = 0)) = e := ⟨_, rfl⟩
 refine qG (.bool e1) (yU e1 (.bool e2)) (by cases e1 <;> first | exact gA | exact gB | exact .inl ⟨rfl, (r_eql (k := .i64) (a := re) (b := 0) rfl rfl).trans (by rw [he2]; try rfl)⟩) ?_
 obtain ⟨e3, he3⟩ : ∃ e, (e1 && e2) = e := ⟨_, rfl⟩
 refine qV (r_pick (b := e1) (v := .bool e3) rfl (by rw [← he3]; cases e1 <;> rfl)) ?_
 refine qM (.bool e3) rfl ?_
 refine qG (.bool e3) (yU e3 (.bool rb)) (by cases e3 <;> first | exact gA | exact gB | exact .inl ⟨rfl, r_move (v := (.bool rb)) rfl⟩) ?_
 obtain ⟨e4, he4⟩ : ∃ e, (e3 && rb) = e := ⟨_, rfl⟩
 refine qV (r_pick (b := e3) (v := .bool e4) rfl (by rw [← he4]; cases e3 <;> rfl)) ?_
 refine qM (.bool e4) rfl ?_
 refine qG (.bool e4) (yU e4 (P6 bn 0)) (by cases e4 <;> first | exact gA | exact gB | exact .inl ⟨rfl, r_fieldAddr (b := bn) (o := 0) (o' := 0) rfl Tryz.underlying26 rfl siz3 rfl⟩) ?_
 refine qG (.bool e4) (yU e4 (I6 n.states)) (by cases e4 <;> first | exact gA | exact gB | exact .inl ⟨rfl, r_load (v := (I6 n.states)) rfl flat3 (Bn.cell rfl)⟩) ?_
 obtain ⟨e5, he5⟩ : ∃ e, (decide ((n.states : Int) = 2)) = e := ⟨_, rfl⟩
 refine qG (.bool e4) (yU e4 (.bool e5)) (by cases e4 <;> first | exact gA | exact gB | exact .inl ⟨rfl, (r_eql (k := .i64) (a := n.states) (b := 2) rfl rfl).trans (by rw [he5]; try rfl)⟩) ?_
 obtain ⟨e6, he6⟩ : ∃ e, (e4 && e5) = e := ⟨_, rfl⟩
 refine qV (r_pick (b := e4) (v := .bool e6) rfl (by rw [← he6]; cases e4 <;> rfl)) ?_
 refine qM (.bool e6) rfl ?_
 refine qG (.bool e6) (yU e6 (P6 bn 4)) (by cases e6 <;> first | exact gA | exact gB | exact .inl ⟨rfl, r_fieldAddr (b := bn) (o := 0) (o' := 4) rfl Tryz.underlying26 rfl siz24 rfl⟩) ?_
 refine qG (.bool e6) (yU e6 (.slice xa n.edges.length xc)) (by cases e6 <;> first | exact gA | exact gB | exact .inl ⟨rfl, r_load (v := (.slice xa n.edges.length xc)) rfl flat24 (Bn.cell rfl)⟩) ?_
 refine qG (.bool e6) (yU e6 (I6 (n.edges.length : Int))) (by cases e6 <;> first | exact gA | exact gB | exact .inl ⟨rfl, r_lenSlice (ad := xa) (n := n.edges.length) (cap := xc) Tryz.underlying24 rfl⟩) ?_
 obtain ⟨e7, he7⟩ : ∃ e, (decide ((((n.edges.length : Nat) : Int) : Int) = 2)) = e := ⟨_, rfl⟩
 refine qG (.bool e6) (yU e6 (.bool e7)) (by cases e6 <;> first | exact gA | exact gB | exact .inl ⟨rfl, (r_eql (k := .i64) (a := (n.edges.length : Int)) (b := 2) rfl rfl).trans (by rw [he7]; try rfl)⟩) ?_
 obtain ⟨e8, he8⟩ : ∃ e, (e6 && e7) = e := ⟨_, rfl⟩
 refine qV (r_pick (b := e6) (v := .bool e8) rfl (by rw [← he8]; cases e6 <;> rfl)) ?_
 refine qA (.bool e8) rfl ?_
 refine WpL_nil ?_
 subst he8
 subst he7
 subst he6
 subst he5
 subst he4
 subst he3
 subst he2
 subst he1
 refine Wp_ret ?_
 refine fin_tmp Tryz.results10 (v := (.bool (((((decide ((er : Int) = 0)) && (decide ((re : Int) = 0))) && rb) && (decide ((n.states : Int) = 2))) && (decide ((((n.edges.length : Nat) : Int) : Int) = 2))))) rfl ?_
 exact ⟨bool_eq (by rw [he0, hre, hrb, hnb]; rfl), E⟩
end Go.Proofs
namespace Go.Proofs
open Go Go.Eng Go.Sort
set_option maxRecDepth 100000
def wantN (n : Nf) : Nf := if n.ends.length = 1 then n.rev (n.ends.headD 0) else nf0
def wantE (n : Nf) : Int := if n.ends.length = 1 then 0 else 3
theorem rev_want {n m : Nf} {e : Int} (h : RevP n m e) (hc : chkN n = 0) : m = wantN n ∧ e = wantE n := by
 unfold wantN wantE
 rcases h with ⟨h1, _⟩ | ⟨_, h1, h2, h3⟩ | ⟨_, h1, x, h2, h3⟩
 ·exact absurd hc h1
 ·rw [if_neg h1, if_neg h1]; exact ⟨h2, h3⟩
 ·rw [h2]; exact ⟨h3, h1⟩
theorem tells_bad {n m1 m2 : Nf} {l q text : List Int} {b : Bool} {e1 e2 e3 e4 : Int} (hc : chkN n ≠ 0) (h1 : ClsR n l q e1) (h2 : RunP n text b e2) (h3 : BareR n m1 e3) (h4 : RevP n m2 e4) : (q = [] ∧ e1 = chkN n) ∧ (b = false ∧ e2 = chkN n) ∧ (m1 = nf0 ∧ e3 = chkN n) ∧ m2 = nf0 ∧ e4 = chkN n := by
 refine ⟨?_, ?_, ?_, ?_⟩
 ·rcases h1 with ⟨_, h⟩ | ⟨h, _⟩ | ⟨h, _⟩
  ·exact h
  ·exact absurd h hc
  ·exact absurd h hc
 ·rcases h2 with ⟨_, h⟩ | ⟨h, _⟩ | ⟨h, _⟩ | ⟨h, _⟩
  ·exact h
  ·exact absurd h hc
  ·exact absurd h hc
  ·exact absurd h hc
 ·rcases h3 with ⟨_, h⟩ | ⟨h, _⟩ | ⟨h, _⟩
  ·exact h
  ·exact absurd h hc
  ·exact absurd h hc
 ·rcases h4 with ⟨_, h⟩ | ⟨h, _⟩ | ⟨h, _⟩
  ·exact h
  ·exact absurd h hc
  ·exact absurd h hc
def nfF (m : Nf) : Fct := fun v w => ∃ ea ec pa pc xa xc, v = .agg #[.int .i64 m.states, .int .i64 m.start, .slice ea m.ends.length ec, .slice pa m.eps.length pc, .slice xa m.edges.length xc] ∧ NfAt w m [.int .i64 m.states, .int .i64 m.start, .slice ea m.ends.length ec, .slice pa m.eps.length pc, .slice xa m.edges.length xc]
theorem nfF_ext (m : Nf) : ∀ v w w', Ext w w' → nfF m v w → nfF m v w' := by
 rintro v w w' e ⟨ea, ec, pa, pc, xa, xc, h1, h2⟩
 exact ⟨ea, ec, pa, pc, xa, xc, h1, h2.ext e⟩
theorem nfF_of {m : Nf} {us : List Value} {w : World} (h : NfAt w m us) : nfF m (.agg us.toArray) w := by
 have h0 := h
 obtain ⟨ea, ec, pa, pc, xa, xc, rfl, _⟩ := h
 exact ⟨ea, ec, pa, pc, xa, xc, rfl, h0⟩
theorem free_q {w0 : World} {n : Nf} {vs0 : List Value} {N : Nat} {v : Value} {l q : List Int} (ok : OkN n) (hN : n.states = (N : Int)) (h : NfAt w0 n vs0) (hl : IntsAt w0 v l) (hln : ∀ s ∈ l, 0 ≤ s ∧ s < (N : Int)) (hq : FreeOf n.eps (· ∈ l) q) : Ret Tryz.prog 14 #[.agg vs0.toArray, v] w0 fun r w => ciG q r w ∧ Ext w0 w :=
 (free_c w0 n vs0 N v l ok hN h hl hln).mono fun v w h => by
  obtain ⟨⟨a, c, q', rfl, h1, h2, h3, h4⟩, h5⟩ := h
  obtain rfl := h1.uniq hq
  exact ⟨⟨a, c, rfl, h3⟩, h5⟩
theorem ieqr_q {w0 : World} {v1 v2 : Value} {q : List Int} (h1 : IntsAt w0 v1 q) (h2 : IntsAt w0 v2 q) : Ret Tryz.prog 13 #[v1, v2] w0 fun r w => r = .bool true ∧ Ext w0 w :=
 (ieqr_c w0 v1 v2 q q h1 h2).mono fun v w h => ⟨by rw [h.1]; simp, h.2⟩
theorem bareof_q {w0 : World} {n m : Nf} {vs0 : List Value} {N : Nat} (ok : OkN n) (hN : n.states = (N : Int)) (h : NfAt w0 n vs0) (hb : N ≤ 30 ∧ n.edges.length ≤ 60) (hm : m.states = n.states ∧ m.start = n.start ∧ m.eps = [] ∧ BareK n N m.ends m.edges) : Ret Tryz.prog 15 #[.agg vs0.toArray] w0 fun r w => nfF m r w ∧ Ext w0 w :=
 (bareof_c w0 n vs0 N ok hN h hb).mono fun v w h => by
  obtain ⟨⟨k, us, rfl, h1, h2, h3, h4, h5⟩, h6⟩ := h
  obtain ⟨g2, g3, g4, g5⟩ := hm
  obtain ⟨g6, g7⟩ := h5.uniq g5
  have e : k = m := by
   cases k; cases m
   simp only at h2 h3 h4 g2 g3 g4 g6 g7
   rw [h2, h3, h4, g2, g3, g4, g6, g7]
  exact ⟨e ▸ nfF_of h1, h6⟩
theorem EdO.push {z base : Nat} {w w' w2 : World} {v v' : Value} {es : List Ed} {rows : List (List Value)} {e : Ed} {a : Option Addr} {c m : Nat} (hr : EdsF (fun y => y < z) w es rows) (hm : m = es.length) (hC : Chg (fun x => v.ownBlock = some x) w w') (hlo : ∀ k, v.ownBlock = some k → z ≤ k) (ho : w'.ownsRow base TEd 3 v' (m + 1) (rows.flatten ++ [.int .i64 e.1, .int .i64 e.2.1, .slice a e.2.2.length c])) (hs : SpansAt w2 (.slice a e.2.2.length c) e.2.2) (hz : w2.heap.size ≤ z) (hE : Ext w2 w') : EdO z w' base v' (es ++ [e]) :=
 ⟨rows ++ [edRow e (.slice a e.2.2.length c)], by rw [List.length_append, ← hm, List.flatten_append]; simpa [edRow] using ho, (hr.chg hC fun y hy h => by have := hlo y h; omega).snoc ((EdF.old hs hz).chg hE fun _ _ f => f)⟩
set_option maxHeartbeats 8000000 in
theorem nfatells_c (w0 : World) (n : Nf) (vs0 : List Value) (vl vt : Value) (l text : List Int) (h : NfAt w0 n vs0) (hl : IntsAt w0 vl l) (ht : IntsAt w0 vt text) :
  Ret Tryz.prog 3 #[.agg vs0.toArray, vl, vt] w0 fun v w => v = .bool true ∧ Ext w0 w := by
 have h0 := h
 obtain ⟨ea, ec, pa, pc, xa, xc, rfl, hen, hep, hed⟩ := h
 obtain ⟨la, lc, rfl⟩ := SlAt.form hl
 obtain ⟨ta, tc, rfl⟩ := SlAt.form ht
 have hll : l.length ≤ 9223372036854775807 := by simpa using SlAt.le hl
 have htl : text.length ≤ 9223372036854775807 := by simpa using SlAt.le ht
 simp only [List.length_map] at hl ht ⊢
 refine Ret_of Tryz.func3 rfl Tryz.ntmps3 (Nat.le_of_ble_eq_true rfl) ?_
 have E : Chg none1 w0 w0 := Chg.refl _ _
 refine Wp_seq_region ?_
 refine s_box (v := (.agg #[(I6 n.states), (I6 n.start), (.slice ea n.ends.length ec), (.slice pa n.eps.length pc), (.slice xa n.edges.length xc)])) (c := #[(I6 n.states), (I6 n.start), (.slice ea n.ends.length ec), (.slice pa n.eps.length pc), (.slice xa n.edges.length xc)]) (by decide) rfl rfl ?_
 intro bn wn Nn
 have Fn := Nn.ge E
 replace E := E.ext Nn.ext
 have Bn := Nn.blk
 refine qA (.bool false) rfl ?_
 refine WpL_nil (Wp_seq_region ?_)
 refine qV (r_loadAgg (vs := [(I6 n.states), (I6 n.start), (.slice ea n.ends.length ec), (.slice pa n.eps.length pc), (.slice xa n.edges.length xc)]) rfl agg26 siz26 rfl (Bn.cells rfl)) ?_
 refine WpL_enter rfl rfl (by decide) (r_callF (vs := [(.agg #[(I6 n.states), (I6 n.start), (.slice ea n.ends.length ec), (.slice pa n.eps.length pc), (.slice xa n.edges.length xc)])]) Tryz.func5 kQ kQ rfl) (rcheckn_c _ n _ (h0.ext E)) ?_
 rintro _ w1 ⟨rfl, X1⟩
 replace Bn := X1.keep Bn
 replace E := E.ext X1
 refine qA (I6 (chkN n)) rfl ?_
 refine WpL_nil (Wp_seq_region ?_)
 refine qV (r_loadAgg (vs := [(I6 n.states), (I6 n.start), (.slice ea n.ends.length ec), (.slice pa n.eps.length pc), (.slice xa n.edges.length xc)]) rfl agg26 siz26 rfl (Bn.cells rfl)) ?_
 refine qM (.slice la l.length lc) rfl ?_
 refine WpL_enter rfl rfl (by decide) (r_callF (vs := [(.agg #[(I6 n.states), (I6 n.start), (.slice ea n.ends.length ec), (.slice pa n.eps.length pc), (.slice xa n.edges.length xc)]), (.slice la l.length lc)]) Tryz.func6 kQ kQ rfl) (nClosure_c _ n _ _ l (h0.ext E) (hl.ext E)) ?_
 rintro _ w2 ⟨⟨qa, qc, q, u1, rfl, hQ, hCl⟩, X2⟩
 replace Bn := X2.keep Bn
 replace E := E.ext X2
 refine qM (.tuple #[(.slice qa q.length qc), (I6 u1)]) rfl ?_
 refine qV (r_extract (vs := #[(.slice qa q.length qc), (I6 u1)]) (v := (.slice qa q.length qc)) rfl rfl) ?_
 refine qV (r_extract (vs := #[(.slice qa q.length qc), (I6 u1)]) (v := (I6 u1)) rfl rfl) ?_
 refine qA (.slice qa q.length qc) rfl ?_
 refine qA (I6 u1) rfl ?_
 refine WpL_nil (Wp_seq_region ?_)
 refine qV (r_loadAgg (vs := [(I6 n.states), (I6 n.start), (.slice ea n.ends.length ec), (.slice pa n.eps.length pc), (.slice xa n.edges.length xc)]) rfl agg26 siz26 rfl (Bn.cells rfl)) ?_
 refine qM (.slice ta text.length tc) rfl ?_
 refine WpL_enter rfl rfl (by decide) (r_callF (vs := [(.agg #[(I6 n.states), (I6 n.start), (.slice ea n.ends.length ec), (.slice pa n.eps.length pc), (.slice xa n.edges.length xc)]), (.slice ta text.length tc)]) Tryz.func7 kQ kQ rfl) (nrun_c _ n _ _ text (h0.ext E) (ht.ext E)) ?_
 rintro _ w3 ⟨⟨b, u2, rfl, hRu⟩, X3⟩
 replace Bn := X3.keep Bn
 replace hQ := hQ.ext X3
 replace E := E.ext X3
 refine qM (.tuple #[(.bool b), (I6 u2)]) rfl ?_
 refine qV (r_extract (vs := #[(.bool b), (I6 u2)]) (v := (.bool b)) rfl rfl) ?_
 refine qV (r_extract (vs := #[(.bool b), (I6 u2)]) (v := (I6 u2)) rfl rfl) ?_
 refine qA (.bool b) rfl ?_
 refine qA (I6 u2) rfl ?_
 refine WpL_nil (Wp_seq_region ?_)
 refine qV (r_loadAgg (vs := [(I6 n.states), (I6 n.start), (.slice ea n.ends.length ec), (.slice pa n.eps.length pc), (.slice xa n.edges.length xc)]) rfl agg26 siz26 rfl (Bn.cells rfl)) ?_
 refine WpL_enter rfl rfl (by decide) (r_callF (vs := [(.agg #[(I6 n.states), (I6 n.start), (.slice ea n.ends.length ec), (.slice pa n.eps.length pc), (.slice xa n.edges.length xc)])]) Tryz.func8 kQ kQ rfl) (bare_c _ n _ (h0.ext E)) ?_
 rintro _ w4 ⟨⟨m1, ea1, ec1, pa1, pc1, xa1, xc1, u3, rfl, hN1, hBa⟩, X4⟩
 replace Bn := X4.keep Bn
 replace hQ := hQ.ext X4
 replace E := E.ext X4
 have hA1 := hN1.at
 refine qM (.tuple #[(.agg #[(I6 m1.states), (I6 m1.start), (.slice ea1 m1.ends.length ec1), (.slice pa1 m1.eps.length pc1), (.slice xa1 m1.edges.length xc1)]), (I6 u3)]) rfl ?_
 refine qV (r_extract (vs := #[(.agg #[(I6 m1.states), (I6 m1.start), (.slice ea1 m1.ends.length ec1), (.slice pa1 m1.eps.length pc1), (.slice xa1 m1.edges.length xc1)]), (I6 u3)]) (v := (.agg #[(I6 m1.states), (I6 m1.start), (.slice ea1 m1.ends.length ec1), (.slice pa1 m1.eps.length pc1), (.slice xa1 m1.edges.length xc1)])) rfl rfl) ?_
 refine qV (r_extract (vs := #[(.agg #[(I6 m1.states), (I6 m1.start), (.slice ea1 m1.ends.length ec1), (.slice pa1 m1.eps.length pc1), (.slice xa1 m1.edges.length xc1)]), (I6 u3)]) (v := (I6 u3)) rfl rfl) ?_
 refine s_allocStore (v := (.agg #[(I6 m1.states), (I6 m1.start), (.slice ea1 m1.ends.length ec1), (.slice pa1 m1.eps.length pc1), (.slice xa1 m1.edges.length xc1)])) (c := #[(I6 m1.states), (I6 m1.start), (.slice ea1 m1.ends.length ec1), (.slice pa1 m1.eps.length pc1), (.slice xa1 m1.edges.length xc1)]) (n := 5) (by decide) zer26 rfl siz26 rfl rfl rfl (by simp [Value.oneCell']) ?_
 intro bp wp Np
 have Fp := Np.ge E
 have Op_bn := Np.lt Bn
 replace Bn := Np.keep Bn
 replace hQ := hQ.ext Np.ext
 replace hA1 := hA1.ext Np.ext
 replace E := E.ext Np.ext
 have Bp := Np.blk
 refine qA (I6 u3) rfl ?_
 refine WpL_nil (Wp_seq_region ?_)
 refine qV (r_loadAgg (vs := [(I6 n.states), (I6 n.start), (.slice ea n.ends.length ec), (.slice pa n.eps.length pc), (.slice xa n.edges.length xc)]) rfl agg26 siz26 rfl (Bn.cells rfl)) ?_
 refine WpL_enter rfl rfl (by decide) (r_callF (vs := [(.agg #[(I6 n.states), (I6 n.start), (.slice ea n.ends.length ec), (.slice pa n.eps.length pc), (.slice xa n.edges.length xc)])]) Tryz.func9 kQ kQ rfl) (nrev_c _ n _ (h0.ext E)) ?_
 rintro _ w5 ⟨⟨m2, ea2, ec2, pa2, pc2, xa2, xc2, u4, rfl, hN2, hRv⟩, X5⟩
 replace Bn := X5.keep Bn
 replace Bp := X5.keep Bp
 replace hQ := hQ.ext X5
 replace hA1 := hA1.ext X5
 replace E := E.ext X5
 have hA2 := hN2.at
 refine qM (.tuple #[(.agg #[(I6 m2.states), (I6 m2.start), (.slice ea2 m2.ends.length ec2), (.slice pa2 m2.eps.length pc2), (.slice xa2 m2.edges.length xc2)]), (I6 u4)]) rfl ?_
 refine qV (r_extract (vs := #[(.agg #[(I6 m2.states), (I6 m2.start), (.slice ea2 m2.ends.length ec2), (.slice pa2 m2.eps.length pc2), (.slice xa2 m2.edges.length xc2)]), (I6 u4)]) (v := (.agg #[(I6 m2.states), (I6 m2.start), (.slice ea2 m2.ends.length ec2), (.slice pa2 m2.eps.length pc2), (.slice xa2 m2.edges.length xc2)])) rfl rfl) ?_
 refine qV (r_extract (vs := #[(.agg #[(I6 m2.states), (I6 m2.start), (.slice ea2 m2.ends.length ec2), (.slice pa2 m2.eps.length pc2), (.slice xa2 m2.edges.length xc2)]), (I6 u4)]) (v := (I6 u4)) rfl rfl) ?_
 refine s_allocStore (v := (.agg #[(I6 m2.states), (I6 m2.start), (.slice ea2 m2.ends.length ec2), (.slice pa2 m2.eps.length pc2), (.slice xa2 m2.edges.length xc2)])) (c := #[(I6 m2.states), (I6 m2.start), (.slice ea2 m2.ends.length ec2), (.slice pa2 m2.eps.length pc2), (.slice xa2 m2.edges.length xc2)]) (n := 5) (by decide) zer26 rfl siz26 rfl rfl rfl (by simp [Value.oneCell']) ?_
 intro br wr Nr
 have Fr := Nr.ge E
 have Or_bn := Nr.lt Bn
 have Or_bp := Nr.lt Bp
 replace Bn := Nr.keep Bn
 replace Bp := Nr.keep Bp
 replace hQ := hQ.ext Nr.ext
 replace hA1 := hA1.ext Nr.ext
 replace hA2 := hA2.ext Nr.ext
 replace E := E.ext Nr.ext
 have Br := Nr.blk
 refine qA (I6 u4) rfl ?_
 refine WpL_nil (Wp_seq (Wp_seq_region ?_))
 refine WpL_enter rfl rfl (by decide) (r_callF (vs := []) Tryz.func10 kQ kQ rfl) (nfabegun_c _) ?_
 rintro _ w6 ⟨rfl, X6⟩
 replace Bn := X6.keep Bn
 replace Bp := X6.keep Bp
 replace Br := X6.keep Br
 replace hQ := hQ.ext X6
 replace hA1 := hA1.ext X6
 replace hA2 := hA2.ext X6
 replace E := E.ext X6
 refine qV (r_not (b := true) rfl) ?_
 refine qM (.bool false) rfl ?_
 refine WpL_guard_yes (oj := _) rfl rfl (by decide) rfl ?_
 refine qV (r_loadAgg (vs := [(I6 n.states), (I6 n.start), (.slice ea n.ends.length ec), (.slice pa n.eps.length pc), (.slice xa n.edges.length xc)]) rfl agg26 siz26 rfl (Bn.cells rfl)) ?_
 refine WpL_guard_yes (oj := _) rfl rfl (by decide) rfl ?_
 refine WpL_enter rfl rfl (by decide) (r_callF (vs := [(.agg #[(I6 n.states), (I6 n.start), (.slice ea n.ends.length ec), (.slice pa n.eps.length pc), (.slice xa n.edges.length xc)])]) Tryz.func11 kQ kQ rfl) (ncheck_c _ n _ (h0.ext E)) ?_
 rintro _ w7 ⟨rfl, X7⟩
 replace Bn := X7.keep Bn
 replace Bp := X7.keep Bp
 replace Br := X7.keep Br
 replace hQ := hQ.ext X7
 replace hA1 := hA1.ext X7
 replace hA2 := hA2.ext X7
 replace E := E.ext X7
 refine WpL_guard_yes (oj := _) rfl rfl (by decide) rfl ?_
 refine qM (I6 (chkN n)) rfl ?_
 refine WpL_guard_yes (oj := _) rfl rfl (by decide) rfl ?_
 refine qV (r_neq (k := .i64) (a := chkN n) (b := chkN n) rfl rfl) ?_
 refine qV (r_pick (b := false) (v := (.bool (decide ((chkN n : Int) ≠ chkN n)))) rfl rfl) ?_
 refine WpL_nil ?_
 have hc1 : (decide ((chkN n : Int) ≠ chkN n)) = false := by simp
 refine Wp_cond_false (congrArg Value.bool hc1) ?_
 refine Wp_skip (thn_normal (Wp_seq (Wp_seq_region ?_)))
 refine qM (I6 (chkN n)) rfl ?_
 refine qV (r_neq (k := .i64) (a := chkN n) (b := 0) rfl rfl) ?_
 refine WpL_nil ?_
 refine Wp_cond (b := decide ((chkN n : Int) ≠ 0)) rfl (fun hs => ?_) (fun hs => ?_)
 ·have khs := hs
  replace hs := of_decide_eq_true hs
  obtain ⟨⟨hq0, hq1⟩, ⟨hb0, hb1⟩, ⟨hm0, hm1⟩, hr0, hr1⟩ := tells_bad hs hCl hRu hBa hRv
  have hst12 : m1.states = 0 ∧ m2.states = 0 := ⟨by rw [hm0]; rfl, by rw [hr0]; rfl⟩
  refine Wp_seq_region ?_
  refine qM (I6 u1) rfl ?_
  refine qM (I6 (chkN n)) rfl ?_
  obtain ⟨e3, he3⟩ : ∃ e, (decide ((u1 : Int) = chkN n)) = e := ⟨_, rfl⟩
  refine qV ((r_eql (k := .i64) (a := u1) (b := chkN n) rfl rfl).trans (by rw [he3]; try rfl)) ?_
  refine qM (.bool e3) rfl ?_
  refine qG (.bool e3) (yU e3 (I6 u2)) (by cases e3 <;> first | exact gA | exact gB | exact .inl ⟨rfl, r_move (v := (I6 u2)) rfl⟩) ?_
  refine qG (.bool e3) (yU e3 (I6 (chkN n))) (by cases e3 <;> first | exact gA | exact gB | exact .inl ⟨rfl, r_move (v := (I6 (chkN n))) rfl⟩) ?_
  obtain ⟨e4, he4⟩ : ∃ e, (decide ((u2 : Int) = chkN n)) = e := ⟨_, rfl⟩
  refine qG (.bool e3) (yU e3 (.bool e4)) (by cases e3 <;> first | exact gA | exact gB | exact .inl ⟨rfl, (r_eql (k := .i64) (a := u2) (b := chkN n) rfl rfl).trans (by rw [he4]; try rfl)⟩) ?_
  obtain ⟨e5, he5⟩ : ∃ e, (e3 && e4) = e := ⟨_, rfl⟩
  refine qV (r_pick (b := e3) (v := .bool e5) rfl (by rw [← he5]; cases e3 <;> rfl)) ?_
  refine qM (.bool e5) rfl ?_
  refine qG (.bool e5) (yU e5 (I6 u3)) (by cases e5 <;> first | exact gA | exact gB | exact .inl ⟨rfl, r_move (v := (I6 u3)) rfl⟩) ?_
  refine qG (.bool e5) (yU e5 (I6 (chkN n))) (by cases e5 <;> first | exact gA | exact gB | exact .inl ⟨rfl, r_move (v := (I6 (chkN n))) rfl⟩) ?_
  obtain ⟨e6, he6⟩ : ∃ e, (decide ((u3 : Int) = chkN n)) = e := ⟨_, rfl⟩
  refine qG (.bool e5) (yU e5 (.bool e6)) (by cases e5 <;> first | exact gA | exact gB | exact .inl ⟨rfl, (r_eql (k := .i64) (a := u3) (b := chkN n) rfl rfl).trans (by rw [he6]; try rfl)⟩) ?_
  obtain ⟨e7, he7⟩ : ∃ e, (e5 && e6) = e := ⟨_, rfl⟩
  refine qV (r_pick (b := e5) (v := .bool e7) rfl (by rw [← he7]; cases e5 <;> rfl)) ?_
  refine qM (.bool e7) rfl ?_
  refine qG (.bool e7) (yU e7 (I6 u4)) (by cases e7 <;> first | exact gA | exact gB | exact .inl ⟨rfl, r_move (v := (I6 u4)) rfl⟩) ?_
  refine qG (.bool e7) (yU e7 (I6 (chkN n))) (by cases e7 <;> first | exact gA | exact gB | exact .inl ⟨rfl, r_move (v := (I6 (chkN n))) rfl⟩) ?_
  obtain ⟨e8, he8⟩ : ∃ e, (decide ((u4 : Int) = chkN n)) = e := ⟨_, rfl⟩
  refine qG (.bool e7) (yU e7 (.bool e8)) (by cases e7 <;> first | exact gA | exact gB | exact .inl ⟨rfl, (r_eql (k := .i64) (a := u4) (b := chkN n) rfl rfl).trans (by rw [he8]; try rfl)⟩) ?_
  obtain ⟨e9, he9⟩ : ∃ e, (e7 && e8) = e := ⟨_, rfl⟩
  refine qV (r_pick (b := e7) (v := .bool e9) rfl (by rw [← he9]; cases e7 <;> rfl)) ?_
  refine qM (.bool e9) rfl ?_
  refine qG (.bool e9) (yU e9 (.slice qa q.length qc)) (by cases e9 <;> first | exact gA | exact gB | exact .inl ⟨rfl, r_move (v := (.slice qa q.length qc)) rfl⟩) ?_
  refine qG (.bool e9) (yU e9 (I6 (q.length : Int))) (by cases e9 <;> first | exact gA | exact gB | exact .inl ⟨rfl, r_lenSlice (ad := qa) (n := q.length) (cap := qc) Tryz.underlying22 rfl⟩) ?_
  obtain ⟨e10, he10⟩ : ∃ e, (decide ((((q.length : Nat) : Int) : Int) = 0)) = e := ⟨_, rfl⟩
  refine qG (.bool e9) (yU e9 (.bool e10)) (by cases e9 <;> first | exact gA | exact gB | exact .inl ⟨rfl, (r_eql (k := .i64) (a := (q.length : Int)) (b := 0) rfl rfl).trans (by rw [he10]; try rfl)⟩) ?_
  obtain ⟨e11, he11⟩ : ∃ e, (e9 && e10) = e := ⟨_, rfl⟩
  refine qV (r_pick (b := e9) (v := .bool e11) rfl (by rw [← he11]; cases e9 <;> rfl)) ?_
  refine qM (.bool e11) rfl ?_
  refine qG (.bool e11) (yU e11 (.bool b)) (by cases e11 <;> first | exact gA | exact gB | exact .inl ⟨rfl, r_move (v := (.bool b)) rfl⟩) ?_
  obtain ⟨e12, he12⟩ : ∃ e, (!b) = e := ⟨_, rfl⟩
  refine qG (.bool e11) (yU e11 (.bool e12)) (by cases e11 <;> first | exact gA | exact gB | exact .inl ⟨rfl, (r_not (b := b) rfl).trans (by rw [he12]; try rfl)⟩) ?_
  obtain ⟨e13, he13⟩ : ∃ e, (e11 && e12) = e := ⟨_, rfl⟩
  refine qV (r_pick (b := e11) (v := .bool e13) rfl (by rw [← he13]; cases e11 <;> rfl)) ?_
  refine qM (.bool e13) rfl ?_
  refine qG (.bool e13) (yU e13 (P6 bp 0)) (by cases e13 <;> first | exact gA | exact gB | exact .inl ⟨rfl, r_fieldAddr (b := bp) (o := 0) (o' := 0) rfl Tryz.underlying26 rfl siz3 rfl⟩) ?_
  refine qG (.bool e13) (yU e13 (I6 m1.states)) (by cases e13 <;> first | exact gA | exact gB | exact .inl ⟨rfl, r_load (v := (I6 m1.states)) rfl flat3 (Bp.cell rfl)⟩) ?_
  refine qG (.bool e13) (yU e13 (P6 br 0)) (by cases e13 <;> first | exact gA | exact gB | exact .inl ⟨rfl, r_fieldAddr (b := br) (o := 0) (o' := 0) rfl Tryz.underlying26 rfl siz3 rfl⟩) ?_
  refine qG (.bool e13) (yU e13 (I6 m2.states)) (by cases e13 <;> first | exact gA | exact gB | exact .inl ⟨rfl, r_load (v := (I6 m2.states)) rfl flat3 (Br.cell rfl)⟩) ?_
  refine qG (.bool e13) (yU e13 (I6 (m1.states + m2.states))) (by cases e13 <;> first | exact gA | exact gB | exact .inl ⟨rfl, r_add (k := .i64) (a := m1.states) (b := m2.states) (c := m1.states + m2.states) rfl rfl (wI64 (by omega))⟩) ?_
  obtain ⟨e14, he14⟩ : ∃ e, (decide ((m1.states + m2.states : Int) = 0)) = e := ⟨_, rfl⟩
  refine qG (.bool e13) (yU e13 (.bool e14)) (by cases e13 <;> first | exact gA | exact gB | exact .inl ⟨rfl, (r_eql (k := .i64) (a := m1.states + m2.states) (b := 0) rfl rfl).trans (by rw [he14]; try rfl)⟩) ?_
  obtain ⟨e15, he15⟩ : ∃ e, (e13 && e14) = e := ⟨_, rfl⟩
  refine qV (r_pick (b := e13) (v := .bool e15) rfl (by rw [← he15]; cases e13 <;> rfl)) ?_
  refine qA (.bool e15) rfl ?_
  refine WpL_nil ?_
  subst he15
  subst he14
  subst he13
  subst he12
  subst he11
  subst he10
  subst he9
  subst he8
  subst he7
  subst he6
  subst he5
  subst he4
  subst he3
  refine Wp_ret (thn_ret ?_)
  refine fin_tmp Tryz.results3 (v := (.bool (((((((decide ((u1 : Int) = chkN n)) && (decide ((u2 : Int) = chkN n))) && (decide ((u3 : Int) = chkN n))) && (decide ((u4 : Int) = chkN n))) && (decide ((((q.length : Nat) : Int) : Int) = 0))) && (!b)) && (decide ((m1.states + m2.states : Int) = 0))))) rfl ?_
  exact ⟨bool_eq (by rw [hq0, hq1, hb0, hb1, hm0, hm1, hr0, hr1]; simp [nf0]), E⟩
 ·have khs := hs
  replace hs := of_decide_eq_false hs
  have hc1 : chkN n = 0 := by simpa using hs
  have E3 : Chg none1 w7 w7 := Chg.refl _ _
  have ok := chkN_zero.1 hc1
  obtain ⟨N, hN⟩ : ∃ N : Nat, n.states = (N : Int) := by have := ok.s0; obtain ⟨a, ha⟩ := Int.eq_ofNat_of_zero_le (show 0 ≤ n.states by omega); exact ⟨a, ha⟩
  have hpl := ok.pl
  have hxl := ok.xl
  refine Wp_skip (thn_normal (Wp_seq_region ?_))
  refine qA (I6 3) rfl ?_
  refine WpL_nil (Wp_seq_region ?_)
  refine qV (r_build (ps := []) (v := (.agg #[(I6 0), (I6 0), (.slice none 0 0), (.slice none 0 0), (.slice none 0 0)])) rfl (by kernel_rfl)) ?_
  refine s_allocStore (v := (.agg #[(I6 0), (I6 0), (.slice none 0 0), (.slice none 0 0), (.slice none 0 0)])) (c := #[(I6 0), (I6 0), (.slice none 0 0), (.slice none 0 0), (.slice none 0 0)]) (n := 5) (by decide) zer26 rfl siz26 rfl rfl rfl (by simp [Value.oneCell']) ?_
  intro bx wx Nx
  have Fx := Nx.ge E
  have Fx_E3 := Nx.ge E3
  have Ox_bn := Nx.lt Bn
  have Ox_bp := Nx.lt Bp
  have Ox_br := Nx.lt Br
  replace Bn := Nx.keep Bn
  replace Bp := Nx.keep Bp
  replace Br := Nx.keep Br
  replace E := E.ext Nx.ext
  have Bx := Nx.blk
  replace E3 := E3.ext Nx.ext
  refine WpL_nil ?_
  refine Wp_cut (fun σ W16 => ∃ (u9 : Int) (m9 : Nf) (fa : Option Addr) (fc : Nat) (ga : Option Addr) (gc : Nat) (ya : Option Addr) (yc i9 j9 k9 : Nat), (∃ jj_, σ = upds jj_ [(1, (.slice la l.length lc)), (2, (.slice ta text.length tc)), (3, (P6 bn 0)), (8, (.slice qa q.length qc)), (9, (I6 u1)), (10, (.bool b)), (11, (I6 u2)), (12, (P6 bp 0)), (13, (I6 u3)), (14, (P6 br 0)), (15, (I6 u4)), (17, (P6 bx 0)), (16, (I6 u9))]) ∧ Chg none1 w0 W16 ∧ Chg none1 w7 W16 ∧ Blk W16 bn #[(I6 n.states), (I6 n.start), (.slice ea n.ends.length ec), (.slice pa n.eps.length pc), (.slice xa n.edges.length xc)] 26 ∧ Blk W16 bp #[(I6 m1.states), (I6 m1.start), (.slice ea1 m1.ends.length ec1), (.slice pa1 m1.eps.length pc1), (.slice xa1 m1.edges.length xc1)] 26 ∧ Blk W16 br #[(I6 m2.states), (I6 m2.start), (.slice ea2 m2.ends.length ec2), (.slice pa2 m2.eps.length pc2), (.slice xa2 m2.edges.length xc2)] 26 ∧ Blk W16 bx (#[Value.int .i64 m9.states, .int .i64 m9.start, .slice fa i9 fc, .slice ga j9 gc, .slice ya k9 yc]) 26 ∧ (i9 = m9.ends.length ∧ j9 = m9.eps.length ∧ k9 = m9.edges.length) ∧ (m9 = wantN n ∧ u9 = wantE n) ∧ (NfAt W16 m9 [.int .i64 m9.states, .int .i64 m9.start, .slice fa m9.ends.length fc, .slice ga m9.eps.length gc, .slice ya m9.edges.length yc])) ?_ ?_
  ·skip
   refine Wp_seq_region ?_
   refine qF bn 0 2 rfl Tryz.underlying26 rfl siz22 rfl ?_
   refine qV (r_load (v := (.slice ea n.ends.length ec)) rfl flat22 (Bn.cell rfl)) ?_
   refine qV (r_lenSlice (ad := ea) (n := n.ends.length) (cap := ec) Tryz.underlying22 rfl) ?_
   refine qV (r_eql (k := .i64) (a := (n.ends.length : Int)) (b := 1) rfl rfl) ?_
   refine WpL_nil ?_
   refine Wp_cond (b := decide (((n.ends.length : Int) : Int) = 1)) rfl (fun hlen => ?_) (fun hlen => ?_)
   ·have khlen := hlen
    replace hlen := of_decide_eq_true hlen
    obtain ⟨x, hx⟩ : ∃ x, n.ends = [x] := by match h9 : n.ends, hlen with | [x], _ => exact ⟨x, rfl⟩ | [], h8 => simp at h8 | _ :: _ :: _, h8 => simp at h8; omega
    have hwn : wantN n = n.rev x ∧ wantE n = 0 := by unfold wantN wantE; rw [hx]; exact ⟨rfl, rfl⟩
    obtain ⟨eb, eo, rfl, hec⟩ := ints_cells hen (by omega)
    have hec0 := hec 0 x (by rw [hx]; rfl)
    obtain ⟨z0, hz0⟩ : ∃ z0, z0 = (wx).heap.size := ⟨_, rfl⟩
    refine Wp_seq_region ?_
    refine qA (I6 0) rfl ?_
    refine WpL_nil ?_
    have hz_18 : w0.heap.size ≤ wx.heap.size := E.size
    have lz_18_bn : bn < wx.heap.size := Bn.lt
    have lz_18_bp : bp < wx.heap.size := Bp.lt
    have lz_18_br : br < wx.heap.size := Br.lt
    have lz_18_bx : bx < wx.heap.size := Bx.lt
    refine Wp_seq ?_
    obtain ⟨Fs18, hFs18⟩ : ∃ Fs : List FctS, Fs = [(eF (P6 bn 0)), (eF (I6 n.states)), (eF (P6 bn 2)), (eF (.slice (some ⟨eb, eo, none⟩) n.ends.length ec)), (eF (.pointer (some ⟨eb, eo + 0, none⟩))), (eF (I6 x)), (eF (P6 bn 1)), (eF (I6 n.start)), (fun _ _ => litF TDI #[.int .i64 n.start] z0), (fun _ _ => rvG n.states x n.start z0), (eF undef)] := ⟨_, rfl⟩
    refine Wp_dagS (MsL []) [true, true, true, true, true, true, true, true, true, true, false] [10] [100, 101, 102, 103, 104, 105, 106, 107, 108, 109, 263] [[], [0], [], [2], [3], [4], [], [6], [7], [1, 5, 8], []] [[], [0], [], [2], [3, 2], [4, 3, 2], [], [6], [7, 6], [1, 0, 5, 4, 3, 2, 8, 7, 6], []] Fs18 hFs18 (by kernel_rfl) mixed (by kernel_rfl) (by kernel_rfl) (by kernel_rfl) (by kernel_rfl) ?_ ?_
    ·intro wd X0
     refine qZ (fun S s' w' hi hN X U V H => ?_) ?_
     ·replace X := xN0 X
      exact DoesT_pure (r_fieldAddr (b := bn) (o := 0) (o' := 0) (U 3 rfl) Tryz.underlying26 rfl siz3 rfl) rfl
     refine qZ (fun S s' w' hi hN X U V H => ?_) ?_
     ·replace X := xN0 X
      have e100 := (H 0 rfl).2 100 _ rfl (by rw [hFs18]; rfl)
      exact DoesT_pure (r_load (v := (I6 n.states)) e100 flat3 (((X0.trans X).keep Bn).cell rfl)) rfl
     refine qZ (fun S s' w' hi hN X U V H => ?_) ?_
     ·replace X := xN0 X
      exact DoesT_pure (r_fieldAddr (b := bn) (o := 0) (o' := 2) (U 3 rfl) Tryz.underlying26 rfl siz22 rfl) rfl
     refine qZ (fun S s' w' hi hN X U V H => ?_) ?_
     ·replace X := xN0 X
      have e102 := (H 2 rfl).2 102 _ rfl (by rw [hFs18]; rfl)
      exact DoesT_pure (r_load (v := (.slice (some ⟨eb, eo, none⟩) n.ends.length ec)) e102 flat22 (((X0.trans X).keep Bn).cell rfl)) rfl
     refine qZ (fun S s' w' hi hN X U V H => ?_) ?_
     ·replace X := xN0 X
      have e103 := (H 3 rfl).2 103 _ rfl (by rw [hFs18]; rfl)
      exact DoesT_pure (r_indexSlice (b := eb) (o := eo) (len := n.ends.length) (cap := ec) (i := 0) (o' := eo + 0) e103 rfl rfl Tryz.underlying22 siz3 (by omega) (by omega)) rfl
     refine qZ (fun S s' w' hi hN X U V H => ?_) ?_
     ·replace X := xN0 X
      have e104 := (H 4 rfl).2 104 _ rfl (by rw [hFs18]; rfl)
      exact DoesT_pure (r_load (v := (I6 x)) e104 flat3 (by simpa using (Chg.ext E (X0.trans X)).cell (fun f => f) hec0)) rfl
     refine qZ (fun S s' w' hi hN X U V H => ?_) ?_
     ·replace X := xN0 X
      exact DoesT_pure (r_fieldAddr (b := bn) (o := 0) (o' := 1) (U 3 rfl) Tryz.underlying26 rfl siz3 rfl) rfl
     refine qZ (fun S s' w' hi hN X U V H => ?_) ?_
     ·replace X := xN0 X
      have e106 := (H 6 rfl).2 106 _ rfl (by rw [hFs18]; rfl)
      exact DoesT_pure (r_load (v := (I6 n.start)) e106 flat3 (((X0.trans X).keep Bn).cell rfl)) rfl
     refine DagStepsS.cons (StabS.chg (U := none1) (litF_ext _ _ _) (fun p y hp hw h => by
        exact h.elim)) (LocS.const) (fun S s' w' hi hN X U V H => Or.inl ⟨Guarded_none rfl, ?_⟩) ?_
     ·replace X := xN0 X
      have e107 := (H 7 rfl).2 107 _ rfl (by rw [hFs18]; rfl)
      exact DoesT_lit (hs := z0) Tryz.underlying22 siz3 zer3 e107 (by decide) (by decide) (by kernel_rfl) (by have := X0.size; have := X.size; omega)
     refine DagStepsS.cons (StabS.chg (U := none1) (rvG_ext) (fun p y hp hw h => by
        exact h.elim)) (LocS.const) (fun S s' w' hi hN X U V H => Or.inl ⟨Guarded_none rfl, ?_⟩) ?_
     ·replace X := xN0 X
      have e101 := (H 1 rfl).2 101 _ rfl (by rw [hFs18]; rfl)
      have e105 := (H 5 rfl).2 105 _ rfl (by rw [hFs18]; rfl)
      obtain ⟨b108, e108, B108, g108⟩ := (show ((fun _ _ => litF TDI #[.int .i64 n.start] z0) : FctS) S s' (s' 108) w' from (H 8 rfl).2 108 (fun _ _ => litF TDI #[.int .i64 n.start] z0) rfl (by rw [hFs18]; rfl))
      exact DoesT_pure (r_build (ps := [(0, .int .i64 n.states), (1, .int .i64 x), (2, .slice (some ⟨b108, 0, none⟩) 1 1)]) (v := .agg #[.int .i64 n.states, .int .i64 x, .slice (some ⟨b108, 0, none⟩) 1 1, .slice none 0 0, .slice none 0 0]) (bld3 e101 e105 e108) (by kernel_rfl)) ⟨b108, rfl, B108, g108⟩
     refine DagStepsS.tail ?_
     exact DagStepsS.nil
    ·intro s' wd18 w18 X0 X18 U H
     replace X18 := X18.mono (M' := none1) (fun y _ h => by
       obtain ⟨j, hj, h⟩ := h
       exact h.elim)
     obtain ⟨b109, e109, B109, g109⟩ := (show ((fun _ _ => rvG n.states x n.start z0) : FctS) (allS [true, true, true, true, true, true, true, true, true, true, false]) s' (s' 109) w18 from H 9 rfl 109 (fun _ _ => rvG n.states x n.start z0) rfl (by rw [hFs18]; rfl))
     obtain ⟨j18, rfl⟩ := Fits.out (σ := s') (l := [(1, (.slice la l.length lc)), (2, (.slice ta text.length tc)), (3, (.pointer (some ⟨bn, 0, none⟩))), (8, (.slice qa q.length qc)), (9, (.int .i64 u1)), (10, (.bool b)), (11, (.int .i64 u2)), (12, (.pointer (some ⟨bp, 0, none⟩))), (13, (.int .i64 u3)), (14, (.pointer (some ⟨br, 0, none⟩))), (15, (.int .i64 u4)), (16, (.int .i64 0)), (17, (.pointer (some ⟨bx, 0, none⟩))), (109, (.agg #[(.int .i64 n.states), (.int .i64 x), (.slice (some ⟨b109, 0, none⟩) 1 1), (.slice none 0 0), (.slice none 0 0)]))]) ⟨U 1 rfl, U 2 rfl, U 3 rfl, U 8 rfl, U 9 rfl, U 10 rfl, U 11 rfl, U 12 rfl, U 13 rfl, U 14 rfl, U 15 rfl, U 16 rfl, U 17 rfl, e109, trivial⟩
     clear U H
     replace Bn := (X0.trans X18).keep Bn
     replace Bp := (X0.trans X18).keep Bp
     replace Br := (X0.trans X18).keep Br
     replace Bx := (X0.trans X18).keep Bx
     replace X18 := X0.trans X18
     replace E := E.ext X18
     replace E3 := E3.ext X18
     have hne5 : b109 ≠ bx := fun e => by have h8 := B109; rw [e] at h8; unfold Blk at h8 Bx; rw [h8] at Bx; simp at Bx
     refine s_storeAgg (b := bx) (o := 0) (c' := #[(I6 n.states), (I6 x), (.slice (some ⟨b109, 0, none⟩) 1 1), (.slice none 0 0), (.slice none 0 0)]) rfl rfl (by simp [Value.oneCell']) siz26 rfl Bx (by first | (simp; done) | exact Nat.le_of_ble_eq_true rfl) rfl ?_
     intro w19 S19
     replace Bn := S19.keep (by omega) Bn
     replace Bp := S19.keep (by omega) Bp
     replace Br := S19.keep (by omega) Br
     replace B109 := S19.keep (by omega) B109
     replace E := S19.step E (by first | exact Or.inl (by omega) | exact Or.inr rfl | exact Or.inr (by assumption) | exact Or.inr (by simp) | exact Or.inr (by omega) | exact Or.inr (by dsimp only; omega))
     replace E3 := S19.step E3 (Or.inl (by omega))
     replace Bx := S19.blk
     refine WpL_nil (thn_normal (Wp_seq (Wp_seq_region ?_)))
     refine qF bn 0 3 rfl Tryz.underlying26 rfl siz23 rfl ?_
     refine qV (r_load (v := (.slice pa n.eps.length pc)) rfl flat23 (Bn.cell rfl)) ?_
     refine qV (r_lenSlice (ad := pa) (n := n.eps.length) (cap := pc) Tryz.underlying23 rfl) ?_
     refine qM (I6 0) rfl ?_
     refine WpL_nil (Wp_block ?_)
     obtain ⟨n3, hn3e⟩ : ∃ n3, n3 = (w19).heap.size := ⟨_, rfl⟩
     have hb3 : bx < n3 ∧ br < n3 ∧ bn < n3 ∧ bp < n3 ∧ b109 < n3 ∧ w0.heap.size ≤ n3 := ⟨by rw [hn3e]; exact Bx.lt, by rw [hn3e]; exact Br.lt, by rw [hn3e]; exact Bn.lt, by rw [hn3e]; exact Bp.lt, by rw [hn3e]; exact B109.lt, by rw [hn3e]; exact E.size⟩
     refine Wp_loop (fun nn_ σ W20 => ∃ (k : Nat) (pa5 : Option Addr) (pc5 : Nat), (∃ jj_, σ = upds jj_ [(1, (.slice la l.length lc)), (2, (.slice ta text.length tc)), (3, (P6 bn 0)), (8, (.slice qa q.length qc)), (9, (I6 u1)), (10, (.bool b)), (11, (I6 u2)), (12, (P6 bp 0)), (13, (I6 u3)), (14, (P6 br 0)), (15, (I6 u4)), (16, (I6 0)), (17, (P6 bx 0)), (111, (.slice pa n.eps.length pc)), (112, (I6 (n.eps.length : Int))), (113, (I6 (k : Int)))]) ∧ Chg none1 w0 W20 ∧ Chg none1 w7 W20 ∧ Blk W20 bn #[(I6 n.states), (I6 n.start), (.slice (some ⟨eb, eo, none⟩) n.ends.length ec), (.slice pa n.eps.length pc), (.slice xa n.edges.length xc)] 26 ∧ Blk W20 bp #[(I6 m1.states), (I6 m1.start), (.slice ea1 m1.ends.length ec1), (.slice pa1 m1.eps.length pc1), (.slice xa1 m1.edges.length xc1)] 26 ∧ Blk W20 br #[(I6 m2.states), (I6 m2.start), (.slice ea2 m2.ends.length ec2), (.slice pa2 m2.eps.length pc2), (.slice xa2 m2.edges.length xc2)] 26 ∧ Blk W20 bx (#[Value.int .i64 n.states, .int .i64 x, .slice (some ⟨b109, 0, none⟩) 1 1, .slice pa5 k pc5, .slice none 0 0]) 26 ∧ Blk W20 b109 #[(I6 n.start)] TDI ∧ (k ≤ n.eps.length) ∧ (W20.ownsRow n3 TPr 2 (.slice pa5 k pc5) k (((n.eps.take k).map swp).map spanV).flatten) ∧ (n3 ≤ W20.heap.size) ∧ nn_ = n.eps.length - k) (n := n.eps.length - 0) ?_ ?_
     ·exact ⟨0, none, 0, Fits.out ⟨rfl, rfl, rfl, rfl, rfl, rfl, rfl, rfl, rfl, rfl, rfl, rfl, rfl, rfl, rfl, rfl, trivial⟩, E, E3, Bn, Bp, Br, Bx, B109, Nat.zero_le _, World.ownsRow_nil _ _ _ _, (by omega), rfl⟩
     ·clear E E3 Bn Bp Br Bx B109
      rintro _ _ W20 ⟨k, pa5, pc5, ⟨j20, rfl⟩, E, E3, Bn, Bp, Br, Bx, B109, hk, hown, hs3, rfl⟩
      refine Wp_seq_region ?_
      refine qV (r_lss (k := .i64) (a := (k : Int)) (b := (n.eps.length : Int)) rfl rfl) ?_
      refine WpL_nil (Wp_seq ?_)
      refine Wp_cond (b := decide (((k : Int) : Int) < (n.eps.length : Int))) rfl (fun hlt => ?_) (fun hlt => ?_)
      ·have khlt := hlt
       replace hlt := of_decide_eq_true hlt
       obtain ⟨p, hp⟩ := get_of_lt (l := n.eps) (i := k) (by omega)
       obtain ⟨pb, po, rfl, hpc⟩ := spans_cells hep (by omega)
       refine Wp_skip (thn_normal (Wp_seq (Wp_block (Wp_seq_region ?_))))
       refine qV (r_indexSlice (b := pb) (o := po) (len := n.eps.length) (cap := pc) (i := k) (o' := po + k * 2) rfl rfl rfl Tryz.underlying23 siz36 (by omega) (by omega)) ?_
       refine qV (r_loadAgg (vs := [(I6 p.1), (I6 p.2)]) rfl agg36 siz36 rfl ((hpc k p hp).ext E)) ?_
       refine s_allocStore (v := (.agg #[(I6 p.1), (I6 p.2)])) (c := #[(I6 p.1), (I6 p.2)]) (n := 2) (by decide) zer36 rfl siz36 rfl rfl rfl (by simp [Value.oneCell']) ?_
       intro bu wu Nu
       have Fu := Nu.ge E
       have Fu_E3 := Nu.ge E3
       have Ou_bn := Nu.lt Bn
       have Ou_bp := Nu.lt Bp
       have Ou_br := Nu.lt Br
       have Ou_bx := Nu.lt Bx
       have Ou_b109 := Nu.lt B109
       replace Bn := Nu.keep Bn
       replace Bp := Nu.keep Bp
       replace Br := Nu.keep Br
       replace Bx := Nu.keep Bx
       replace B109 := Nu.keep B109
       replace hown := own_ext hown Nu.ext
       replace hs3 := Nat.le_trans hs3 Nu.ext.size
       replace E := E.ext Nu.ext
       have Bu := Nu.blk
       replace E3 := E3.ext Nu.ext
       refine WpL_nil (Wp_region ?_)
       refine qF bx 0 3 rfl Tryz.underlying26 rfl siz23 rfl ?_
       refine qV (r_load (v := (.slice pa5 k pc5)) rfl flat23 (Bx.cell rfl)) ?_
       refine qV (r_indexArr (b := bu) (o := 0) (i := 1) (o' := 1) rfl rfl rfl Tryz.underlying36 siz3 (by omega) (by omega)) ?_
       refine qV (r_load (v := (I6 p.2)) rfl flat3 (Bu.cell rfl)) ?_
       refine qV (r_indexArr (b := bu) (o := 0) (i := 0) (o' := 0) rfl rfl rfl Tryz.underlying36 siz3 (by omega) (by omega)) ?_
       refine qV (r_load (v := (I6 p.1)) rfl flat3 (Bu.cell rfl)) ?_
       refine qV (r_build (ps := [(0, (I6 p.2)), (1, (I6 p.1))]) (v := (.agg #[(I6 p.2), (I6 p.1)])) rfl (by kernel_rfl)) ?_
       refine s_buildSlice (ps := [(0, (.agg #[(I6 p.2), (I6 p.1)]))]) (c := #[(I6 p.2), (I6 p.1)]) (by decide) rfl Tryz.underlying23 siz36 zer36 (by decide) (by decide) (by kernel_rfl) ?_
       intro bv wv Nv
       have Fv := Nv.ge E
       have Fv_E3 := Nv.ge E3
       have Ov_bn := Nv.lt Bn
       have Ov_bp := Nv.lt Bp
       have Ov_br := Nv.lt Br
       have Ov_bx := Nv.lt Bx
       have Ov_b109 := Nv.lt B109
       have Ov_bu := Nv.lt Bu
       replace Bn := Nv.keep Bn
       replace Bp := Nv.keep Bp
       replace Br := Nv.keep Br
       replace Bx := Nv.keep Bx
       replace B109 := Nv.keep B109
       replace Bu := Nv.keep Bu
       replace hown := own_ext hown Nv.ext
       replace hs3 := Nat.le_trans hs3 Nv.ext.size
       replace E := E.ext Nv.ext
       have Bv := Nv.blk
       replace E3 := E3.ext Nv.ext
       refine s_append (base := n3) (n := k) (m := 1) (xs := (((n.eps.take k).map swp).map spanV).flatten) (news := [(I6 p.2), (I6 p.1)]) (size := 2) (bytes := 16) (v := (.slice pa5 k pc5)) (by decide) Tryz.underlying23 siz36 byt36 zer36 rfl (by decide) rfl hown rfl (rfl) (Bv.cells rfl) (by simp [Value.oneCell']) (by unfold maxLen; omega) (by omega) (hs3) ?_
       intro v7 w59 Ov7 Cv7 Dv7
       replace Bn := Cv7.keep (fun h => by have := (hown.lt _ h).1; omega) Bn
       replace Bp := Cv7.keep (fun h => by have := (hown.lt _ h).1; omega) Bp
       replace Br := Cv7.keep (fun h => by have := (hown.lt _ h).1; omega) Br
       replace Bx := Cv7.keep (fun h => by have := (hown.lt _ h).1; omega) Bx
       replace B109 := Cv7.keep (fun h => by have := (hown.lt _ h).1; omega) B109
       replace E := E.step Cv7 (fun x hx h => absurd (hown.lt x h).1 (by omega))
       replace E3 := E3.step Cv7 (fun x hx h => absurd (hown.lt x h).1 (by omega))
       obtain ⟨pa3, pc3, rfl⟩ := own_form Ov7
       have hO7 := Ov7
       have hs7 := Nat.le_trans hs3 Cv7.size
       refine qF bx 0 3 rfl Tryz.underlying26 rfl siz23 rfl ?_
       refine s_store (b := bx) (o := 3) (c' := #[(I6 n.states), (I6 x), (.slice (some ⟨b109, 0, none⟩) 1 1), (.slice pa3 (k + 1) pc3), (.slice none 0 0)]) (v := (.slice pa3 (k + 1) pc3)) rfl rfl rfl siz23 Bx (by simp) rfl ?_
       intro w22 S22
       replace hO7 := own_chg hO7 S22.chg fun y hy h => by have h' : y = bx := h; have := (hO7.lt y hy).1; omega
       replace hs7 := Nat.le_trans hs7 S22.chg.size
       replace Bn := S22.keep (by omega) Bn
       replace Bp := S22.keep (by omega) Bp
       replace Br := S22.keep (by omega) Br
       replace B109 := S22.keep (by omega) B109
       replace E := S22.step E (by first | exact Or.inl (by omega) | exact Or.inr rfl | exact Or.inr (by assumption) | exact Or.inr (by simp) | exact Or.inr (by omega) | exact Or.inr (by dsimp only; omega))
       replace E3 := S22.step E3 (Or.inl (by omega))
       replace Bx := S22.blk
       refine WpL_nil (inB_normal (thn_normal (Wp_region ?_)))
       refine qV (r_add (k := .i64) (a := (k : Int)) (b := 1) (c := (k : Int) + 1) rfl rfl (wI64 (by omega))) ?_
       refine qM (I6 ((k : Int) + 1)) rfl ?_
       refine WpL_nil (thn_normal ?_)
       exact ⟨n.eps.length - (k + 1), by omega, k + 1, pa3, pc3, Fits.out ⟨rfl, rfl, rfl, rfl, rfl, rfl, rfl, rfl, rfl, rfl, rfl, rfl, rfl, rfl, rfl, rfl, trivial⟩, E, E3, Bn, Bp, Br, Bx, B109, (by omega), (by rw [map_take swp hp]; simpa [spanV, List.map_append, List.flatten_append] using hO7), hs7, rfl⟩
      ·have khlt := hlt
       replace hlt := of_decide_eq_false hlt
       have hkk : k = n.eps.length := by omega
       subst hkk
       rw [List.take_length] at hown
       refine Wp_exit (thn_exit (thn_exit (inB_here (thn_normal (Wp_seq_region ?_)))))
       refine qF bn 0 4 rfl Tryz.underlying26 rfl siz24 rfl ?_
       refine qV (r_load (v := (.slice xa n.edges.length xc)) rfl flat24 (Bn.cell rfl)) ?_
       refine qV (r_lenSlice (ad := xa) (n := n.edges.length) (cap := xc) Tryz.underlying24 rfl) ?_
       refine qM (I6 0) rfl ?_
       refine WpL_nil (Wp_block ?_)
       refine Wp_loop (fun nn_ σ W23 => ∃ (j : Nat) (ya5 : Option Addr) (yc5 : Nat), (∃ jj_, σ = upds jj_ [(1, (.slice la l.length lc)), (2, (.slice ta text.length tc)), (3, (P6 bn 0)), (8, (.slice qa q.length qc)), (9, (I6 u1)), (10, (.bool b)), (11, (I6 u2)), (12, (P6 bp 0)), (13, (I6 u3)), (14, (P6 br 0)), (15, (I6 u4)), (16, (I6 0)), (17, (P6 bx 0)), (129, (.slice xa n.edges.length xc)), (130, (I6 (n.edges.length : Int))), (131, (I6 (j : Int)))]) ∧ Chg none1 w0 W23 ∧ Chg none1 w7 W23 ∧ Blk W23 bn #[(I6 n.states), (I6 n.start), (.slice (some ⟨eb, eo, none⟩) n.ends.length ec), (.slice pa n.eps.length pc), (.slice xa n.edges.length xc)] 26 ∧ Blk W23 bp #[(I6 m1.states), (I6 m1.start), (.slice ea1 m1.ends.length ec1), (.slice pa1 m1.eps.length pc1), (.slice xa1 m1.edges.length xc1)] 26 ∧ Blk W23 br #[(I6 m2.states), (I6 m2.start), (.slice ea2 m2.ends.length ec2), (.slice pa2 m2.eps.length pc2), (.slice xa2 m2.edges.length xc2)] 26 ∧ Blk W23 bx (#[Value.int .i64 n.states, .int .i64 x, .slice (some ⟨b109, 0, none⟩) 1 1, .slice pa5 n.eps.length pc5, .slice ya5 j yc5]) 26 ∧ Blk W23 b109 #[(I6 n.start)] TDI ∧ (j ≤ n.edges.length) ∧ (W23.ownsRow n3 TPr 2 (.slice pa5 n.eps.length pc5) n.eps.length ((n.eps.map swp).map spanV).flatten) ∧ (EdO w0.heap.size W23 n3 (.slice ya5 j yc5) ((n.edges.take j).map swe)) ∧ (n3 ≤ W23.heap.size) ∧ nn_ = n.edges.length - j) (n := n.edges.length - 0) ?_ ?_
       ·exact ⟨0, none, 0, Fits.out ⟨rfl, rfl, rfl, rfl, rfl, rfl, rfl, rfl, rfl, rfl, rfl, rfl, rfl, rfl, rfl, rfl, trivial⟩, E, E3, Bn, Bp, Br, Bx, B109, Nat.zero_le _, hown, EdO.nil _ _ _, hs3, rfl⟩
       ·clear E E3 Bn Bp Br Bx B109
        rintro _ _ W23 ⟨j, ya5, yc5, ⟨j23, rfl⟩, E, E3, Bn, Bp, Br, Bx, B109, hj, hown2, hX, hs4, rfl⟩
        refine Wp_seq_region ?_
        refine qV (r_lss (k := .i64) (a := (j : Int)) (b := (n.edges.length : Int)) rfl rfl) ?_
        refine WpL_nil (Wp_seq ?_)
        refine Wp_cond (b := decide (((j : Int) : Int) < (n.edges.length : Int))) rfl (fun hlt2 => ?_) (fun hlt2 => ?_)
        ·have khlt2 := hlt2
         replace hlt2 := of_decide_eq_true hlt2
         obtain ⟨e, he⟩ := get_of_lt (l := n.edges) (i := j) (by omega)
         obtain ⟨xb, xo, rfl, hxc⟩ := edges_cells hed (by omega)
         obtain ⟨ra, rc, hcell, hsp⟩ := hxc j e he
         have E4 : Chg none1 W23 W23 := Chg.refl _ _
         refine Wp_skip (thn_normal (Wp_seq (Wp_block (Wp_seq_region ?_))))
         refine qV (r_indexSlice (b := xb) (o := xo) (len := n.edges.length) (cap := xc) (i := j) (o' := xo + j * 3) rfl rfl rfl Tryz.underlying24 siz39 (by omega) (by omega)) ?_
         refine qV (r_loadAgg (vs := [(I6 e.1), (I6 e.2.1), (.slice ra e.2.2.length rc)]) rfl agg39 siz39 rfl (hcell.ext E)) ?_
         refine s_allocStore (v := (.agg #[(I6 e.1), (I6 e.2.1), (.slice ra e.2.2.length rc)])) (c := #[(I6 e.1), (I6 e.2.1), (.slice ra e.2.2.length rc)]) (n := 3) (by decide) zer39 rfl siz39 rfl rfl rfl (by simp [Value.oneCell']) ?_
         intro bu wu Nu
         have Fu := Nu.ge E
         have Fu_E3 := Nu.ge E3
         have Fu_E4 := Nu.ge E4
         have Ou_bn := Nu.lt Bn
         have Ou_bp := Nu.lt Bp
         have Ou_br := Nu.lt Br
         have Ou_bx := Nu.lt Bx
         have Ou_b109 := Nu.lt B109
         replace Bn := Nu.keep Bn
         replace Bp := Nu.keep Bp
         replace Br := Nu.keep Br
         replace Bx := Nu.keep Bx
         replace B109 := Nu.keep B109
         replace E := E.ext Nu.ext
         have Bu := Nu.blk
         replace E3 := E3.ext Nu.ext
         replace E4 := E4.ext Nu.ext
         refine WpL_nil (Wp_region ?_)
         refine qF bx 0 4 rfl Tryz.underlying26 rfl siz24 rfl ?_
         refine qV (r_load (v := (.slice ya5 j yc5)) rfl flat24 (Bx.cell rfl)) ?_
         refine qF bu 0 1 rfl Tryz.underlying39 rfl siz3 rfl ?_
         refine qV (r_load (v := (I6 e.2.1)) rfl flat3 (Bu.cell rfl)) ?_
         refine qF bu 0 0 rfl Tryz.underlying39 rfl siz3 rfl ?_
         refine qV (r_load (v := (I6 e.1)) rfl flat3 (Bu.cell rfl)) ?_
         refine qF bu 0 2 rfl Tryz.underlying39 rfl siz37 rfl ?_
         refine qV (r_load (v := (.slice ra e.2.2.length rc)) rfl flat37 (Bu.cell rfl)) ?_
         refine qV (r_build (ps := [(0, (I6 e.2.1)), (1, (I6 e.1)), (2, (.slice ra e.2.2.length rc))]) (v := (.agg #[(I6 e.2.1), (I6 e.1), (.slice ra e.2.2.length rc)])) rfl (by kernel_rfl)) ?_
         refine s_buildSlice (ps := [(0, (.agg #[(I6 e.2.1), (I6 e.1), (.slice ra e.2.2.length rc)]))]) (c := #[(I6 e.2.1), (I6 e.1), (.slice ra e.2.2.length rc)]) (by decide) rfl Tryz.underlying24 siz39 zer39 (by decide) (by decide) (by kernel_rfl) ?_
         intro bv wv Nv
         have Fv := Nv.ge E
         have Fv_E3 := Nv.ge E3
         have Fv_E4 := Nv.ge E4
         have Ov_bn := Nv.lt Bn
         have Ov_bp := Nv.lt Bp
         have Ov_br := Nv.lt Br
         have Ov_bx := Nv.lt Bx
         have Ov_b109 := Nv.lt B109
         have Ov_bu := Nv.lt Bu
         replace Bn := Nv.keep Bn
         replace Bp := Nv.keep Bp
         replace Br := Nv.keep Br
         replace Bx := Nv.keep Bx
         replace B109 := Nv.keep B109
         replace Bu := Nv.keep Bu
         replace E := E.ext Nv.ext
         have Bv := Nv.blk
         replace E3 := E3.ext Nv.ext
         replace E4 := E4.ext Nv.ext
         replace hX := hX.ext E4
         replace hown2 := own_ext hown2 E4
         replace hs4 := Nat.le_trans hs4 E4.size
         obtain ⟨rows, hoX, hrX⟩ := hX
         have hlX : ((n.edges.take j).map swe).length = j := by rw [List.length_map, List.length_take]; omega
         rw [hlX] at hoX
         refine s_append (base := n3) (n := j) (m := 1) (xs := rows.flatten) (news := [(I6 e.2.1), (I6 e.1), (.slice ra e.2.2.length rc)]) (size := 3) (bytes := 40) (v := (.slice ya5 j yc5)) (by decide) Tryz.underlying24 siz39 byt39 zer39 rfl (by decide) rfl hoX rfl (rfl) (Bv.cells rfl) (by simp [Value.oneCell']) (by unfold maxLen; omega) (by omega) (hs4) ?_
         intro v8 w69 Ov8 Cv8 Dv8
         replace Bn := Cv8.keep (fun h => by have := (hoX.lt _ h).1; omega) Bn
         replace Bp := Cv8.keep (fun h => by have := (hoX.lt _ h).1; omega) Bp
         replace Br := Cv8.keep (fun h => by have := (hoX.lt _ h).1; omega) Br
         replace Bx := Cv8.keep (fun h => by have := (hoX.lt _ h).1; omega) Bx
         replace B109 := Cv8.keep (fun h => by have := (hoX.lt _ h).1; omega) B109
         replace E := E.step Cv8 (fun x hx h => absurd (hoX.lt x h).1 (by omega))
         replace E3 := E3.step Cv8 (fun x hx h => absurd (hoX.lt x h).1 (by omega))
         obtain ⟨ya3, yc3, rfl⟩ := own_form Ov8
         have hE9 : EdO w0.heap.size w69 n3 (.slice ya3 (j + 1) yc3) ((n.edges.take j).map swe ++ [swe e]) := by have h9 := EdO.push (e := swe e) (base := n3) hrX hlX.symm Cv8 (fun k hk => by have := (hoX.lt k hk).1; omega) Ov8 hsp (Nat.le_refl _) E; exact h9
         have hO9 := own_chg hown2 Cv8 fun k hk h => own_other hown2 hoX (by decide) hk h
         have hs9 := Nat.le_trans hs4 Cv8.size
         have hEl := hE9.lt
         refine qF bx 0 4 rfl Tryz.underlying26 rfl siz24 rfl ?_
         refine s_store (b := bx) (o := 4) (c' := #[(I6 n.states), (I6 x), (.slice (some ⟨b109, 0, none⟩) 1 1), (.slice pa5 n.eps.length pc5), (.slice ya3 (j + 1) yc3)]) (v := (.slice ya3 (j + 1) yc3)) rfl rfl rfl siz24 Bx (by simp) rfl ?_
         intro w25 S25
         replace hE9 := hE9.chg S25.chg (fun y h => by have h' : y = _ := h; omega) (fun k hk h => by have h' : k = _ := h; have := (hEl k hk).1; omega)
         replace hO9 := own_chg hO9 S25.chg fun y hy h => by have h' : y = _ := h; have := (hO9.lt y hy).1; omega
         replace hs9 := Nat.le_trans hs9 S25.chg.size
         replace Bn := S25.keep (by omega) Bn
         replace Bp := S25.keep (by omega) Bp
         replace Br := S25.keep (by omega) Br
         replace B109 := S25.keep (by omega) B109
         replace E := S25.step E (by first | exact Or.inl (by omega) | exact Or.inr rfl | exact Or.inr (by assumption) | exact Or.inr (by simp) | exact Or.inr (by omega) | exact Or.inr (by dsimp only; omega))
         replace E3 := S25.step E3 (Or.inl (by omega))
         replace Bx := S25.blk
         refine WpL_nil (inB_normal (thn_normal (Wp_region ?_)))
         refine qV (r_add (k := .i64) (a := (j : Int)) (b := 1) (c := (j : Int) + 1) rfl rfl (wI64 (by omega))) ?_
         refine qM (I6 ((j : Int) + 1)) rfl ?_
         refine WpL_nil (thn_normal ?_)
         exact ⟨n.edges.length - (j + 1), by omega, j + 1, ya3, yc3, Fits.out ⟨rfl, rfl, rfl, rfl, rfl, rfl, rfl, rfl, rfl, rfl, rfl, rfl, rfl, rfl, rfl, rfl, trivial⟩, E, E3, Bn, Bp, Br, Bx, B109, (by omega), hO9, (by rw [map_take swe he]; exact hE9), hs9, rfl⟩
        ·have khlt2 := hlt2
         replace hlt2 := of_decide_eq_false hlt2
         have hjj : j = n.edges.length := by omega
         subst hjj
         rw [List.take_length] at hX
         have e1 : n.eps.length = (n.rev x).eps.length := by simp [Nf.rev]
         have e2 : n.edges.length = (n.rev x).edges.length := by simp [Nf.rev]
         refine Wp_exit (thn_exit (thn_exit (inB_here (thn_normal ?_))))
         exact ⟨0, n.rev x, some ⟨b109, 0, none⟩, 1, pa5, pc5, ya5, yc5, 1, n.eps.length, n.edges.length, Fits.out ⟨rfl, rfl, rfl, rfl, rfl, rfl, rfl, rfl, rfl, rfl, rfl, rfl, rfl, trivial⟩, E, E3, Bn, Bp, Br, Bx, ⟨rfl, e1, e2⟩, ⟨hwn.1.symm, hwn.2.symm⟩, ⟨some ⟨b109, 0, none⟩, 1, pa5, pc5, ya5, yc5, rfl, ints_of_blk [n.start] B109 (by simp) (by simp), by rw [← e1]; have h9 : SpansAt _ (.slice pa5 n.eps.length pc5) (n.eps.map swp) := own_slat hown2 (by intro r hr; obtain ⟨p, _, rfl⟩ := List.mem_map.1 hr; rfl) (by simp) (by decide); exact h9, by rw [← e2]; exact hX.at⟩⟩
   ·have khlen := hlen
    replace hlen := of_decide_eq_false hlen
    have hwn : wantN n = nf0 ∧ wantE n = 3 := by unfold wantN wantE; rw [if_neg (by omega), if_neg (by omega)]; exact ⟨rfl, rfl⟩
    refine Wp_skip (thn_normal ?_)
    exact ⟨3, nf0, none, 0, none, 0, none, 0, 0, 0, 0, Fits.out ⟨rfl, rfl, rfl, rfl, rfl, rfl, rfl, rfl, rfl, rfl, rfl, rfl, rfl, trivial⟩, E, E3, Bn, Bp, Br, Bx, ⟨rfl, rfl, rfl⟩, ⟨hwn.1.symm, hwn.2.symm⟩, nf0_at _⟩
  ·clear E E3 Bn Bp Br Bx
   rintro _ W16 ⟨u9, m9, fa, fc, ga, gc, ya, yc, i9, j9, k9, ⟨j16, rfl⟩, E, E3, Bn, Bp, Br, Bx, hl9, hw9, hA9⟩
   rw [hl9.1, hl9.2.1, hl9.2.2] at Bx
   obtain ⟨hrw, hre⟩ := rev_want hRv hc1
   refine Wp_seq (Wp_seq_region ?_)
   refine qM (I6 u4) rfl ?_
   refine qM (I6 u9) rfl ?_
   refine qV (r_neq (k := .i64) (a := u4) (b := u9) rfl rfl) ?_
   refine qM (.bool (decide ((u4 : Int) ≠ u9))) rfl ?_
   rcases Bool.eq_false_or_eq_true (decide ((u4 : Int) ≠ u9)) with g1 | g1
   ·have kg1 := g1
    replace kg1 := of_decide_eq_true kg1
    refine WpL_guard_no (oj := _) rfl rfl (by decide) (v := .bool true) (congrArg Value.bool g1) (Or.inl rfl) ?_
    refine WpL_guard_no (oj := _) rfl rfl (by decide) (v := .bool true) (congrArg Value.bool g1) (Or.inl rfl) ?_
    refine WpL_guard_no (oj := _) rfl rfl (by decide) (v := .bool true) (congrArg Value.bool g1) (Or.inl rfl) ?_
    refine WpL_guard_no (oj := _) rfl rfl (by decide) (v := .bool true) (congrArg Value.bool g1) (Or.inl rfl) ?_
    refine qV (r_pick (b := decide ((u4 : Int) ≠ u9)) (v := (.bool true)) rfl (by rw [g1]; rfl)) ?_
    refine WpL_nil ?_
    refine Wp_cond_true rfl ?_
    refine Wp_seq_region ?_
    refine qA (.bool false) rfl ?_
    refine WpL_nil (Wp_ret (thn_ret ?_))
    refine fin_tmp Tryz.results3 (v := (.bool false)) rfl ?_
    exact absurd (hre.trans hw9.2.symm) kg1
   ·have kg1 := g1
    replace kg1 := of_decide_eq_false kg1
    refine WpL_guard_yes (oj := _) rfl rfl (by decide) (congrArg Value.bool g1) ?_
    refine qV (r_loadAgg (vs := [(I6 m2.states), (I6 m2.start), (.slice ea2 m2.ends.length ec2), (.slice pa2 m2.eps.length pc2), (.slice xa2 m2.edges.length xc2)]) rfl agg26 siz26 rfl (Br.cells rfl)) ?_
    refine WpL_guard_yes (oj := _) rfl rfl (by decide) (congrArg Value.bool g1) ?_
    refine qV (r_loadAgg (vs := [(I6 m9.states), (I6 m9.start), (.slice fa m9.ends.length fc), (.slice ga m9.eps.length gc), (.slice ya m9.edges.length yc)]) rfl agg26 siz26 rfl (Bx.cells rfl)) ?_
    refine WpL_guard_yes (oj := _) rfl rfl (by decide) (congrArg Value.bool g1) ?_
    refine WpL_enter rfl rfl (by decide) (r_callF (vs := [(.agg #[(I6 m2.states), (I6 m2.start), (.slice ea2 m2.ends.length ec2), (.slice pa2 m2.eps.length pc2), (.slice xa2 m2.edges.length xc2)]), (.agg #[(I6 m9.states), (I6 m9.start), (.slice fa m9.ends.length fc), (.slice ga m9.eps.length gc), (.slice ya m9.edges.length yc)])]) Tryz.func12 kQ kQ rfl) (nfeq_c _ m2 m9 _ _ (hrw.trans hw9.1.symm) (hA2.ext E3) hA9) ?_
    rintro _ w79 ⟨rfl, X79⟩
    replace Bn := X79.keep Bn
    replace Bp := X79.keep Bp
    replace Br := X79.keep Br
    replace Bx := X79.keep Bx
    replace E := E.ext X79
    replace E3 := E3.ext X79
    refine WpL_guard_yes (oj := _) rfl rfl (by decide) (congrArg Value.bool g1) ?_
    refine qV (r_not (b := true) rfl) ?_
    refine qV (r_pick (b := decide ((u4 : Int) ≠ u9)) (v := (.bool false)) rfl (by rw [g1]; rfl)) ?_
    refine WpL_nil ?_
    refine Wp_cond_false rfl ?_
    refine Wp_skip (thn_normal (Wp_seq (Wp_seq_region ?_)))
    refine qF bn 0 0 rfl Tryz.underlying26 rfl siz3 rfl ?_
    refine qV (r_load (v := (I6 n.states)) rfl flat3 (Bn.cell rfl)) ?_
    obtain ⟨e27, he27⟩ : ∃ e, (decide ((30 : Int) < n.states)) = e := ⟨_, rfl⟩
    refine qV ((r_gtr (k := .i64) (a := n.states) (b := 30) rfl rfl).trans (by rw [he27]; try rfl)) ?_
    refine qM (.bool e27) rfl ?_
    refine qG (.bool e27) (nU e27 (P6 bn 4)) (by cases e27 <;> first | exact gA | exact gB | exact .inl ⟨rfl, r_fieldAddr (b := bn) (o := 0) (o' := 4) rfl Tryz.underlying26 rfl siz24 rfl⟩) ?_
    refine qG (.bool e27) (nU e27 (.slice xa n.edges.length xc)) (by cases e27 <;> first | exact gA | exact gB | exact .inl ⟨rfl, r_load (v := (.slice xa n.edges.length xc)) rfl flat24 (Bn.cell rfl)⟩) ?_
    refine qG (.bool e27) (nU e27 (I6 (n.edges.length : Int))) (by cases e27 <;> first | exact gA | exact gB | exact .inl ⟨rfl, r_lenSlice (ad := xa) (n := n.edges.length) (cap := xc) Tryz.underlying24 rfl⟩) ?_
    obtain ⟨e28, he28⟩ : ∃ e, (decide ((60 : Int) < ((n.edges.length : Nat) : Int))) = e := ⟨_, rfl⟩
    refine qG (.bool e27) (nU e27 (.bool e28)) (by cases e27 <;> first | exact gA | exact gB | exact .inl ⟨rfl, (r_gtr (k := .i64) (a := (n.edges.length : Int)) (b := 60) rfl rfl).trans (by rw [he28]; try rfl)⟩) ?_
    obtain ⟨e29, he29⟩ : ∃ e, (e27 || e28) = e := ⟨_, rfl⟩
    refine qV (r_pick (b := e27) (v := .bool e29) rfl (by rw [← he29]; cases e27 <;> rfl)) ?_
    refine qM (.bool e29) rfl ?_
    refine qG (.bool e29) (nU e29 (P6 bn 3)) (by cases e29 <;> first | exact gA | exact gB | exact .inl ⟨rfl, r_fieldAddr (b := bn) (o := 0) (o' := 3) rfl Tryz.underlying26 rfl siz23 rfl⟩) ?_
    refine qG (.bool e29) (nU e29 (.slice pa n.eps.length pc)) (by cases e29 <;> first | exact gA | exact gB | exact .inl ⟨rfl, r_load (v := (.slice pa n.eps.length pc)) rfl flat23 (Bn.cell rfl)⟩) ?_
    refine qG (.bool e29) (nU e29 (I6 (n.eps.length : Int))) (by cases e29 <;> first | exact gA | exact gB | exact .inl ⟨rfl, r_lenSlice (ad := pa) (n := n.eps.length) (cap := pc) Tryz.underlying23 rfl⟩) ?_
    obtain ⟨e30, he30⟩ : ∃ e, (decide ((60 : Int) < ((n.eps.length : Nat) : Int))) = e := ⟨_, rfl⟩
    refine qG (.bool e29) (nU e29 (.bool e30)) (by cases e29 <;> first | exact gA | exact gB | exact .inl ⟨rfl, (r_gtr (k := .i64) (a := (n.eps.length : Int)) (b := 60) rfl rfl).trans (by rw [he30]; try rfl)⟩) ?_
    obtain ⟨e31, he31⟩ : ∃ e, (e29 || e30) = e := ⟨_, rfl⟩
    refine qV (r_pick (b := e29) (v := .bool e31) rfl (by rw [← he31]; cases e29 <;> rfl)) ?_
    refine qM (.bool e31) rfl ?_
    refine qG (.bool e31) (nU e31 (.slice ta text.length tc)) (by cases e31 <;> first | exact gA | exact gB | exact .inl ⟨rfl, r_move (v := (.slice ta text.length tc)) rfl⟩) ?_
    refine qG (.bool e31) (nU e31 (I6 (text.length : Int))) (by cases e31 <;> first | exact gA | exact gB | exact .inl ⟨rfl, r_lenSlice (ad := ta) (n := text.length) (cap := tc) Tryz.underlying22 rfl⟩) ?_
    obtain ⟨e32, he32⟩ : ∃ e, (decide ((30 : Int) < ((text.length : Nat) : Int))) = e := ⟨_, rfl⟩
    refine qG (.bool e31) (nU e31 (.bool e32)) (by cases e31 <;> first | exact gA | exact gB | exact .inl ⟨rfl, (r_gtr (k := .i64) (a := (text.length : Int)) (b := 30) rfl rfl).trans (by rw [he32]; try rfl)⟩) ?_
    obtain ⟨e33, he33⟩ : ∃ e, (e31 || e32) = e := ⟨_, rfl⟩
    refine qV (r_pick (b := e31) (v := .bool e33) rfl (by rw [← he33]; cases e31 <;> rfl)) ?_
    refine qM (.bool e33) rfl ?_
    refine qG (.bool e33) (nU e33 (.slice la l.length lc)) (by cases e33 <;> first | exact gA | exact gB | exact .inl ⟨rfl, r_move (v := (.slice la l.length lc)) rfl⟩) ?_
    refine qG (.bool e33) (nU e33 (I6 (l.length : Int))) (by cases e33 <;> first | exact gA | exact gB | exact .inl ⟨rfl, r_lenSlice (ad := la) (n := l.length) (cap := lc) Tryz.underlying22 rfl⟩) ?_
    obtain ⟨e34, he34⟩ : ∃ e, (decide ((60 : Int) < ((l.length : Nat) : Int))) = e := ⟨_, rfl⟩
    refine qG (.bool e33) (nU e33 (.bool e34)) (by cases e33 <;> first | exact gA | exact gB | exact .inl ⟨rfl, (r_gtr (k := .i64) (a := (l.length : Int)) (b := 60) rfl rfl).trans (by rw [he34]; try rfl)⟩) ?_
    obtain ⟨e35, he35⟩ : ∃ e, (e33 || e34) = e := ⟨_, rfl⟩
    refine qV (r_pick (b := e33) (v := .bool e35) rfl (by rw [← he35]; cases e33 <;> rfl)) ?_
    refine WpL_nil ?_
    subst he35
    subst he34
    subst he33
    subst he32
    subst he31
    subst he30
    subst he29
    subst he28
    subst he27
    refine Wp_cond (b := (((((decide ((30 : Int) < n.states)) || (decide ((60 : Int) < (n.edges.length : Int)))) || (decide ((60 : Int) < (n.eps.length : Int)))) || (decide ((30 : Int) < (text.length : Int)))) || (decide ((60 : Int) < (l.length : Int))))) rfl (fun hlim => ?_) (fun hlim => ?_)
    ·have khlim := hlim
     refine Wp_seq_region ?_
     refine qA (.bool true) rfl ?_
     refine WpL_nil (Wp_ret (thn_ret ?_))
     refine fin_tmp Tryz.results3 (v := (.bool true)) rfl ?_
     exact ⟨rfl, E⟩
    ·have khlim := hlim
     simp only [Bool.or_eq_false_iff, decide_eq_false_iff_not] at hlim
     obtain ⟨⟨⟨⟨hb1, hb2⟩, hb3⟩, hb4⟩, hb5⟩ := hlim
     have hm1 : u3 = 0 ∧ m1.states = n.states ∧ m1.start = n.start ∧ m1.eps = [] ∧ BareK n N m1.ends m1.edges := by rcases hBa with ⟨h1, _⟩ | ⟨_, _, _, k9, es9, xs9, h1, h2, h3⟩ | ⟨_, h1, h2, h3, h4, N9, h5, h6⟩; exact absurd hc1 h1; (have h7 := h2.total; have h8 : k9 * n.edges.length ≤ 30 * 60 := Nat.mul_le_mul (by omega) (by omega); omega); (obtain rfl : N9 = N := by omega); exact ⟨h1, h2, h3, h4, h6⟩
     have E5 : Chg none1 w79 w79 := Chg.refl _ _
     refine Wp_skip (thn_normal (Wp_seq (Wp_seq_region ?_)))
     refine qM (.slice la l.length lc) rfl ?_
     refine qV (r_lenSlice (ad := la) (n := l.length) (cap := lc) Tryz.underlying22 rfl) ?_
     refine qM (I6 0) rfl ?_
     refine WpL_nil (Wp_block ?_)
     refine Wp_loop (fun nn_ σ W37 => ∃ (k : Nat), (∃ jj_, σ = upds jj_ [(1, (.slice la l.length lc)), (2, (.slice ta text.length tc)), (3, (P6 bn 0)), (8, (.slice qa q.length qc)), (9, (I6 u1)), (10, (.bool b)), (11, (I6 u2)), (12, (P6 bp 0)), (13, (I6 u3)), (182, (.slice la l.length lc)), (183, (I6 (l.length : Int))), (184, (I6 (k : Int)))]) ∧ Chg none1 w0 W37 ∧ Chg none1 w7 W37 ∧ Chg none1 w79 W37 ∧ Blk W37 bn #[(I6 n.states), (I6 n.start), (.slice ea n.ends.length ec), (.slice pa n.eps.length pc), (.slice xa n.edges.length xc)] 26 ∧ Blk W37 bp #[(I6 m1.states), (I6 m1.start), (.slice ea1 m1.ends.length ec1), (.slice pa1 m1.eps.length pc1), (.slice xa1 m1.edges.length xc1)] 26 ∧ Blk W37 br #[(I6 m2.states), (I6 m2.start), (.slice ea2 m2.ends.length ec2), (.slice pa2 m2.eps.length pc2), (.slice xa2 m2.edges.length xc2)] 26 ∧ Blk W37 bx #[(I6 m9.states), (I6 m9.start), (.slice fa m9.ends.length fc), (.slice ga m9.eps.length gc), (.slice ya m9.edges.length yc)] 26 ∧ (k ≤ l.length) ∧ (∀ s ∈ l.take k, badS n.states s = false) ∧ nn_ = l.length - k) (n := l.length - 0) ?_ ?_
     ·exact ⟨0, Fits.out ⟨rfl, rfl, rfl, rfl, rfl, rfl, rfl, rfl, rfl, rfl, rfl, rfl, trivial⟩, E, E3, E5, Bn, Bp, Br, Bx, Nat.zero_le _, (fun s hs => by simp at hs), rfl⟩
     ·clear E E3 E5 Bn Bp Br Bx
      rintro _ _ W37 ⟨k, ⟨j37, rfl⟩, E, E3, E5, Bn, Bp, Br, Bx, hk, hgd, rfl⟩
      refine Wp_seq_region ?_
      refine qV (r_lss (k := .i64) (a := (k : Int)) (b := (l.length : Int)) rfl rfl) ?_
      refine WpL_nil (Wp_seq ?_)
      refine Wp_cond (b := decide (((k : Int) : Int) < (l.length : Int))) rfl (fun hlt => ?_) (fun hlt => ?_)
      ·have khlt := hlt
       replace hlt := of_decide_eq_true hlt
       obtain ⟨s, hs⟩ := get_of_lt (l := l) (i := k) (by omega)
       obtain ⟨lb, lo, rfl, hlc⟩ := ints_cells hl (by omega)
       refine Wp_skip (thn_normal (Wp_seq (Wp_block (Wp_seq_region ?_))))
       refine qV (r_indexSlice (b := lb) (o := lo) (len := l.length) (cap := lc) (i := k) (o' := lo + k) rfl rfl rfl Tryz.underlying22 siz3 (by omega) (by omega)) ?_
       refine qV (r_load (v := (I6 s)) rfl flat3 (E.cell (fun f => f) (hlc k s hs))) ?_
       refine qA (I6 s) rfl ?_
       refine WpL_nil (Wp_seq_region ?_)
       refine qM (I6 s) rfl ?_
       obtain ⟨e39, he39⟩ : ∃ e, (decide ((s : Int) < 0)) = e := ⟨_, rfl⟩
       refine qV ((r_lss (k := .i64) (a := s) (b := 0) rfl rfl).trans (by rw [he39]; try rfl)) ?_
       refine qM (.bool e39) rfl ?_
       refine qG (.bool e39) (nU e39 (I6 s)) (by cases e39 <;> first | exact gA | exact gB | exact .inl ⟨rfl, r_move (v := (I6 s)) rfl⟩) ?_
       refine qG (.bool e39) (nU e39 (P6 bn 0)) (by cases e39 <;> first | exact gA | exact gB | exact .inl ⟨rfl, r_fieldAddr (b := bn) (o := 0) (o' := 0) rfl Tryz.underlying26 rfl siz3 rfl⟩) ?_
       refine qG (.bool e39) (nU e39 (I6 n.states)) (by cases e39 <;> first | exact gA | exact gB | exact .inl ⟨rfl, r_load (v := (I6 n.states)) rfl flat3 (Bn.cell rfl)⟩) ?_
       obtain ⟨e40, he40⟩ : ∃ e, (decide ((n.states : Int) ≤ s)) = e := ⟨_, rfl⟩
       refine qG (.bool e39) (nU e39 (.bool e40)) (by cases e39 <;> first | exact gA | exact gB | exact .inl ⟨rfl, (r_geq (k := .i64) (a := s) (b := n.states) rfl rfl).trans (by rw [he40]; try rfl)⟩) ?_
       obtain ⟨e41, he41⟩ : ∃ e, (e39 || e40) = e := ⟨_, rfl⟩
       refine qV (r_pick (b := e39) (v := .bool e41) rfl (by rw [← he41]; cases e39 <;> rfl)) ?_
       refine WpL_nil ?_
       subst he41
       subst he40
       subst he39
       refine Wp_cond (b := ((decide ((s : Int) < 0)) || (decide ((n.states : Int) ≤ s)))) rfl (fun hbs => ?_) (fun hbs => ?_)
       ·have khbs := hbs
        have hbad : l.any (badS n.states) = true := List.any_eq_true.2 ⟨s, List.mem_of_getElem? hs, by unfold badS; simpa using hbs⟩
        obtain ⟨hq0, hu1⟩ : q = [] ∧ u1 = 1 := by rcases hCl with ⟨h1, _⟩ | ⟨_, _, h2, h3⟩ | ⟨_, h1, _⟩; exact absurd hc1 h1; exact ⟨h2, h3⟩; (rw [hbad] at h1; cases h1)
        refine Wp_seq_region ?_
        refine qM (I6 u1) rfl ?_
        obtain ⟨e43, he43⟩ : ∃ e, (decide ((u1 : Int) = 1)) = e := ⟨_, rfl⟩
        refine qV ((r_eql (k := .i64) (a := u1) (b := 1) rfl rfl).trans (by rw [he43]; try rfl)) ?_
        refine qM (.bool e43) rfl ?_
        refine qG (.bool e43) (yU e43 (.slice qa q.length qc)) (by cases e43 <;> first | exact gA | exact gB | exact .inl ⟨rfl, r_move (v := (.slice qa q.length qc)) rfl⟩) ?_
        refine qG (.bool e43) (yU e43 (I6 (q.length : Int))) (by cases e43 <;> first | exact gA | exact gB | exact .inl ⟨rfl, r_lenSlice (ad := qa) (n := q.length) (cap := qc) Tryz.underlying22 rfl⟩) ?_
        obtain ⟨e44, he44⟩ : ∃ e, (decide ((((q.length : Nat) : Int) : Int) = 0)) = e := ⟨_, rfl⟩
        refine qG (.bool e43) (yU e43 (.bool e44)) (by cases e43 <;> first | exact gA | exact gB | exact .inl ⟨rfl, (r_eql (k := .i64) (a := (q.length : Int)) (b := 0) rfl rfl).trans (by rw [he44]; try rfl)⟩) ?_
        obtain ⟨e45, he45⟩ : ∃ e, (e43 && e44) = e := ⟨_, rfl⟩
        refine qV (r_pick (b := e43) (v := .bool e45) rfl (by rw [← he45]; cases e43 <;> rfl)) ?_
        refine qA (.bool e45) rfl ?_
        refine WpL_nil ?_
        subst he45
        subst he44
        subst he43
        refine Wp_ret (inB_ret (thn_ret (thn_ret (inB_ret (thn_ret ?_)))))
        refine fin_tmp Tryz.results3 (v := (.bool ((decide ((u1 : Int) = 1)) && (decide ((((q.length : Nat) : Int) : Int) = 0))))) rfl ?_
        exact ⟨bool_eq (by rw [hq0, hu1]; rfl), E⟩
       ·have khbs := hbs
        refine Wp_skip (inB_normal (thn_normal (Wp_region ?_)))
        refine qV (r_add (k := .i64) (a := (k : Int)) (b := 1) (c := (k : Int) + 1) rfl rfl (wI64 (by omega))) ?_
        refine qM (I6 ((k : Int) + 1)) rfl ?_
        refine WpL_nil (thn_normal ?_)
        exact ⟨l.length - (k + 1), by omega, k + 1, Fits.out ⟨rfl, rfl, rfl, rfl, rfl, rfl, rfl, rfl, rfl, rfl, rfl, rfl, trivial⟩, E, E3, E5, Bn, Bp, Br, Bx, (by omega), (fun t ht => by rw [take_snoc hs] at ht; rcases List.mem_append.1 ht with h9 | h9; exact hgd t h9; (rw [List.mem_singleton.1 h9]; unfold badS; simpa using hbs)), rfl⟩
      ·have khlt := hlt
       replace hlt := of_decide_eq_false hlt
       have hkk : k = l.length := by omega
       rw [hkk, List.take_length] at hgd
       have hany : l.any (badS n.states) = false := by rw [Bool.eq_false_iff]; intro h9; obtain ⟨s, h8, h7⟩ := List.any_eq_true.1 h9; rw [hgd s h8] at h7; cases h7
       obtain ⟨hqf, hu1⟩ : FreeOf n.eps (· ∈ l) q ∧ u1 = 0 := by rcases hCl with ⟨h1, _⟩ | ⟨_, h1, _⟩ | ⟨_, _, h2, h3⟩; exact absurd hc1 h1; (rw [hany] at h1; cases h1); exact ⟨h2, h3⟩
       have hrg := any_bad.1 hany
       have hNs := hN
       have hk1 : decide ((u1 : Int) ≠ 0) = false := by rw [hu1]; rfl
       have hk3 : decide ((u3 : Int) ≠ 0) = false := by rw [hm1.1]; rfl
       refine Wp_exit (thn_exit (thn_exit (inB_here (thn_normal (Wp_seq ?_)))))
       have hz_46 : w0.heap.size ≤ W37.heap.size := E.size
       have lz_46_bn : bn < W37.heap.size := Bn.lt
       have lz_46_bp : bp < W37.heap.size := Bp.lt
       have lz_46_br : br < W37.heap.size := Br.lt
       have lz_46_bx : bx < W37.heap.size := Bx.lt
       refine Wp_seq ?_
       obtain ⟨Fs46, hFs46⟩ : ∃ Fs : List FctS, Fs = [(eF (I6 u1)), (eF (.bool false)), (eF (.bool false)), (eF (.slice qa q.length qc)), (eF (.agg #[(I6 n.states), (I6 n.start), (.slice ea n.ends.length ec), (.slice pa n.eps.length pc), (.slice xa n.edges.length xc)])), (eF (.slice la l.length lc)), (fun _ _ => ciG q), (eF (.bool true)), (eF (.bool false)), (eF (.bool false)), (eF (.bool false)), (eF (I6 u3)), (eF (.bool false)), (eF (.bool false)), (eF (.bool false)), (eF (.agg #[(I6 m1.states), (I6 m1.start), (.slice ea1 m1.ends.length ec1), (.slice pa1 m1.eps.length pc1), (.slice xa1 m1.edges.length xc1)])), (eF (.agg #[(I6 n.states), (I6 n.start), (.slice ea n.ends.length ec), (.slice pa n.eps.length pc), (.slice xa n.edges.length xc)])), (fun _ _ => nfF m1), (eF (.bool true)), (eF (.bool false)), (eF (.bool false))] := ⟨_, rfl⟩
       refine Wp_dagS (MsL []) [true, true, true, true, true, true, true, true, true, true, true, true, true, true, true, true, true, true, true, true, true] [] [204, 205, 206, 207, 208, 209, 210, 211, 212, 213, 214, 215, 216, 217, 218, 219, 220, 221, 222, 223, 224] [[], [0], [1], [2], [2], [2], [2, 4, 5], [2, 3, 6], [2, 7], [2, 8], [7, 9], [10], [10, 11], [10, 12], [10, 13], [14], [14], [14, 16], [14, 15, 17], [14, 18], [14, 19]] [[], [0], [1, 0], [2, 1, 0], [2, 1, 0], [2, 1, 0], [2, 1, 0, 4, 5], [2, 1, 0, 3, 6, 4, 5], [2, 1, 0, 7, 3, 6, 4, 5], [2, 1, 0, 8, 7, 3, 6, 4, 5], [7, 2, 1, 0, 3, 6, 4, 5, 9, 8], [10, 7, 2, 1, 0, 3, 6, 4, 5, 9, 8], [10, 7, 2, 1, 0, 3, 6, 4, 5, 9, 8, 11], [10, 7, 2, 1, 0, 3, 6, 4, 5, 9, 8, 12, 11], [10, 7, 2, 1, 0, 3, 6, 4, 5, 9, 8, 13, 12, 11], [14, 10, 7, 2, 1, 0, 3, 6, 4, 5, 9, 8, 13, 12, 11], [14, 10, 7, 2, 1, 0, 3, 6, 4, 5, 9, 8, 13, 12, 11], [14, 10, 7, 2, 1, 0, 3, 6, 4, 5, 9, 8, 13, 12, 11, 16], [14, 10, 7, 2, 1, 0, 3, 6, 4, 5, 9, 8, 13, 12, 11, 15, 17, 16], [14, 10, 7, 2, 1, 0, 3, 6, 4, 5, 9, 8, 13, 12, 11, 18, 15, 17, 16], [14, 10, 7, 2, 1, 0, 3, 6, 4, 5, 9, 8, 13, 12, 11, 19, 18, 15, 17, 16]] Fs46 hFs46 (by kernel_rfl) mixed (by kernel_rfl) (by kernel_rfl) (by kernel_rfl) (by kernel_rfl) ?_ ?_
       ·intro wd X0
        refine qZ (fun S s' w' hi hN X U V H => ?_) ?_
        ·replace X := xN0 X
         exact DoesT_pure (r_move (v := (I6 u1)) (U 9 rfl)) rfl
        refine qZ (fun S s' w' hi hN X U V H => ?_) ?_
        ·replace X := xN0 X
         have e204 := (H 0 rfl).2 204 _ rfl (by rw [hFs46]; rfl)
         exact DoesT_pure (Eq.trans (r_neq (k := .i64) (a := u1) (b := 0) e204 rfl) (by rw [hk1])) rfl
        refine qZ (fun S s' w' hi hN X U V H => ?_) ?_
        ·replace X := xN0 X
         have e205 := (H 1 rfl).2 205 _ rfl (by rw [hFs46]; rfl)
         exact DoesT_pure (r_move (v := (.bool false)) e205) rfl
        refine DagStepsS.cons (StabS.eq) (LocS.const) (fun S s' w' hi hN X U V H => Or.inl ⟨Guarded_some rfl rfl (d := 206) ((H 2 rfl).2 206 (eF (.bool false)) rfl (by rw [hFs46]; rfl)), ?_⟩) ?_
        ·replace X := xN0 X
         exact DoesT_pure (r_move (v := (.slice qa q.length qc)) (U 8 rfl)) rfl
        refine DagStepsS.cons (StabS.eq) (LocS.const) (fun S s' w' hi hN X U V H => Or.inl ⟨Guarded_some rfl rfl (d := 206) ((H 2 rfl).2 206 (eF (.bool false)) rfl (by rw [hFs46]; rfl)), ?_⟩) ?_
        ·replace X := xN0 X
         exact DoesT_pure (r_loadAgg (vs := [(I6 n.states), (I6 n.start), (.slice ea n.ends.length ec), (.slice pa n.eps.length pc), (.slice xa n.edges.length xc)]) (U 3 rfl) agg26 siz26 rfl (((X0.trans X).keep Bn).cells rfl)) rfl
        refine DagStepsS.cons (StabS.eq) (LocS.const) (fun S s' w' hi hN X U V H => Or.inl ⟨Guarded_some rfl rfl (d := 206) ((H 2 rfl).2 206 (eF (.bool false)) rfl (by rw [hFs46]; rfl)), ?_⟩) ?_
        ·replace X := xN0 X
         exact DoesT_pure (r_move (v := (.slice la l.length lc)) (U 1 rfl)) rfl
        refine DagStepsS.cons (StabS.chg (U := none1) (ciG_ext _) (fun p y hp hw h => by
           exact h.elim)) (LocS.const) (fun S s' w' hi hN X U V H => Or.inl ⟨Guarded_some rfl rfl (d := 206) ((H 2 rfl).2 206 (eF (.bool false)) rfl (by rw [hFs46]; rfl)), ?_⟩) ?_
        ·replace X := xN0 X
         have e208 := (H 4 rfl).2 208 _ rfl (by rw [hFs46]; rfl)
         have e209 := (H 5 rfl).2 209 _ rfl (by rw [hFs46]; rfl)
         exact DoesT_callE (r_callF (vs := [(.agg #[(I6 n.states), (I6 n.start), (.slice ea n.ends.length ec), (.slice pa n.eps.length pc), (.slice xa n.edges.length xc)]), (.slice la l.length lc)]) Tryz.func14 kQ kQ (lst2 e208 e209)) (free_q ok hNs (h0.ext (Chg.ext E (X0.trans X))) (hl.ext (Chg.ext E (X0.trans X))) (fun s hs => by have := hrg s hs; omega) hqf)
        refine DagStepsS.cons (StabS.eq) (LocS.const) (fun S s' w' hi hN X U V H => Or.inl ⟨Guarded_some rfl rfl (d := 206) ((H 2 rfl).2 206 (eF (.bool false)) rfl (by rw [hFs46]; rfl)), ?_⟩) ?_
        ·replace X := xN0 X
         have e207 := (H 3 rfl).2 207 _ rfl (by rw [hFs46]; rfl)
         obtain ⟨a210, c210, e210, i210⟩ := (show ((fun _ _ => ciG q) : FctS) S s' (s' 210) w' from (H 6 rfl).2 210 (fun _ _ => ciG q) rfl (by rw [hFs46]; rfl))
         exact DoesT_callE (r_callF (vs := [(.slice qa q.length qc), (.slice a210 q.length c210)]) Tryz.func13 kQ kQ (lst2 e207 e210)) (ieqr_q (hQ.ext (Ext.trans E3 (X0.trans X))) (e210 ▸ i210))
        refine DagStepsS.cons (StabS.eq) (LocS.const) (fun S s' w' hi hN X U V H => Or.inl ⟨Guarded_some rfl rfl (d := 206) ((H 2 rfl).2 206 (eF (.bool false)) rfl (by rw [hFs46]; rfl)), ?_⟩) ?_
        ·replace X := xN0 X
         have e211 := (H 7 rfl).2 211 _ rfl (by rw [hFs46]; rfl)
         exact DoesT_pure (r_not (b := true) e211) rfl
        refine qZ (fun S s' w' hi hN X U V H => ?_) ?_
        ·replace X := xN0 X
         have e206 := (H 2 rfl).2 206 _ rfl (by rw [hFs46]; rfl)
         have e212 := (H 8 rfl).2 212 _ rfl (by rw [hFs46]; rfl)
         exact DoesT_pure (r_pick (b := false) (v := (.bool false)) e206 e212) rfl
        refine qZ (fun S s' w' hi hN X U V H => ?_) ?_
        ·replace X := xN0 X
         have e213 := (H 9 rfl).2 213 _ rfl (by rw [hFs46]; rfl)
         exact DoesT_pure (r_move (v := (.bool false)) e213) rfl
        refine DagStepsS.cons (StabS.eq) (LocS.const) (fun S s' w' hi hN X U V H => Or.inl ⟨Guarded_some rfl rfl (d := 214) ((H 10 rfl).2 214 (eF (.bool false)) rfl (by rw [hFs46]; rfl)), ?_⟩) ?_
        ·replace X := xN0 X
         exact DoesT_pure (r_move (v := (I6 u3)) (U 13 rfl)) rfl
        refine DagStepsS.cons (StabS.eq) (LocS.const) (fun S s' w' hi hN X U V H => Or.inl ⟨Guarded_some rfl rfl (d := 214) ((H 10 rfl).2 214 (eF (.bool false)) rfl (by rw [hFs46]; rfl)), ?_⟩) ?_
        ·replace X := xN0 X
         have e215 := (H 11 rfl).2 215 _ rfl (by rw [hFs46]; rfl)
         exact DoesT_pure (Eq.trans (r_neq (k := .i64) (a := u3) (b := 0) e215 rfl) (by rw [hk3])) rfl
        refine qZ (fun S s' w' hi hN X U V H => ?_) ?_
        ·replace X := xN0 X
         have e214 := (H 10 rfl).2 214 _ rfl (by rw [hFs46]; rfl)
         have e216 := (H 12 rfl).2 216 _ rfl (by rw [hFs46]; rfl)
         exact DoesT_pure (r_pick (b := false) (v := (.bool false)) e214 e216) rfl
        refine qZ (fun S s' w' hi hN X U V H => ?_) ?_
        ·replace X := xN0 X
         have e217 := (H 13 rfl).2 217 _ rfl (by rw [hFs46]; rfl)
         exact DoesT_pure (r_move (v := (.bool false)) e217) rfl
        refine DagStepsS.cons (StabS.eq) (LocS.const) (fun S s' w' hi hN X U V H => Or.inl ⟨Guarded_some rfl rfl (d := 218) ((H 14 rfl).2 218 (eF (.bool false)) rfl (by rw [hFs46]; rfl)), ?_⟩) ?_
        ·replace X := xN0 X
         exact DoesT_pure (r_loadAgg (vs := [(I6 m1.states), (I6 m1.start), (.slice ea1 m1.ends.length ec1), (.slice pa1 m1.eps.length pc1), (.slice xa1 m1.edges.length xc1)]) (U 12 rfl) agg26 siz26 rfl (((X0.trans X).keep Bp).cells rfl)) rfl
        refine DagStepsS.cons (StabS.eq) (LocS.const) (fun S s' w' hi hN X U V H => Or.inl ⟨Guarded_some rfl rfl (d := 218) ((H 14 rfl).2 218 (eF (.bool false)) rfl (by rw [hFs46]; rfl)), ?_⟩) ?_
        ·replace X := xN0 X
         exact DoesT_pure (r_loadAgg (vs := [(I6 n.states), (I6 n.start), (.slice ea n.ends.length ec), (.slice pa n.eps.length pc), (.slice xa n.edges.length xc)]) (U 3 rfl) agg26 siz26 rfl (((X0.trans X).keep Bn).cells rfl)) rfl
        refine DagStepsS.cons (StabS.chg (U := none1) (nfF_ext m1) (fun p y hp hw h => by
           exact h.elim)) (LocS.const) (fun S s' w' hi hN X U V H => Or.inl ⟨Guarded_some rfl rfl (d := 218) ((H 14 rfl).2 218 (eF (.bool false)) rfl (by rw [hFs46]; rfl)), ?_⟩) ?_
        ·replace X := xN0 X
         have e220 := (H 16 rfl).2 220 _ rfl (by rw [hFs46]; rfl)
         exact DoesT_callE (r_callF (vs := [(.agg #[(I6 n.states), (I6 n.start), (.slice ea n.ends.length ec), (.slice pa n.eps.length pc), (.slice xa n.edges.length xc)])]) Tryz.func15 kQ kQ (lst1 e220)) (bareof_q ok hNs (h0.ext (Chg.ext E (X0.trans X))) (by omega) hm1.2)
        refine DagStepsS.cons (StabS.eq) (LocS.const) (fun S s' w' hi hN X U V H => Or.inl ⟨Guarded_some rfl rfl (d := 218) ((H 14 rfl).2 218 (eF (.bool false)) rfl (by rw [hFs46]; rfl)), ?_⟩) ?_
        ·replace X := xN0 X
         have e219 := (H 15 rfl).2 219 _ rfl (by rw [hFs46]; rfl)
         obtain ⟨ea221, ec221, pa221, pc221, xa221, xc221, e221, N221⟩ := (show ((fun _ _ => nfF m1) : FctS) S s' (s' 221) w' from (H 17 rfl).2 221 (fun _ _ => nfF m1) rfl (by rw [hFs46]; rfl))
         exact DoesT_callE (r_callF (vs := [(.agg #[(I6 m1.states), (I6 m1.start), (.slice ea1 m1.ends.length ec1), (.slice pa1 m1.eps.length pc1), (.slice xa1 m1.edges.length xc1)]), (.agg #[(I6 m1.states), (I6 m1.start), (.slice ea221 m1.ends.length ec221), (.slice pa221 m1.eps.length pc221), (.slice xa221 m1.edges.length xc221)])]) Tryz.func12 kQ kQ (lst2 e219 e221)) (nfeq_c _ m1 m1 _ _ rfl (hA1.ext (Ext.trans E3 (X0.trans X))) N221)
        refine DagStepsS.cons (StabS.eq) (LocS.const) (fun S s' w' hi hN X U V H => Or.inl ⟨Guarded_some rfl rfl (d := 218) ((H 14 rfl).2 218 (eF (.bool false)) rfl (by rw [hFs46]; rfl)), ?_⟩) ?_
        ·replace X := xN0 X
         have e222 := (H 18 rfl).2 222 _ rfl (by rw [hFs46]; rfl)
         exact DoesT_pure (r_not (b := true) e222) rfl
        refine qZ (fun S s' w' hi hN X U V H => ?_) ?_
        ·replace X := xN0 X
         have e218 := (H 14 rfl).2 218 _ rfl (by rw [hFs46]; rfl)
         have e223 := (H 19 rfl).2 223 _ rfl (by rw [hFs46]; rfl)
         exact DoesT_pure (r_pick (b := false) (v := (.bool false)) e218 e223) rfl
        exact DagStepsS.nil
       ·intro s' wd46 w46 X0 X46 U H
        replace X46 := X46.mono (M' := none1) (fun y _ h => by
          obtain ⟨j, hj, h⟩ := h
          exact h.elim)
        have e224 := H 20 rfl 224 _ rfl (by rw [hFs46]; rfl)
        obtain ⟨j46, rfl⟩ := Fits.out (σ := s') (l := [(2, (.slice ta text.length tc)), (3, (.pointer (some ⟨bn, 0, none⟩))), (10, (.bool b)), (11, (.int .i64 u2)), (224, (.bool false))]) ⟨U 2 rfl, U 3 rfl, U 10 rfl, U 11 rfl, e224, trivial⟩
        clear U H
        replace Bn := (X0.trans X46).keep Bn
        replace Bp := (X0.trans X46).keep Bp
        replace Br := (X0.trans X46).keep Br
        replace Bx := (X0.trans X46).keep Bx
        replace X46 := X0.trans X46
        replace E := E.ext X46
        replace E3 := E3.ext X46
        replace E5 := E5.ext X46
        refine WpL_nil (thn_normal ?_)
        refine Wp_cond_false rfl ?_
        refine Wp_skip (thn_normal (Wp_seq (Wp_seq_region ?_)))
        refine qM (.slice ta text.length tc) rfl ?_
        refine qV (r_lenSlice (ad := ta) (n := text.length) (cap := tc) Tryz.underlying22 rfl) ?_
        refine qM (I6 0) rfl ?_
        refine WpL_nil (Wp_block ?_)
        refine Wp_loop (fun nn_ σ W47 => ∃ (k : Nat), (∃ jj_, σ = upds jj_ [(2, (.slice ta text.length tc)), (3, (P6 bn 0)), (10, (.bool b)), (11, (I6 u2)), (225, (.slice ta text.length tc)), (226, (I6 (text.length : Int))), (227, (I6 (k : Int)))]) ∧ Chg none1 w0 W47 ∧ Chg none1 w7 W47 ∧ Chg none1 w79 W47 ∧ Blk W47 bn #[(I6 n.states), (I6 n.start), (.slice ea n.ends.length ec), (.slice pa n.eps.length pc), (.slice xa n.edges.length xc)] 26 ∧ Blk W47 bp #[(I6 m1.states), (I6 m1.start), (.slice ea1 m1.ends.length ec1), (.slice pa1 m1.eps.length pc1), (.slice xa1 m1.edges.length xc1)] 26 ∧ Blk W47 br #[(I6 m2.states), (I6 m2.start), (.slice ea2 m2.ends.length ec2), (.slice pa2 m2.eps.length pc2), (.slice xa2 m2.edges.length xc2)] 26 ∧ Blk W47 bx #[(I6 m9.states), (I6 m9.start), (.slice fa m9.ends.length fc), (.slice ga m9.eps.length gc), (.slice ya m9.edges.length yc)] 26 ∧ (k ≤ text.length) ∧ (∀ c ∈ text.take k, runeB c = true) ∧ nn_ = text.length - k) (n := text.length - 0) ?_ ?_
        ·exact ⟨0, Fits.out ⟨rfl, rfl, rfl, rfl, rfl, rfl, rfl, trivial⟩, E, E3, E5, Bn, Bp, Br, Bx, Nat.zero_le _, (fun s hs => by simp at hs), rfl⟩
        ·clear E E3 E5 Bn Bp Br Bx
         rintro _ _ W47 ⟨k, ⟨j47, rfl⟩, E, E3, E5, Bn, Bp, Br, Bx, hk, hgd, rfl⟩
         refine Wp_seq_region ?_
         refine qV (r_lss (k := .i64) (a := (k : Int)) (b := (text.length : Int)) rfl rfl) ?_
         refine WpL_nil (Wp_seq ?_)
         refine Wp_cond (b := decide (((k : Int) : Int) < (text.length : Int))) rfl (fun hlt => ?_) (fun hlt => ?_)
         ·have khlt := hlt
          replace hlt := of_decide_eq_true hlt
          obtain ⟨c, hc⟩ := get_of_lt (l := text) (i := k) (by omega)
          obtain ⟨tb, to, rfl, htc⟩ := ints_cells ht (by omega)
          refine Wp_skip (thn_normal (Wp_seq (Wp_block (Wp_seq_region ?_))))
          refine qV (r_indexSlice (b := tb) (o := to) (len := text.length) (cap := tc) (i := k) (o' := to + k) rfl rfl rfl Tryz.underlying22 siz3 (by omega) (by omega)) ?_
          refine qV (r_load (v := (I6 c)) rfl flat3 (E.cell (fun f => f) (htc k c hc))) ?_
          refine qA (I6 c) rfl ?_
          refine WpL_nil (Wp_seq_region ?_)
          refine qM (I6 c) rfl ?_
          obtain ⟨e49, he49⟩ : ∃ e, (decide ((c : Int) < 0)) = e := ⟨_, rfl⟩
          refine qV ((r_lss (k := .i64) (a := c) (b := 0) rfl rfl).trans (by rw [he49]; try rfl)) ?_
          refine qM (.bool e49) rfl ?_
          refine qG (.bool e49) (nU e49 (I6 c)) (by cases e49 <;> first | exact gA | exact gB | exact .inl ⟨rfl, r_move (v := (I6 c)) rfl⟩) ?_
          obtain ⟨e50, he50⟩ : ∃ e, (decide ((1114111 : Int) < c)) = e := ⟨_, rfl⟩
          refine qG (.bool e49) (nU e49 (.bool e50)) (by cases e49 <;> first | exact gA | exact gB | exact .inl ⟨rfl, (r_gtr (k := .i64) (a := c) (b := 1114111) rfl rfl).trans (by rw [he50]; try rfl)⟩) ?_
          obtain ⟨e51, he51⟩ : ∃ e, (e49 || e50) = e := ⟨_, rfl⟩
          refine qV (r_pick (b := e49) (v := .bool e51) rfl (by rw [← he51]; cases e49 <;> rfl)) ?_
          refine WpL_nil ?_
          subst he51
          subst he50
          subst he49
          refine Wp_cond (b := ((decide ((c : Int) < 0)) || (decide ((1114111 : Int) < c)))) rfl (fun hbc => ?_) (fun hbc => ?_)
          ·have khbc := hbc
           have hrc : runeB c = false := by unfold runeB; rw [Bool.eq_false_iff]; intro h9; simp at h9 hbc; omega
           have hbad : (text.any fun r => !runeB r) = true := List.any_eq_true.2 ⟨c, List.mem_of_getElem? hc, by rw [hrc]; rfl⟩
           obtain ⟨hb0, hu2⟩ : b = false ∧ u2 = 1 := by rcases hRu with ⟨h1, _⟩ | ⟨_, h1, _⟩ | ⟨_, _, _, h2, h3⟩ | ⟨_, _, h1, _⟩; exact absurd hc1 h1; omega; exact ⟨h2, h3⟩; (rw [hbad] at h1; cases h1)
           refine Wp_seq_region ?_
           refine qM (I6 u2) rfl ?_
           obtain ⟨e53, he53⟩ : ∃ e, (decide ((u2 : Int) = 1)) = e := ⟨_, rfl⟩
           refine qV ((r_eql (k := .i64) (a := u2) (b := 1) rfl rfl).trans (by rw [he53]; try rfl)) ?_
           refine qM (.bool e53) rfl ?_
           refine qG (.bool e53) (yU e53 (.bool b)) (by cases e53 <;> first | exact gA | exact gB | exact .inl ⟨rfl, r_move (v := (.bool b)) rfl⟩) ?_
           obtain ⟨e54, he54⟩ : ∃ e, (!b) = e := ⟨_, rfl⟩
           refine qG (.bool e53) (yU e53 (.bool e54)) (by cases e53 <;> first | exact gA | exact gB | exact .inl ⟨rfl, (r_not (b := b) rfl).trans (by rw [he54]; try rfl)⟩) ?_
           obtain ⟨e55, he55⟩ : ∃ e, (e53 && e54) = e := ⟨_, rfl⟩
           refine qV (r_pick (b := e53) (v := .bool e55) rfl (by rw [← he55]; cases e53 <;> rfl)) ?_
           refine qA (.bool e55) rfl ?_
           refine WpL_nil ?_
           subst he55
           subst he54
           subst he53
           refine Wp_ret (inB_ret (thn_ret (thn_ret (inB_ret (thn_ret ?_)))))
           refine fin_tmp Tryz.results3 (v := (.bool ((decide ((u2 : Int) = 1)) && (!b)))) rfl ?_
           exact ⟨bool_eq (by rw [hb0, hu2]; rfl), E⟩
          ·have khbc := hbc
           refine Wp_skip (inB_normal (thn_normal (Wp_region ?_)))
           refine qV (r_add (k := .i64) (a := (k : Int)) (b := 1) (c := (k : Int) + 1) rfl rfl (wI64 (by omega))) ?_
           refine qM (I6 ((k : Int) + 1)) rfl ?_
           refine WpL_nil (thn_normal ?_)
           exact ⟨text.length - (k + 1), by omega, k + 1, Fits.out ⟨rfl, rfl, rfl, rfl, rfl, rfl, rfl, trivial⟩, E, E3, E5, Bn, Bp, Br, Bx, (by omega), (fun t h8 => by rw [take_snoc hc] at h8; rcases List.mem_append.1 h8 with h9 | h9; exact hgd t h9; (rw [List.mem_singleton.1 h9]; unfold runeB; simpa using hbc)), rfl⟩
         ·have khlt := hlt
          replace hlt := of_decide_eq_false hlt
          have hkk : k = text.length := by omega
          rw [hkk, List.take_length] at hgd
          have hany2 : (text.any fun r => !runeB r) = false := by rw [Bool.eq_false_iff]; intro h9; obtain ⟨s, h8, h7⟩ := List.any_eq_true.1 h9; rw [hgd s h8] at h7; cases h7
          obtain ⟨hu2, hbA⟩ : u2 = 0 ∧ (b = true ↔ Acc n text) := by rcases hRu with ⟨h1, _⟩ | ⟨_, h1, _⟩ | ⟨_, _, h1, _⟩ | ⟨_, _, _, h2, h3⟩; exact absurd hc1 h1; omega; (rw [hany2] at h1; cases h1); exact ⟨h3, h2⟩
          refine Wp_exit (thn_exit (thn_exit (inB_here (thn_normal (Wp_seq_region ?_)))))
          refine qM (I6 u2) rfl ?_
          refine qV (r_eql (k := .i64) (a := u2) (b := 0) rfl rfl) ?_
          refine qM (.bool (decide ((u2 : Int) = 0))) rfl ?_
          rcases Bool.eq_false_or_eq_true (decide ((u2 : Int) = 0)) with g9 | g9
          ·have kg9 := g9
           replace kg9 := of_decide_eq_true kg9
           refine WpL_guard_yes (oj := _) rfl rfl (by decide) (congrArg Value.bool g9) ?_
           refine qM (.bool b) rfl ?_
           refine WpL_guard_yes (oj := _) rfl rfl (by decide) (congrArg Value.bool g9) ?_
           refine qV (r_loadAgg (vs := [(I6 n.states), (I6 n.start), (.slice ea n.ends.length ec), (.slice pa n.eps.length pc), (.slice xa n.edges.length xc)]) rfl agg26 siz26 rfl (Bn.cells rfl)) ?_
           refine WpL_guard_yes (oj := _) rfl rfl (by decide) (congrArg Value.bool g9) ?_
           refine qM (.slice ta text.length tc) rfl ?_
           refine WpL_guard_yes (oj := _) rfl rfl (by decide) (congrArg Value.bool g9) ?_
           refine WpL_enter rfl rfl (by decide) (r_callF (vs := [(.agg #[(I6 n.states), (I6 n.start), (.slice ea n.ends.length ec), (.slice pa n.eps.length pc), (.slice xa n.edges.length xc)]), (.slice ta text.length tc)]) Tryz.func16 kQ kQ rfl) (accepts2_c _ n _ _ text ok (h0.ext E) (ht.ext E)) ?_
           rintro _ w89 ⟨⟨b2, rfl, hb2⟩, X89⟩
           replace Bn := X89.keep Bn
           replace Bp := X89.keep Bp
           replace Br := X89.keep Br
           replace Bx := X89.keep Bx
           replace E := E.ext X89
           replace E3 := E3.ext X89
           replace E5 := E5.ext X89
           refine WpL_guard_yes (oj := _) rfl rfl (by decide) (congrArg Value.bool g9) ?_
           refine qV (r_eqlB (p := b) (q := b2) Tryz.underlying4 rfl rfl) ?_
           refine qV (r_pick (b := decide ((u2 : Int) = 0)) (v := (.bool (b == b2))) rfl (by rw [g9]; rfl)) ?_
           refine qA (.bool (b == b2)) rfl ?_
           refine WpL_nil (Wp_ret ?_)
           refine fin_tmp Tryz.results3 (v := (.bool (b == b2))) rfl ?_
           exact ⟨bool_eq (by rw [Bool.eq_iff_iff.2 (hbA.trans hb2.symm)]; simp), E⟩
          ·have kg9 := g9
           replace kg9 := of_decide_eq_false kg9
           refine WpL_guard_no (oj := _) rfl rfl (by decide) (v := .bool false) (congrArg Value.bool g9) (Or.inl rfl) ?_
           refine WpL_guard_no (oj := _) rfl rfl (by decide) (v := .bool false) (congrArg Value.bool g9) (Or.inl rfl) ?_
           refine WpL_guard_no (oj := _) rfl rfl (by decide) (v := .bool false) (congrArg Value.bool g9) (Or.inl rfl) ?_
           refine WpL_guard_no (oj := _) rfl rfl (by decide) (v := .bool false) (congrArg Value.bool g9) (Or.inl rfl) ?_
           refine WpL_guard_no (oj := _) rfl rfl (by decide) (v := .bool false) (congrArg Value.bool g9) (Or.inl rfl) ?_
           refine qV (r_pick (b := decide ((u2 : Int) = 0)) (v := (.bool false)) rfl (by rw [g9]; rfl)) ?_
           refine qA (.bool false) rfl ?_
           refine WpL_nil (Wp_ret ?_)
           refine fin_tmp Tryz.results3 (v := (.bool false)) rfl ?_
           exact absurd hu2 kg9
end Go.Proofs
namespace Go.Proofs
open Go Go.Eng
set_option maxRecDepth 100000
section
variable {H : Type} {enc : TypeId × Value → H} {P : Program} {w : World} {base : Nat} {spare : Nat → Bool} {held : Bool}
theorem cells_at {a : Addr} {k : Nat} {cs : List Value} (hk : 0 < k) (h : w.cells? base a k = some cs) : ∃ b o, a = ⟨b, o, none⟩ ∧ cs.length = k ∧ CellsAt w b o cs := by
  obtain ⟨h1, h2, h3⟩ := World.cells?_some h
  obtain ⟨b, o, s⟩ := a
  have hlen : cs.length = k := by first | exact h2 | exact h1 | omega
  have h0 := h3 0 (by omega)
  have hs : s = none := by
    cases s with
    | none => rfl
    | some s =>
      exfalso
      have hc : ∃ v, w.cell? ⟨b, o, some s⟩ = some v := ⟨_, by simpa [Addr.add, List.getElem?_eq_getElem (show 0 < cs.length by omega)] using h0⟩
      obtain ⟨v, hv⟩ := hc
      simp [World.cell?] at hv
      cases hh : w.heap[b]? <;> simp [hh] at hv
      split at hv <;> simp at hv
  subst hs
  refine ⟨b, o, rfl, hlen, fun i v hv => ?_⟩
  have := h3 i (by have := lt_of_get hv; omega)
  rw [Addr.add_lit] at this
  rw [this, hv]
theorem rows_map {α : Type} {f : α → List Value} : ∀ {rows : List (List Value)}, (∀ r ∈ rows, ∃ y, r = f y) → ∃ l : List α, rows = l.map f
  | [], _ => ⟨[], rfl⟩
  | r :: rows, h => by
    obtain ⟨y, hy⟩ := h r (by simp)
    obtain ⟨l, hl⟩ := rows_map (rows := rows) (f := f) fun r' hr' => h r' (List.mem_cons_of_mem _ hr')
    exact ⟨y :: l, by rw [hy, hl]; rfl⟩
/-- A slice, if each of its elements is read. -/
theorem open_rows {t e k fuel : Nat} {cs : List Value} {x : DataW H × List MemPlace} {R : List Value → Prop} (ht : P.underlying t = some (.slice e)) (hc : P.cellsOf e = k) (hk : 0 < k)
    (h : DataW.trod enc P w base spare held fuel t cs = some x) (hR : ∀ n cs' y, n < fuel → DataW.trod enc P w base spare held n e cs' = some y → R cs') :
    ∃ a rows cap, cs = [.slice a rows.length cap] ∧ SlAt w k (.slice a rows.length cap) rows ∧ (∀ r ∈ rows, R r ∧ r.length = k) ∧ rows.length ≤ cap ∧ cap ≤ maxLen := by
  rcases DataW.trod_slice ht h with ⟨rfl, _⟩ | ⟨a, len, cap, elems, rest, n, rfl, rfl, _, hb, hl, hm, hlen, hel, _, _⟩
  · exact ⟨none, [], 0, rfl, SlAt.nil _ _ _ _, by simp, by simp, by simp [maxLen]⟩
  · have each : ∀ i, i < len → ∃ cs', w.cells? base (a.add (i * k)) k = some cs' ∧ R cs' := by
      intro i hi
      have := hel i hi
      rw [List.getElem?_eq_getElem (by omega), hc, Option.bind_eq_some_iff] at this
      obtain ⟨cs', h1, h2⟩ := this
      exact ⟨cs', h1, hR n cs' _ (by omega) h2⟩
    have fam : ∀ m, m ≤ len → ∃ rows : List (List Value), rows.length = m ∧ ∀ i r, rows[i]? = some r → w.cells? base (a.add (i * k)) k = some r ∧ R r := by
      intro m
      induction m with
      | zero => intro _; exact ⟨[], rfl, by simp⟩
      | succ m ih =>
        intro hm
        obtain ⟨rows, h1, h2⟩ := ih (by omega)
        obtain ⟨cs', h3, h4⟩ := each m (by omega)
        refine ⟨rows ++ [cs'], by simp [h1], fun i r hr => ?_⟩
        rcases Nat.lt_or_ge i rows.length with hi | hi
        · rw [List.getElem?_append_left hi] at hr; exact h2 i r hr
        · rw [List.getElem?_append_right hi] at hr
          have hi' := lt_of_get hr
          simp at hi'
          obtain rfl : i = m := by omega
          simp [h1] at hr
          subst hr
          exact ⟨h3, h4⟩
    obtain ⟨rows, hrl, hrows⟩ := fam len (Nat.le_refl _)
    have hmax : rows.length ≤ 9223372036854775807 := by simp only [maxLen] at hm; omega
    refine ⟨some a, rows, cap, by rw [hrl], ⟨some a, cap, rfl, hmax, by omega, ?_⟩, ?_, by omega, hm⟩
    · rcases Nat.eq_zero_or_pos len with h0 | h0
      · left; exact List.eq_nil_of_length_eq_zero (by omega)
      · right
        obtain ⟨r0, hr0⟩ := get_of_lt (l := rows) (i := 0) (by omega)
        have h1 := (hrows 0 r0 hr0).1
        have hz : a.add (0 * k) = a := by simp [Addr.add]
        rw [hz] at h1
        obtain ⟨b, o, rfl, _, _⟩ := cells_at hk h1
        refine ⟨b, o, rfl, fun i r hr => ?_⟩
        have h2 := (hrows i r hr).1
        rw [Addr.add_lit] at h2
        obtain ⟨b', o', he, _, h3⟩ := cells_at hk h2
        cases he
        exact h3
    · intro r hr
      obtain ⟨i, hi⟩ := List.mem_iff_getElem?.1 hr
      have h2 := hrows i r hi
      obtain ⟨_, _, _, h3, _⟩ := cells_at hk h2.1
      exact ⟨h2.2, h3⟩
theorem open_intsL {t e fuel : Nat} {cs : List Value} {x : DataW H × List MemPlace} (ht : P.underlying t = some (.slice e)) (he : P.underlying e = some (.int .i64)) (hc : P.cellsOf e = 1)
  (h : DataW.trod enc P w base spare held fuel t cs = some x) : ∃ a l cap, cs = [.slice a l.length cap] ∧ IntsAt w (.slice a l.length cap) l := by
 obtain ⟨a, rows, cap, rfl, h1, h2, _⟩ := open_rows (R := fun cs => ∃ n : Int, cs = intV n) ht hc (by decide) h (fun n cs' y _ hy => by
  obtain ⟨m, rfl, _⟩ := DataW.trod_int he hy; exact ⟨m, rfl⟩)
 obtain ⟨l, rfl⟩ := rows_map fun r hr => (h2 r hr).1
 exact ⟨a, l, cap, by simp, by simpa [IntsAt] using h1⟩
end
section
variable {H : Type} {enc : TypeId × Value → H} {w : World} {base : Nat} {spare : Nat → Bool} {held : Bool}
theorem cells80 : Tryz.prog.cellsOf 80 = 2 := by kernel_rfl
theorem cells3 : Tryz.prog.cellsOf 3 = 1 := by kernel_rfl
theorem open_span {fuel : Nat} {cs : List Value} {x : DataW H × List MemPlace} (h : DataW.trod enc Tryz.prog w base spare held fuel 80 cs = some x) : ∃ s : Int × Int, cs = spanV s := by
  obtain ⟨xs, n, rfl, _, hl, hx, hf⟩ := DataW.trod_struct Tryz.underlying80 h
  rw [cells80] at hl
  match cs, hl with
  | [c0, c1], _ =>
    have h0 : DataW.trod enc Tryz.prog w base spare held n 3 (([c0, c1].drop 0).take (Tryz.prog.cellsOf 3)) = xs[0]? := hf 0 _ rfl
    have h1 : DataW.trod enc Tryz.prog w base spare held n 3 (([c0, c1].drop 1).take (Tryz.prog.cellsOf 3)) = xs[1]? := hf 1 _ rfl
    simp only [cells3, List.drop, List.take] at h0 h1
    rw [List.getElem?_eq_getElem (by rw [hx]; decide)] at h0 h1
    obtain ⟨a, e0, _⟩ := DataW.trod_int Tryz.underlying3 h0
    obtain ⟨b, e1, _⟩ := DataW.trod_int Tryz.underlying3 h1
    simp at e0 e1
    subst e0; subst e1
    exact ⟨(a, b), rfl⟩
theorem open_spans {fuel : Nat} {cs : List Value} {x : DataW H × List MemPlace} (h : DataW.trod enc Tryz.prog w base spare held fuel 37 cs = some x) : ∃ a l cap, cs = [.slice a l.length cap] ∧ SpansAt w (.slice a l.length cap) l := by
 obtain ⟨a, rows, cap, rfl, h1, h2, _⟩ := open_rows (R := fun cs => ∃ s : Int × Int, cs = spanV s) Tryz.underlying37 cells80 (by decide) h (fun n cs' y _ hy => open_span hy)
 obtain ⟨l, rfl⟩ := rows_map fun r hr => (h2 r hr).1
 exact ⟨a, l, cap, by simp, by simpa [SpansAt] using h1⟩
end
end Go.Proofs
namespace Go.Proofs
open Go Go.Eng
set_option maxRecDepth 100000
section
variable {H : Type} {enc : TypeId × Value → H} {P : Program} {w : World} {base : Nat} {spare : Nat → Bool} {held : Bool}
/-- A slice, if each of its elements is read: with what was read. -/
theorem open_rowsB {t e k fuel : Nat} {cs : List Value} {x : DataW H × List MemPlace} {R : List Value → DataW H → Prop} (ht : P.underlying t = some (.slice e)) (hc : P.cellsOf e = k) (hk : 0 < k)
    (h : DataW.trod enc P w base spare held fuel t cs = some x) (hR : ∀ n cs' y, n < fuel → DataW.trod enc P w base spare held n e cs' = some y → R cs' y.1) :
    ∃ a rows cap, cs = [.slice a rows.length cap] ∧ SlAt w k (.slice a rows.length cap) rows ∧ (∀ r ∈ rows, r.length = k) ∧ rows.length ≤ cap ∧ cap ≤ maxLen ∧
      (rows = [] ∨ ∃ ds sp, x.1 = .slice ds sp ∧ ds.length = rows.length ∧ ∀ (i : Nat) r, rows[i]? = some r → ∃ d, ds[i]? = some d ∧ R r d) := by
  rcases DataW.trod_slice ht h with ⟨rfl, _⟩ | ⟨a, len, cap, elems, rest, n, rfl, rfl, rfl, hb, hl, hm, hlen, hel, _, _⟩
  · exact ⟨none, [], 0, rfl, SlAt.nil _ _ _ _, by simp, by simp, by simp [maxLen], .inl rfl⟩
  · have each : ∀ i, i < len → ∃ cs' y, w.cells? base (a.add (i * k)) k = some cs' ∧ elems[i]? = some y ∧ R cs' y.1 := by
      intro i hi
      have := hel i hi
      rw [List.getElem?_eq_getElem (by omega), hc, Option.bind_eq_some_iff] at this
      obtain ⟨cs', h1, h2⟩ := this
      exact ⟨cs', _, h1, List.getElem?_eq_getElem (by omega), hR n cs' _ (by omega) h2⟩
    have fam : ∀ m, m ≤ len → ∃ rows : List (List Value), rows.length = m ∧ ∀ (i : Nat) r, rows[i]? = some r → w.cells? base (a.add (i * k)) k = some r ∧ ∃ y, elems[i]? = some y ∧ R r y.1 := by
      intro m
      induction m with
      | zero => intro _; exact ⟨[], rfl, by simp⟩
      | succ m ih =>
        intro hm
        obtain ⟨rows, h1, h2⟩ := ih (by omega)
        obtain ⟨cs', y, h3, h4, h5⟩ := each m (by omega)
        refine ⟨rows ++ [cs'], by simp [h1], fun i r hr => ?_⟩
        rcases Nat.lt_or_ge i rows.length with hi | hi
        · rw [List.getElem?_append_left hi] at hr; exact h2 i r hr
        · rw [List.getElem?_append_right hi] at hr
          have hi' := lt_of_get hr
          simp at hi'
          obtain rfl : i = m := by omega
          simp [h1] at hr
          subst hr
          exact ⟨h3, y, h4, h5⟩
    obtain ⟨rows, hrl, hrows⟩ := fam len (Nat.le_refl _)
    have hmax : rows.length ≤ 9223372036854775807 := by simp only [maxLen] at hm; omega
    refine ⟨some a, rows, cap, by rw [hrl], ⟨some a, cap, rfl, hmax, by omega, ?_⟩, ?_, by omega, hm, .inr ⟨elems.map (·.1), rest.map (·.1), rfl, by simp; omega, fun i r hr => ?_⟩⟩
    · rcases Nat.eq_zero_or_pos len with h0 | h0
      · left; exact List.eq_nil_of_length_eq_zero (by omega)
      · right
        obtain ⟨r0, hr0⟩ := get_of_lt (l := rows) (i := 0) (by omega)
        have h1 := (hrows 0 r0 hr0).1
        have hz : a.add (0 * k) = a := by simp [Addr.add]
        rw [hz] at h1
        obtain ⟨b, o, rfl, _, _⟩ := cells_at hk h1
        refine ⟨b, o, rfl, fun i r hr => ?_⟩
        have h2 := (hrows i r hr).1
        rw [Addr.add_lit] at h2
        obtain ⟨b', o', he, _, h3⟩ := cells_at hk h2
        cases he
        exact h3
    · intro r hr
      obtain ⟨i, hi⟩ := List.mem_iff_getElem?.1 hr
      have h2 := hrows i r hi
      obtain ⟨_, _, _, h3, _⟩ := cells_at hk h2.1
      exact h3
    · obtain ⟨_, y, h4, h5⟩ := hrows i r hr
      exact ⟨y.1, by simp [h4], h5⟩
end
end Go.Proofs
namespace Go.Proofs
open Go Go.Eng
set_option maxRecDepth 100000
section
variable {H : Type} {enc : TypeId × Value → H} {w : World} {base : Nat} {spare : Nat → Bool} {held : Bool}
/-- What was read is a slice of n elements (or nothing was). -/
def Many (d : DataW H) (n : Nat) : Prop := n = 0 ∨ ∃ ds sp, d = .slice ds sp ∧ ds.length = n
theorem Many.size {P : Program} {ts : List TypeId} {ds : List (DataW H)} {d : DataW H} {n b j : Nat} {t e : TypeId} (hm : Many d n) (h : (DataW.weightsEach P ts ds).all (· ≤ reachBytes) = true) (ht : ts[j]? = some t) (hd : ds[j]? = some d) (hu : P.underlying t = some (.slice e)) (hb : P.bytesOf e = b) : n * b ≤ 140737488351232 := by
 rcases hm with rfl | ⟨es, sp, rfl, rfl⟩
 ·simp
 ·have h1 := sized_slice h ht hd hu
  rw [hb] at h1
  have h2 : es.length * b ≤ (es.length + sp.length) * b := Nat.mul_le_mul_right _ (by omega)
  exact Nat.le_trans h2 h1
theorem open_intsN {t e fuel : Nat} {cs : List Value} {x : DataW H × List MemPlace} (ht : (Tryz.prog).underlying t = some (.slice e)) (he : (Tryz.prog).underlying e = some (.int .i64)) (hc : (Tryz.prog).cellsOf e = 1)
  (h : DataW.trod enc Tryz.prog w base spare held fuel t cs = some x) : ∃ a l cap, cs = [.slice a l.length cap] ∧ IntsAt w (.slice a l.length cap) l ∧ Many x.1 l.length := by
 obtain ⟨a, rows, cap, rfl, h1, h2, _, _, h3⟩ := open_rowsB (R := fun cs _ => ∃ n : Int, cs = intV n) ht hc (by decide) h (fun n cs' y _ hy => by obtain ⟨m, rfl, _⟩ := DataW.trod_int he hy; exact ⟨m, rfl⟩)
 have h4 : ∀ r ∈ rows, ∃ s : Int, r = intV s := by
  intro r hr
  rcases h3 with rfl | ⟨ds, sp, _, _, h5⟩
  ·cases hr
  ·obtain ⟨i, hi⟩ := List.mem_iff_getElem?.1 hr
   obtain ⟨_, _, h6⟩ := h5 i r hi
   exact h6
 obtain ⟨l, rfl⟩ := rows_map h4
 refine ⟨a, l, cap, by simp, by simpa [IntsAt] using h1, ?_⟩
 rcases h3 with h5 | ⟨ds, sp, h5, h6, _⟩
 ·left; simpa using h5
 ·right; exact ⟨ds, sp, h5, by simpa using h6⟩
end
end Go.Proofs
namespace Go.Proofs
open Go Go.Eng
set_option maxRecDepth 100000
section
variable {H : Type} {enc : TypeId × Value → H} {w : World} {base : Nat} {spare : Nat → Bool} {held : Bool}
theorem cellsN1 : Tryz.prog.cellsOf 3 = 1 := by kernel_rfl
theorem cellsN2 : Tryz.prog.cellsOf 36 = 2 := by kernel_rfl
theorem cellsN3 : Tryz.prog.cellsOf 39 = 3 := by kernel_rfl
theorem cellsN4 : Tryz.prog.cellsOf 22 = 1 := by kernel_rfl
theorem cellsN5 : Tryz.prog.cellsOf 23 = 1 := by kernel_rfl
theorem cellsN6 : Tryz.prog.cellsOf 24 = 1 := by kernel_rfl
theorem cellsN7 : Tryz.prog.cellsOf 37 = 1 := by kernel_rfl
theorem cellsN8 : Tryz.prog.cellsOf 26 = 5 := by kernel_rfl
theorem open_pair {fuel : Nat} {cs : List Value} {x : DataW H × List MemPlace} (h : DataW.trod enc Tryz.prog w base spare held fuel 36 cs = some x) : ∃ s : Int × Int, cs = spanV s := by
  obtain ⟨xs, n, rfl, _, hl, hx, hf⟩ := DataW.trod_array Tryz.underlying36 h
  rw [cellsN2] at hl
  match cs, hl with
  | [c0, c1], _ =>
    have h0 := hf 0 (by decide)
    have h1 := hf 1 (by decide)
    simp only [cellsN1, Nat.zero_mul, Nat.one_mul, List.drop, List.take] at h0 h1
    rw [List.getElem?_eq_getElem (by rw [hx]; decide)] at h0 h1
    obtain ⟨a, e0, _⟩ := DataW.trod_int Tryz.underlying3 h0
    obtain ⟨b, e1, _⟩ := DataW.trod_int Tryz.underlying3 h1
    simp at e0 e1
    subst e0; subst e1
    exact ⟨(a, b), rfl⟩
theorem open_edge {fuel : Nat} {cs : List Value} {x : DataW H × List MemPlace} (h : DataW.trod enc Tryz.prog w base spare held fuel 39 cs = some x) : ∃ (e : Ed) (u : Value), cs = edRow e u ∧ SpansAt w u e.2.2 := by
  obtain ⟨xs, n, rfl, _, hl, hx, hf⟩ := DataW.trod_struct Tryz.underlying39 h
  rw [cellsN3] at hl
  match cs, hl with
  | [c0, c1, c2], _ =>
    have h0 : DataW.trod enc Tryz.prog w base spare held n 3 (([c0, c1, c2].drop 0).take (Tryz.prog.cellsOf 3)) = xs[0]? := hf 0 _ rfl
    have h1 : DataW.trod enc Tryz.prog w base spare held n 3 (([c0, c1, c2].drop 1).take (Tryz.prog.cellsOf 3)) = xs[1]? := hf 1 _ rfl
    have h2 : DataW.trod enc Tryz.prog w base spare held n 37 (([c0, c1, c2].drop 2).take (Tryz.prog.cellsOf 37)) = xs[2]? := hf 2 _ rfl
    simp only [cellsN1, cellsN7, List.drop, List.take] at h0 h1 h2
    rw [List.getElem?_eq_getElem (by rw [hx]; decide)] at h0 h1 h2
    obtain ⟨a, e0, _⟩ := DataW.trod_int Tryz.underlying3 h0
    obtain ⟨b, e1, _⟩ := DataW.trod_int Tryz.underlying3 h1
    obtain ⟨sa, set, sc, e2, hs⟩ := open_spans h2
    simp at e0 e1 e2
    subst e0; subst e1; subst e2
    exact ⟨(a, b, set), _, rfl, hs⟩
theorem edges_rows : ∀ (rows : List (List Value)), (∀ r ∈ rows, ∃ (e : Ed) (u : Value), r = edRow e u ∧ SpansAt w u e.2.2) →
    ∃ es : List Ed, rows.length = es.length ∧ ∀ (i : Nat) e row, es[i]? = some e → rows[i]? = some row → ∃ u, row = edRow e u ∧ SpansAt w u e.2.2
  | [], _ => ⟨[], rfl, fun i e row h => by simp at h⟩
  | r :: rows, h => by
    obtain ⟨e, u, h1, h2⟩ := h r (by simp)
    obtain ⟨es, h3, h4⟩ := edges_rows rows fun r hr => h r (by simp [hr])
    refine ⟨e :: es, by simp [h3], fun i f row hf hr => ?_⟩
    cases i with
    | zero => simp at hf hr; subst hf; subst hr; exact ⟨u, h1, h2⟩
    | succ i => exact h4 i f row (by simpa using hf) (by simpa using hr)
theorem open_nfa {fuel : Nat} {cs : List Value} {x : DataW H × List MemPlace} (h : DataW.trod enc Tryz.prog w base spare held fuel 26 cs = some x) : ∃ n : Nf, NfAt w n cs := by
  obtain ⟨xs, n, rfl, _, hl, hx, hf⟩ := DataW.trod_struct Tryz.underlying26 h
  rw [cellsN8] at hl
  match cs, hl with
  | [c0, c1, c2, c3, c4], _ =>
    have h0 : DataW.trod enc Tryz.prog w base spare held n 3 (([c0, c1, c2, c3, c4].drop 0).take (Tryz.prog.cellsOf 3)) = xs[0]? := hf 0 _ rfl
    have h1 : DataW.trod enc Tryz.prog w base spare held n 3 (([c0, c1, c2, c3, c4].drop 1).take (Tryz.prog.cellsOf 3)) = xs[1]? := hf 1 _ rfl
    have h2 : DataW.trod enc Tryz.prog w base spare held n 22 (([c0, c1, c2, c3, c4].drop 2).take (Tryz.prog.cellsOf 22)) = xs[2]? := hf 2 _ rfl
    have h3 : DataW.trod enc Tryz.prog w base spare held n 23 (([c0, c1, c2, c3, c4].drop 3).take (Tryz.prog.cellsOf 23)) = xs[3]? := hf 3 _ rfl
    have h4 : DataW.trod enc Tryz.prog w base spare held n 24 (([c0, c1, c2, c3, c4].drop 4).take (Tryz.prog.cellsOf 24)) = xs[4]? := hf 4 _ rfl
    simp only [cellsN1, cellsN4, cellsN5, cellsN6, List.drop, List.take] at h0 h1 h2 h3 h4
    rw [List.getElem?_eq_getElem (by rw [hx]; decide)] at h0 h1 h2 h3 h4
    obtain ⟨s, e0, _⟩ := DataW.trod_int Tryz.underlying3 h0
    obtain ⟨t, e1, _⟩ := DataW.trod_int Tryz.underlying3 h1
    obtain ⟨ea, ends, ec, e2, he⟩ := open_intsL Tryz.underlying22 Tryz.underlying3 cellsN1 h2
    obtain ⟨pa, prows, pc, e3, hp1, hp2, _⟩ := open_rows (R := fun cs => ∃ s : Int × Int, cs = spanV s) Tryz.underlying23 cellsN2 (by decide) h3 (fun n cs' y _ hy => open_pair hy)
    obtain ⟨eps, rfl⟩ := rows_map fun r hr => (hp2 r hr).1
    obtain ⟨xa, xrows, xc, e4, hx1, hx2, _⟩ := open_rows (R := fun cs => ∃ (e : Ed) (u : Value), cs = edRow e u ∧ SpansAt w u e.2.2) Tryz.underlying24 cellsN3 (by decide) h4 (fun n cs' y _ hy => open_edge hy)
    obtain ⟨es, hel, heg⟩ := edges_rows (w := w) xrows fun r hr => (hx2 r hr).1
    simp at e0 e1 e2 e3 e4
    subst e0; subst e1; subst e2; subst e3; subst e4
    exact ⟨⟨s, t, ends, eps, es⟩, ea, ec, pa, pc, xa, xc, by simp [hel], he, by simpa [SpansAt] using hp1, xrows, by rw [← hel]; exact hx1, hel, heg⟩
end
end Go.Proofs
