/- Contracts and plain lemmas, part 7. -/
import Derived.Tactics
import Derived.Deep.Quiet
import Derived.Laws.AppendOwn
import Derived.KernelRfl
import Derived.Laws.Entries
import Derived.Laws.Build
import Derived.Below
import Derived.RowKit3
import Derived.StillTail
import Derived.Sort.Grow
import Derived.Deep.Draws
import Derived.Test.YtllhcafmcbibbaaChecked
import Derived.Laws.StructEq
import Derived.MapKept
import Derived.Laws.BytesArg
import Derived.DeepKeys3
import Derived.Defers
import Derived.Recover
import Derived.Shelf.Sort.Plain
import Derived.Shelf.Slices.CompactI
import Derived.Test.YtllhcafmcbibbaaProg
import Derived.Shelf.Small.Bits
import Derived.OpenShut
import Derived.ChangeSlices
import Derived.Test.YtllhcafmcbibbaaRows
import Derived.Test.YtllhcafmcbibbaaZm6
namespace Go.Proofs
open Go Go.Eng Go.Sort
set_option maxRecDepth 100000
abbrev TNf : Nat := 30
theorem siz61 : Siz Try.prog 61 0 := by unfold Siz; kernel_rfl
theorem zer61 : Zer Try.prog 61 (.agg #[]) := by unfold Zer; kernel_rfl
theorem thom1_idle (w0 : World) (b1 b2 : Nat) : CallsD Try.prog 30 #[.pointer (some ⟨b1, 0, none⟩), .pointer (some ⟨b2, 0, none⟩)] .returning w0 fun e u1 w' => (∃ r, e = .returned r ∧ Ext w0 w') ∧ u1 = .returning := by
 refine CallsD_recover (v := .nilIface) Try.func30 rfl Try.ntmps30 (Nat.le_of_ble_eq_true rfl) rfl rfl (by decide) (fun _ _ => r_recover) (.inl ⟨rfl, rfl, rfl⟩) ?_
 have E : Chg none1 w0 w0 := Chg.refl _ _
 refine qV (r_assertNil Try.underlying61 zer61 rfl) ?_
 refine qM _ rfl ?_
 refine qV (r_extract rfl rfl) ?_
 refine qV (r_extract rfl rfl) ?_
 refine s_allocStore (v := (.agg #[])) (c := #[]) (n := 0) (by decide) zer61 rfl siz61 rfl rfl rfl (by simp [Value.oneCell']) ?_
 intro b1 w1 N1
 have F1 := N1.ge E
 replace E := E.ext N1.ext
 have B1 := N1.blk
 refine qA _ rfl ?_
 refine WpL_nil (Wp_seq_region ?_)
 refine qM _ rfl ?_
 refine WpL_nil ?_
 refine Wp_cond_false rfl ?_
 refine Wp_skip ?_
 refine fin_none Try.results30 ?_
 exact E
theorem thom1_panic (w0 : World) (bd be : Nat) (h1 : Blk w0 bd #[.int .i64 0, .int .i64 0, .slice none 0 0, .slice none 0 0, .slice none 0 0] TNf) (h2 : Blk w0 be #[.int .i64 0] 31) (hne : bd ≠ be) :
  CallsD Try.prog 30 #[.pointer (some ⟨bd, 0, none⟩), .pointer (some ⟨be, 0, none⟩)] (.panicking lgN) w0 fun e u1 w' => (∃ r, e = .returned r ∧ (Blk w' bd #[.int .i64 0, .int .i64 0, .slice none 0 0, .slice none 0 0, .slice none 0 0] TNf ∧ Blk w' be #[.int .i64 2] 31 ∧ Chg (fun y => y = bd ∨ y = be) w0 w')) ∧ u1 = .panicking [{ v := .iface 61 (.agg #[]), recovered := true }] := by
 have hl1 := h1.lt
 have hl2 := h2.lt
 refine CallsD_recover (v := (.iface 61 (.agg #[]))) Try.func30 rfl Try.ntmps30 (Nat.le_of_ble_eq_true rfl) rfl rfl (by decide) (fun _ _ => r_recover) (.inr ⟨[], rfl, rfl⟩) ?_
 have E : Chg (fun y => y = bd ∨ y = be) w0 w0 := Chg.refl _ _
 refine qV (r_assertYes Try.underlying61 rfl) ?_
 refine qM _ rfl ?_
 refine qV (r_extract rfl rfl) ?_
 refine qV (r_extract rfl rfl) ?_
 refine s_allocStore (v := (.agg #[])) (c := #[]) (n := 0) (by decide) zer61 rfl siz61 rfl rfl rfl (by simp [Value.oneCell']) ?_
 intro b1 w1 N1
 have F1 := N1.ge E
 have O1_bd := N1.lt h1
 have O1_be := N1.lt h2
 replace h1 := N1.keep h1
 replace h2 := N1.keep h2
 replace E := E.ext N1.ext
 have B1 := N1.blk
 refine qA _ rfl ?_
 refine WpL_nil (Wp_seq_region ?_)
 refine qM _ rfl ?_
 refine WpL_nil ?_
 refine Wp_cond_true rfl ?_
 refine Wp_region ?_
 refine qV (r_build (ps := []) (v := (.agg #[(I6 0), (I6 0), (.slice none 0 0), (.slice none 0 0), (.slice none 0 0)])) rfl (by kernel_rfl)) ?_
 refine s_storeAgg (b := bd) (o := 0) (c' := #[(I6 0), (I6 0), (.slice none 0 0), (.slice none 0 0), (.slice none 0 0)]) rfl rfl (by simp [Value.oneCell']) siz30 rfl h1 (by first | (simp; done) | exact Nat.le_of_ble_eq_true rfl) rfl ?_
 intro w2 S2
 replace h2 := S2.keep (by omega) h2
 replace B1 := S2.keep (by omega) B1
 replace E := S2.step E (by first | exact Or.inl (by omega) | exact Or.inr rfl | exact Or.inr (by assumption) | exact Or.inr (by simp) | exact Or.inr (by omega) | exact Or.inr (by dsimp only; omega))
 replace h1 := S2.blk
 refine s_store (b := be) (o := 0) (c' := #[(I6 2)]) (v := (I6 2)) rfl rfl rfl siz31 h2 (by simp) rfl ?_
 intro w3 S3
 replace h1 := S3.keep (by omega) h1
 replace B1 := S3.keep (by omega) B1
 replace E := S3.step E (by first | exact Or.inl (by omega) | exact Or.inr rfl | exact Or.inr (by assumption) | exact Or.inr (by simp) | exact Or.inr (by omega) | exact Or.inr (by dsimp only; omega))
 replace h2 := S3.blk
 refine WpL_nil ?_
 refine fin_none Try.results30 ?_
 exact ⟨h1, h2, E⟩
theorem hi_thom1 (w : World) (cap : Array Value) : (callFunc 30 cap).run Try.prog w = .ok (.enter 30 cap) w := run_callF Try.func30 kQ kQ
theorem lim0 : LimT ⟨0, [], []⟩ 0 := ⟨by decide, by decide, by decide⟩
theorem tst0 {w : World} {bt : Nat} (F : Nat → Prop) (hF : ∀ y, F y → y < bt) (h : Blk w bt #[.int .i64 0, .int .i64 0, .slice none 0 0, .slice none 0 0, .slice none 0 0] TTh) : TSt F w w.heap.size bt (.slice none 0 0) (.slice none 0 0) ⟨0, [], []⟩ :=
 ⟨h, World.ownsRow_nil _ _ _ _, ⟨[], World.ownsRow_nil _ _ _ _, rfl, fun i e row h => (by simp at h)⟩, fun b h => (by cases h), fun b h => (by cases h), fun b h => (by cases h), fun h => (by have := hF _ h; omega), h.lt, Nat.le_refl _, fun y hy => by have := hF y hy; have := h.lt; omega⟩
set_option maxHeartbeats 2000000 in
theorem thom_c (w0 : World) (t : Re) (vs : List Value) (ht : ReAt w0 t vs) : Ret Try.prog 6 #[.agg vs.toArray] w0 fun r w => NfR w0.heap.size (ThP t) r w ∧ Ext w0 w := by
 have ht0 := ht
 obtain ⟨sa, sc, aa, ac, rfl, _, _, _⟩ := ht.form
 refine CallsA_of Try.func6 rfl Try.ntmps6 (Nat.le_of_ble_eq_true rfl) ?_
 have E : Chg none1 w0 w0 := Chg.refl _ _
 refine WpA_seq_region ?_
 refine s_box (v := (.agg (R6 t sa sc aa ac))) (c := (R6 t sa sc aa ac)) (by decide) rfl rfl ?_
 intro bb wb Nb
 have Fb := Nb.ge E
 replace E := E.ext Nb.ext
 have Bb := Nb.blk
 refine s_alloc (c := #[(I6 0), (I6 0), (.slice none 0 0), (.slice none 0 0), (.slice none 0 0)]) (by decide) zer30 rfl ?_
 intro br wr Nr
 have Fr := Nr.ge E
 have Or_bb := Nr.lt Bb
 replace Bb := Nr.keep Bb
 replace E := E.ext Nr.ext
 have Br := Nr.blk
 refine s_alloc (c := #[(I6 0)]) (by decide) zer31 rfl ?_
 intro be we Ne
 have Fe := Ne.ge E
 have Oe_bb := Ne.lt Bb
 have Oe_br := Ne.lt Br
 replace Bb := Ne.keep Bb
 replace Br := Ne.keep Br
 replace E := E.ext Ne.ext
 have Be := Ne.blk
 refine WpL_nil (WpA_assoc (WpA_seq_region ?_))
 refine qV (r_loadAgg (vs := [(I6 t.kind), (.slice sa t.set.length sc), (.slice aa t.args.length ac), (I6 t.mn), (I6 t.mx), (.bool t.neg)]) rfl agg25 siz25 rfl (Bb.cells rfl)) ?_
 refine WpL_enter rfl rfl (by decide) (r_callF Try.func10 kQ kQ rfl) (simple_c _ t _ (ReAt.ext E t ht0)) ?_
 rintro _ w9 ⟨rfl, X9⟩
 replace Bb := X9.keep Bb
 replace Br := X9.keep Br
 replace Be := X9.keep Be
 replace E := E.ext X9
 refine qA _ rfl ?_
 refine WpL_nil (WpA_seq_region ?_)
 refine qM _ rfl ?_
 refine qV (r_neq rfl rfl) ?_
 refine WpL_nil ?_
 refine WpA_cond (b := decide ((simE t : Int) ≠ 0)) rfl (fun h0 => ?_) (fun h0 => ?_)
 ·have kh0 := h0
  replace h0 := of_decide_eq_true h0
  refine Wp_seq_region ?_
  refine qV (r_build (ps := []) (v := (.agg #[(I6 0), (I6 0), (.slice none 0 0), (.slice none 0 0), (.slice none 0 0)])) rfl (by kernel_rfl)) ?_
  refine qM _ rfl ?_
  refine s_storeAgg (b := br) (o := 0) (c' := #[(I6 0), (I6 0), (.slice none 0 0), (.slice none 0 0), (.slice none 0 0)]) rfl rfl (by simp [Value.oneCell']) siz30 rfl Br (by first | (simp; done) | exact Nat.le_of_ble_eq_true rfl) rfl ?_
  intro w1 S1
  replace Bb := S1.keep (by omega) Bb
  replace Be := S1.keep (by omega) Be
  replace E := S1.step E (by first | exact Or.inl (by omega) | exact Or.inr rfl | exact Or.inr (by assumption) | exact Or.inr (by simp) | exact Or.inr (by omega) | exact Or.inr (by dsimp only; omega))
  replace Br := S1.blk
  refine s_store (b := be) (o := 0) (c' := #[(I6 (simE t))]) (v := (I6 (simE t))) rfl rfl rfl siz31 Be (by simp) rfl ?_
  intro w2 S2
  replace Bb := S2.keep (by omega) Bb
  replace Br := S2.keep (by omega) Br
  replace E := S2.step E (by first | exact Or.inl (by omega) | exact Or.inr rfl | exact Or.inr (by assumption) | exact Or.inr (by simp) | exact Or.inr (by omega) | exact Or.inr (by dsimp only; omega))
  replace Be := S2.blk
  refine WpL_nil (Wp_ret ?_)
  exact fun a ha => ⟨_, res_agg_cell (vs := [.int .i64 0, .int .i64 0, .slice none 0 0, .slice none 0 0, .slice none 0 0]) Try.results6 rfl rfl agg30 siz30 rfl (Br.cells rfl) flat31 (Be.cell rfl) ha, _, rfl, nfR_zero (.inl ⟨h0, rfl, rfl⟩), E⟩
 ·have kh0 := h0
  replace h0 := of_decide_eq_false h0
  have hs0 : simE t = 0 := by omega
  obtain ⟨hok, hsz, hus⟩ := simE_zero.1 hs0
  refine WpA_seq_regionD ?_
  refine WpLA_val rfl rfl (by decide) (r_makeFunc rfl rfl) ?_
  refine WpLA_defer rfl rfl (r_defer rfl) ?_
  refine Wp_seq_region ?_
  refine qV (r_build (ps := []) (v := (.agg #[(I6 0), (I6 0), (.slice none 0 0), (.slice none 0 0), (.slice none 0 0)])) rfl (by kernel_rfl)) ?_
  refine s_box (v := (.agg #[(I6 0), (I6 0), (.slice none 0 0), (.slice none 0 0), (.slice none 0 0)])) (c := #[(I6 0), (I6 0), (.slice none 0 0), (.slice none 0 0), (.slice none 0 0)]) (by decide) rfl rfl ?_
  intro bt wt Nt
  have Ft := Nt.ge E
  have Ot_bb := Nt.lt Bb
  have Ot_br := Nt.lt Br
  have Ot_be := Nt.lt Be
  replace Bb := Nt.keep Bb
  replace Br := Nt.keep Br
  replace Be := Nt.keep Be
  replace E := E.ext Nt.ext
  have Bt := Nt.blk
  refine qA _ rfl ?_
  refine WpL_nil (Wp_seq_region ?_)
  refine qM _ rfl ?_
  refine qV (r_loadAgg (vs := [(I6 t.kind), (.slice sa t.set.length sc), (.slice aa t.args.length ac), (I6 t.mn), (I6 t.mx), (.bool t.neg)]) rfl agg25 siz25 rfl (Bb.cells rfl)) ?_
  obtain ⟨n9, hn9⟩ : ∃ n9, n9 = (wt).heap.size := ⟨_, rfl⟩
  have hlt : br < bt ∧ be < bt ∧ w0.heap.size ≤ br ∧ w0.heap.size ≤ be ∧ br ≠ be ∧ bt < n9 := ⟨by omega, by omega, by omega, by omega, by omega, by rw [hn9]; exact Bt.lt⟩
  have T0 := tst0 (fun y => y < bt) (fun _ h => h) Bt
  refine WpL_enterX rfl rfl (by decide) (r_callF Try.func31 kQ kQ rfl) (thOf_c w0 _ t (Nat.le_refl _) (by omega) hok hus _ bt _ _ _ _ _ _ ht0 E (fun y hy => by show y < bt; omega) T0 lim0) (fun w' h => fun a ha => leaves_end (X := fun w9 => Blk w9 br #[.int .i64 0, .int .i64 0, .slice none 0 0, .slice none 0 0, .slice none 0 0] TNf ∧ Blk w9 be #[.int .i64 2] 31 ∧ Chg (fun y => y = br ∨ y = be) w' w9) rfl (by intro h; cases h) (hi_thom1 _ _) ((thom1_panic _ br be (h.2.keep (fun h => by rcases h with h | h | h; omega; cases h; cases h) Br) (h.2.keep (fun h => by rcases h with h | h | h; omega; cases h; cases h) Be) hlt.2.2.2.2.1).mono fun e9 u9 w9 h9 => by obtain ⟨⟨r9, h1, h2⟩, h3⟩ := h9; exact ⟨⟨r9, h1⟩, by rw [h3]; rfl, h2⟩) (fun w9 h9 => ⟨_, res_agg_cell (vs := [.int .i64 0, .int .i64 0, .slice none 0 0, .slice none 0 0, .slice none 0 0]) Try.results6 rfl rfl agg30 siz30 rfl (h9.1.cells rfl) flat31 (h9.2.1.cell rfl) ha, _, rfl, nfR_zero (.inr (.inl ⟨hs0, h.1, rfl, rfl⟩)), (E.step h.2 (fun y hy hh => by rcases hh with hh | hh | hh; omega; cases hh; cases hh)).step h9.2.2 (fun y hy hh => by rcases hh with hh | hh <;> omega)⟩)) ?_
  rintro _ w19 ⟨s, fa, fb, F2, pv, xv, hth, rfl, G⟩
  replace Bb := G.chg.keep ((fun h => by rcases h with h | h | h; omega; cases h; cases h)) Bb
  replace Br := G.chg.keep ((fun h => by rcases h with h | h | h; omega; cases h; cases h)) Br
  replace Be := G.chg.keep ((fun h => by rcases h with h | h | h; omega; cases h; cases h)) Be
  replace E := E.step G.chg ((fun y hy hh => by rcases hh with hh | hh | hh; omega; cases hh; cases hh))
  obtain ⟨⟨pa, pc, rfl⟩, xa, xc, rfl⟩ := G.st.form
  have hblk := G.st.blk
  have hC : Chg (fun y => y < n9) w19 w19 := Chg.refl _ _
  refine qM _ rfl ?_
  refine qV (r_extract rfl rfl) ?_
  refine qV (r_extract rfl rfl) ?_
  refine qA _ rfl ?_
  refine qA _ rfl ?_
  refine WpL_nil (Wp_seq_region ?_)
  refine qM _ rfl ?_
  refine qM _ rfl ?_
  refine qM _ rfl ?_
  refine qM _ rfl ?_
  refine s_buildSlice (ps := [(0, (I6 (fb : Int)))]) (c := #[(I6 (fb : Int))]) (by decide) rfl Try.underlying26 siz3 zer3 (by decide) (by decide) (by kernel_rfl) ?_
  intro bk wk Nk
  have Fk := Nk.ge E
  have Ok_bb := Nk.lt Bb
  have Ok_br := Nk.lt Br
  have Ok_be := Nk.lt Be
  have Ok_bt := Nk.lt hblk
  replace Bb := Nk.keep Bb
  replace Br := Nk.keep Br
  replace Be := Nk.keep Be
  replace hblk := Nk.keep hblk
  replace hC := hC.ext Nk.ext
  replace E := E.ext Nk.ext
  have Bk := Nk.blk
  refine qV (r_nilCheck rfl) ?_
  refine qF bt 0 0 rfl Try.underlying79 rfl siz30 rfl ?_
  refine qF bt 0 1 rfl Try.underlying30 rfl siz3 rfl ?_
  refine s_store (b := bt) (o := 1) (c' := #[(I6 (s.n : Int)), (I6 (fa : Int)), (.slice none 0 0), (.slice pa s.eps.length pc), (.slice xa s.edges.length xc)]) (v := (I6 (fa : Int))) rfl rfl rfl siz3 hblk (by simp) rfl ?_
  intro w3 S3
  replace hC := hC.step S3.chg (fun y _ h => by have h' : y = _ := h; omega)
  replace Bb := S3.keep (by omega) Bb
  replace Br := S3.keep (by omega) Br
  replace Be := S3.keep (by omega) Be
  replace Bk := S3.keep (by omega) Bk
  replace E := S3.step E (by first | exact Or.inl (by omega) | exact Or.inr rfl | exact Or.inr (by assumption) | exact Or.inr (by simp) | exact Or.inr (by omega) | exact Or.inr (by dsimp only; omega))
  replace hblk := S3.blk
  refine qV (r_nilCheck rfl) ?_
  refine qF bt 0 0 rfl Try.underlying79 rfl siz30 rfl ?_
  refine qF bt 0 2 rfl Try.underlying30 rfl siz26 rfl ?_
  refine s_store (b := bt) (o := 2) (c' := #[(I6 (s.n : Int)), (I6 (fa : Int)), (.slice (some ⟨bk, 0, none⟩) 1 1), (.slice pa s.eps.length pc), (.slice xa s.edges.length xc)]) (v := (.slice (some ⟨bk, 0, none⟩) 1 1)) rfl rfl rfl siz26 hblk (by simp) rfl ?_
  intro w4 S4
  replace hC := hC.step S4.chg (fun y _ h => by have h' : y = _ := h; omega)
  replace Bb := S4.keep (by omega) Bb
  replace Br := S4.keep (by omega) Br
  replace Be := S4.keep (by omega) Be
  replace Bk := S4.keep (by omega) Bk
  replace E := S4.step E (by first | exact Or.inl (by omega) | exact Or.inr rfl | exact Or.inr (by assumption) | exact Or.inr (by simp) | exact Or.inr (by omega) | exact Or.inr (by dsimp only; omega))
  replace hblk := S4.blk
  refine WpL_nil (Wp_seq_region ?_)
  refine qM _ rfl ?_
  refine qV (r_nilCheck rfl) ?_
  refine qF bt 0 0 rfl Try.underlying79 rfl siz30 rfl ?_
  refine qV (r_loadAgg (vs := [(I6 (s.n : Int)), (I6 (fa : Int)), (.slice (some ⟨bk, 0, none⟩) 1 1), (.slice pa s.eps.length pc), (.slice xa s.edges.length xc)]) rfl agg30 siz30 rfl (hblk.cells rfl)) ?_
  refine s_storeAgg (b := br) (o := 0) (c' := #[(I6 (s.n : Int)), (I6 (fa : Int)), (.slice (some ⟨bk, 0, none⟩) 1 1), (.slice pa s.eps.length pc), (.slice xa s.edges.length xc)]) rfl rfl (by simp [Value.oneCell']) siz30 rfl Br (by first | (simp; done) | exact Nat.le_of_ble_eq_true rfl) rfl ?_
  intro w5 S5
  replace hC := hC.step S5.chg (fun y _ h => by have h' : y = _ := h; omega)
  replace Bb := S5.keep (by omega) Bb
  replace Be := S5.keep (by omega) Be
  replace hblk := S5.keep (by omega) hblk
  replace Bk := S5.keep (by omega) Bk
  replace E := S5.step E (by first | exact Or.inl (by omega) | exact Or.inr rfl | exact Or.inr (by assumption) | exact Or.inr (by simp) | exact Or.inr (by omega) | exact Or.inr (by dsimp only; omega))
  replace Br := S5.blk
  refine s_store (b := be) (o := 0) (c' := #[(I6 0)]) (v := (I6 0)) rfl rfl rfl siz31 Be (by simp) rfl ?_
  intro w6 S6
  replace hC := hC.step S6.chg (fun y _ h => by have h' : y = _ := h; omega)
  replace Bb := S6.keep (by omega) Bb
  replace Br := S6.keep (by omega) Br
  replace hblk := S6.keep (by omega) hblk
  replace Bk := S6.keep (by omega) Bk
  replace E := S6.step E (by first | exact Or.inl (by omega) | exact Or.inr rfl | exact Or.inr (by assumption) | exact Or.inr (by simp) | exact Or.inr (by omega) | exact Or.inr (by dsimp only; omega))
  replace Be := S6.blk
  refine WpL_nil (Wp_ret ?_)
  have hN : NfNew w0.heap.size _ (nfT s fa fb) [.int .i64 ((s.n : Nat) : Int), .int .i64 ((fa : Nat) : Int), .slice (some ⟨bk, 0, none⟩) 1 1, .slice pa s.eps.length pc, .slice xa s.edges.length xc] := fun M w7 c hM => by
   have hD := G.st.done (hC.trans (c.mono fun y _ hy => by have := hM y hy; omega)) (fun y h => by rw [← hn9]; exact h)
   exact ⟨_, _, _, _, _, _, rfl, ints_of_blk [((fb : Nat) : Int)] (c.keep (fun h => by have := hM _ h; omega) Bk) (by simp) (by simp), hD.1, hD.2⟩
  exact fun a ha => leaves_end (X := Ext _) rfl (by intro h; cases h) (hi_thom1 _ _) ((thom1_idle _ br be).mono fun e9 u9 w9 h9 => by obtain ⟨⟨r9, h1, h2⟩, h3⟩ := h9; exact ⟨⟨r9, h1⟩, by rw [h3]; rfl, h2⟩) (fun w9 h9 => ⟨_, res_agg_cell (vs := [.int .i64 ((s.n : Nat) : Int), .int .i64 ((fa : Nat) : Int), .slice (some ⟨bk, 0, none⟩) 1 1, .slice pa s.eps.length pc, .slice xa s.edges.length xc]) Try.results6 rfl rfl agg30 siz30 rfl ((Ext.keep h9 Br).cells rfl) flat31 ((Ext.keep h9 Be).cell rfl) ha, _, rfl, ⟨nfT s fa fb, _, _, _, _, _, _, _, rfl, hN.ext h9, .inr (.inr ⟨hs0, rfl, s, fa, fb, hth, rfl⟩)⟩, E.ext h9⟩)
end Go.Proofs
namespace Go.Proofs
open Go Go.Eng Go.Sort
set_option maxRecDepth 100000
theorem glu1_idle (w0 : World) (b1 b2 : Nat) : CallsD Try.prog 24 #[.pointer (some ⟨b1, 0, none⟩), .pointer (some ⟨b2, 0, none⟩)] .returning w0 fun e u1 w' => (∃ r, e = .returned r ∧ Ext w0 w') ∧ u1 = .returning := by
 refine CallsD_recover (v := .nilIface) Try.func24 rfl Try.ntmps24 (Nat.le_of_ble_eq_true rfl) rfl rfl (by decide) (fun _ _ => r_recover) (.inl ⟨rfl, rfl, rfl⟩) ?_
 have E : Chg none1 w0 w0 := Chg.refl _ _
 refine qV (r_assertNil Try.underlying61 zer61 rfl) ?_
 refine qM _ rfl ?_
 refine qV (r_extract rfl rfl) ?_
 refine qV (r_extract rfl rfl) ?_
 refine s_allocStore (v := (.agg #[])) (c := #[]) (n := 0) (by decide) zer61 rfl siz61 rfl rfl rfl (by simp [Value.oneCell']) ?_
 intro b1 w1 N1
 have F1 := N1.ge E
 replace E := E.ext N1.ext
 have B1 := N1.blk
 refine qA _ rfl ?_
 refine WpL_nil (Wp_seq_region ?_)
 refine qM _ rfl ?_
 refine WpL_nil ?_
 refine Wp_cond_false rfl ?_
 refine Wp_skip ?_
 refine fin_none Try.results24 ?_
 exact E
theorem glu1_panic (w0 : World) (bd be : Nat) (h1 : Blk w0 bd #[.int .i64 0, .int .i64 0, .slice none 0 0, .slice none 0 0, .slice none 0 0] TNf) (h2 : Blk w0 be #[.int .i64 0] 31) (hne : bd ≠ be) :
  CallsD Try.prog 24 #[.pointer (some ⟨bd, 0, none⟩), .pointer (some ⟨be, 0, none⟩)] (.panicking lgN) w0 fun e u1 w' => (∃ r, e = .returned r ∧ (Blk w' bd #[.int .i64 0, .int .i64 0, .slice none 0 0, .slice none 0 0, .slice none 0 0] TNf ∧ Blk w' be #[.int .i64 2] 31 ∧ Chg (fun y => y = bd ∨ y = be) w0 w')) ∧ u1 = .panicking [{ v := .iface 61 (.agg #[]), recovered := true }] := by
 have hl1 := h1.lt
 have hl2 := h2.lt
 refine CallsD_recover (v := (.iface 61 (.agg #[]))) Try.func24 rfl Try.ntmps24 (Nat.le_of_ble_eq_true rfl) rfl rfl (by decide) (fun _ _ => r_recover) (.inr ⟨[], rfl, rfl⟩) ?_
 have E : Chg (fun y => y = bd ∨ y = be) w0 w0 := Chg.refl _ _
 refine qV (r_assertYes Try.underlying61 rfl) ?_
 refine qM _ rfl ?_
 refine qV (r_extract rfl rfl) ?_
 refine qV (r_extract rfl rfl) ?_
 refine s_allocStore (v := (.agg #[])) (c := #[]) (n := 0) (by decide) zer61 rfl siz61 rfl rfl rfl (by simp [Value.oneCell']) ?_
 intro b1 w1 N1
 have F1 := N1.ge E
 have O1_bd := N1.lt h1
 have O1_be := N1.lt h2
 replace h1 := N1.keep h1
 replace h2 := N1.keep h2
 replace E := E.ext N1.ext
 have B1 := N1.blk
 refine qA _ rfl ?_
 refine WpL_nil (Wp_seq_region ?_)
 refine qM _ rfl ?_
 refine WpL_nil ?_
 refine Wp_cond_true rfl ?_
 refine Wp_region ?_
 refine qV (r_build (ps := []) (v := (.agg #[(I6 0), (I6 0), (.slice none 0 0), (.slice none 0 0), (.slice none 0 0)])) rfl (by kernel_rfl)) ?_
 refine s_storeAgg (b := bd) (o := 0) (c' := #[(I6 0), (I6 0), (.slice none 0 0), (.slice none 0 0), (.slice none 0 0)]) rfl rfl (by simp [Value.oneCell']) siz30 rfl h1 (by first | (simp; done) | exact Nat.le_of_ble_eq_true rfl) rfl ?_
 intro w2 S2
 replace h2 := S2.keep (by omega) h2
 replace B1 := S2.keep (by omega) B1
 replace E := S2.step E (by first | exact Or.inl (by omega) | exact Or.inr rfl | exact Or.inr (by assumption) | exact Or.inr (by simp) | exact Or.inr (by omega) | exact Or.inr (by dsimp only; omega))
 replace h1 := S2.blk
 refine s_store (b := be) (o := 0) (c' := #[(I6 2)]) (v := (I6 2)) rfl rfl rfl siz31 h2 (by simp) rfl ?_
 intro w3 S3
 replace h1 := S3.keep (by omega) h1
 replace B1 := S3.keep (by omega) B1
 replace E := S3.step E (by first | exact Or.inl (by omega) | exact Or.inr rfl | exact Or.inr (by assumption) | exact Or.inr (by simp) | exact Or.inr (by omega) | exact Or.inr (by dsimp only; omega))
 replace h2 := S3.blk
 refine WpL_nil ?_
 refine fin_none Try.results24 ?_
 exact ⟨h1, h2, E⟩
theorem hi_glu1 (w : World) (cap : Array Value) : (callFunc 24 cap).run Try.prog w = .ok (.enter 24 cap) w := run_callF Try.func24 kQ kQ
theorem ends0_len (p : Pt) : (ends0 p).length ≤ 1 := by unfold ends0; split <;> simp
/-- Numbers in a block of F. -/
def IntsF (F : Nat → Prop) (w : World) (v : Value) (l : List Int) : Prop := IntsAt w v l ∧ (l = [] ∨ ∃ b, v.ownBlock = some b ∧ F b)
theorem IntsF.chg {F M : Nat → Prop} {w w' : World} {v : Value} {l : List Int} (h : IntsF F w v l) (c : Chg M w w') (hM : ∀ y, F y → ¬ M y) : IntsF F w' v l := by
 refine ⟨slAt_keep h.1 c ?_, h.2⟩
 rcases h.2 with h1 | ⟨b, h1, h2⟩
 ·exact .inl (by rw [h1]; rfl)
 ·exact .inr ⟨b, h1, hM b h2⟩
theorem IntsF.ext {F : Nat → Prop} {w w' : World} {v : Value} {l : List Int} (h : IntsF F w v l) (e : Ext w w') : IntsF F w' v l := h.chg e fun _ _ f => f
theorem IntsF.mono {F F' : Nat → Prop} {w : World} {v : Value} {l : List Int} (h : IntsF F w v l) (hF : ∀ y, F y → F' y) : IntsF F' w v l := ⟨h.1, h.2.imp id fun ⟨b, h1, h2⟩ => ⟨b, h1, hF b h2⟩⟩
theorem EdB.more {F S : Nat → Prop} {w : World} {base : Nat} {xv : Value} {es : List Ed} (h : EdB F w base xv es) (hS : ∀ y, S y → base ≤ y ∧ y < w.heap.size ∧ xv.ownBlock ≠ some y) : EdB (fun y => F y ∨ S y) w base xv es := by
 obtain ⟨⟨rows, h1, h2⟩, h3, h4⟩ := h
 exact ⟨⟨rows, h1, h2.mono fun y hy => .inl hy⟩, fun b hb hf => hf.elim (h3 b hb) fun h => (hS b h).2.2 hb, fun y hy => hy.elim (h4 y) fun h => ⟨(hS y h).1, (hS y h).2.1⟩⟩
theorem EdB.own {F : Nat → Prop} {w : World} {base : Nat} {xv : Value} {es : List Ed} (h : EdB F w base xv es) {b : Nat} (hb : xv.ownBlock = some b) : base ≤ b ∧ b < w.heap.size := by
 obtain ⟨⟨rows, h1, _⟩, _⟩ := h
 exact h1.lt b hb
/-- The sets that are put in are sets of the expression. -/
def GSets (S : List Sp → Prop) (f : GF) : Prop := ∀ g g' p, (∀ z ∈ g.sets, S z) → f g = some (g', p) → ∀ z ∈ g'.sets, S z
theorem catGs_sets {S : List Sp → Prop} : ∀ (fs : List GF), (∀ f ∈ fs, GSets S f) → ∀ (g g' : GS) (o p : Pt), (∀ z ∈ g.sets, S z) → catGs fs g o = some (g', p) → ∀ z ∈ g'.sets, S z
  | [], _, g, g', o, p, h, e => by
    simp only [catGs, Option.some.injEq, Prod.mk.injEq] at e
    obtain ⟨rfl, rfl⟩ := e; exact h
  | f :: fs, hf, g, g', o, p, h, e => by
    rw [catGs] at e
    obtain ⟨⟨g1, p1⟩, e1, e2⟩ := Option.bind_eq_some_iff.1 e
    have h1 : ∀ z ∈ (catG g1 o p1).sets, S z := hf f List.mem_cons_self g g1 p1 h e1
    exact catGs_sets fs (fun f' h' => hf f' (List.mem_cons_of_mem _ h')) _ _ _ _ h1 e2
theorem altGs_sets {S : List Sp → Prop} : ∀ (fs : List GF), (∀ f ∈ fs, GSets S f) → ∀ (g g' : GS) (o p : Pt), (∀ z ∈ g.sets, S z) → altGs fs g o = some (g', p) → ∀ z ∈ g'.sets, S z
  | [], _, g, g', o, p, h, e => by
    simp only [altGs, Option.some.injEq, Prod.mk.injEq] at e
    obtain ⟨rfl, rfl⟩ := e; exact h
  | f :: fs, hf, g, g', o, p, h, e => by
    rw [altGs] at e
    obtain ⟨⟨g1, p1⟩, e1, e2⟩ := Option.bind_eq_some_iff.1 e
    exact altGs_sets fs (fun f' h' => hf f' (List.mem_cons_of_mem _ h')) _ _ _ _ (hf f List.mem_cons_self _ _ _ h e1) e2
theorem repGs_sets {S : List Sp → Prop} {f : GF} (hf : GSets S f) {mn : Int} {g : GS} (hg : ∀ z ∈ g.sets, S z) : ∀ (k : Nat) (g' : GS) (p : Pt), repGs f mn g k = some (g', p) → ∀ z ∈ g'.sets, S z
  | 0, g', p, e => by
    simp only [repGs, Option.some.injEq, Prod.mk.injEq] at e
    obtain ⟨rfl, rfl⟩ := e; exact hg
  | k + 1, g', p, e => by
    rw [repGs] at e
    obtain ⟨⟨g1, o⟩, e1, e2⟩ := Option.bind_eq_some_iff.1 e
    obtain ⟨⟨g2, q⟩, e3, e4⟩ := Option.bind_eq_some_iff.1 e2
    simp only [Option.some.injEq, Prod.mk.injEq] at e4
    obtain ⟨rfl, rfl⟩ := e4
    have h1 : ∀ z ∈ g2.sets, S z := hf g1 g2 q (repGs_sets hf hg k g1 o e1) e3
    exact h1
theorem gnode_sets {S : List Sp → Prop} {k : Int} {z : List Sp} {mn mx : Int} {fs : List GF} (hz : k = 2 → S z) (hf : ∀ f ∈ fs, GSets S f) : GSets S (gnode k z mn mx fs) := by
  intro g g' p hg e
  unfold gnode at e
  split at e
  · simp only [Option.some.injEq, Prod.mk.injEq] at e
    obtain ⟨rfl, rfl⟩ := e; exact hg
  split at e
  · rename_i h2
    unfold setG at e
    split at e
    · cases e
    · simp only [Option.some.injEq, Prod.mk.injEq] at e
      obtain ⟨rfl, rfl⟩ := e
      intro y hy
      rcases List.mem_append.1 hy with h1 | h1
      · exact hg y h1
      · rw [List.mem_singleton.1 h1]; exact hz h2
  split at e
  · exact catGs_sets fs hf _ _ _ _ hg e
  split at e
  · exact altGs_sets fs hf _ _ _ _ hg e
  split at e
  · cases fs with
    | nil => cases e
    | cons f fs =>
      simp only at e
      obtain ⟨⟨g1, p1⟩, e1, e2⟩ := Option.bind_eq_some_iff.1 e
      simp only [Option.some.injEq, Prod.mk.injEq] at e2
      obtain ⟨rfl, rfl⟩ := e2
      have h1 : ∀ z ∈ g1.sets, S z := hf f List.mem_cons_self g g1 p1 hg e1
      exact h1
  split at e
  · cases fs with
    | nil => cases e
    | cons f fs => exact repGs_sets (hf f List.mem_cons_self) hg _ _ _ e
  split at e
  · cases fs with
    | nil => cases e
    | cons f fs => exact hf f List.mem_cons_self _ _ _ hg e
  · simp only [Option.some.injEq, Prod.mk.injEq] at e
    obtain ⟨rfl, rfl⟩ := e; exact hg
theorem gkO_sets : ∀ (n : Nat) (x : Re), x.size ≤ n → okRe x → GSets (fun z => checkE z = 0) (gkO x) := by
  intro n
  induction n with
  | zero => intro x h; have := x.size_pos; omega
  | succ n ih =>
  intro x hn hok
  have hz := node_chk (okRe_node hok)
  have hf : ∀ f ∈ gkL x.args, GSets (fun z => checkE z = 0) f := fun f hf => by
    rw [gkL_map] at hf
    obtain ⟨y, hy, rfl⟩ := List.mem_map.1 hf
    obtain ⟨i, hi⟩ := List.getElem?_of_mem hy
    have h1 := Re.size_arg hi
    exact ih y (by omega) (okRes_get (okRe_args hok) hi)
  cases x
  rw [gkO]
  exact gnode_sets hz hf
theorem edgO_at (g : GS) (s k : Nat) {z : List Sp} (hz : g.sets[k]? = some z) : edgO g s ((k + 1 : Nat) : Int) = ((s : Int), ((k + 1 : Nat) : Int), z) := by
 unfold edgO
 have e : ((k + 1 : Nat) : Int).toNat - 1 = k := by omega
 rw [e, List.getD_eq_getElem?_getD, hz]; rfl
theorem rowE_eq {g : GS} {p : Pt} {s : Nat} {l : List Nat} (hl : (folG g p)[s]? = some l) : rowE g p s = (upS (nZ l)).map (edgO g s) := by
 unfold rowE
 rw [List.getD_eq_getElem?_getD, hl]; rfl
theorem inU {l : List Nat} {t : Int} {n : Nat} (h : ∀ x ∈ l, 0 < x ∧ x ≤ n) (ht : t ∈ upS (nZ l)) : ∃ k : Nat, t = ((k + 1 : Nat) : Int) ∧ k < n := by
 rw [upS_mem] at ht
 obtain ⟨x, hx, rfl⟩ := List.mem_map.1 ht
 have := h x hx
 exact ⟨x - 1, by omega, by omega⟩
set_option maxHeartbeats 4000000 in
theorem glush_c (w0 : World) (t : Re) (vs : List Value) (ht : ReAt w0 t vs) : Ret Try.prog 5 #[.agg vs.toArray] w0 fun r w => NfR w0.heap.size (GkP t) r w ∧ Ext w0 w := by
 have ht0 := ht
 obtain ⟨sa, sc, aa, ac, rfl, _, _, _⟩ := ht.form
 refine CallsA_of Try.func5 rfl Try.ntmps5 (Nat.le_of_ble_eq_true rfl) ?_
 have E : Chg none1 w0 w0 := Chg.refl _ _
 refine WpA_seq_region ?_
 refine s_box (v := (.agg (R6 t sa sc aa ac))) (c := (R6 t sa sc aa ac)) (by decide) rfl rfl ?_
 intro bb wb Nb
 have Fb := Nb.ge E
 replace E := E.ext Nb.ext
 have Bb := Nb.blk
 refine s_alloc (c := #[(I6 0), (I6 0), (.slice none 0 0), (.slice none 0 0), (.slice none 0 0)]) (by decide) zer30 rfl ?_
 intro br wr Nr
 have Fr := Nr.ge E
 have Or_bb := Nr.lt Bb
 replace Bb := Nr.keep Bb
 replace E := E.ext Nr.ext
 have Br := Nr.blk
 refine s_alloc (c := #[(I6 0)]) (by decide) zer31 rfl ?_
 intro be we Ne
 have Fe := Ne.ge E
 have Oe_bb := Ne.lt Bb
 have Oe_br := Ne.lt Br
 replace Bb := Ne.keep Bb
 replace Br := Ne.keep Br
 replace E := E.ext Ne.ext
 have Be := Ne.blk
 refine WpL_nil (WpA_assoc (WpA_seq_region ?_))
 refine qV (r_loadAgg (vs := [(I6 t.kind), (.slice sa t.set.length sc), (.slice aa t.args.length ac), (I6 t.mn), (I6 t.mx), (.bool t.neg)]) rfl agg25 siz25 rfl (Bb.cells rfl)) ?_
 refine WpL_enter rfl rfl (by decide) (r_callF Try.func10 kQ kQ rfl) (simple_c _ t _ (ReAt.ext E t ht0)) ?_
 rintro _ w9 ⟨rfl, X9⟩
 replace Bb := X9.keep Bb
 replace Br := X9.keep Br
 replace Be := X9.keep Be
 replace E := E.ext X9
 refine qA _ rfl ?_
 refine WpL_nil (WpA_seq_region ?_)
 refine qM _ rfl ?_
 refine qV (r_neq rfl rfl) ?_
 refine WpL_nil ?_
 refine WpA_cond (b := decide ((simE t : Int) ≠ 0)) rfl (fun h0 => ?_) (fun h0 => ?_)
 ·have kh0 := h0
  replace h0 := of_decide_eq_true h0
  refine Wp_seq_region ?_
  refine qV (r_build (ps := []) (v := (.agg #[(I6 0), (I6 0), (.slice none 0 0), (.slice none 0 0), (.slice none 0 0)])) rfl (by kernel_rfl)) ?_
  refine qM _ rfl ?_
  refine s_storeAgg (b := br) (o := 0) (c' := #[(I6 0), (I6 0), (.slice none 0 0), (.slice none 0 0), (.slice none 0 0)]) rfl rfl (by simp [Value.oneCell']) siz30 rfl Br (by first | (simp; done) | exact Nat.le_of_ble_eq_true rfl) rfl ?_
  intro w1 S1
  replace Bb := S1.keep (by omega) Bb
  replace Be := S1.keep (by omega) Be
  replace E := S1.step E (by first | exact Or.inl (by omega) | exact Or.inr rfl | exact Or.inr (by assumption) | exact Or.inr (by simp) | exact Or.inr (by omega) | exact Or.inr (by dsimp only; omega))
  replace Br := S1.blk
  refine s_store (b := be) (o := 0) (c' := #[(I6 (simE t))]) (v := (I6 (simE t))) rfl rfl rfl siz31 Be (by simp) rfl ?_
  intro w2 S2
  replace Bb := S2.keep (by omega) Bb
  replace Br := S2.keep (by omega) Br
  replace E := S2.step E (by first | exact Or.inl (by omega) | exact Or.inr rfl | exact Or.inr (by assumption) | exact Or.inr (by simp) | exact Or.inr (by omega) | exact Or.inr (by dsimp only; omega))
  replace Be := S2.blk
  refine WpL_nil (Wp_ret ?_)
  exact fun a ha => ⟨_, res_agg_cell (vs := [.int .i64 0, .int .i64 0, .slice none 0 0, .slice none 0 0, .slice none 0 0]) Try.results5 rfl rfl agg30 siz30 rfl (Br.cells rfl) flat31 (Be.cell rfl) ha, _, rfl, nfR_zero (.inl ⟨h0, rfl, rfl⟩), E⟩
 ·have kh0 := h0
  replace h0 := of_decide_eq_false h0
  have hs0 : simE t = 0 := by omega
  obtain ⟨hok, hsz, hus⟩ := simE_zero.1 hs0
  refine WpA_seq_regionD ?_
  refine WpLA_val rfl rfl (by decide) (r_makeFunc rfl rfl) ?_
  refine WpLA_defer rfl rfl (r_defer rfl) ?_
  refine Wp_seq_region ?_
  refine s_buildSlice (ps := [(0, (.slice none 0 0))]) (c := #[(.slice none 0 0)]) (by decide) rfl Try.underlying42 siz26 zer26 (by decide) (by decide) (by kernel_rfl) ?_
  intro bl wl Nl
  have Fl := Nl.ge E
  have Ol_bb := Nl.lt Bb
  have Ol_br := Nl.lt Br
  have Ol_be := Nl.lt Be
  replace Bb := Nl.keep Bb
  replace Br := Nl.keep Br
  replace Be := Nl.keep Be
  replace E := E.ext Nl.ext
  have Bl := Nl.blk
  refine qV (r_build (ps := [(1, (.slice (some ⟨bl, 0, none⟩) 1 1))]) (v := (.agg #[(.slice none 0 0), (.slice (some ⟨bl, 0, none⟩) 1 1)])) rfl (by kernel_rfl)) ?_
  refine s_box (v := (.agg #[(.slice none 0 0), (.slice (some ⟨bl, 0, none⟩) 1 1)])) (c := #[(.slice none 0 0), (.slice (some ⟨bl, 0, none⟩) 1 1)]) (by decide) rfl rfl ?_
  intro bg wg Ng
  have Fg := Ng.ge E
  have Og_bb := Ng.lt Bb
  have Og_br := Ng.lt Br
  have Og_be := Ng.lt Be
  have Og_bl := Ng.lt Bl
  replace Bb := Ng.keep Bb
  replace Br := Ng.keep Br
  replace Be := Ng.keep Be
  replace Bl := Ng.keep Bl
  replace E := E.ext Ng.ext
  have Bg := Ng.blk
  refine qA _ rfl ?_
  refine WpL_nil (Wp_seq_region ?_)
  refine qM _ rfl ?_
  refine qV (r_loadAgg (vs := [(I6 t.kind), (.slice sa t.set.length sc), (.slice aa t.args.length ac), (I6 t.mn), (I6 t.mx), (.bool t.neg)]) rfl agg25 siz25 rfl (Bb.cells rfl)) ?_
  have hlt : br < bl ∧ be < bl ∧ bb < bl ∧ w0.heap.size ≤ br ∧ w0.heap.size ≤ be ∧ br ≠ be ∧ bl < bg := ⟨by omega, by omega, by omega, by omega, by omega, by omega, by omega⟩
  have T0 := gkst0 (base := bl) (Nat.le_refl _) hlt.2.2.2.2.2.2 Bl Bg
  have hw0 : w0.heap.size ≤ bl := by omega
  refine WpL_enterX rfl rfl (by decide) (r_callF Try.func25 kQ kQ rfl) (gkOf_c w0 44 t (by omega) (by omega) hok hus bl bg _ _ _ _ _ gs0 _ ht0 E (fun y hy => by show y < bl; omega) T0 gi0 rowB0) (fun w' h => fun a ha => leaves_end (X := fun w9 => Blk w9 br #[.int .i64 0, .int .i64 0, .slice none 0 0, .slice none 0 0, .slice none 0 0] TNf ∧ Blk w9 be #[.int .i64 2] 31 ∧ Chg (fun y => y = br ∨ y = be) w' w9) rfl (by intro h; cases h) (hi_glu1 _ _) ((glu1_panic _ br be (h.2.keep (T0.kept (show br < bl by omega)) Br) (h.2.keep (T0.kept (show be < bl by omega)) Be) (by omega)).mono fun e9 u9 w9 h9 => by obtain ⟨⟨r9, h1, h2⟩, h3⟩ := h9; exact ⟨⟨r9, h1⟩, by rw [h3]; rfl, h2⟩) (fun w9 h9 => ⟨_, res_agg_cell (vs := [.int .i64 0, .int .i64 0, .slice none 0 0, .slice none 0 0, .slice none 0 0]) Try.results5 rfl rfl agg30 siz30 rfl (h9.1.cells rfl) flat31 (h9.2.1.cell rfl) ha, _, rfl, nfR_zero (.inr (.inl ⟨hs0, h.1, rfl, rfl⟩)), (E.step h.2 (fun y hy hh => absurd hh (T0.kept (show y < bl by omega)))).step h9.2.2 (fun y hy hh => by rcases hh with hh | hh <;> omega)⟩)) ?_
  rintro _ w19 ⟨g, p, F2, s2, f2, v2, hgk, ⟨pa, pc, pa2, pc2, rfl, hp1, hp2⟩, G⟩
  replace Bb := G.chg.keep ((T0.kept (by show _ < bl; omega))) Bb
  replace Br := G.chg.keep ((T0.kept (by show _ < bl; omega))) Br
  replace Be := G.chg.keep ((T0.kept (by show _ < bl; omega))) Be
  replace E := E.step G.chg ((fun y hy hh => absurd hh (T0.kept (show y < bl by omega))))
  have hok1 := gkO_ok t gs0 g p gi0 hgk
  have hI := hok1.inv
  have hI1 := hI.1
  have hI2 := hI.2
  have hst := G.st
  have hfl : (g.fol.map nRow).length = g.fol.length := List.length_map _
  obtain ⟨fa, fc, rfl⟩ := own_form (hst.fol.l.on (n := g.fol.length) hfl.symm)
  obtain ⟨us0, hsown, _⟩ := hst.sets
  obtain ⟨ya, yc, rfl⟩ := own_form hsown
  obtain ⟨gb, hgb, _, _⟩ := own_cells (hst.fol.l.on (n := g.fol.length) hfl.symm) (by omega)
  subst hgb
  have hblk := hst.blk
  have hgbl := hst.fol.lt (b := gb) (.inl rfl)
  have hbgl := hblk.lt
  have hne : gb ≠ br ∧ gb ≠ be ∧ gb ≠ bb ∧ gb ≠ bg := ⟨fun e => hst.hfF gb (.inl rfl) (e ▸ G.sub _ (show br < bl by omega)), fun e => hst.hfF gb (.inl rfl) (e ▸ G.sub _ (show be < bl by omega)), fun e => hst.hfF gb (.inl rfl) (e ▸ G.sub _ (show bb < bl by omega)), fun e => hst.aps.2 (.inl (by rw [← e]; rfl))⟩
  have E6 : Chg none1 w19 w19 := Chg.refl _ _
  refine s_allocStore (v := (.agg #[(.bool p.nul), (.slice pa p.fst.length pc), (.slice pa2 p.lst.length pc2)])) (c := #[(.bool p.nul), (.slice pa p.fst.length pc), (.slice pa2 p.lst.length pc2)]) (n := 3) (by decide) zer68 rfl siz68 rfl rfl rfl (by simp [Value.oneCell']) ?_
  intro bp wp Np
  have Fp := Np.ge E
  have Fp_E6 := Np.ge E6
  have Op_bb := Np.lt Bb
  have Op_br := Np.lt Br
  have Op_be := Np.lt Be
  have Op_bg := Np.lt hblk
  replace Bb := Np.keep Bb
  replace Br := Np.keep Br
  replace Be := Np.keep Be
  replace hblk := Np.keep hblk
  replace E := E.ext Np.ext
  have Bp := Np.blk
  replace E6 := E6.ext Np.ext
  refine WpL_nil ?_
  have hstE := hst.ext E6
  have hp1E := hp1.ext E6
  have hp2E := hp2.ext E6
  have hbpl : gb < bp := by have := Np.eq; omega
  have hz_3 : w0.heap.size ≤ wp.heap.size := E.size
  have lz_3_bb : bb < wp.heap.size := Bb.lt
  have lz_3_br : br < wp.heap.size := Br.lt
  have lz_3_be : be < wp.heap.size := Be.lt
  have lz_3_bg : bg < wp.heap.size := hblk.lt
  have lz_3_bp : bp < wp.heap.size := Bp.lt
  refine Wp_seq ?_
  obtain ⟨Fs3, hFs3⟩ : ∃ Fs : List FctS, Fs = [(eF (P6 bg 0)), (eF (P6 bg 0)), (eF (P6 bg 1)), (eF (.slice (some ⟨gb, 0, none⟩) g.fol.length fc)), (eF (P6 bp 1)), (eF (.slice pa p.fst.length pc)), (eF undef), (eF undef)] := ⟨_, rfl⟩
  refine Wp_dagS (MsL []) [true, true, true, true, true, true, false, false] [6, 7] [25, 26, 27, 28, 29, 30, 111, 112] [[], [0], [1], [2], [], [4], [], []] [[], [0], [1, 0], [2, 1, 0], [], [4], [], []] Fs3 hFs3 (by kernel_rfl) mixed (by kernel_rfl) (by kernel_rfl) (by kernel_rfl) (by kernel_rfl) ?_ ?_
  ·intro wd X0
   refine qZ (fun S s' w' hi hN X U V H => ?_) ?_
   ·replace X := xN0 X
    exact DoesT_pure (r_move (U 5 rfl)) rfl
   refine qZ (fun S s' w' hi hN X U V H => ?_) ?_
   ·replace X := xN0 X
    have e25 := (H 0 rfl).2 25 _ rfl (by rw [hFs3]; rfl)
    exact DoesT_pure (r_nilCheck e25) rfl
   refine qZ (fun S s' w' hi hN X U V H => ?_) ?_
   ·replace X := xN0 X
    have e26 := (H 1 rfl).2 26 _ rfl (by rw [hFs3]; rfl)
    exact DoesT_pure (r_fieldAddr e26 Try.underlying66 rfl siz42 rfl) rfl
   refine qZ (fun S s' w' hi hN X U V H => ?_) ?_
   ·replace X := xN0 X
    have e27 := (H 2 rfl).2 27 _ rfl (by rw [hFs3]; rfl)
    exact DoesT_pure (r_load e27 flat42 (((X0.trans X).keep hblk).cell rfl)) rfl
   refine qZ (fun S s' w' hi hN X U V H => ?_) ?_
   ·replace X := xN0 X
    exact DoesT_pure (r_fieldAddr (U 6 rfl) Try.underlying68 rfl siz26 rfl) rfl
   refine qZ (fun S s' w' hi hN X U V H => ?_) ?_
   ·replace X := xN0 X
    have e29 := (H 4 rfl).2 29 _ rfl (by rw [hFs3]; rfl)
    exact DoesT_pure (r_load e29 flat26 (((X0.trans X).keep Bp).cell rfl)) rfl
   refine DagStepsS.tail (DagStepsS.tail ?_)
   exact DagStepsS.nil
  ·intro s' wd3 w3 X0 X3 U H
   replace X3 := X3.mono (M' := none1) (fun y _ h => by
     obtain ⟨j, hj, h⟩ := h
     exact h.elim)
   have e28 := H 3 rfl 28 _ rfl (by rw [hFs3]; rfl)
   have e30 := H 5 rfl 30 _ rfl (by rw [hFs3]; rfl)
   obtain ⟨j3, rfl⟩ := Fits.out (σ := s') (l := [(2, (.pointer (some ⟨br, 0, none⟩))), (3, (.pointer (some ⟨be, 0, none⟩))), (5, (.pointer (some ⟨bg, 0, none⟩))), (6, (.pointer (some ⟨bp, 0, none⟩))), (28, (.slice (some ⟨gb, 0, none⟩) g.fol.length fc)), (30, (.slice pa p.fst.length pc))]) ⟨U 2 rfl, U 3 rfl, U 5 rfl, U 6 rfl, e28, e30, trivial⟩
   clear U H
   replace Bb := (X0.trans X3).keep Bb
   replace Br := (X0.trans X3).keep Br
   replace Be := (X0.trans X3).keep Be
   replace hblk := (X0.trans X3).keep hblk
   replace Bp := (X0.trans X3).keep Bp
   replace X3 := X0.trans X3
   replace hstE := hstE.ext X3
   replace hp1E := hp1E.ext X3
   replace hp2E := hp2E.ext X3
   replace E := E.ext X3
   obtain ⟨cur, hBo, hcs⟩ := own_blkG (hstE.fol.l.on (n := g.fol.length) hfl.symm)
   have hBo0 := hBo
   have hPx : True := trivial
   refine qV (r_indexSlice (b := gb) (o := 0) (len := g.fol.length) (cap := fc) (i := 0) (o' := 0) rfl rfl rfl Try.underlying42 siz26 (by omega) (by omega)) ?_
   refine s_store (b := gb) (o := 0) (c' := cur.setIfInBounds (0 + 0) (.slice pa p.fst.length pc)) (v := (.slice pa p.fst.length pc)) rfl rfl rfl siz26 hBo (by omega) (rfl) ?_
   intro w4 S4
   replace hPx := S4
   replace Bb := S4.keep (by omega) Bb
   replace Br := S4.keep (by omega) Br
   replace Be := S4.keep (by omega) Be
   replace hblk := S4.keep (by omega) hblk
   replace Bp := S4.keep (by omega) Bp
   replace E := S4.step E (by first | exact Or.inl (by omega) | exact Or.inr rfl | exact Or.inr (by assumption) | exact Or.inr (by simp) | exact Or.inr (by omega) | exact Or.inr (by dsimp only; omega))
   replace hBo := S4.blk
   obtain ⟨hrows, us, hsown2, hsetF⟩ := fol_end hstE rfl (by omega) hBo0 hp1E (by simpa using hPx)
   have hp2F := hp2E.chg hPx.chg fun y hy e => hst.hfF y (.inl (by have e' : y = gb := e; rw [e']; rfl)) hy
   have E7 : Chg none1 w4 w4 := Chg.refl _ _
   refine WpL_nil (thn_normal (Wp_seq_region ?_))
   refine qM _ rfl ?_
   refine qV (r_nilCheck rfl) ?_
   refine qF bg 0 0 rfl Try.underlying66 rfl siz64 rfl ?_
   refine qV (r_load rfl flat64 (hblk.cell rfl)) ?_
   refine qV (r_lenSlice Try.underlying64 rfl) ?_
   refine qV (r_add (c := ((g.sets.length + 1 : Nat) : Int)) rfl rfl ((wI64 (by omega)).trans (by omega))) ?_
   refine qV (r_build (ps := [(0, (I6 ((g.sets.length + 1 : Nat) : Int)))]) (v := (.agg #[(I6 ((g.sets.length + 1 : Nat) : Int)), (I6 0), (.slice none 0 0), (.slice none 0 0), (.slice none 0 0)])) rfl (by kernel_rfl)) ?_
   refine s_allocStore (v := (.agg #[(I6 ((g.sets.length + 1 : Nat) : Int)), (I6 0), (.slice none 0 0), (.slice none 0 0), (.slice none 0 0)])) (c := #[(I6 ((g.sets.length + 1 : Nat) : Int)), (I6 0), (.slice none 0 0), (.slice none 0 0), (.slice none 0 0)]) (n := 5) (by decide) zer30 rfl siz30 rfl rfl rfl (by simp [Value.oneCell']) ?_
   intro bn wn Nn
   have Fn := Nn.ge E
   have Fn_E7 := Nn.ge E7
   have On_bb := Nn.lt Bb
   have On_br := Nn.lt Br
   have On_be := Nn.lt Be
   have On_bg := Nn.lt hblk
   have On_bp := Nn.lt Bp
   replace Bb := Nn.keep Bb
   replace Br := Nn.keep Br
   replace Be := Nn.keep Be
   replace hblk := Nn.keep hblk
   replace Bp := Nn.keep Bp
   replace E := E.ext Nn.ext
   have Bn := Nn.blk
   replace E7 := E7.ext Nn.ext
   refine WpL_nil ?_
   obtain ⟨n5, hn5⟩ : ∃ n5, n5 = (wn).heap.size := ⟨_, rfl⟩
   have hb5 : bn < n5 ∧ bg < n5 ∧ bp < n5 ∧ br < n5 ∧ be < n5 ∧ bb < n5 ∧ w0.heap.size ≤ n5 := ⟨by rw [hn5]; exact Bn.lt, by rw [hn5]; exact hblk.lt, by rw [hn5]; exact Bp.lt, by rw [hn5]; exact Br.lt, by rw [hn5]; exact Be.lt, by rw [hn5]; exact Bb.lt, by rw [hn5]; exact E.size⟩
   have hE75 := E7.size
   refine Wp_cut (fun σ W5 => ∃ (ea : Option Addr) (ec m : Nat), (∃ jj_, σ = upds jj_ [(2, (P6 br 0)), (3, (P6 be 0)), (5, (P6 bg 0)), (6, (P6 bp 0)), (7, (P6 bn 0))]) ∧ Chg none1 w0 W5 ∧ Chg none1 w4 W5 ∧ Blk W5 bb (R6 t sa sc aa ac) 25 ∧ Blk W5 br #[(I6 0), (I6 0), (.slice none 0 0), (.slice none 0 0), (.slice none 0 0)] 30 ∧ Blk W5 be #[(I6 0)] 31 ∧ Blk W5 bg #[(.slice ya g.sets.length yc), (.slice (some ⟨gb, 0, none⟩) g.fol.length fc)] TGk ∧ Blk W5 bp #[(.bool p.nul), (.slice pa p.fst.length pc), (.slice pa2 p.lst.length pc2)] 68 ∧ Blk W5 bn (#[Value.int .i64 ((g.sets.length + 1 : Nat) : Int), .int .i64 0, .slice ea m ec, .slice none 0 0, .slice none 0 0]) 30 ∧ (m = (ends0 p).length) ∧ (W5.ownsRow n5 TDI 1 (.slice ea m ec) m ((ends0 p).map (Value.int .i64))) ∧ (n5 ≤ W5.heap.size)) ?_ ?_
   ·skip
    refine Wp_seq_region ?_
    refine qF bp 0 0 rfl Try.underlying68 rfl siz4 rfl ?_
    refine qV (r_load rfl flat4 (Bp.cell rfl)) ?_
    refine WpL_nil ?_
    refine Wp_cond rfl (fun hpn => ?_) (fun hpn => ?_)
    ·have khpn := hpn
     have he0 : ends0 p = [0] := by unfold ends0; rw [if_pos hpn]
     have hoz : (wn).ownsRow n5 TDI 1 (.slice none 0 0) 0 [] := World.ownsRow_nil _ _ _ _
     have hs5 : n5 ≤ (wn).heap.size := Nat.le_of_eq hn5
     refine Wp_region ?_
     refine qF bn 0 2 rfl Try.underlying30 rfl siz26 rfl ?_
     refine qV (r_load rfl flat26 (Bn.cell rfl)) ?_
     refine s_buildSlice (ps := [(0, (I6 0))]) (c := #[(I6 0)]) (by decide) rfl Try.underlying26 siz3 zer3 (by decide) (by decide) (by kernel_rfl) ?_
     intro b7 w7 N7
     have F7 := N7.ge E
     have F7_E7 := N7.ge E7
     have O7_bb := N7.lt Bb
     have O7_br := N7.lt Br
     have O7_be := N7.lt Be
     have O7_bg := N7.lt hblk
     have O7_bp := N7.lt Bp
     have O7_bn := N7.lt Bn
     replace Bb := N7.keep Bb
     replace Br := N7.keep Br
     replace Be := N7.keep Be
     replace hblk := N7.keep hblk
     replace Bp := N7.keep Bp
     replace Bn := N7.keep Bn
     replace hoz := own_ext hoz N7.ext
     replace hs5 := Nat.le_trans hs5 N7.ext.size
     replace E := E.ext N7.ext
     have B7 := N7.blk
     replace E7 := E7.ext N7.ext
     refine s_append (base := n5) (n := 0) (m := 1) (xs := []) (news := [(I6 0)]) (size := 1) (bytes := 8) (v := (.slice none 0 0)) (by decide) Try.underlying26 siz3 byt3 zer3 rfl (by decide) rfl hoz rfl (rfl) (B7.cells rfl) (by simp [Value.oneCell']) (by unfold maxLen; omega) (by omega) (hs5) ?_
     intro v7 w59 Ov7 Cv7 Dv7
     replace Bb := Cv7.keep (fun h => by have := (hoz.lt _ h).1; omega) Bb
     replace Br := Cv7.keep (fun h => by have := (hoz.lt _ h).1; omega) Br
     replace Be := Cv7.keep (fun h => by have := (hoz.lt _ h).1; omega) Be
     replace hblk := Cv7.keep (fun h => by have := (hoz.lt _ h).1; omega) hblk
     replace Bp := Cv7.keep (fun h => by have := (hoz.lt _ h).1; omega) Bp
     replace Bn := Cv7.keep (fun h => by have := (hoz.lt _ h).1; omega) Bn
     replace E := E.step Cv7 (fun x hx h => absurd (hoz.lt x h).1 (by omega))
     replace E7 := E7.step Cv7 (fun x hx h => absurd (hoz.lt x h).1 (by omega))
     obtain ⟨ea1, ec1, rfl⟩ := own_form Ov7
     have hO7 := Ov7
     have hs7 := Nat.le_trans hs5 Cv7.size
     refine qF bn 0 2 rfl Try.underlying30 rfl siz26 rfl ?_
     refine s_store (b := bn) (o := 2) (c' := #[(I6 ((g.sets.length + 1 : Nat) : Int)), (I6 0), (.slice ea1 (0 + 1) ec1), (.slice none 0 0), (.slice none 0 0)]) (v := (.slice ea1 (0 + 1) ec1)) rfl rfl rfl siz26 Bn (by simp) rfl ?_
     intro w8 S8
     replace hO7 := own_chg hO7 S8.chg fun y hy h => by have h' : y = bn := h; have := (hO7.lt y hy).1; omega
     replace hs7 := Nat.le_trans hs7 S8.chg.size
     replace Bb := S8.keep (by omega) Bb
     replace Br := S8.keep (by omega) Br
     replace Be := S8.keep (by omega) Be
     replace hblk := S8.keep (by omega) hblk
     replace Bp := S8.keep (by omega) Bp
     replace E := S8.step E (by first | exact Or.inl (by omega) | exact Or.inr rfl | exact Or.inr (by assumption) | exact Or.inr (by simp) | exact Or.inr (by omega) | exact Or.inr (by dsimp only; omega))
     replace E7 := S8.step E7 (Or.inl (by omega))
     replace Bn := S8.blk
     refine WpL_nil (thn_normal ?_)
     exact ⟨ea1, ec1, 0 + 1, Fits.out ⟨rfl, rfl, rfl, rfl, rfl, trivial⟩, E, E7, Bb, Br, Be, hblk, Bp, Bn, (by rw [he0]; rfl), (by rw [he0]; simpa using hO7), hs7⟩
    ·have khpn := hpn
     have he0 : ends0 p = [] := by unfold ends0; rw [if_neg (by rw [hpn]; decide)]
     refine Wp_skip (thn_normal ?_)
     exact ⟨none, 0, 0, Fits.out ⟨rfl, rfl, rfl, rfl, rfl, trivial⟩, E, E7, Bb, Br, Be, hblk, Bp, Bn, (by rw [he0]; rfl), (by rw [he0]; exact World.ownsRow_nil _ _ _ _), Nat.le_of_eq hn5⟩
   ·clear E E7 Bb Br Be hblk Bp Bn
    rintro _ W5 ⟨ea, ec, m, ⟨j5, rfl⟩, E, E7, Bb, Br, Be, hblk, Bp, Bn, hm, hoe, hs5⟩
    have hel := ends0_len p
    have hll := hok1.lst.len
    have hp2I := hp2F.1.ext E7
    refine Wp_seq_region ?_
    refine qF bn 0 2 rfl Try.underlying30 rfl siz26 rfl ?_
    refine qV (r_load rfl flat26 (Bn.cell rfl)) ?_
    refine qF bp 0 2 rfl Try.underlying68 rfl siz26 rfl ?_
    refine qV (r_load rfl flat26 (Bp.cell rfl)) ?_
    refine s_appendAny (base := n5) (n := m) (m := p.lst.length) (xs := ((ends0 p).map (Value.int .i64))) (news := ((nZ p.lst).map (Value.int .i64))) (size := 1) (bytes := 8) (v := (.slice ea m ec)) (by decide) Try.underlying26 siz3 byt3 zer3 rfl (by decide) rfl hoe rfl ((by rw [List.length_map, nZ_len, Nat.mul_one])) (ints_any hp2I) (ints_one _) (by unfold maxLen; omega) (by omega) (hs5) ?_
    intro v8 w69 Ov8 Cv8 Dv8
    replace Bb := Cv8.keep (fun h => by have := (hoe.lt _ h).1; omega) Bb
    replace Br := Cv8.keep (fun h => by have := (hoe.lt _ h).1; omega) Br
    replace Be := Cv8.keep (fun h => by have := (hoe.lt _ h).1; omega) Be
    replace hblk := Cv8.keep (fun h => by have := (hoe.lt _ h).1; omega) hblk
    replace Bp := Cv8.keep (fun h => by have := (hoe.lt _ h).1; omega) Bp
    replace Bn := Cv8.keep (fun h => by have := (hoe.lt _ h).1; omega) Bn
    replace E := E.step Cv8 (fun x hx h => absurd (hoe.lt x h).1 (by omega))
    replace E7 := E7.step Cv8 (fun x hx h => absurd (hoe.lt x h).1 (by omega))
    obtain ⟨ea2, ec2, rfl⟩ := own_form Ov8
    have hs9 := Nat.le_trans hs5 Cv8.size
    have hO8 : w69.ownsRow n5 TDI 1 (.slice ea2 (m + p.lst.length) ec2) (m + p.lst.length) ((ends0 p ++ nZ p.lst).map (Value.int .i64)) := by rw [List.map_append]; exact Ov8
    refine qF bn 0 2 rfl Try.underlying30 rfl siz26 rfl ?_
    refine s_store (b := bn) (o := 2) (c' := #[(I6 ((g.sets.length + 1 : Nat) : Int)), (I6 0), (.slice ea2 (m + p.lst.length) ec2), (.slice none 0 0), (.slice none 0 0)]) (v := (.slice ea2 (m + p.lst.length) ec2)) rfl rfl rfl siz26 Bn (by simp) rfl ?_
    intro w9 S9
    replace hs9 := Nat.le_trans hs9 S9.chg.size
    replace hO8 := own_chg hO8 S9.chg fun y hy h => by have h' : y = bn := h; have := (hO8.lt y hy).1; omega
    replace Bb := S9.keep (by omega) Bb
    replace Br := S9.keep (by omega) Br
    replace Be := S9.keep (by omega) Be
    replace hblk := S9.keep (by omega) hblk
    replace Bp := S9.keep (by omega) Bp
    replace E := S9.step E (by first | exact Or.inl (by omega) | exact Or.inr rfl | exact Or.inr (by assumption) | exact Or.inr (by simp) | exact Or.inr (by omega) | exact Or.inr (by dsimp only; omega))
    replace E7 := S9.step E7 (Or.inl (by omega))
    replace Bn := S9.blk
    refine WpL_nil (Wp_seq_region ?_)
    refine qF bn 0 2 rfl Try.underlying30 rfl siz26 rfl ?_
    refine qV (r_load rfl flat26 (Bn.cell rfl)) ?_
    refine WpL_enter rfl rfl (by decide) (r_callF Try.func26 kQ kQ rfl) (sortW_c _ n5 (m + p.lst.length) ea2 ec2 (ends0 p ++ nZ p.lst) (by rw [List.length_append, nZ_len, hm]) (.inr hO8) (by omega)) ?_
    rintro _ w79 ⟨rfl, hSr, C79⟩
    replace Bb := C79.keep ((fun h => by have := (hO8.lt _ h.2).1; omega)) Bb
    replace Br := C79.keep ((fun h => by have := (hO8.lt _ h.2).1; omega)) Br
    replace Be := C79.keep ((fun h => by have := (hO8.lt _ h.2).1; omega)) Be
    replace hblk := C79.keep ((fun h => by have := (hO8.lt _ h.2).1; omega)) hblk
    replace Bp := C79.keep ((fun h => by have := (hO8.lt _ h.2).1; omega)) Bp
    replace Bn := C79.keep ((fun h => by have := (hO8.lt _ h.2).1; omega)) Bn
    replace E := E.step C79 ((fun x hx h => by have := (hO8.lt _ h.2).1; omega))
    replace E7 := E7.step C79 (fun x hx h => by have := (hO8.lt _ h.2).1; omega)
    refine WpL_nil (Wp_seq_region ?_)
    refine qF bn 0 2 rfl Try.underlying30 rfl siz26 rfl ?_
    refine qV (r_load rfl flat26 (Bn.cell rfl)) ?_
    refine WpL_enter rfl rfl (by decide) (r_callF Try.func27 kQ kQ rfl) (compW_c _ n5 _ _ hSr) ?_
    rintro _ w89 ⟨⟨ea3, ec3, rfl, hEn, hEb⟩, C89⟩
    replace Bb := C89.keep ((fun h => by have := (hO8.lt _ h.2).1; omega)) Bb
    replace Br := C89.keep ((fun h => by have := (hO8.lt _ h.2).1; omega)) Br
    replace Be := C89.keep ((fun h => by have := (hO8.lt _ h.2).1; omega)) Be
    replace hblk := C89.keep ((fun h => by have := (hO8.lt _ h.2).1; omega)) hblk
    replace Bp := C89.keep ((fun h => by have := (hO8.lt _ h.2).1; omega)) Bp
    replace Bn := C89.keep ((fun h => by have := (hO8.lt _ h.2).1; omega)) Bn
    replace E := E.step C89 ((fun x hx h => by have := (hO8.lt _ h.2).1; omega))
    replace E7 := E7.step C89 (fun x hx h => by have := (hO8.lt _ h.2).1; omega)
    obtain ⟨n8, hn8⟩ : ∃ n8, n8 = w89.heap.size := ⟨_, rfl⟩
    have hQ : IntsF (fun y => n5 ≤ y ∧ y < n8) w89 (.slice ea3 (endsG p).length ec3) (endsG p) := ⟨hEn, hEb.imp id fun ⟨b, h1, h2, h3⟩ => ⟨b, h1, h2, by omega⟩⟩
    have hs8 : n8 ≤ w89.heap.size := Nat.le_of_eq hn8
    have h58 : n5 ≤ n8 := by have := C79.size; have := C89.size; omega
    refine qF bn 0 2 rfl Try.underlying30 rfl siz26 rfl ?_
    refine s_store (b := bn) (o := 2) (c' := #[(I6 ((g.sets.length + 1 : Nat) : Int)), (I6 0), (.slice ea3 ((endsG p).length) ec3), (.slice none 0 0), (.slice none 0 0)]) (v := (.slice ea3 ((endsG p).length) ec3)) rfl rfl rfl siz26 Bn (by simp) rfl ?_
    intro w10 S10
    replace hQ := hQ.chg S10.chg fun y hy h => by have h' : y = bn := h; omega
    replace hs8 := Nat.le_trans hs8 S10.chg.size
    replace Bb := S10.keep (by omega) Bb
    replace Br := S10.keep (by omega) Br
    replace Be := S10.keep (by omega) Be
    replace hblk := S10.keep (by omega) hblk
    replace Bp := S10.keep (by omega) Bp
    replace E := S10.step E (by first | exact Or.inl (by omega) | exact Or.inr rfl | exact Or.inr (by assumption) | exact Or.inr (by simp) | exact Or.inr (by omega) | exact Or.inr (by dsimp only; omega))
    replace E7 := S10.step E7 (Or.inl (by omega))
    replace Bn := S10.blk
    refine WpL_nil (Wp_seq (Wp_seq_region ?_))
    refine qM _ rfl ?_
    refine qV (r_nilCheck rfl) ?_
    refine qF bg 0 1 rfl Try.underlying66 rfl siz42 rfl ?_
    refine qV (r_load rfl flat42 (hblk.cell rfl)) ?_
    refine qV (r_lenSlice Try.underlying42 rfl) ?_
    refine qM _ rfl ?_
    refine WpL_nil (Wp_block ?_)
    obtain ⟨n6, hn6⟩ : ∃ n6, n6 = (w10).heap.size := ⟨_, rfl⟩
    have h86 : n8 ≤ n6 := by rw [hn6]; exact hs8
    refine Wp_loop (fun nn_ σ W11 => ∃ (s m6 : Nat) (F : Nat → Prop) (xa : Option Addr) (xc : Nat), (∃ jj_, σ = upds jj_ [(2, (P6 br 0)), (3, (P6 be 0)), (5, (P6 bg 0)), (7, (P6 bn 0)), (62, (.slice (some ⟨gb, 0, none⟩) g.fol.length fc)), (63, (I6 (g.fol.length : Int))), (64, (I6 (s : Int)))]) ∧ Chg none1 w0 W11 ∧ Chg none1 w4 W11 ∧ Blk W11 bb (R6 t sa sc aa ac) 25 ∧ Blk W11 br #[(I6 0), (I6 0), (.slice none 0 0), (.slice none 0 0), (.slice none 0 0)] 30 ∧ Blk W11 be #[(I6 0)] 31 ∧ Blk W11 bg #[(.slice ya g.sets.length yc), (.slice (some ⟨gb, 0, none⟩) g.fol.length fc)] TGk ∧ Blk W11 bp #[(.bool p.nul), (.slice pa p.fst.length pc), (.slice pa2 p.lst.length pc2)] 68 ∧ Blk W11 bn (#[Value.int .i64 ((g.sets.length + 1 : Nat) : Int), .int .i64 0, .slice ea3 (endsG p).length ec3, .slice none 0 0, .slice xa m6 xc]) TNf ∧ (s ≤ g.fol.length) ∧ (m6 = (edgU g p s).length) ∧ (EdB F W11 n6 (.slice xa m6 xc) (edgU g p s)) ∧ (m6 ≤ 20000) ∧ (IntsF (fun y => n5 ≤ y ∧ y < n8) W11 (.slice ea3 (endsG p).length ec3) (endsG p)) ∧ (n6 ≤ W11.heap.size) ∧ nn_ = g.fol.length - s) (n := g.fol.length - 0) ?_ ?_
    ·exact ⟨0, 0, _, none, 0, Fits.out ⟨rfl, rfl, rfl, rfl, rfl, rfl, rfl, trivial⟩, E, E7, Bb, Br, Be, hblk, Bp, Bn, Nat.zero_le _, rfl, EdB.start _ _, Nat.zero_le _, hQ, Nat.le_of_eq hn6, rfl⟩
    ·clear E E7 Bb Br Be hblk Bp Bn
     rintro _ _ W11 ⟨s, m6, F, xa, xc, ⟨j11, rfl⟩, E, E7, Bb, Br, Be, hblk, Bp, Bn, hs, hm6, hX, hm20, hQ6, hs6, rfl⟩
     refine Wp_seq_region ?_
     refine qV (r_lss rfl rfl) ?_
     refine WpL_nil (Wp_seq ?_)
     refine Wp_cond rfl (fun hlt9 => ?_) (fun hlt9 => ?_)
     ·have khlt9 := hlt9
      replace hlt9 := of_decide_eq_true hlt9
      obtain ⟨l, hl⟩ := get_of_lt (l := folG g p) (i := s) (by unfold folG; rw [List.length_set]; omega)
      have hfi := fol_in hok1 hl
      have htb : t.size * 499 ≤ 40 * 499 := Nat.mul_le_mul_right _ (by omega)
      obtain ⟨lv, hlc, hli⟩ := hrows s l hl
      obtain ⟨la, lc, rfl⟩ := SlAt.form hli
      rw [List.length_map, nZ_len] at hlc hli
      have E8 : Chg none1 W11 W11 := Chg.refl _ _
      refine Wp_skip (thn_normal (Wp_seq (Wp_block (Wp_seq_region ?_))))
      refine qM _ rfl ?_
      refine qV (r_indexSlice (b := gb) (o := 0) (len := g.fol.length) (cap := fc) (i := s) (o' := 0 + s) rfl rfl rfl Try.underlying42 siz26 (by omega) (by omega)) ?_
      refine qV (r_load rfl flat26 (Ext.cell E7 hlc)) ?_
      refine qA _ rfl ?_
      refine qA _ rfl ?_
      refine WpL_nil (Wp_seq_region ?_)
      refine qM _ rfl ?_
      obtain ⟨n7, hn7⟩ : ∃ n7, n7 = (W11).heap.size := ⟨_, rfl⟩
      have h67 : n6 ≤ n7 := by rw [hn7]; exact hs6
      refine WpL_enter rfl rfl (by decide) (r_callF Try.func28 kQ kQ rfl) (cloneW_c _ _ (nZ l) (IntsAt.ext hli E7) (by rw [nZ_len]; omega)) ?_
      rintro _ w99 ⟨⟨ua, uc, rfl, hU0⟩, X99⟩
      replace Bb := X99.keep Bb
      replace Br := X99.keep Br
      replace Be := X99.keep Be
      replace hblk := X99.keep hblk
      replace Bp := X99.keep Bp
      replace Bn := X99.keep Bn
      replace E := E.ext X99
      replace E7 := E7.ext X99
      replace E8 := E8.ext X99
      rw [← hn7] at hU0
      have hUl : ∀ x, (nZ l ≠ [] ∧ (Value.slice ua (nZ l).length uc).ownBlock = some x) → n7 ≤ x := fun x h => by have := ((hU0.resolve_left h.1).lt x h.2).1; omega
      refine qA _ rfl ?_
      refine WpL_nil (Wp_seq_region ?_)
      refine qM _ rfl ?_
      refine WpL_enter rfl rfl (by decide) (r_callF Try.func26 kQ kQ rfl) (sortW_c _ _ (nZ l).length ua uc (nZ l) rfl hU0 (by rw [nZ_len]; omega)) ?_
      rintro _ w109 ⟨rfl, hS9, C109⟩
      replace Bb := C109.keep ((fun h => by have := hUl _ h; omega)) Bb
      replace Br := C109.keep ((fun h => by have := hUl _ h; omega)) Br
      replace Be := C109.keep ((fun h => by have := hUl _ h; omega)) Be
      replace hblk := C109.keep ((fun h => by have := hUl _ h; omega)) hblk
      replace Bp := C109.keep ((fun h => by have := hUl _ h; omega)) Bp
      replace Bn := C109.keep ((fun h => by have := hUl _ h; omega)) Bn
      replace E := E.step C109 ((fun x hx h => by have := hUl _ h; omega))
      refine WpL_nil (Wp_seq_region ?_)
      refine qM _ rfl ?_
      refine WpL_enter rfl rfl (by decide) (r_callF Try.func27 kQ kQ rfl) (compW_c _ n7 _ _ hS9) ?_
      rintro _ w119 ⟨⟨va, vc, rfl, hV, hVb⟩, C119⟩
      replace Bb := C119.keep ((fun h => by have := hUl _ ⟨fun e => h.1 (by rw [e]; exact List.mergeSort_nil), h.2⟩; omega)) Bb
      replace Br := C119.keep ((fun h => by have := hUl _ ⟨fun e => h.1 (by rw [e]; exact List.mergeSort_nil), h.2⟩; omega)) Br
      replace Be := C119.keep ((fun h => by have := hUl _ ⟨fun e => h.1 (by rw [e]; exact List.mergeSort_nil), h.2⟩; omega)) Be
      replace hblk := C119.keep ((fun h => by have := hUl _ ⟨fun e => h.1 (by rw [e]; exact List.mergeSort_nil), h.2⟩; omega)) hblk
      replace Bp := C119.keep ((fun h => by have := hUl _ ⟨fun e => h.1 (by rw [e]; exact List.mergeSort_nil), h.2⟩; omega)) Bp
      replace Bn := C119.keep ((fun h => by have := hUl _ ⟨fun e => h.1 (by rw [e]; exact List.mergeSort_nil), h.2⟩; omega)) Bn
      replace E := E.step C119 ((fun x hx h => by have := hUl _ ⟨fun e => h.1 (by rw [e]; exact List.mergeSort_nil), h.2⟩; omega))
      replace E8 := (E8.step C109 (fun x hx h => by have := hUl _ h; omega)).step C119 (fun x hx h => by have := hUl _ ⟨fun e => h.1 (by rw [e]; exact List.mergeSort_nil), h.2⟩; omega)
      replace E7 := (E7.step C109 (fun x hx h => by have := hUl _ h; omega)).step C119 (fun x hx h => by have := hUl _ ⟨fun e => h.1 (by rw [e]; exact List.mergeSort_nil), h.2⟩; omega)
      have hXm := (hX.ext E8).more (S := fun y => upS (nZ l) ≠ [] ∧ (Value.slice va (upS (nZ l)).length vc).ownBlock = some y) fun y hy => by obtain ⟨b, h1, h2, h3⟩ := hVb.resolve_left hy.1; obtain rfl : b = y := Option.some.inj (h1.symm.trans hy.2); exact ⟨by omega, h3, fun h9 => by have := (hX.own h9).2; omega⟩
      have hU : IntsF (fun y => F y ∨ (upS (nZ l) ≠ [] ∧ (Value.slice va (upS (nZ l)).length vc).ownBlock = some y)) w119 (.slice va (upS (nZ l)).length vc) (upS (nZ l)) := ⟨hV, (Classical.em (upS (nZ l) = [])).imp id fun h0 => by obtain ⟨b, h1, _⟩ := hVb.resolve_left h0; exact ⟨b, h1, .inr ⟨h0, h1⟩⟩⟩
      have hQ8 := hQ6.ext E8
      have hs88 : n6 ≤ w119.heap.size := by have := E8.size; omega
      have hrow : edgU g p (s + 1) = edgU g p s ++ (upS (nZ l)).map (edgO g s) := by rw [edgU, rowE_eq hl]
      refine qV (r_lenSlice Try.underlying26 rfl) ?_
      refine qM _ rfl ?_
      refine WpL_nil (Wp_block ?_)
      refine Wp_loop (fun nn_ σ W13 => ∃ (j m7 : Nat) (F7 : Nat → Prop) (xa7 : Option Addr) (xc7 : Nat), (∃ jj_, σ = upds jj_ [(2, (P6 br 0)), (3, (P6 be 0)), (5, (P6 bg 0)), (7, (P6 bn 0)), (8, (I6 (s : Int))), (62, (.slice (some ⟨gb, 0, none⟩) g.fol.length fc)), (63, (I6 (g.fol.length : Int))), (64, (I6 (s : Int))), (74, (.slice va ((upS (nZ l)).length) vc)), (75, (I6 (((upS (nZ l)).length : Nat) : Int))), (76, (I6 (j : Int)))]) ∧ Chg none1 w0 W13 ∧ Chg none1 w4 W13 ∧ Blk W13 bb (R6 t sa sc aa ac) 25 ∧ Blk W13 br #[(I6 0), (I6 0), (.slice none 0 0), (.slice none 0 0), (.slice none 0 0)] 30 ∧ Blk W13 be #[(I6 0)] 31 ∧ Blk W13 bg #[(.slice ya g.sets.length yc), (.slice (some ⟨gb, 0, none⟩) g.fol.length fc)] TGk ∧ Blk W13 bp #[(.bool p.nul), (.slice pa p.fst.length pc), (.slice pa2 p.lst.length pc2)] 68 ∧ Blk W13 bn (#[Value.int .i64 ((g.sets.length + 1 : Nat) : Int), .int .i64 0, .slice ea3 (endsG p).length ec3, .slice none 0 0, .slice xa7 m7 xc7]) TNf ∧ (j ≤ (upS (nZ l)).length) ∧ (m7 = (edgU g p s ++ ((upS (nZ l)).take j).map (edgO g s)).length) ∧ (EdB F7 W13 n6 (.slice xa7 m7 xc7) (edgU g p s ++ ((upS (nZ l)).take j).map (edgO g s))) ∧ (m7 ≤ 20000) ∧ (IntsF F7 W13 (.slice va (upS (nZ l)).length vc) (upS (nZ l))) ∧ (IntsF (fun y => n5 ≤ y ∧ y < n8) W13 (.slice ea3 (endsG p).length ec3) (endsG p)) ∧ (n6 ≤ W13.heap.size) ∧ nn_ = (upS (nZ l)).length - j) (n := (upS (nZ l)).length - 0) ?_ ?_
      ·exact ⟨0, m6, _, xa, xc, Fits.out ⟨rfl, rfl, rfl, rfl, rfl, rfl, rfl, rfl, rfl, rfl, rfl, trivial⟩, E, E7, Bb, Br, Be, hblk, Bp, Bn, Nat.zero_le _, (by simpa using hm6), (by simpa using hXm), hm20, hU, hQ8, hs88, rfl⟩
      ·clear E E7 Bb Br Be hblk Bp Bn
       rintro _ _ W13 ⟨j, m7, F7, xa7, xc7, ⟨j13, rfl⟩, E, E7, Bb, Br, Be, hblk, Bp, Bn, hj, hm7, hX7, hm70, hU7, hQ7, hs7, rfl⟩
       have hul : (upS (nZ l)).length ≤ 9223372036854775807 := by have := SlAt.le hU7.1; rwa [List.length_map] at this
       refine Wp_seq_region ?_
       refine qV (r_lss rfl rfl) ?_
       refine WpL_nil (Wp_seq ?_)
       refine Wp_cond rfl (fun hlt8 => ?_) (fun hlt8 => ?_)
       ·have khlt8 := hlt8
        replace hlt8 := of_decide_eq_true hlt8
        obtain ⟨t9, ht9⟩ := get_of_lt (l := upS (nZ l)) (i := j) (by omega)
        obtain ⟨k, rfl, hk⟩ := inU hfi.2 (List.mem_of_getElem? ht9)
        obtain ⟨vb, vo, rfl, hvc⟩ := ints_cells hU7.1 (by omega)
        obtain ⟨z, hz⟩ := get_of_lt (l := g.sets) (i := k) hk
        obtain ⟨u, hu⟩ := get_of_lt (l := us) (i := k) (by have := hsetF.1; omega)
        have hsp := (hsetF.2 k u z hu hz).1
        obtain ⟨za, zc, rfl⟩ := SlAt.form hsp
        rw [List.length_map] at hu hsp
        obtain ⟨yb, rfl, _, hyc⟩ := own_cells hsown2 (by omega)
        have hyc0 := hyc k _ hu
        have hsl : z.length ≤ 16 := by have h9 : checkE z = 0 := gkO_sets _ t (Nat.le_refl _) hok _ _ _ (fun z hz => (by cases hz)) hgk z (List.mem_of_getElem? hz); unfold checkE at h9; split at h9; cases h9; omega
        refine Wp_skip (thn_normal (Wp_seq (Wp_block (Wp_seq_region ?_))))
        refine qV (r_indexSlice (b := vb) (o := vo) (len := (upS (nZ l)).length) (cap := vc) (i := j) (o' := vo + j) rfl rfl rfl Try.underlying26 siz3 (by omega) (by omega)) ?_
        refine qV (r_load rfl flat3 (hvc j _ ht9)) ?_
        obtain ⟨⟨rows, hownX, hrowsX⟩, hxF, hFl⟩ := hX7
        rw [← hm7] at hownX
        refine qA _ rfl ?_
        refine WpL_nil ?_
        obtain ⟨z1, hz1⟩ : ∃ z1, z1 = (W13).heap.size := ⟨_, rfl⟩
        have hz_15 : w0.heap.size ≤ W13.heap.size := E.size
        have lz_15_bb : bb < W13.heap.size := Bb.lt
        have lz_15_br : br < W13.heap.size := Br.lt
        have lz_15_be : be < W13.heap.size := Be.lt
        have lz_15_bg : bg < W13.heap.size := hblk.lt
        have lz_15_bp : bp < W13.heap.size := Bp.lt
        have lz_15_bn : bn < W13.heap.size := Bn.lt
        refine Wp_seq ?_
        obtain ⟨Fs15, hFs15⟩ : ∃ Fs : List FctS, Fs = [(eF (P6 bn 4)), (eF (.slice xa7 m7 xc7)), (eF (I6 (s : Int))), (eF (I6 ((k + 1 : Nat) : Int))), (eF (P6 bg 0)), (eF (P6 bg 0)), (eF (P6 bg 0)), (eF (.slice (some ⟨yb, 0, none⟩) g.sets.length yc)), (eF (I6 ((k + 1 : Nat) : Int))), (eF (I6 (k : Int))), (eF (.pointer (some ⟨yb, 0 + k, none⟩))), (eF (.slice za z.length zc)), (fun _ _ => cloG z z1), (fun _ _ => edG (s : Int) ((k + 1 : Nat) : Int) z z1), (fun _ _ => elG (s : Int) ((k + 1 : Nat) : Int) z z1), (fun _ _ => apG n6 m7 rows.flatten (.slice xa7 m7 xc7) z1 (s : Int) ((k + 1 : Nat) : Int) z), (eF undef), (eF undef)] := ⟨_, rfl⟩
        refine Wp_dagS (MsL [(15, (fun q => (Value.slice xa7 m7 xc7).ownBlock = some q))]) [true, true, true, true, true, true, true, true, true, true, true, true, true, true, true, true, false, false] [16, 17] [80, 81, 82, 83, 84, 85, 86, 87, 88, 89, 90, 91, 92, 93, 94, 95, 121, 122] [[], [0], [], [], [], [4], [5], [6], [], [8], [7, 9], [10], [11], [2, 3, 12], [13], [1, 12, 14], [], []] [[], [0], [], [], [], [4], [5, 4], [6, 5, 4], [], [8], [7, 6, 5, 4, 9, 8], [10, 7, 6, 5, 4, 9, 8], [11, 10, 7, 6, 5, 4, 9, 8], [2, 3, 12, 11, 10, 7, 6, 5, 4, 9, 8], [13, 2, 3, 12, 11, 10, 7, 6, 5, 4, 9, 8], [1, 0, 12, 11, 10, 7, 6, 5, 4, 9, 8, 14, 13, 2, 3], [], []] Fs15 hFs15 (by kernel_rfl) mixed (by kernel_rfl) (by kernel_rfl) (by kernel_rfl) (by kernel_rfl) ?_ ?_
        ·intro wd X0
         refine qZ (fun S s' w' hi hN X U V H => ?_) ?_
         ·replace X := xN1 (hN 15 rfl) X
          exact DoesT_pure (r_fieldAddr (U 7 rfl) Try.underlying30 rfl siz28 rfl) rfl
         refine qZ (fun S s' w' hi hN X U V H => ?_) ?_
         ·replace X := xN1 (hN 15 rfl) X
          have e80 := (H 0 rfl).2 80 _ rfl (by rw [hFs15]; rfl)
          exact DoesT_pure (r_load e80 flat28 (((X0.trans X).keep Bn).cell rfl)) rfl
         refine qZ (fun S s' w' hi hN X U V H => ?_) ?_
         ·replace X := xN1 (hN 15 rfl) X
          exact DoesT_pure (r_move (U 8 rfl)) rfl
         refine qZ (fun S s' w' hi hN X U V H => ?_) ?_
         ·replace X := xN1 (hN 15 rfl) X
          exact DoesT_pure (r_move (U 11 rfl)) rfl
         refine qZ (fun S s' w' hi hN X U V H => ?_) ?_
         ·replace X := xN1 (hN 15 rfl) X
          exact DoesT_pure (r_move (U 5 rfl)) rfl
         refine qZ (fun S s' w' hi hN X U V H => ?_) ?_
         ·replace X := xN1 (hN 15 rfl) X
          have e84 := (H 4 rfl).2 84 _ rfl (by rw [hFs15]; rfl)
          exact DoesT_pure (r_nilCheck e84) rfl
         refine qZ (fun S s' w' hi hN X U V H => ?_) ?_
         ·replace X := xN1 (hN 15 rfl) X
          have e85 := (H 5 rfl).2 85 _ rfl (by rw [hFs15]; rfl)
          exact DoesT_pure (r_fieldAddr e85 Try.underlying66 rfl siz64 rfl) rfl
         refine qZ (fun S s' w' hi hN X U V H => ?_) ?_
         ·replace X := xN1 (hN 15 rfl) X
          have e86 := (H 6 rfl).2 86 _ rfl (by rw [hFs15]; rfl)
          exact DoesT_pure (r_load e86 flat64 (((X0.trans X).keep hblk).cell rfl)) rfl
         refine qZ (fun S s' w' hi hN X U V H => ?_) ?_
         ·replace X := xN1 (hN 15 rfl) X
          exact DoesT_pure (r_move (U 11 rfl)) rfl
         refine qZ (fun S s' w' hi hN X U V H => ?_) ?_
         ·replace X := xN1 (hN 15 rfl) X
          have e88 := (H 8 rfl).2 88 _ rfl (by rw [hFs15]; rfl)
          exact DoesT_pure (r_sub (c := (k : Int)) e88 rfl ((wI64 (by omega)).trans (by omega))) rfl
         refine qZ (fun S s' w' hi hN X U V H => ?_) ?_
         ·replace X := xN1 (hN 15 rfl) X
          have e87 := (H 7 rfl).2 87 _ rfl (by rw [hFs15]; rfl)
          have e89 := (H 9 rfl).2 89 _ rfl (by rw [hFs15]; rfl)
          exact DoesT_pure (r_indexSlice (i := k) e87 e89 rfl Try.underlying64 siz22 (by omega) (by omega)) rfl
         refine qZ (fun S s' w' hi hN X U V H => ?_) ?_
         ·replace X := xN1 (hN 15 rfl) X
          have e90 := (H 10 rfl).2 90 _ rfl (by rw [hFs15]; rfl)
          exact DoesT_pure (r_load e90 flat22 (by simpa using (Chg.ext E7 (X0.trans X)).cell (fun f => f) hyc0)) rfl
         refine DagStepsS.cons (StabS.chg (U := (fun y => (fun q => (Value.slice xa7 m7 xc7).ownBlock = some q) y)) (cloG_chg (fun q h => by have := (hownX.lt q h).2; omega)) (fun p y hp hw h => by
            rcases MsL_or h with ⟨rfl, h0⟩ | h0
            ·exact h0
            exact h0.elim)) (LocS.const) (fun S s' w' hi hN X U V H => Or.inl ⟨Guarded_none rfl, ?_⟩) ?_
         ·replace X := xN1 (hN 15 rfl) X
          have e91 := (H 11 rfl).2 91 _ rfl (by rw [hFs15]; rfl)
          exact DoesT_callE (r_callF Try.func29 kQ kQ (lst1 e91)) ((clones_c _ _ z (SlAt.ext hsp (Ext.trans E7 (X0.trans X))) (by omega)).mono (fun v w h => ⟨(⟨h.1.1, own_low h.1.2 (by have := X0.size; have := X.size; omega)⟩ : cloG z z1 v w), h.2⟩))
         refine DagStepsS.cons (StabS.chg (U := (fun y => (fun q => (Value.slice xa7 m7 xc7).ownBlock = some q) y)) (edG_chg (fun q h => by have := (hownX.lt q h).2; omega)) (fun p y hp hw h => by
            rcases MsL_or h with ⟨rfl, h0⟩ | h0
            ·exact h0
            exact h0.elim)) (LocS.const) (fun S s' w' hi hN X U V H => Or.inl ⟨Guarded_none rfl, ?_⟩) ?_
         ·replace X := xN1 (hN 15 rfl) X
          have e82 := (H 2 rfl).2 82 _ rfl (by rw [hFs15]; rfl)
          have e83 := (H 3 rfl).2 83 _ rfl (by rw [hFs15]; rfl)
          obtain ⟨⟨a92, c92, e92⟩, O92⟩ := (show ((fun _ _ => cloG z z1) : FctS) S s' (s' 92) w' from (H 12 rfl).2 92 (fun _ _ => cloG z z1) rfl (by rw [hFs15]; rfl))
          exact DoesT_pure (r_build (ps := [(0, .int .i64 (s : Int)), (1, .int .i64 ((k + 1 : Nat) : Int)), (2, .slice a92 z.length c92)]) (v := .agg #[.int .i64 (s : Int), .int .i64 ((k + 1 : Nat) : Int), .slice a92 z.length c92]) (bld3 e82 e83 e92) (by kernel_rfl)) ⟨a92, c92, rfl, ⟨a92, c92, rfl⟩, e92 ▸ O92⟩
         refine DagStepsS.cons (StabS.chg (U := (fun y => (fun q => (Value.slice xa7 m7 xc7).ownBlock = some q) y)) (elG_chg (fun q h => by have := (hownX.lt q h).2; omega)) (fun p y hp hw h => by
            rcases MsL_or h with ⟨rfl, h0⟩ | h0
            ·exact h0
            exact h0.elim)) (LocS.const) (fun S s' w' hi hN X U V H => Or.inl ⟨Guarded_none rfl, ?_⟩) ?_
         ·replace X := xN1 (hN 15 rfl) X
          obtain ⟨a93, c93, e93, O93⟩ := (show ((fun _ _ => edG ((s : Nat) : Int) ((k + 1 : Nat) : Int) z z1) : FctS) S s' (s' 93) w' from (H 13 rfl).2 93 (fun _ _ => edG ((s : Nat) : Int) ((k + 1 : Nat) : Int) z z1) rfl (by rw [hFs15]; rfl))
          exact DoesT_litE e93 (by have := X0.size; have := X.size; omega) O93
         refine DagStepsS.cons (StabS.chg (U := none1) (apG_ext _ _ _ _ _ _ _ _) (fun p y hp hw h => by
            rcases MsL_or h with ⟨rfl, h0⟩ | h0
            ·exact absurd rfl hp
            exact h0.elim)) (LocS.const) (fun S s' w' hi hN X U V H => Or.inl ⟨Guarded_none rfl, ?_⟩) ?_
         ·replace X := xN1 hi X
          have e81 := (H 1 rfl).2 81 _ rfl (by rw [hFs15]; rfl)
          obtain ⟨b94, a94, c94, e94, B94, g94, O94⟩ := (show ((fun _ _ => elG ((s : Nat) : Int) ((k + 1 : Nat) : Int) z z1) : FctS) S s' (s' 94) w' from (H 14 rfl).2 94 (fun _ _ => elG ((s : Nat) : Int) ((k + 1 : Nat) : Int) z z1) rfl (by rw [hFs15]; rfl))
          exact DoesT_appE e81 (own_ext (own_ext hownX X0) X) e94 B94 O94 (by omega) (by have := X0.size; have := X.size; omega) (fun q h => .inl ⟨rfl, h⟩) (fun q h => by rcases h with h | h; exact (by have := (hownX.lt q h.2).2; omega); exact h.elim) (by have := X0.size; have := X.size; omega)
         refine DagStepsS.tail (DagStepsS.tail ?_)
         exact DagStepsS.nil
        ·intro s' wd15 w15 X0 X15 U H
         replace X15 := X15.mono (M' := (fun y => (fun q => (Value.slice xa7 m7 xc7).ownBlock = some q) y)) (fun y _ h => by
           obtain ⟨j, hj, h⟩ := h
           rcases MsL_or h with ⟨rfl, h0⟩ | h0
           ·exact h0
           exact h0.elim)
         obtain ⟨a95, c95, ⟨⟨u95, v95, e95⟩, O95, D95⟩, K95⟩ := (show ((fun _ _ => apG n6 m7 rows.flatten (.slice xa7 m7 xc7) z1 ((s : Nat) : Int) ((k + 1 : Nat) : Int) z) : FctS) (allS [true, true, true, true, true, true, true, true, true, true, true, true, true, true, true, true, false, false]) s' (s' 95) w15 from H 15 rfl 95 (fun _ _ => apG n6 m7 rows.flatten (.slice xa7 m7 xc7) z1 ((s : Nat) : Int) ((k + 1 : Nat) : Int) z) rfl (by rw [hFs15]; rfl))
         obtain ⟨j15, rfl⟩ := Fits.out (σ := s') (l := [(2, (.pointer (some ⟨br, 0, none⟩))), (3, (.pointer (some ⟨be, 0, none⟩))), (5, (.pointer (some ⟨bg, 0, none⟩))), (7, (.pointer (some ⟨bn, 0, none⟩))), (8, (.int .i64 ((s : Nat) : Int))), (62, (.slice (some ⟨gb, 0, none⟩) g.fol.length fc)), (63, (.int .i64 ((g.fol.length : Nat) : Int))), (64, (.int .i64 ((s : Nat) : Int))), (74, (.slice (some ⟨vb, vo, none⟩) ((upS (nZ l)).length) vc)), (75, (.int .i64 (((upS (nZ l)).length : Nat) : Int))), (76, (.int .i64 ((j : Nat) : Int))), (95, (.slice u95 (m7 + 1) v95))]) ⟨U 2 rfl, U 3 rfl, U 5 rfl, U 7 rfl, U 8 rfl, U 62 rfl, U 63 rfl, U 64 rfl, U 74 rfl, U 75 rfl, U 76 rfl, e95, trivial⟩
         clear U H
         replace Bb := Chg.keep X15 (fun h => by have := (hownX.lt _ h).1; omega) (X0.keep Bb)
         replace Br := Chg.keep X15 (fun h => by have := (hownX.lt _ h).1; omega) (X0.keep Br)
         replace Be := Chg.keep X15 (fun h => by have := (hownX.lt _ h).1; omega) (X0.keep Be)
         replace hblk := Chg.keep X15 (fun h => by have := (hownX.lt _ h).1; omega) (X0.keep hblk)
         replace Bp := Chg.keep X15 (fun h => by have := (hownX.lt _ h).1; omega) (X0.keep Bp)
         replace Bn := Chg.keep X15 (fun h => by have := (hownX.lt _ h).1; omega) (X0.keep Bn)
         have hXm7 := Chg.trans (Ext.chg X0) X15
         replace E := (E.ext X0).step X15 (fun q hq h => by have := (hownX.lt q h).1; omega)
         replace E7 := (E7.ext X0).step X15 (fun q hq h => by have := (hownX.lt q h).1; omega)
         rw [e95] at O95 D95
         have hX9 := EdB.push hownX hm7 hrowsX hxF hFl hXm7 hz1 (by omega) O95 D95 K95
         have hU9 := (hU7.chg hXm7 fun y hy h => hxF y h hy).mono (F' := fun y => F7 y ∨ (Value.slice a95 z.length c95).ownBlock = some y) fun y hy => .inl hy
         have hQ9 := hQ7.chg hXm7 fun y hy h => by have := (hownX.lt y h).1; omega
         have hs9 := Nat.le_trans hs7 hXm7.size
         have htk : edgU g p s ++ ((upS (nZ l)).take (j + 1)).map (edgO g s) = edgU g p s ++ ((upS (nZ l)).take j).map (edgO g s) ++ [(((s : Nat) : Int), ((k + 1 : Nat) : Int), z)] := by rw [map_take _ ht9, edgO_at g s k hz, List.append_assoc]
         have hm9 : m7 + 1 = (edgU g p s ++ ((upS (nZ l)).take (j + 1)).map (edgO g s)).length := by rw [htk, List.length_append, ← hm7]; rfl
         refine qF bn 0 4 rfl Try.underlying30 rfl siz28 rfl ?_
         refine s_store (b := bn) (o := 4) (c' := #[(I6 ((g.sets.length + 1 : Nat) : Int)), (I6 0), (.slice ea3 ((endsG p).length) ec3), (.slice none 0 0), (.slice u95 (m7 + 1) v95)]) (v := (.slice u95 (m7 + 1) v95)) rfl rfl rfl siz28 Bn (by simp) rfl ?_
         intro w16 S16
         replace hX9 := hX9.chg S16.chg fun y h => by have h' : y = _ := h; omega
         replace hU9 := hU9.chg S16.chg fun y hy h => by have h' : y = _ := h; have := (hX9.2.2 y hy).1; omega
         replace hQ9 := hQ9.chg S16.chg fun y hy h => by have h' : y = _ := h; omega
         replace hs9 := Nat.le_trans hs9 S16.chg.size
         replace Bb := S16.keep (by omega) Bb
         replace Br := S16.keep (by omega) Br
         replace Be := S16.keep (by omega) Be
         replace hblk := S16.keep (by omega) hblk
         replace Bp := S16.keep (by omega) Bp
         replace E := S16.step E (by first | exact Or.inl (by omega) | exact Or.inr rfl | exact Or.inr (by assumption) | exact Or.inr (by simp) | exact Or.inr (by omega) | exact Or.inr (by dsimp only; omega))
         replace E7 := S16.step E7 (Or.inl (by omega))
         replace Bn := S16.blk
         refine WpL_nil (thn_normal (Wp_seq_region ?_))
         refine qF bn 0 4 rfl Try.underlying30 rfl siz28 rfl ?_
         refine qV (r_load rfl flat28 (Bn.cell rfl)) ?_
         refine qV (r_lenSlice Try.underlying28 rfl) ?_
         refine qV (r_gtr rfl rfl) ?_
         refine WpL_nil ?_
         refine Wp_cond rfl (fun hbig => ?_) (fun hbig => ?_)
         ·have khbig := hbig
          replace hbig := of_decide_eq_true hbig
          have hle1 := edgU_le g p (s := s + 1) (m := g.fol.length) (by omega)
          have hbg : 20000 < (edgG g p).length := by rw [hrow, List.length_append, List.length_map] at hle1; rw [List.length_append, List.length_map, List.length_take] at hm9; unfold edgG; omega
          refine Wp_seq_region ?_
          refine qV (r_build (ps := []) (v := (.agg #[(I6 0), (I6 0), (.slice none 0 0), (.slice none 0 0), (.slice none 0 0)])) rfl (by kernel_rfl)) ?_
          refine s_storeAgg (b := br) (o := 0) (c' := #[(I6 0), (I6 0), (.slice none 0 0), (.slice none 0 0), (.slice none 0 0)]) rfl rfl (by simp [Value.oneCell']) siz30 rfl Br (by first | (simp; done) | exact Nat.le_of_ble_eq_true rfl) rfl ?_
          intro w18 S18
          replace hX9 := hX9.chg S18.chg fun y h => by have h' : y = _ := h; omega
          replace hU9 := hU9.chg S18.chg fun y hy h => by have h' : y = _ := h; have := (hX9.2.2 y hy).1; omega
          replace hQ9 := hQ9.chg S18.chg fun y hy h => by have h' : y = _ := h; omega
          replace hs9 := Nat.le_trans hs9 S18.chg.size
          replace Bb := S18.keep (by omega) Bb
          replace Be := S18.keep (by omega) Be
          replace hblk := S18.keep (by omega) hblk
          replace Bp := S18.keep (by omega) Bp
          replace Bn := S18.keep (by omega) Bn
          replace E := S18.step E (by first | exact Or.inl (by omega) | exact Or.inr rfl | exact Or.inr (by assumption) | exact Or.inr (by simp) | exact Or.inr (by omega) | exact Or.inr (by dsimp only; omega))
          replace Br := S18.blk
          refine s_store (b := be) (o := 0) (c' := #[(I6 2)]) (v := (I6 2)) rfl rfl rfl siz31 Be (by simp) rfl ?_
          intro w19 S19
          replace hX9 := hX9.chg S19.chg fun y h => by have h' : y = _ := h; omega
          replace hU9 := hU9.chg S19.chg fun y hy h => by have h' : y = _ := h; have := (hX9.2.2 y hy).1; omega
          replace hQ9 := hQ9.chg S19.chg fun y hy h => by have h' : y = _ := h; omega
          replace hs9 := Nat.le_trans hs9 S19.chg.size
          replace Bb := S19.keep (by omega) Bb
          replace Br := S19.keep (by omega) Br
          replace hblk := S19.keep (by omega) hblk
          replace Bp := S19.keep (by omega) Bp
          replace Bn := S19.keep (by omega) Bn
          replace E := S19.step E (by first | exact Or.inl (by omega) | exact Or.inr rfl | exact Or.inr (by assumption) | exact Or.inr (by simp) | exact Or.inr (by omega) | exact Or.inr (by dsimp only; omega))
          replace Be := S19.blk
          refine WpL_nil (Wp_ret (inB_ret (thn_ret (thn_ret (inB_ret (inB_ret (thn_ret (thn_ret (inB_ret (thn_ret ?_))))))))))
          exact fun a ha => leaves_end (X := Ext _) rfl (by intro h; cases h) (hi_glu1 _ _) ((glu1_idle _ br be).mono fun e9 u9 w9 h9 => by obtain ⟨⟨r9, h1, h2⟩, h3⟩ := h9; exact ⟨⟨r9, h1⟩, by rw [h3]; rfl, h2⟩) (fun w9 h9 => ⟨_, res_agg_cell (vs := [.int .i64 0, .int .i64 0, .slice none 0 0, .slice none 0 0, .slice none 0 0]) Try.results5 rfl rfl agg30 siz30 rfl ((Ext.keep h9 Br).cells rfl) flat31 ((Ext.keep h9 Be).cell rfl) ha, _, rfl, nfR_zero (.inr (.inr ⟨hs0, g, p, hgk, hok1, .inr ⟨rfl, rfl, hbg⟩⟩)), E.ext h9⟩)
         ·have khbig := hbig
          replace hbig := of_decide_eq_false hbig
          refine Wp_skip (inB_normal (thn_normal (Wp_region ?_)))
          refine qV (r_add rfl rfl (wI64 (by omega))) ?_
          refine qM _ rfl ?_
          refine WpL_nil (thn_normal ?_)
          exact ⟨(upS (nZ l)).length - (j + 1), by omega, j + 1, m7 + 1, _, u95, v95, Fits.out ⟨rfl, rfl, rfl, rfl, rfl, rfl, rfl, rfl, rfl, rfl, rfl, trivial⟩, E, E7, Bb, Br, Be, hblk, Bp, Bn, (by omega), hm9, (by rw [htk]; exact hX9), (by omega), hU9, hQ9, hs9, rfl⟩
       ·have khlt8 := hlt8
        replace hlt8 := of_decide_eq_false hlt8
        have hjj : j = (upS (nZ l)).length := by omega
        subst hjj
        rw [List.take_length, ← hrow] at hm7 hX7
        refine Wp_exit (thn_exit (thn_exit (inB_here (inB_normal (thn_normal (Wp_region ?_))))))
        refine qV (r_add rfl rfl (wI64 (by omega))) ?_
        refine qM _ rfl ?_
        refine WpL_nil (thn_normal ?_)
        exact ⟨g.fol.length - (s + 1), by omega, s + 1, m7, F7, xa7, xc7, Fits.out ⟨rfl, rfl, rfl, rfl, rfl, rfl, rfl, trivial⟩, E, E7, Bb, Br, Be, hblk, Bp, Bn, (by omega), hm7, hX7, hm70, hQ7, hs7, rfl⟩
     ·have khlt9 := hlt9
      replace hlt9 := of_decide_eq_false hlt9
      have hss : s = g.fol.length := by omega
      subst hss
      refine Wp_exit (thn_exit (thn_exit (inB_here (thn_normal (Wp_seq_region ?_)))))
      refine qV (r_loadAgg (vs := [(I6 ((g.sets.length + 1 : Nat) : Int)), (I6 0), (.slice ea3 ((endsG p).length) ec3), (.slice none 0 0), (.slice xa m6 xc)]) rfl agg30 siz30 rfl (Bn.cells rfl)) ?_
      refine s_storeAgg (b := br) (o := 0) (c' := #[(I6 ((g.sets.length + 1 : Nat) : Int)), (I6 0), (.slice ea3 ((endsG p).length) ec3), (.slice none 0 0), (.slice xa m6 xc)]) rfl rfl (by simp [Value.oneCell']) siz30 rfl Br (by first | (simp; done) | exact Nat.le_of_ble_eq_true rfl) rfl ?_
      intro w20 S20
      replace hX := hX.chg S20.chg fun y h => by have h' : y = _ := h; omega
      replace hQ6 := hQ6.chg S20.chg fun y hy h => by have h' : y = _ := h; omega
      replace Bb := S20.keep (by omega) Bb
      replace Be := S20.keep (by omega) Be
      replace hblk := S20.keep (by omega) hblk
      replace Bp := S20.keep (by omega) Bp
      replace Bn := S20.keep (by omega) Bn
      replace E := S20.step E (by first | exact Or.inl (by omega) | exact Or.inr rfl | exact Or.inr (by assumption) | exact Or.inr (by simp) | exact Or.inr (by omega) | exact Or.inr (by dsimp only; omega))
      replace Br := S20.blk
      refine s_store (b := be) (o := 0) (c' := #[(I6 0)]) (v := (I6 0)) rfl rfl rfl siz31 Be (by simp) rfl ?_
      intro w21 S21
      replace hX := hX.chg S21.chg fun y h => by have h' : y = _ := h; omega
      replace hQ6 := hQ6.chg S21.chg fun y hy h => by have h' : y = _ := h; omega
      replace Bb := S21.keep (by omega) Bb
      replace Br := S21.keep (by omega) Br
      replace hblk := S21.keep (by omega) hblk
      replace Bp := S21.keep (by omega) Bp
      replace Bn := S21.keep (by omega) Bn
      replace E := S21.step E (by first | exact Or.inl (by omega) | exact Or.inr rfl | exact Or.inr (by assumption) | exact Or.inr (by simp) | exact Or.inr (by omega) | exact Or.inr (by dsimp only; omega))
      replace Be := S21.blk
      refine WpL_nil (Wp_ret ?_)
      have hN : NfNew w0.heap.size _ (nfG g p) [.int .i64 ((g.sets.length + 1 : Nat) : Int), .int .i64 0, .slice ea3 (endsG p).length ec3, .slice none 0 0, .slice xa m6 xc] := fun M w7 c hM => by
       have h1 := hQ6.chg c fun y hy h => by have := hM y h; omega
       have h2 := (hX.chg c fun y h => by have := hM y h; omega).at
       subst hm6
       exact ⟨_, _, none, 0, _, _, rfl, h1.1, SlAt.nil w7 2 _ _, h2⟩
      exact fun a ha => leaves_end (X := Ext _) rfl (by intro h; cases h) (hi_glu1 _ _) ((glu1_idle _ br be).mono fun e9 u9 w9 h9 => by obtain ⟨⟨r9, h1, h2⟩, h3⟩ := h9; exact ⟨⟨r9, h1⟩, by rw [h3]; rfl, h2⟩) (fun w9 h9 => ⟨_, res_agg_cell (vs := [.int .i64 ((g.sets.length + 1 : Nat) : Int), .int .i64 0, .slice ea3 (endsG p).length ec3, .slice none 0 0, .slice xa m6 xc]) Try.results5 rfl rfl agg30 siz30 rfl ((Ext.keep h9 Br).cells rfl) flat31 ((Ext.keep h9 Be).cell rfl) ha, _, rfl, ⟨nfG g p, ea3, ec3, none, 0, xa, xc, _, by rw [hm6]; rfl, by rw [hm6] at hN; exact hN.ext h9, .inr (.inr ⟨hs0, g, p, hgk, hok1, .inl ⟨rfl, rfl, by unfold edgG; omega⟩⟩)⟩, E.ext h9⟩)
end Go.Proofs
namespace Go.Proofs
open Go Go.Eng
set_option maxRecDepth 100000
mutual
theorem uses_pre (ks : List Int) : ∀ t : Re, usesB ks t = (preL t).any fun x => ks.contains x.kind
  | .mk k set args mn mx ng => by simp only [usesB, preL, List.any_cons, uses_pres ks args]; rfl
theorem uses_pres (ks : List Int) : ∀ ts : List Re, usesBs ks ts = (preLs ts).any fun x => ks.contains x.kind
  | [] => rfl
  | t :: ts => by simp only [usesBs, preLs, List.any_append, uses_pre ks t, uses_pres ks ts]
end
theorem any_take_succ {α : Type} {l : List α} {k : Nat} {x : α} {f : α → Bool} (h : l[k]? = some x) : (l.take (k + 1)).any f = ((l.take k).any f || f x) := by
 rw [List.take_add_one, h, Option.toList_some, List.any_append]; simp
set_option maxHeartbeats 2000000 in
theorem hasR_c (w0 : World) (t : Re) (vs : List Value) (vk : Value) (ks : List Int) (ht : ReAt w0 t vs) (hk : IntsAt w0 vk ks) (hs : t.size ≤ 1000000) (hkl : ks.length ≤ 1000) :
  Ret Try.prog 9 #[.agg vs.toArray, vk] w0 fun v w => v = .bool (usesB ks t) ∧ Ext w0 w := by
 have ht0 := ht
 obtain ⟨sa, sc, aa, ac, rfl, hset, hlen, hargs⟩ := ht.form
 obtain ⟨ka, kc, rfl⟩ := SlAt.form hk
 simp only [List.length_map] at hk ⊢
 rw [uses_pre]
 refine Ret_of Try.func9 rfl Try.ntmps9 (Nat.le_of_ble_eq_true rfl) ?_
 have E : Chg none1 w0 w0 := Chg.refl _ _
 refine Wp_seq_region ?_
 refine s_box (v := (.agg (R6 t sa sc aa ac))) (c := (R6 t sa sc aa ac)) (by decide) rfl rfl ?_
 intro b1 w1 N1
 have F1 := N1.ge E
 replace E := E.ext N1.ext
 have B1 := N1.blk
 refine qA _ rfl ?_
 refine WpL_nil (Wp_seq (Wp_seq_region ?_))
 refine qV (r_loadAgg (vs := [(I6 t.kind), (.slice sa t.set.length sc), (.slice aa t.args.length ac), (I6 t.mn), (I6 t.mx), (.bool t.neg)]) rfl agg25 siz25 rfl (B1.cells rfl)) ?_
 refine WpL_enter rfl rfl (by decide) (r_callF Try.func35 kQ kQ rfl) (pre_c _ t _ _ (ReAt.ext E t ht0) (by omega)) ?_
 rintro _ w9 ⟨la, lc, rows, rfl, hsl, hrows, X9⟩
 replace B1 := X9.keep B1
 replace E := E.ext X9
 obtain ⟨L, hL⟩ : ∃ L, L = preL t := ⟨_, rfl⟩
 have hLl : L.length = t.size := by rw [hL, preL_len]
 have htk : (preL t).take (1000000 : Int).toNat = L := by rw [hL]; exact List.take_of_length_le (by rw [preL_len]; exact hs)
 rw [htk] at hsl hrows ⊢
 have hrows' : RowsOf w9 L rows := RowsOf.ext X9 hrows
 rw [← hL]
 have EQ : Chg none1 w9 w9 := Chg.refl _ _
 refine qV (r_lenSlice Try.underlying23 rfl) ?_
 refine qM _ rfl ?_
 refine WpL_nil (Wp_block ?_)
 refine Wp_loop (fun nn_ σ W2 => ∃ (k : Nat), (∃ jj_, σ = upds jj_ [(1, (.slice ka ks.length kc)), (10, (.slice la L.length lc)), (11, (I6 (L.length : Int))), (12, (I6 (k : Int)))]) ∧ Chg none1 w0 W2 ∧ Chg none1 w9 W2 ∧ Blk W2 b1 (R6 t sa sc aa ac) 25 ∧ (k ≤ L.length) ∧ (((L.take k).any fun x => ks.contains x.kind) = false) ∧ nn_ = L.length - k) (n := L.length - 0) ?_ ?_
 ·exact ⟨0, Fits.out ⟨rfl, rfl, rfl, rfl, trivial⟩, E, EQ, B1, Nat.zero_le _, rfl, rfl⟩
 ·clear E EQ B1
  rintro _ _ W2 ⟨k, ⟨j2, rfl⟩, E, EQ, B1, hk1, hp, rfl⟩
  refine Wp_seq_region ?_
  refine qV (r_lss rfl rfl) ?_
  refine WpL_nil (Wp_seq ?_)
  refine Wp_cond rfl (fun hlt => ?_) (fun hlt => ?_)
  ·have khlt := hlt
   replace hlt := of_decide_eq_true hlt
   obtain ⟨x, hx⟩ := get_of_lt (l := L) (i := k) (by omega)
   obtain ⟨r, hr, hxr⟩ := hrows'.get hx
   obtain ⟨b, o, rfl, hcl⟩ := SlAt.at hsl (by omega)
   have hcr := (hcl k r hr).ext EQ
   obtain ⟨xa, xc, ya, yc, rfl, hxset, hxlen, hxargs⟩ := hxr.form
   refine Wp_skip (thn_normal (Wp_seq (Wp_block (Wp_seq_region ?_))))
   refine qV (r_indexSlice (b := b) (o := o) (len := L.length) (cap := lc) (i := k) (o' := o + k * 6) rfl rfl rfl Try.underlying23 siz25 (by omega) (by omega)) ?_
   refine qV (r_loadAgg rfl agg25 siz25 rfl (hcr)) ?_
   refine s_allocStore (v := (.agg (R6 x xa xc ya yc))) (c := (R6 x xa xc ya yc)) (n := 6) (by decide) zer25 rfl siz25 rfl rfl rfl (by simp [Value.oneCell']) ?_
   intro bu wu Nu
   have Fu := Nu.ge E
   have Fu_EQ := Nu.ge EQ
   have Ou_b1 := Nu.lt B1
   replace B1 := Nu.keep B1
   replace E := E.ext Nu.ext
   have Bu := Nu.blk
   replace EQ := EQ.ext Nu.ext
   refine WpL_nil (Wp_seq_region ?_)
   refine qM _ rfl ?_
   refine qV (r_lenSlice Try.underlying26 rfl) ?_
   refine qM _ rfl ?_
   refine WpL_nil (Wp_block ?_)
   refine Wp_loop (fun nn_ σ W4 => ∃ (j : Nat), (∃ jj_, σ = upds jj_ [(1, (.slice ka ks.length kc)), (6, (P6 bu 0)), (10, (.slice (some ⟨b, o, none⟩) L.length lc)), (11, (I6 (L.length : Int))), (12, (I6 (k : Int))), (16, (.slice ka ks.length kc)), (17, (I6 (ks.length : Int))), (18, (I6 (j : Int)))]) ∧ Chg none1 w0 W4 ∧ Chg none1 w9 W4 ∧ Blk W4 b1 (R6 t sa sc aa ac) 25 ∧ Blk W4 bu (R6 x xa xc ya yc) 25 ∧ (j ≤ ks.length) ∧ ((ks.take j).contains x.kind = false) ∧ nn_ = ks.length - j) (n := ks.length - 0) ?_ ?_
   ·exact ⟨0, Fits.out ⟨rfl, rfl, rfl, rfl, rfl, rfl, rfl, rfl, trivial⟩, E, EQ, B1, Bu, Nat.zero_le _, rfl, rfl⟩
   ·clear E EQ B1 Bu
    rintro _ _ W4 ⟨j, ⟨j4, rfl⟩, E, EQ, B1, Bu, hj, hq, rfl⟩
    refine Wp_seq_region ?_
    refine qV (r_lss rfl rfl) ?_
    refine WpL_nil (Wp_seq ?_)
    refine Wp_cond rfl (fun hlt2 => ?_) (fun hlt2 => ?_)
    ·have khlt2 := hlt2
     replace hlt2 := of_decide_eq_true hlt2
     obtain ⟨c, hc⟩ := get_of_lt (l := ks) (i := j) (by omega)
     obtain ⟨kb, ko, rfl, hkc⟩ := ints_cells hk (by omega)
     refine Wp_skip (thn_normal (Wp_seq (Wp_block (Wp_seq_region ?_))))
     refine qV (r_indexSlice (b := kb) (o := ko) (len := ks.length) (cap := kc) (i := j) (o' := ko + j) rfl rfl rfl Try.underlying26 siz3 (by omega) (by omega)) ?_
     refine qV (r_load rfl flat3 (E.cell (fun f => f) (hkc j c hc))) ?_
     refine qA _ rfl ?_
     refine WpL_nil (Wp_seq_region ?_)
     refine qF bu 0 0 rfl Try.underlying25 rfl siz3 rfl ?_
     refine qV (r_load rfl flat3 (Bu.cell rfl)) ?_
     refine qM _ rfl ?_
     refine qV (r_eql rfl rfl) ?_
     refine WpL_nil ?_
     refine Wp_cond rfl (fun he => ?_) (fun he => ?_)
     ·have khe := he
      replace he := of_decide_eq_true he
      refine Wp_seq_region ?_
      refine qA _ rfl ?_
      refine WpL_nil (Wp_ret (inB_ret (thn_ret (thn_ret (inB_ret (inB_ret (thn_ret (thn_ret (inB_ret (thn_ret ?_))))))))))
      refine fin_tmp Try.results9 (v := (.bool true)) rfl ?_
      exact ⟨by rw [List.any_eq_true.2 ⟨x, List.mem_of_getElem? hx, by rw [List.contains_iff_mem, he]; exact List.mem_of_getElem? hc⟩], E⟩
     ·have khe := he
      replace he := of_decide_eq_false he
      refine Wp_skip (inB_normal (thn_normal (Wp_region ?_)))
      refine qV (r_add rfl rfl (wI64 (by omega))) ?_
      refine qM _ rfl ?_
      refine WpL_nil (thn_normal ?_)
      exact ⟨ks.length - (j + 1), by omega, j + 1, Fits.out ⟨rfl, rfl, rfl, rfl, rfl, rfl, rfl, rfl, trivial⟩, E, EQ, B1, Bu, (by omega), (by rw [List.take_add_one, hc, Option.toList_some]; rw [Bool.eq_false_iff, ne_eq, List.contains_iff_mem] at hq ⊢; intro h; rcases List.mem_append.1 h with h | h; exact hq h; exact he (by simpa using h)), rfl⟩
    ·have khlt2 := hlt2
     replace hlt2 := of_decide_eq_false hlt2
     have hjj : ks.take j = ks := List.take_of_length_le (by omega)
     rw [hjj] at hq
     refine Wp_exit (thn_exit (thn_exit (inB_here (inB_normal (thn_normal (Wp_region ?_))))))
     refine qV (r_add rfl rfl (wI64 (by omega))) ?_
     refine qM _ rfl ?_
     refine WpL_nil (thn_normal ?_)
     exact ⟨L.length - (k + 1), by omega, k + 1, Fits.out ⟨rfl, rfl, rfl, rfl, trivial⟩, E, EQ, B1, (by omega), (by rw [any_take_succ hx, hp, hq]; rfl), rfl⟩
  ·have khlt := hlt
   replace hlt := of_decide_eq_false hlt
   have hkk : L.take k = L := List.take_of_length_le (by omega)
   rw [hkk] at hp
   refine Wp_exit (thn_exit (thn_exit (inB_here (thn_normal (Wp_seq_region ?_)))))
   refine qA _ rfl ?_
   refine WpL_nil (Wp_ret ?_)
   refine fin_tmp Try.results9 (v := (.bool false)) rfl ?_
   exact ⟨by rw [hp], E⟩
end Go.Proofs
namespace Go.Proofs
open Go Go.Eng Go.Sort
set_option maxRecDepth 100000
/-- The marked states among the first k, gathered. -/
structure WkP (M : List Bool) (k : Nat) (work : List Int) : Prop where
 mem : ∀ j : Nat, j < k → M[j]? = some true → (j : Int) ∈ work
 tru : ∀ s ∈ work, ∃ j : Nat, s = (j : Int) ∧ M[j]? = some true
 len : work.length ≤ k
theorem WkP.start (M : List Bool) : WkP M 0 [] := ⟨fun j h => absurd h (Nat.not_lt_zero _), fun s h => (by cases h), Nat.le_refl _⟩
theorem WkP.add {M : List Bool} {k : Nat} {work : List Int} (h : WkP M k work) (hk : M[k]? = some true) : WkP M (k + 1) (work ++ [(k : Int)]) := by
 refine ⟨fun j hj hm => ?_, fun s hs => ?_, by simp; exact h.len⟩
 ·rcases Nat.lt_or_ge j k with h1 | h1
  ·exact List.mem_append_left _ (h.mem j h1 hm)
  ·obtain rfl : j = k := (by omega)
   simp
 ·rcases List.mem_append.1 hs with h1 | h1
  ·exact h.tru s h1
  ·exact ⟨k, List.mem_singleton.1 h1, hk⟩
theorem WkP.skip {M : List Bool} {k : Nat} {work : List Int} (h : WkP M k work) (hk : M[k]? = some false) : WkP M (k + 1) work := by
 refine ⟨fun j hj hm => ?_, h.tru, Nat.le_succ_of_le h.len⟩
 rcases Nat.lt_or_ge j k with h1 | h1
 ·exact h.mem j h1 hm
 ·obtain rfl : j = k := (by omega)
  rw [hk] at hm; cases hm
theorem ep_nat {n : Nf} (ok : OkN n) {N : Nat} (hN : n.states = (N : Int)) {p : Int × Int} (hp : p ∈ n.eps) : ∃ a c : Nat, p = ((a : Int), (c : Int)) ∧ a < N ∧ c < N := by
 have h := ok.ep p hp
 obtain ⟨a, ha⟩ := Int.eq_ofNat_of_zero_le h.1.1
 obtain ⟨c, hc⟩ := Int.eq_ofNat_of_zero_le h.2.1
 exact ⟨a, c, by rw [← ha, ← hc], by omega, by omega⟩
set_option maxHeartbeats 4000000 in
theorem nclose_c (w0 wb : World) (n : Nf) (vs0 : List Value) (bq N : Nat) (M : List Bool) (I : Int → Prop) (ok : OkN n) (hN : n.states = (N : Int)) (h : NfAt wb n vs0) (E1 : Ext wb w0) (hbq : wb.heap.size ≤ bq) (hB : Blk w0 bq (M.map Value.bool).toArray 4) (hMl : M.length = N) (hI : ∀ s, I s → 0 ≤ s ∧ s < n.states) (hm : MarkOf M I) :
  Ret Try.prog 78 #[.agg vs0.toArray, .slice (some ⟨bq, 0, none⟩) N N] w0 fun _ w => (∃ M', M'.length = N ∧ MarkOf M' (cloP n.eps I) ∧ Blk w bq (M'.map Value.bool).toArray 4) ∧ Chg (fun y => y = bq) w0 w := by
 obtain ⟨ea, ec, pa, pc, xa, xc, rfl, hen, hep, hed⟩ := h
 have hst := ok.st
 rw [hN]
 have hpl := ok.pl
 have hN5 : N ≤ 500 := by omega
 have hbl := hB.lt
 refine Ret_of Try.func78 rfl Try.ntmps78 (Nat.le_of_ble_eq_true rfl) ?_
 have E : Chg (fun y => y = bq) w0 w0 := Chg.refl _ _
 refine Wp_seq_region ?_
 refine s_box (v := (.agg #[(I6 (N : Int)), (I6 n.start), (.slice ea n.ends.length ec), (.slice pa n.eps.length pc), (.slice xa n.edges.length xc)])) (c := #[(I6 (N : Int)), (I6 n.start), (.slice ea n.ends.length ec), (.slice pa n.eps.length pc), (.slice xa n.edges.length xc)]) (by decide) rfl rfl ?_
 intro bn wn Nn
 have Fn := Nn.ge E
 have Fn_E1 := Nn.ge E1
 have On_bq := Nn.lt hB
 replace hB := Nn.keep hB
 replace E := E.ext Nn.ext
 have Bn := Nn.blk
 replace E1 := E1.ext Nn.ext
 refine WpL_nil (Wp_seq_region ?_)
 refine qF bn 0 0 rfl Try.underlying30 rfl siz3 rfl ?_
 refine qV (r_load rfl flat3 (Bn.cell rfl)) ?_
 refine s_make (n := N) (z := (.slice none 0 0)) (bytes := 24) (by decide) Try.underlying42 siz26 byt26 zer26 rfl rfl rfl (by omega) (by omega) ?_
 intro bi wi Ni
 have Fi := Ni.ge E
 have Fi_E1 := Ni.ge E1
 have Oi_bq := Ni.lt hB
 have Oi_bn := Ni.lt Bn
 replace hB := Ni.keep hB
 replace Bn := Ni.keep Bn
 replace E := E.ext Ni.ext
 have Bi := Ni.blk
 replace E1 := E1.ext Ni.ext
 refine qA _ rfl ?_
 refine WpL_nil (Wp_seq (Wp_seq_region ?_))
 refine qF bn 0 3 rfl Try.underlying30 rfl siz27 rfl ?_
 refine qV (r_load rfl flat27 (Bn.cell rfl)) ?_
 refine qV (r_lenSlice Try.underlying27 rfl) ?_
 refine qM _ rfl ?_
 refine WpL_nil (Wp_block ?_)
 obtain ⟨n1, hn1e⟩ : ∃ n1, n1 = wn.heap.size := ⟨_, rfl⟩
 have hw1 : w0.heap.size ≤ n1 ∧ wb.heap.size ≤ n1 := by have := Nn.ext.size; have := E1.size; omega
 have hbi1 : n1 ≤ bi := by have := Ni.eq; omega
 have hbd1 : bn < n1 ∧ bq < n1 := by have := Nn.eq; have := Nn.size; omega
 have hG0 := GSt.made (To := TDIs) (e := TDI) (sz := 1) (base := n1) (n := N) Bi hbi1 (by omega) hbi1
 have hs0 : n1 ≤ wi.heap.size := by have := Ni.ext.size; omega
 refine Wp_loop (fun nn_ σ W1 => ∃ (k : Nat) (into : List (List Int)) (vs : List Value), (∃ jj_, σ = upds jj_ [(1, (.slice (some ⟨bq, 0, none⟩) N N)), (4, (.slice (some ⟨bi, 0, none⟩) N N)), (17, (.slice pa n.eps.length pc)), (18, (I6 (n.eps.length : Int))), (19, (I6 (k : Int)))]) ∧ Chg (fun y => y = bq) w0 W1 ∧ Chg none1 wb W1 ∧ Blk W1 bq ((M.map Value.bool).toArray) 4 ∧ Blk W1 bn #[(I6 (N : Int)), (I6 n.start), (.slice ea n.ends.length ec), (.slice pa n.eps.length pc), (.slice xa n.edges.length xc)] 30 ∧ (k ≤ n.eps.length) ∧ (SucP n.eps N k into) ∧ (GSt TDIs TDI 1 W1 n1 (.slice (some ⟨bi, 0, none⟩) N N) vs (into.map iRow)) ∧ (n1 ≤ W1.heap.size) ∧ nn_ = n.eps.length - k) (n := n.eps.length - 0) ?_ ?_
 ·exact ⟨0, List.replicate N [], List.replicate N (.slice none 0 0), Fits.out ⟨rfl, rfl, rfl, rfl, rfl, trivial⟩, E, E1, hB, Bn, Nat.zero_le _, SucP.start _ _, (by rw [iRow_rep]; exact hG0), hs0, rfl⟩
 ·clear E E1 hB Bn
  rintro _ _ W1 ⟨k, into, vs, ⟨j1, rfl⟩, E, E1, hB, Bn, hk, hS, hG, hsz, rfl⟩
  refine Wp_seq_region ?_
  refine qV (r_lss rfl rfl) ?_
  refine WpL_nil (Wp_seq ?_)
  refine Wp_cond rfl (fun hlt => ?_) (fun hlt => ?_)
  ·have khlt := hlt
   replace hlt := of_decide_eq_true hlt
   obtain ⟨p, hp⟩ := get_of_lt (l := n.eps) (i := k) (by omega)
   obtain ⟨a, c, hpe, ha, hc⟩ := ep_nat ok hN (List.mem_of_getElem? hp)
   obtain ⟨pb, po, rfl, hpc⟩ := spans_cells hep (by omega)
   have hpc0 := hpc k p hp
   rw [hpe] at hpc0
   obtain ⟨l0, hl0⟩ := get_of_lt (l := into) (i := a) (by have := hS.1; omega)
   have hlen := hS.len hl0
   have hGl : (into.map iRow).length = N := by rw [List.length_map]; exact hS.1
   obtain ⟨v1, hv1⟩ := get_of_lt (l := vs) (i := a) (by have := hG.l.len; omega)
   have hp1 : (into.map iRow)[a]? = some (l0.length, l0.map (Value.int .i64)) := by rw [List.getElem?_map, hl0]; rfl
   have hinn := hG.l.inn a v1 _ hv1 hp1
   have hinl0 := hinn.lt
   obtain ⟨va, vc, rfl⟩ := own_form hinn
   refine Wp_skip (thn_normal (Wp_seq (Wp_block (Wp_seq_region ?_))))
   refine qV (r_indexSlice (b := pb) (o := po) (len := n.eps.length) (cap := pc) (i := k) (o' := po + k * 2) rfl rfl rfl Try.underlying27 siz88 (by omega) (by omega)) ?_
   refine qV (r_loadAgg rfl agg88 siz88 rfl (hpc0.ext E1)) ?_
   refine s_allocStore (v := (.agg #[(I6 (a : Int)), (I6 (c : Int))])) (c := #[(I6 (a : Int)), (I6 (c : Int))]) (n := 2) (by decide) zer88 rfl siz88 rfl rfl rfl (by simp [Value.oneCell']) ?_
   intro bx wx Nx
   have Fx := Nx.ge E
   have Fx_E1 := Nx.ge E1
   have Ox_bq := Nx.lt hB
   have Ox_bn := Nx.lt Bn
   replace hB := Nx.keep hB
   replace Bn := Nx.keep Bn
   replace hG := hG.ext Nx.ext
   replace hinn := own_ext hinn Nx.ext
   replace hsz := Nat.le_trans hsz Nx.ext.size
   replace E := E.ext Nx.ext
   have Bx := Nx.blk
   replace E1 := E1.ext Nx.ext
   refine WpL_nil ?_
   obtain ⟨gg, hgg, _, hg2⟩ := own_cells (hG.l.on hGl.symm) (by omega)
   simp only [Option.some.injEq, Addr.mk.injEq, and_true] at hgg
   subst hgg
   have hbx := Nx.eq
   have hinl := hinn.lt
   obtain ⟨h0, hh0⟩ : ∃ h0, h0 = (wx).heap.size := ⟨_, rfl⟩
   obtain ⟨Fs3, hFs3⟩ : ∃ Fs : List (FactT ((fun y => (Value.slice va l0.length vc).ownBlock = some y))), Fs = [.eq (.slice (some ⟨bi, 0, none⟩) N N), .eq (P6 bx 0), .eq (I6 (a : Int)), .eq (.slice (some ⟨bi, 0, none⟩) N N), .eq (P6 bx 0), .eq (I6 (a : Int)), .eq (.pointer (some ⟨bi, 0 + a, none⟩)), .eq (.slice va l0.length vc), .eq (P6 bx 1), .eq (I6 (c : Int)), .till (litF TDI #[.int .i64 (c : Int)] 0) (litF_ext _ _ _), .own (appF n1 TDI 1 (l0.length + 1) (l0.map (Value.int .i64) ++ [Value.int .i64 (c : Int)]) (.slice va l0.length vc) h0) (appF_ext _ _ _ _ _ _ _)] := ⟨_, rfl⟩
   refine Wp_dagT ((fun y => (Value.slice va l0.length vc).ownBlock = some y)) 12 11 [23, 24, 25, 26, 27, 28, 29, 30, 31, 32, 33, 34] [[], [], [1], [], [], [4], [3, 5], [6], [], [8], [9], [7, 10]] Fs3 hFs3 rfl mixed (by kernel_rfl) (by kernel_rfl) (by kernel_rfl) ?_ ?_
   ·intro wd X0
    refine DagStepsT.cons (fun s' w' X U H => ?_) ?_
    ·exact DoesT_val (r_move (U 4 rfl)) (Chg.refl _ _) rfl
    refine DagStepsT.cons (fun s' w' X U H => ?_) ?_
    ·exact DoesT_val (r_indexArr (i := 0) (U 6 rfl) rfl rfl Try.underlying88 siz3 (by omega) (by omega)) (Chg.refl _ _) rfl
    refine DagStepsT.cons (fun s' w' X U H => ?_) ?_
    ·have e24 : s' 24 = (.pointer (some ⟨bx, 0, none⟩)) := H 1 rfl 24 (.eq (.pointer (some ⟨bx, 0, none⟩))) rfl (by rw [hFs3]; rfl)
     exact DoesT_val (r_load e24 flat3 ((Chg.keep X (fun h => by have := (hinl0 _ h).2; omega) (X0.keep Bx)).cell rfl)) (Chg.refl _ _) rfl
    refine DagStepsT.cons (fun s' w' X U H => ?_) ?_
    ·exact DoesT_val (r_move (U 4 rfl)) (Chg.refl _ _) rfl
    refine DagStepsT.cons (fun s' w' X U H => ?_) ?_
    ·exact DoesT_val (r_indexArr (i := 0) (U 6 rfl) rfl rfl Try.underlying88 siz3 (by omega) (by omega)) (Chg.refl _ _) rfl
    refine DagStepsT.cons (fun s' w' X U H => ?_) ?_
    ·have e27 : s' 27 = (.pointer (some ⟨bx, 0, none⟩)) := H 4 rfl 27 (.eq (.pointer (some ⟨bx, 0, none⟩))) rfl (by rw [hFs3]; rfl)
     exact DoesT_val (r_load e27 flat3 ((Chg.keep X (fun h => by have := (hinl0 _ h).2; omega) (X0.keep Bx)).cell rfl)) (Chg.refl _ _) rfl
    refine DagStepsT.cons (fun s' w' X U H => ?_) ?_
    ·have e26 : s' 26 = (.slice (some ⟨bi, 0, none⟩) N N) := H 3 rfl 26 (.eq (.slice (some ⟨bi, 0, none⟩) N N)) rfl (by rw [hFs3]; rfl)
     have e28 : s' 28 = (.int .i64 ((a : Nat) : Int)) := H 5 rfl 28 (.eq (.int .i64 ((a : Nat) : Int))) rfl (by rw [hFs3]; rfl)
     exact DoesT_val (r_indexSlice (i := a) e26 e28 rfl Try.underlying42 siz26 (by omega) (by omega)) (Chg.refl _ _) rfl
    refine DagStepsT.cons (fun s' w' X U H => ?_) ?_
    ·have e29 : s' 29 = (.pointer (some ⟨bi, 0 + a, none⟩)) := H 6 rfl 29 (.eq (.pointer (some ⟨bi, 0 + a, none⟩))) rfl (by rw [hFs3]; rfl)
     exact DoesT_val (r_load e29 flat26 (by have h1 := hg2 a _ hv1; exact (Ext.cell X (X0.cell h1)))) (Chg.refl _ _) rfl
    refine DagStepsT.cons (fun s' w' X U H => ?_) ?_
    ·exact DoesT_val (r_indexArr (i := 1) (U 6 rfl) rfl rfl Try.underlying88 siz3 (by omega) (by omega)) (Chg.refl _ _) rfl
    refine DagStepsT.cons (fun s' w' X U H => ?_) ?_
    ·have e31 : s' 31 = (.pointer (some ⟨bx, 1, none⟩)) := H 8 rfl 31 (.eq (.pointer (some ⟨bx, 1, none⟩))) rfl (by rw [hFs3]; rfl)
     exact DoesT_val (r_load e31 flat3 ((Chg.keep X (fun h => by have := (hinl0 _ h).2; omega) (X0.keep Bx)).cell rfl)) (Chg.refl _ _) rfl
    refine DagStepsT.cons (fun s' w' X U H => ?_) ?_
    ·have e32 : s' 32 = (.int .i64 ((c : Nat) : Int)) := H 9 rfl 32 (.eq (.int .i64 ((c : Nat) : Int))) rfl (by rw [hFs3]; rfl)
     exact DoesT_lit Try.underlying26 siz3 zer3 e32 (by decide) (by decide) (by kernel_rfl) (Nat.zero_le _)
    refine DagStepsT.cons (fun s' w' X U H => ?_) ?_
    ·have e30 : s' 30 = (.slice va l0.length vc) := H 7 rfl 30 (.eq (.slice va l0.length vc)) rfl (by rw [hFs3]; rfl)
     obtain ⟨b33, e33, B33, _⟩ := (show (.till (litF TDI #[.int .i64 ((c : Nat) : Int)] 0) (litF_ext _ _ _) : FactT ((fun y => (Value.slice va l0.length vc).ownBlock = some y))).In (s' 33) w' from FactT.at_false (H 10 rfl 33 (.till (litF TDI #[.int .i64 ((c : Nat) : Int)] 0) (litF_ext _ _ _)) rfl (by rw [hFs3]; rfl)))
     exact DoesT_append Try.underlying26 siz3 byt3 zer3 rfl (by decide) e30 (own_ext (own_ext hinn X0) X) e33 rfl (B33.cells rfl) (by simp [Value.oneCell']) (by unfold maxLen; omega) (by omega) (by have := X0.size; have := X.size; omega) (fun y h => h) (by have := X0.size; have := X.size; omega)
    exact DagStepsT.nil
   ·intro s' wd3 w3 X0 X3 U H
    have e23 : s' 23 = (.slice (some ⟨bi, 0, none⟩) N N) := H 0 23 (.eq (.slice (some ⟨bi, 0, none⟩) N N)) rfl (by rw [hFs3]; rfl)
    have e25 : s' 25 = (.int .i64 ((a : Nat) : Int)) := H 2 25 (.eq (.int .i64 ((a : Nat) : Int))) rfl (by rw [hFs3]; rfl)
    obtain ⟨⟨a34, c34, e34⟩, O34, D34⟩ := (show (.own (appF n1 TDI 1 (l0.length + 1) (l0.map (Value.int .i64) ++ [Value.int .i64 ((c : Nat) : Int)]) (.slice va l0.length vc) h0) (appF_ext _ _ _ _ _ _ _) : FactT ((fun y => (Value.slice va l0.length vc).ownBlock = some y))).In (s' 34) w3 from H 11 34 (.own (appF n1 TDI 1 (l0.length + 1) (l0.map (Value.int .i64) ++ [Value.int .i64 ((c : Nat) : Int)]) (.slice va l0.length vc) h0) (appF_ext _ _ _ _ _ _ _)) rfl (by rw [hFs3]; rfl))
    obtain ⟨j3, rfl⟩ := Fits.out (σ := s') (l := [(1, (.slice (some ⟨bq, 0, none⟩) N N)), (4, (.slice (some ⟨bi, 0, none⟩) N N)), (17, (.slice (some ⟨pb, po, none⟩) n.eps.length pc)), (18, (.int .i64 ((n.eps.length : Nat) : Int))), (19, (.int .i64 ((k : Nat) : Int))), (23, (.slice (some ⟨bi, 0, none⟩) N N)), (25, (.int .i64 ((a : Nat) : Int))), (34, (.slice a34 (l0.length + 1) c34))]) ⟨U 1 rfl, U 4 rfl, U 17 rfl, U 18 rfl, U 19 rfl, e23, e25, e34, trivial⟩
    clear U H
    replace hB := Chg.keep X3 (fun h => by have := (hinl _ h).1; omega) (X0.keep hB)
    replace Bn := Chg.keep X3 (fun h => by have := (hinl _ h).1; omega) (X0.keep Bn)
    replace Bx := Chg.keep X3 (fun h => by have := (hinl0 _ h).2; omega) (X0.keep Bx)
    have hXm := Chg.trans (Ext.chg X0) X3
    replace E := (E.ext X0).step X3 (fun y hy h => by have := (hinl _ h).1; omega)
    replace E1 := (E1.ext X0).step X3 (fun y hy h => by have := (hinl _ h).1; omega)
    obtain ⟨cur, hBo, hcs⟩ := own_blkG (own_chg (hG.l.on hGl.symm) hXm (fun b hb hm => hG.l.apo a _ _ hv1 hm hb))
    have hs9 := Nat.le_trans hsz hXm.size
    have hPx : True := trivial
    have hBo0 := hBo
    refine qV (r_indexSlice (b := bi) (o := 0) (len := N) (cap := N) (i := a) (o' := 0 + a) rfl rfl rfl Try.underlying42 siz26 (by omega) (by omega)) ?_
    refine s_store (b := bi) (o := 0 + a) (c' := cur.setIfInBounds (0 + a) (.slice a34 (l0.length + 1) c34)) (v := (.slice a34 (l0.length + 1) c34)) rfl rfl rfl siz26 hBo (by omega) (rfl) ?_
    intro w4 S4
    replace hPx := S4
    replace hs9 := Nat.le_trans hs9 S4.chg.size
    replace hB := S4.keep (by omega) hB
    replace Bn := S4.keep (by omega) Bn
    replace E := S4.step E (by first | exact Or.inl (by omega) | exact Or.inr rfl | exact Or.inr (by assumption) | exact Or.inr (by simp) | exact Or.inr (by omega) | exact Or.inr (by dsimp only; omega))
    replace E1 := S4.step E1 (Or.inl (by omega))
    replace hBo := S4.blk
    have hG9 := hG.grow hGl.symm hv1 hp1 (m' := l0.length + 1) (xs' := (l0 ++ [((c : Nat) : Int)]).map (Value.int .i64)) (v' := .slice a34 (l0.length + 1) c34) (by rw [e34] at O34; rw [List.map_append]; exact O34) hXm (by rw [e34, hh0] at D34; exact D34) hBo0 (by simpa using hPx)
    refine WpL_nil (inB_normal (thn_normal (Wp_region ?_)))
    refine qV (r_add rfl rfl (wI64 (by omega))) ?_
    refine qM _ rfl ?_
    refine WpL_nil (thn_normal ?_)
    exact ⟨n.eps.length - (k + 1), by omega, k + 1, into.set a (l0 ++ [((c : Nat) : Int)]), vs.set a (.slice a34 (l0.length + 1) c34), Fits.out ⟨rfl, rfl, rfl, rfl, rfl, trivial⟩, E, E1, hB, Bn, (by omega), (by have h9 := hS.add hp (a := a) (by rw [hpe]) hl0; rw [hpe] at h9; exact h9), (by rw [List.map_set]; simpa [iRow] using hG9), hs9, rfl⟩
  ·have khlt := hlt
   replace hlt := of_decide_eq_false hlt
   have hSk : n.eps.length ≤ k := by omega
   obtain ⟨n3, hn3e⟩ : ∃ n3, n3 = (W1).heap.size := ⟨_, rfl⟩
   have hn13 : n1 ≤ n3 := by omega
   have hbn3 : bn < n3 ∧ bq < n3 := by omega
   have E9 : Chg none1 W1 W1 := Chg.refl _ _
   refine Wp_exit (thn_exit (thn_exit (inB_here (thn_normal (Wp_seq_region ?_)))))
   refine qA _ rfl ?_
   refine WpL_nil (Wp_seq (Wp_seq_region ?_))
   refine qM _ rfl ?_
   refine qV (r_lenSlice Try.underlying124 rfl) ?_
   refine qM _ rfl ?_
   refine WpL_nil (Wp_block ?_)
   refine Wp_loop (fun nn_ σ W5 => ∃ (k2 : Nat) (work : List Int) (ka : Option Addr) (kc kn : Nat), (∃ jj_, σ = upds jj_ [(1, (.slice (some ⟨bq, 0, none⟩) N N)), (4, (.slice (some ⟨bi, 0, none⟩) N N)), (37, (.slice (some ⟨bq, 0, none⟩) N N)), (38, (I6 (N : Int))), (39, (I6 (k2 : Int))), (7, (.slice ka kn kc))]) ∧ Chg (fun y => y = bq) w0 W5 ∧ Chg none1 wb W5 ∧ Chg none1 W1 W5 ∧ Blk W5 bq ((M.map Value.bool).toArray) 4 ∧ Blk W5 bn #[(I6 (N : Int)), (I6 n.start), (.slice ea n.ends.length ec), (.slice pa n.eps.length pc), (.slice xa n.edges.length xc)] 30 ∧ (k2 ≤ N) ∧ (WkP M k2 work) ∧ (kn = work.length) ∧ (W5.ownsRow n3 TDI 1 (.slice ka kn kc) kn (work.map (Value.int .i64))) ∧ (n3 ≤ W5.heap.size) ∧ nn_ = N - k2) (n := N - 0) ?_ ?_
   ·exact ⟨0, [], none, 0, 0, Fits.out ⟨rfl, rfl, rfl, rfl, rfl, rfl, trivial⟩, E, E1, E9, hB, Bn, Nat.zero_le _, WkP.start M, rfl, World.ownsRow_nil _ _ _ _, (by omega), rfl⟩
   ·clear E E1 E9 hB Bn
    rintro _ _ W5 ⟨k2, work, ka, kc, kn, ⟨j5, rfl⟩, E, E1, E9, hB, Bn, hk2, hW, hkn, hw, hs3, rfl⟩
    refine Wp_seq_region ?_
    refine qV (r_lss rfl rfl) ?_
    refine WpL_nil (Wp_seq ?_)
    refine Wp_cond rfl (fun hlt2 => ?_) (fun hlt2 => ?_)
    ·have khlt2 := hlt2
     replace hlt2 := of_decide_eq_true hlt2
     obtain ⟨q, hq⟩ := get_of_lt (l := M) (i := k2) (by omega)
     refine Wp_skip (thn_normal (Wp_seq (Wp_block (Wp_seq_region ?_))))
     refine qM _ rfl ?_
     refine qV (r_indexSlice (b := bq) (o := 0) (len := N) (cap := N) (i := k2) (o' := 0 + k2) rfl rfl rfl Try.underlying124 siz4 (by omega) (by omega)) ?_
     refine qV (r_load (v := (.bool q)) rfl flat4 (hB.cell (by simp [hq]))) ?_
     refine qA _ rfl ?_
     refine qA _ rfl ?_
     refine WpL_nil (Wp_seq_region ?_)
     refine qM _ rfl ?_
     refine WpL_nil ?_
     refine Wp_cond rfl (fun hqt => ?_) (fun hqt => ?_)
     ·have khqt := hqt
      have hwl := hW.len
      refine Wp_region ?_
      refine qM _ rfl ?_
      refine qM _ rfl ?_
      refine s_buildSlice (ps := [(0, (I6 (k2 : Int)))]) (c := #[(I6 (k2 : Int))]) (by decide) rfl Try.underlying26 siz3 zer3 (by decide) (by decide) (by kernel_rfl) ?_
      intro b8 w8 N8
      have F8 := N8.ge E
      have F8_E1 := N8.ge E1
      have F8_E9 := N8.ge E9
      have O8_bq := N8.lt hB
      have O8_bn := N8.lt Bn
      replace hB := N8.keep hB
      replace Bn := N8.keep Bn
      replace hw := own_ext hw N8.ext
      replace hs3 := Nat.le_trans hs3 N8.ext.size
      replace E := E.ext N8.ext
      have B8 := N8.blk
      replace E1 := E1.ext N8.ext
      replace E9 := E9.ext N8.ext
      refine s_append (base := n3) (n := kn) (m := 1) (xs := (work.map (Value.int .i64))) (news := [(I6 (k2 : Int))]) (size := 1) (bytes := 8) (v := (.slice ka kn kc)) (by decide) Try.underlying26 siz3 byt3 zer3 rfl (by decide) rfl hw rfl (rfl) (B8.cells rfl) (by simp [Value.oneCell']) (by unfold maxLen; omega) (by omega) (hs3) ?_
      intro v7 w59 Ov7 Cv7 Dv7
      replace hB := Cv7.keep (fun h => by have := (hw.lt _ h).1; omega) hB
      replace Bn := Cv7.keep (fun h => by have := (hw.lt _ h).1; omega) Bn
      replace E := E.step Cv7 (fun x hx h => absurd (hw.lt x h).1 (by omega))
      replace E1 := E1.step Cv7 (fun x hx h => absurd (hw.lt x h).1 (by omega))
      replace E9 := E9.step Cv7 (fun x hx h => absurd (hw.lt x h).1 (by omega))
      obtain ⟨ka2, kc2, rfl⟩ := own_form Ov7
      refine qA _ rfl ?_
      refine WpL_nil (inB_normal (thn_normal (Wp_region ?_)))
      refine qV (r_add rfl rfl (wI64 (by omega))) ?_
      refine qM _ rfl ?_
      refine WpL_nil (thn_normal ?_)
      exact ⟨N - (k2 + 1), by omega, k2 + 1, work ++ [((k2 : Nat) : Int)], ka2, kc2, kn + 1, Fits.out ⟨rfl, rfl, rfl, rfl, rfl, rfl, trivial⟩, E, E1, E9, hB, Bn, (by omega), hW.add (by rw [hq, hqt]), (by simp; omega), (by rw [List.map_append]; exact Ov7), Nat.le_trans hs3 Cv7.size, rfl⟩
     ·have khqt := hqt
      refine Wp_skip (inB_normal (thn_normal (Wp_region ?_)))
      refine qV (r_add rfl rfl (wI64 (by omega))) ?_
      refine qM _ rfl ?_
      refine WpL_nil (thn_normal ?_)
      exact ⟨N - (k2 + 1), by omega, k2 + 1, work, ka, kc, kn, Fits.out ⟨rfl, rfl, rfl, rfl, rfl, rfl, trivial⟩, E, E1, E9, hB, Bn, (by omega), hW.skip (by rw [hq, hqt]), hkn, hw, hs3, rfl⟩
    ·have khlt2 := hlt2
     replace hlt2 := of_decide_eq_false hlt2
     have hk2N : k2 = N := by omega
     rw [hk2N] at hW
     have hwl0 := hW.len
     have hcl0 : cntT M ≤ M.length := List.countP_le_length
     have hC9 := Ext.chg (M := fun y => y = bq) E9
     refine Wp_exit (thn_exit (thn_exit (inB_here (thn_normal (Wp_block ?_)))))
     refine Wp_loop (fun nn_ σ W9 => ∃ (M3 : List Bool) (work : List Int) (ka : Option Addr) (kc kn : Nat), (∃ jj_, σ = upds jj_ [(1, (.slice (some ⟨bq, 0, none⟩) N N)), (4, (.slice (some ⟨bi, 0, none⟩) N N)), (7, (.slice ka kn kc))]) ∧ Chg (fun y => y = bq) w0 W9 ∧ Chg none1 wb W9 ∧ Blk W9 bq ((M3.map Value.bool).toArray) 4 ∧ Blk W9 bn #[(I6 (N : Int)), (I6 n.start), (.slice ea n.ends.length ec), (.slice pa n.eps.length pc), (.slice xa n.edges.length xc)] 30 ∧ (CloSt n.eps N I M3 work []) ∧ (work.length + cntT M3 ≤ 1000) ∧ (kn = work.length) ∧ (W9.ownsRow n3 TDI 1 (.slice ka kn kc) kn (work.map (Value.int .i64))) ∧ (n3 ≤ W9.heap.size) ∧ (Chg (fun y => y = bq) W1 W9) ∧ nn_ = 2 * cntT M3 + work.length) (n := 2 * cntT M + work.length) ?_ ?_
     ·exact ⟨M, work, ka, kc, kn, Fits.out ⟨rfl, rfl, rfl, trivial⟩, E, E1, hB, Bn, CloSt.start hMl hm (fun j hj => hW.mem j (by have := lt_of_get hj; omega) hj) hW.tru, (by omega), hkn, hw, hs3, hC9, rfl⟩
     ·clear E E1 hB Bn
      rintro _ _ W9 ⟨M3, work, ka, kc, kn, ⟨j9, rfl⟩, E, E1, hB, Bn, hL, hcn, hkn, hw, hs3, hC9, rfl⟩
      refine Wp_seq (Wp_seq_region ?_)
      refine qM _ rfl ?_
      refine qV (r_lenSlice Try.underlying26 rfl) ?_
      refine qV (r_gtr rfl rfl) ?_
      refine WpL_nil ?_
      refine Wp_cond rfl (fun hlt3 => ?_) (fun hlt3 => ?_)
      ·have khlt3 := hlt3
       replace hlt3 := of_decide_eq_true hlt3
       obtain ⟨wl, x, hwx⟩ := snocs (l := work) (by omega)
       have hwl : work.length = wl.length + 1 := by rw [hwx]; simp
       obtain ⟨u, hxu, hMu⟩ := hL.wm x (by rw [hwx]; simp)
       have hMl3 := hL.len
       have hun : u < N := by have := lt_of_get hMu; omega
       obtain ⟨kg, rfl, _, hkc⟩ := own_cells hw (by omega)
       have hle := own_le hw
       obtain ⟨Z, hZ⟩ : ∃ Z, Z = 2 * cntT M3 + work.length := ⟨_, rfl⟩
       refine Wp_skip (thn_normal (Wp_block (Wp_seq_region ?_)))
       refine qM _ rfl ?_
       refine qM _ rfl ?_
       refine qV (r_lenSlice Try.underlying26 rfl) ?_
       refine qV (r_sub rfl rfl (wI64 (by omega))) ?_
       refine qV (r_indexSlice (b := kg) (o := 0) (len := kn) (cap := kc) (i := kn - 1) (o' := 0 + (kn - 1)) rfl rfl (by omega) Try.underlying26 siz3 (by omega) (by omega)) ?_
       refine qV (r_load (v := (I6 x)) rfl flat3 (hkc (kn - 1) _ (by rw [hkn, hwl, Nat.add_sub_cancel, List.getElem?_map, hwx]; simp))) ?_
       refine qA _ rfl ?_
       refine WpL_nil (Wp_seq_region ?_)
       refine qM _ rfl ?_
       refine qM _ rfl ?_
       refine qV (r_lenSlice Try.underlying26 rfl) ?_
       refine qV (r_sub rfl rfl (wI64 (by omega))) ?_
       obtain ⟨a2, ha2⟩ : ∃ a' : Option Addr, (if kc = 0 then (some ⟨kg, 0, none⟩) else Option.map (fun q : Addr => q.add (0 * 1)) (some ⟨kg, 0, none⟩)) = a' := ⟨_, rfl⟩
       refine qV (r_sliceHi (hi := kn - 1) Try.underlying26 siz3 rfl rfl (by omega) (by omega) ha2) ?_
       refine qA _ rfl ?_
       refine WpL_nil (Wp_seq_region ?_)
       refine qM _ rfl ?_
       refine qM _ rfl ?_
       have ha3 : a2 = some ⟨kg, 0, none⟩ := by rw [← ha2, if_neg (by omega)]; simp [Addr.add_lit]
       subst ha3
       have hw2 := own_cut hw (m := kn - 1) (by omega) (by omega)
       rw [show (work.map (Value.int .i64)).take ((kn - 1) * 1) = wl.map (Value.int .i64) by rw [hwx, List.map_append, Nat.mul_one, List.take_append_of_le_length (by simp; omega), List.take_of_length_le (by simp; omega)]] at hw2
       have hL2 : CloSt n.eps N I M3 wl [x] := by rw [hwx] at hL; exact hL.pop
       subst hxu
       obtain ⟨lu, hlu⟩ := get_of_lt (l := into) (i := u) (by have := hS.1; omega)
       have hGl : (into.map iRow).length = N := by rw [List.length_map]; exact hS.1
       obtain ⟨v1, hv1⟩ := get_of_lt (l := vs) (i := u) (by have := hG.l.len; omega)
       have hp1 : (into.map iRow)[u]? = some (lu.length, lu.map (Value.int .i64)) := by rw [List.getElem?_map, hlu]; rfl
       have hinn := hG.l.inn u v1 _ hv1 hp1
       have hinl := hinn.lt
       obtain ⟨va, vc, rfl⟩ := own_form hinn
       obtain ⟨gg, hgg, _, hg2⟩ := own_cells ((hG.chg hC9 (fun b h1 _ h => by have h' : b = bq := h; omega)).l.on hGl.symm) (by omega)
       simp only [Option.some.injEq, Addr.mk.injEq, and_true] at hgg
       subst hgg
       have hlul := hS.len hlu
       refine qV (r_indexSlice (b := bi) (o := 0) (len := N) (cap := N) (i := u) (o' := 0 + u) rfl rfl (by omega) Try.underlying42 siz26 (by omega) (by omega)) ?_
       refine qV (r_load rfl flat26 (hg2 u _ hv1)) ?_
       refine qV (r_lenSlice Try.underlying26 rfl) ?_
       refine qM _ rfl ?_
       refine WpL_nil (Wp_block ?_)
       refine Wp_loop (fun nn_ σ W11 => ∃ (j : Nat) (M4 : List Bool) (work : List Int) (ka : Option Addr) (kc kn : Nat), (∃ jj_, σ = upds jj_ [(1, (.slice (some ⟨bq, 0, none⟩) N N)), (4, (.slice (some ⟨bi, 0, none⟩) N N)), (67, (.slice va lu.length vc)), (68, (I6 (lu.length : Int))), (69, (I6 (j : Int))), (7, (.slice ka kn kc))]) ∧ Chg (fun y => y = bq) w0 W11 ∧ Chg none1 wb W11 ∧ Blk W11 bq ((M4.map Value.bool).toArray) 4 ∧ Blk W11 bn #[(I6 (N : Int)), (I6 n.start), (.slice ea n.ends.length ec), (.slice pa n.eps.length pc), (.slice xa n.edges.length xc)] 30 ∧ (j ≤ lu.length) ∧ (CloSt n.eps N I M4 work [(u : Int)]) ∧ (∀ (i v : Nat), i < j → lu[i]? = some (v : Int) → M4[v]? = some true) ∧ (M4[u]? = some true) ∧ (work.length + cntT M4 ≤ 1000) ∧ (kn = work.length) ∧ (W11.ownsRow n3 TDI 1 (.slice ka kn kc) kn (work.map (Value.int .i64))) ∧ (n3 ≤ W11.heap.size) ∧ (Chg (fun y => y = bq) W1 W11) ∧ (2 * cntT M4 + work.length < Z) ∧ nn_ = lu.length - j) (n := lu.length - 0) ?_ ?_
       ·exact ⟨0, M3, wl, some ⟨kg, 0, none⟩, kc, kn - 1, Fits.out ⟨rfl, rfl, rfl, rfl, rfl, rfl, trivial⟩, E, E1, hB, Bn, Nat.zero_le _, hL2, (fun i v h => absurd h (Nat.not_lt_zero _)), hMu, (by omega), (by omega), hw2, hs3, hC9, (by omega), rfl⟩
       ·clear E E1 hB Bn
        rintro _ _ W11 ⟨j, M4, work, ka, kc, kn, ⟨j11, rfl⟩, E, E1, hB, Bn, hj, hL, hQ, hMu, hcn, hkn, hw, hs3, hC9, hZ, rfl⟩
        refine Wp_seq_region ?_
        refine qV (r_lss rfl rfl) ?_
        refine WpL_nil (Wp_seq ?_)
        refine Wp_cond rfl (fun hlt4 => ?_) (fun hlt4 => ?_)
        ·have khlt4 := hlt4
         replace hlt4 := of_decide_eq_true hlt4
         obtain ⟨t, ht⟩ := get_of_lt (l := lu) (i := j) (by omega)
         have hte := (hS.full hSk hlu t).1 (List.mem_of_getElem? ht)
         have htn := (ok.ep _ hte).2
         obtain ⟨v, hv⟩ := Int.eq_ofNat_of_zero_le htn.1
         have hvN : v < N := by simp only at htn; omega
         subst hv
         have hMl4 := hL.len
         obtain ⟨q, hq⟩ := get_of_lt (l := M4) (i := v) (by omega)
         have hinE := own_intsD (own_chg hinn hC9 (fun b hb h => by have h' : b = bq := h; have := (hinl b hb).1; omega)) rfl
         obtain ⟨ub, uo, rfl, huc⟩ := ints_cells hinE (by omega)
         refine Wp_skip (thn_normal (Wp_seq (Wp_block (Wp_seq_region ?_))))
         refine qV (r_indexSlice (b := ub) (o := uo) (len := lu.length) (cap := vc) (i := j) (o' := uo + j) rfl rfl rfl Try.underlying26 siz3 (by omega) (by omega)) ?_
         refine qV (r_load rfl flat3 (huc j _ ht)) ?_
         refine qA _ rfl ?_
         refine WpL_nil (Wp_seq_region ?_)
         refine qM _ rfl ?_
         refine qM _ rfl ?_
         refine qV (r_indexSlice (b := bq) (o := 0) (len := N) (cap := N) (i := v) (o' := 0 + v) rfl rfl (by omega) Try.underlying124 siz4 (by omega) (by omega)) ?_
         refine qV (r_load (v := (.bool q)) rfl flat4 (hB.cell (by simp [hq]))) ?_
         refine qV (r_not rfl) ?_
         refine WpL_nil ?_
         refine Wp_cond rfl (fun hqf => ?_) (fun hqf => ?_)
         ·have khqf := hqf
          replace hqf := by simpa using hqf
          have hMv : M4[v]? = some false := by rw [hq, hqf]
          have hLk := hL.mark hvN ⟨u, rfl, hMu⟩ hte
          have hcs := cntT_set hMv
          refine Wp_seq_region ?_
          refine qM _ rfl ?_
          refine qM _ rfl ?_
          refine qV (r_indexSlice (b := bq) (o := 0) (len := N) (cap := N) (i := v) (o' := 0 + v) rfl rfl (by omega) Try.underlying124 siz4 (by omega) (by omega)) ?_
          refine s_store (b := bq) (o := 0 + v) (c' := ((M4.set v true).map Value.bool).toArray) (v := (.bool true)) rfl rfl rfl siz4 hB (by simp; omega) (bools_set true) ?_
          intro w14 S14
          replace hw := own_chg hw S14.chg fun b hb h => by subst h; have := (hw.lt _ hb).1; omega
          replace hs3 := Nat.le_trans hs3 S14.chg.size
          replace hC9 := hC9.step S14.chg (fun y _ h => h)
          replace Bn := S14.keep (by omega) Bn
          replace E := S14.step E (by first | exact Or.inl (by omega) | exact Or.inr rfl | exact Or.inr (by assumption) | exact Or.inr (by simp) | exact Or.inr (by omega) | exact Or.inr (by dsimp only; omega))
          replace E1 := S14.step E1 (Or.inl (by omega))
          replace hB := S14.blk
          refine WpL_nil (Wp_region ?_)
          refine qM _ rfl ?_
          refine qM _ rfl ?_
          refine s_buildSlice (ps := [(0, (I6 (v : Int)))]) (c := #[(I6 (v : Int))]) (by decide) rfl Try.underlying26 siz3 zer3 (by decide) (by decide) (by kernel_rfl) ?_
          intro b15 w15 N15
          have F15 := N15.ge E
          have F15_E1 := N15.ge E1
          have O15_bq := N15.lt hB
          have O15_bn := N15.lt Bn
          replace hB := N15.keep hB
          replace Bn := N15.keep Bn
          replace hw := own_ext hw N15.ext
          replace hs3 := Nat.le_trans hs3 N15.ext.size
          replace hC9 := hC9.ext N15.ext
          replace E := E.ext N15.ext
          have B15 := N15.blk
          replace E1 := E1.ext N15.ext
          refine s_append (base := n3) (n := kn) (m := 1) (xs := (work.map (Value.int .i64))) (news := [(I6 (v : Int))]) (size := 1) (bytes := 8) (v := (.slice ka kn kc)) (by decide) Try.underlying26 siz3 byt3 zer3 rfl (by decide) rfl hw rfl (rfl) (B15.cells rfl) (by simp [Value.oneCell']) (by unfold maxLen; omega) (by omega) (hs3) ?_
          intro v7 w59 Ov7 Cv7 Dv7
          replace hB := Cv7.keep (fun h => by have := (hw.lt _ h).1; omega) hB
          replace Bn := Cv7.keep (fun h => by have := (hw.lt _ h).1; omega) Bn
          replace E := E.step Cv7 (fun x hx h => absurd (hw.lt x h).1 (by omega))
          replace E1 := E1.step Cv7 (fun x hx h => absurd (hw.lt x h).1 (by omega))
          obtain ⟨ka2, kc2, rfl⟩ := own_form Ov7
          replace hC9 := hC9.step Cv7 (fun x hx h => absurd (hw.lt x h).1 (by omega))
          refine qA _ rfl ?_
          refine WpL_nil (inB_normal (thn_normal (Wp_region ?_)))
          refine qV (r_add rfl rfl (wI64 (by omega))) ?_
          refine qM _ rfl ?_
          refine WpL_nil (thn_normal ?_)
          exact ⟨lu.length - (j + 1), by omega, j + 1, M4.set v true, work ++ [((v : Nat) : Int)], ka2, kc2, kn + 1, Fits.out ⟨rfl, rfl, rfl, rfl, rfl, rfl, trivial⟩, E, E1, hB, Bn, (by omega), hLk, (fun i v2 hi h9 => by rcases Nat.lt_or_ge i j with h1 | h1; exact set_true (hQ i v2 h1 h9); (have h2 : i = j := by omega); rw [h2, ht] at h9; (have h3 : v = v2 := by have := Option.some.inj h9; omega); rw [← h3, List.getElem?_set, if_pos rfl, if_pos (by omega)]), set_true hMu, (by simp; omega), (by simp; omega), (by rw [List.map_append]; exact Ov7), Nat.le_trans hs3 Cv7.size, hC9, (by simp; omega), rfl⟩
         ·have khqf := hqf
          replace hqf := by simpa using hqf
          refine Wp_skip (inB_normal (thn_normal (Wp_region ?_)))
          refine qV (r_add rfl rfl (wI64 (by omega))) ?_
          refine qM _ rfl ?_
          refine WpL_nil (thn_normal ?_)
          exact ⟨lu.length - (j + 1), by omega, j + 1, M4, work, ka, kc, kn, Fits.out ⟨rfl, rfl, rfl, rfl, rfl, rfl, trivial⟩, E, E1, hB, Bn, (by omega), hL, (fun i v2 hi h9 => by rcases Nat.lt_or_ge i j with h1 | h1; exact hQ i v2 h1 h9; (have h2 : i = j := by omega); rw [h2, ht] at h9; (have h3 : v = v2 := by have := Option.some.inj h9; omega); rw [← h3, hq, hqf]), hMu, hcn, hkn, hw, hs3, hC9, hZ, rfl⟩
        ·have khlt4 := hlt4
         replace hlt4 := of_decide_eq_false hlt4
         refine Wp_exit (thn_exit (thn_exit (inB_here (inB_normal (thn_normal ?_)))))
         exact ⟨2 * cntT M4 + work.length, by omega, M4, work, ka, kc, kn, Fits.out ⟨rfl, rfl, rfl, trivial⟩, E, E1, hB, Bn, hL.done (fun v h9 => by have h8 := (hS.full hSk hlu ((v : Nat) : Int)).2 h9; obtain ⟨i, hi⟩ := List.getElem?_of_mem h8; exact hQ i v (by have := lt_of_get hi; omega) hi), hcn, hkn, hw, hs3, hC9, rfl⟩
      ·have khlt3 := hlt3
       replace hlt3 := of_decide_eq_false hlt3
       have hw0 : work = [] := List.eq_nil_of_length_eq_zero (by omega)
       rw [hw0] at hL
       refine Wp_exit (thn_exit (thn_exit (inB_here ?_)))
       refine fin_none Try.results78 ?_
       exact ⟨⟨M3, hL.len, hL.fin (fun s h9 => by have := hI s h9; omega) (fun p h9 => by have := (ok.ep p h9).2; omega), hB⟩, E⟩
end Go.Proofs
namespace Go.Proofs
open Go Go.Eng Go.Sort
set_option maxRecDepth 100000
theorem MarkOf.congr {M : List Bool} {I J : Int → Prop} (h : MarkOf M I) (hIJ : ∀ s, I s ↔ J s) : MarkOf M J := fun k hk => (h k hk).trans (hIJ _)
theorem MarkOf.set {M : List Bool} {I : Int → Prop} (h : MarkOf M I) (a : Nat) : MarkOf (M.set a true) (fun s => I s ∨ s = (a : Int)) := by
 intro k hk
 rw [List.length_set] at hk
 rw [List.getElem?_set]
 by_cases e : a = k
 ·subst e
  rw [if_pos rfl, if_pos hk]
  simp
 ·rw [if_neg e]
  refine (h k hk).trans ⟨.inl, fun h2 => h2.resolve_right fun h3 => e (by omega)⟩
theorem mark_none (N : Nat) : MarkOf (List.replicate N false) (fun _ => False) := by
 intro k hk
 rw [List.length_replicate] at hk
 rw [List.getElem?_replicate, if_pos hk]; simp
theorem int_nat {x : Int} {N : Nat} (h : 0 ≤ x ∧ x < (N : Int)) : ∃ a : Nat, x = (a : Int) ∧ a < N := by
 obtain ⟨a, ha⟩ := Int.eq_ofNat_of_zero_le h.1
 exact ⟨a, ha, by omega⟩
set_option maxHeartbeats 2000000 in
theorem nclosure_c (w0 : World) (n : Nf) (vs0 : List Value) (N : Nat) (v : Value) (l : List Int) (ok : OkN n) (hN : n.states = (N : Int)) (h : NfAt w0 n vs0) (hl : IntsAt w0 v l) (hln : ∀ s ∈ l, 0 ≤ s ∧ s < (N : Int)) :
  Ret Try.prog 76 #[.agg vs0.toArray, v] w0 fun r w => (∃ M b, r = .slice (some ⟨b, 0, none⟩) N N ∧ w0.heap.size ≤ b ∧ M.length = N ∧ MarkOf M (cloP n.eps fun s => s ∈ l) ∧ Blk w b (M.map Value.bool).toArray 4) ∧ Ext w0 w := by
 have h0 := h
 obtain ⟨ea, ec, pa, pc, xa, xc, rfl, hen, hep, hed⟩ := h
 obtain ⟨la, lc, rfl⟩ := SlAt.form hl
 have hlc := SlAt.cap hl
 have hle := SlAt.le hl
 have hst := ok.st
 have hN5 : N ≤ 500 := by omega
 rw [hN] at h0
 rw [hN]
 rw [List.length_map] at hl hlc hle ⊢
 refine Ret_of Try.func76 rfl Try.ntmps76 (Nat.le_of_ble_eq_true rfl) ?_
 have E : Chg none1 w0 w0 := Chg.refl _ _
 refine Wp_seq_region ?_
 refine s_box (v := (.agg #[(I6 (N : Int)), (I6 n.start), (.slice ea n.ends.length ec), (.slice pa n.eps.length pc), (.slice xa n.edges.length xc)])) (c := #[(I6 (N : Int)), (I6 n.start), (.slice ea n.ends.length ec), (.slice pa n.eps.length pc), (.slice xa n.edges.length xc)]) (by decide) rfl rfl ?_
 intro bn wn Nn
 have Fn := Nn.ge E
 replace E := E.ext Nn.ext
 have Bn := Nn.blk
 refine qA _ rfl ?_
 refine WpL_nil (Wp_seq_region ?_)
 refine qF bn 0 0 rfl Try.underlying30 rfl siz3 rfl ?_
 refine qV (r_load rfl flat3 (Bn.cell rfl)) ?_
 refine s_make (n := N) (z := (.bool false)) (bytes := 1) (by decide) Try.underlying124 siz4 byt4 zer4 rfl rfl rfl (by omega) (by omega) ?_
 intro bi wi Ni
 have Fi := Ni.ge E
 have Oi_bn := Ni.lt Bn
 replace Bn := Ni.keep Bn
 replace E := E.ext Ni.ext
 have Bi := Ni.blk
 refine qA _ rfl ?_
 refine WpL_nil (Wp_seq (Wp_seq_region ?_))
 refine qM _ rfl ?_
 refine qV (r_lenSlice Try.underlying26 rfl) ?_
 refine qM _ rfl ?_
 refine WpL_nil (Wp_block ?_)
 have hbi : bn < bi := by have := Ni.eq; have := Bn.lt; omega
 rw [show List.replicate N (Value.bool false) = (List.replicate N false).map Value.bool by simp] at Bi
 refine Wp_loop (fun nn_ σ W1 => ∃ (k : Nat) (M : List Bool), (∃ jj_, σ = upds jj_ [(2, (P6 bn 0)), (5, (.slice (some ⟨bi, 0, none⟩) N N)), (11, (.slice la l.length lc)), (12, (I6 (l.length : Int))), (13, (I6 (k : Int)))]) ∧ Chg none1 w0 W1 ∧ Blk W1 bn #[(I6 (N : Int)), (I6 n.start), (.slice ea n.ends.length ec), (.slice pa n.eps.length pc), (.slice xa n.edges.length xc)] 30 ∧ Blk W1 bi ((M.map Value.bool).toArray) 4 ∧ (k ≤ l.length) ∧ (M.length = N) ∧ (MarkOf M (fun s => s ∈ l.take k)) ∧ nn_ = l.length - k) (n := l.length - 0) ?_ ?_
 ·exact ⟨0, List.replicate N false, Fits.out ⟨rfl, rfl, rfl, rfl, rfl, trivial⟩, E, Bn, Bi, Nat.zero_le _, (by simp), (mark_none N).congr fun s => by simp, rfl⟩
 ·clear E Bn Bi
  rintro _ _ W1 ⟨k, M, ⟨j1, rfl⟩, E, Bn, Bi, hk, hMl, hM, rfl⟩
  refine Wp_seq_region ?_
  refine qV (r_lss rfl rfl) ?_
  refine WpL_nil (Wp_seq ?_)
  refine Wp_cond rfl (fun hlt => ?_) (fun hlt => ?_)
  ·have khlt := hlt
   replace hlt := of_decide_eq_true hlt
   obtain ⟨x, hx⟩ := get_of_lt (l := l) (i := k) (by omega)
   obtain ⟨a, ha, haN⟩ := int_nat (hln x (List.mem_of_getElem? hx))
   subst ha
   obtain ⟨lb, lo, rfl, hlc2⟩ := ints_cells hl (by omega)
   refine Wp_skip (thn_normal (Wp_seq (Wp_block (Wp_seq_region ?_))))
   refine qV (r_indexSlice (b := lb) (o := lo) (len := l.length) (cap := lc) (i := k) (o' := lo + k) rfl rfl rfl Try.underlying26 siz3 (by omega) (by omega)) ?_
   refine qV (r_load rfl flat3 (E.cell (fun f => f) (hlc2 k _ hx))) ?_
   refine qA _ rfl ?_
   refine WpL_nil (Wp_region ?_)
   refine qM _ rfl ?_
   refine qM _ rfl ?_
   refine qV (r_indexSlice (b := bi) (o := 0) (len := N) (cap := N) (i := a) (o' := 0 + a) rfl rfl (by omega) Try.underlying124 siz4 (by omega) (by omega)) ?_
   refine s_store (b := bi) (o := 0 + a) (c' := ((M.set a true).map Value.bool).toArray) (v := (.bool true)) rfl rfl rfl siz4 Bi (by simp; omega) (bools_set true) ?_
   intro w3 S3
   replace Bn := S3.keep (by omega) Bn
   replace E := S3.step E (by first | exact Or.inl (by omega) | exact Or.inr rfl | exact Or.inr (by assumption) | exact Or.inr (by simp) | exact Or.inr (by omega) | exact Or.inr (by dsimp only; omega))
   replace Bi := S3.blk
   refine WpL_nil (inB_normal (thn_normal (Wp_region ?_)))
   refine qV (r_add rfl rfl (wI64 (by omega))) ?_
   refine qM _ rfl ?_
   refine WpL_nil (thn_normal ?_)
   exact ⟨l.length - (k + 1), by omega, k + 1, M.set a true, Fits.out ⟨rfl, rfl, rfl, rfl, rfl, trivial⟩, E, Bn, Bi, (by omega), (by rw [List.length_set]; exact hMl), (hM.set a).congr fun s => by rw [List.take_add_one, hx]; simp, rfl⟩
  ·have khlt := hlt
   replace hlt := of_decide_eq_false hlt
   have hkk : k = l.length := by omega
   rw [hkk, List.take_length] at hM
   refine Wp_exit (thn_exit (thn_exit (inB_here (thn_normal (Wp_seq_region ?_)))))
   refine qV (r_loadAgg (vs := [(I6 (N : Int)), (I6 n.start), (.slice ea n.ends.length ec), (.slice pa n.eps.length pc), (.slice xa n.edges.length xc)]) rfl agg30 siz30 rfl (Bn.cells rfl)) ?_
   refine qM _ rfl ?_
   refine WpL_enter rfl rfl (by decide) (r_callF Try.func78 kQ kQ rfl) (nclose_c _ w0 n _ bi N M (fun s => s ∈ l) ok hN h0 E (by omega) Bi hMl (fun s hs => by rw [hN]; exact hln s hs) hM) ?_
   rintro _ w9 ⟨⟨M2, hM2l, hM2, hB2⟩, C9⟩
   replace Bn := C9.keep ((fun h => by have h' : _ = bi := h; omega)) Bn
   replace E := E.step C9 ((fun y hy h => by have h' : y = bi := h; omega))
   refine WpL_nil (Wp_seq_region ?_)
   refine qM _ rfl ?_
   refine qA _ rfl ?_
   refine WpL_nil (Wp_ret ?_)
   refine fin_tmp Try.results76 (v := (.slice (some ⟨bi, 0, none⟩) N N)) rfl ?_
   exact ⟨⟨M2, bi, rfl, by omega, hM2l, hM2, hB2⟩, E⟩
theorem nrun1_c (w0 : World) (a N g b : Nat) (M : List Bool) (hB : Blk w0 b #[.slice (some ⟨g, 0, none⟩) N N] 124) (hg : Blk w0 g (M.map Value.bool).toArray 4) (hMl : M.length = N) (ha : a < N) (hN : N ≤ 500) : Ret Try.prog 79 #[.int .i64 ((a : Nat) : Int), .pointer (some ⟨b, 0, none⟩)] w0 fun r w => r = .bool (M.getD a false) ∧ Ext w0 w := by
 obtain ⟨q, hq⟩ := get_of_lt (l := M) (i := a) (by omega)
 refine Ret_of Try.func79 rfl Try.ntmps79 (Nat.le_of_ble_eq_true rfl) ?_
 have E : Chg none1 w0 w0 := Chg.refl _ _
 refine Wp_seq_region ?_
 refine qA (.bool false) rfl ?_
 refine WpL_nil (Wp_seq_region ?_)
 refine qV (r_load (v := (.slice (some ⟨g, 0, none⟩) N N)) rfl flat124 (hB.cell rfl)) ?_
 refine qM (I6 (a : Int)) rfl ?_
 refine qV (r_indexSlice (b := g) (o := 0) (len := N) (cap := N) (i := a) (o' := 0 + a) rfl rfl (by omega) Try.underlying124 siz4 (by omega) (by omega)) ?_
 refine qV (r_load (v := (.bool q)) rfl flat4 (hg.cell (by simp [hq]))) ?_
 refine qA (.bool q) rfl ?_
 refine WpL_nil (Wp_ret ?_)
 refine fin_tmp Try.results79 (v := (.bool q)) rfl ?_
 exact ⟨bool_eq (by rw [List.getD_eq_getElem?_getD, hq]; rfl), E⟩
/-- What Run returns. -/
def RunP (n : Nf) (text : List Int) (b : Bool) (e : Int) : Prop := (chkN n ≠ 0 ∧ b = false ∧ e = chkN n) ∨ (chkN n = 0 ∧ 1000 < text.length ∧ b = false ∧ e = 2) ∨ (chkN n = 0 ∧ text.length ≤ 1000 ∧ (text.any fun r => !runeB r) = true ∧ b = false ∧ e = 1) ∨
 (chkN n = 0 ∧ text.length ≤ 1000 ∧ (text.any fun r => !runeB r) = false ∧ (b = true ↔ Acc n text) ∧ e = 0)
/-- What is marked when the first j edges have been gone through. -/
def stpJ (n : Nf) (I : Int → Prop) (c : Int) (j : Nat) : Int → Prop := fun t => ∃ e ∈ n.edges.take j, I e.1 ∧ inS e.2.2 c = true ∧ e.2.1 = t
theorem stpJ_snoc {n : Nf} {I : Int → Prop} {c : Int} {j : Nat} {e : Ed} (he : n.edges[j]? = some e) (t : Int) : stpJ n I c (j + 1) t ↔ stpJ n I c j t ∨ (I e.1 ∧ inS e.2.2 c = true ∧ e.2.1 = t) := by
 unfold stpJ
 rw [List.take_add_one, he]
 constructor
 ·rintro ⟨f, hf, h⟩
  rcases List.mem_append.1 hf with h1 | h1
  ·exact .inl ⟨f, h1, h⟩
  ·simp at h1; subst h1; exact .inr h
 ·rintro (⟨f, hf, h⟩ | h)
  ·exact ⟨f, List.mem_append_left _ hf, h⟩
  ·exact ⟨e, List.mem_append_right _ (by simp), h⟩
theorem setP_snoc {n : Nf} {I : Int → Prop} {text : List Int} {k : Nat} {c : Int} (h : text[k]? = some c) : setP n I (text.take (k + 1)) = cloP n.eps (stpP n (setP n I (text.take k)) c) := by
 rw [List.take_add_one, h]
 unfold setP
 rw [List.foldl_append]; rfl
set_option maxHeartbeats 4000000 in
theorem nrun_c (w0 : World) (n : Nf) (vs0 : List Value) (v : Value) (text : List Int) (h : NfAt w0 n vs0) (ht : IntsAt w0 v text) :
  Ret Try.prog 34 #[.agg vs0.toArray, v] w0 fun r w => (∃ b e, r = .tuple #[.bool b, .int .i64 e] ∧ RunP n text b e) ∧ Ext w0 w := by
 have h0 := h
 obtain ⟨ea, ec, pa, pc, xa, xc, rfl, hen, hep, hed⟩ := h
 obtain ⟨ta, tc, rfl⟩ := SlAt.form ht
 have htc := SlAt.cap ht
 have htl := SlAt.le ht
 rw [List.length_map] at ht htc htl ⊢
 refine Ret_of Try.func34 rfl Try.ntmps34 (Nat.le_of_ble_eq_true rfl) ?_
 have E : Chg none1 w0 w0 := Chg.refl _ _
 refine Wp_seq_region ?_
 refine s_box (v := (.agg #[(I6 n.states), (I6 n.start), (.slice ea n.ends.length ec), (.slice pa n.eps.length pc), (.slice xa n.edges.length xc)])) (c := #[(I6 n.states), (I6 n.start), (.slice ea n.ends.length ec), (.slice pa n.eps.length pc), (.slice xa n.edges.length xc)]) (by decide) rfl rfl ?_
 intro bn wn Nn
 have Fn := Nn.ge E
 replace E := E.ext Nn.ext
 have Bn := Nn.blk
 refine qA _ rfl ?_
 refine qA _ rfl ?_
 refine WpL_nil (Wp_seq (Wp_seq_region ?_))
 refine qV (r_loadAgg (vs := [(I6 n.states), (I6 n.start), (.slice ea n.ends.length ec), (.slice pa n.eps.length pc), (.slice xa n.edges.length xc)]) rfl agg30 siz30 rfl (Bn.cells rfl)) ?_
 refine WpL_enter rfl rfl (by decide) (r_callF Try.func74 kQ kQ rfl) (ncheck_c _ n _ (h0.ext E)) ?_
 rintro _ w9 ⟨rfl, X9⟩
 replace Bn := X9.keep Bn
 replace E := E.ext X9
 refine qA _ rfl ?_
 refine WpL_nil (Wp_seq_region ?_)
 refine qM _ rfl ?_
 refine qV (r_neq rfl rfl) ?_
 refine WpL_nil ?_
 refine Wp_cond rfl (fun hc0 => ?_) (fun hc0 => ?_)
 ·have khc0 := hc0
  replace hc0 := of_decide_eq_true hc0
  refine Wp_seq_region ?_
  refine qM _ rfl ?_
  refine qA _ rfl ?_
  refine qA _ rfl ?_
  refine WpL_nil (Wp_ret (thn_ret ?_))
  refine fin_tmp2 Try.results34 (v := (.bool false)) (v' := (.int .i64 (chkN n))) rfl rfl ?_
  exact ⟨⟨_, _, rfl, .inl ⟨hc0, rfl, rfl⟩⟩, E⟩
 ·have khc0 := hc0
  replace hc0 := of_decide_eq_false hc0
  have hc1 : chkN n = 0 := by omega
  have ok := chkN_zero.1 hc1
  refine Wp_skip (thn_normal (Wp_seq (Wp_seq_region ?_)))
  refine qM _ rfl ?_
  refine qV (r_lenSlice Try.underlying26 rfl) ?_
  refine qV (r_gtr rfl rfl) ?_
  refine WpL_nil ?_
  refine Wp_cond rfl (fun hlen => ?_) (fun hlen => ?_)
  ·have khlen := hlen
   replace hlen := of_decide_eq_true hlen
   refine Wp_seq_region ?_
   refine qA _ rfl ?_
   refine qA _ rfl ?_
   refine WpL_nil (Wp_ret (thn_ret ?_))
   refine fin_tmp2 Try.results34 (v := (.bool false)) (v' := (.int .i64 2)) rfl rfl ?_
   exact ⟨⟨_, _, rfl, .inr (.inl ⟨hc1, by omega, rfl, rfl⟩)⟩, E⟩
  ·have khlen := hlen
   replace hlen := of_decide_eq_false hlen
   refine Wp_skip (thn_normal (Wp_seq (Wp_seq_region ?_)))
   refine qM _ rfl ?_
   refine WpL_enter rfl rfl (by decide) (r_callF Try.func75 kQ kQ rfl) (runes_c _ _ text (ht.ext E)) ?_
   rintro _ w19 ⟨rfl, X19⟩
   replace Bn := X19.keep Bn
   replace E := E.ext X19
   refine qV (r_not rfl) ?_
   refine WpL_nil ?_
   refine Wp_cond rfl (fun hru => ?_) (fun hru => ?_)
   ·have khru := hru
    replace hru := by simpa using hru
    replace hru := by simpa using hru
    refine Wp_seq_region ?_
    refine qA _ rfl ?_
    refine qA _ rfl ?_
    refine WpL_nil (Wp_ret (thn_ret ?_))
    refine fin_tmp2 Try.results34 (v := (.bool false)) (v' := (.int .i64 1)) rfl rfl ?_
    exact ⟨⟨_, _, rfl, .inr (.inr (.inl ⟨hc1, by omega, by simpa using hru, rfl, rfl⟩))⟩, E⟩
   ·have khru := hru
    replace hru := by simpa using hru
    replace hru := by simpa using hru
    have hru1 : (text.any fun r => !runeB r) = false := by simpa using hru
    obtain ⟨N, hN, _⟩ : ∃ N : Nat, n.states = (N : Int) ∧ True := by have := ok.s0; obtain ⟨a, ha⟩ := Int.eq_ofNat_of_zero_le (show 0 ≤ n.states by omega); exact ⟨a, ha, trivial⟩
    have hst := ok.st
    have hxl := ok.xl
    have hN5 : N ≤ 500 := by omega
    have h0N := h0
    rw [hN] at h0N
    have Bn2 := Bn
    rw [hN] at Bn2
    refine Wp_skip (thn_normal (Wp_seq_region ?_))
    refine qV (r_loadAgg (vs := [(I6 (N : Int)), (I6 n.start), (.slice ea n.ends.length ec), (.slice pa n.eps.length pc), (.slice xa n.edges.length xc)]) rfl agg30 siz30 rfl (Bn2.cells rfl)) ?_
    refine qF bn 0 1 rfl Try.underlying30 rfl siz3 rfl ?_
    refine qV (r_load rfl flat3 (Bn2.cell rfl)) ?_
    refine s_buildSlice (ps := [(0, (I6 n.start))]) (c := #[(I6 n.start)]) (by decide) rfl Try.underlying26 siz3 zer3 (by decide) (by decide) (by kernel_rfl) ?_
    intro bs ws Ns
    have Fs := Ns.ge E
    have Os_bn := Ns.lt Bn2
    replace Bn2 := Ns.keep Bn2
    replace E := E.ext Ns.ext
    have Bs := Ns.blk
    have hbnl : bn < (ws).heap.size ∧ w0.heap.size ≤ (ws).heap.size := ⟨Bn2.lt, E.size⟩
    refine WpL_enter rfl rfl (by decide) (r_callF Try.func76 kQ kQ rfl) (nclosure_c _ n _ N _ [n.start] ok hN (h0N.ext E) (ints_of_blk [n.start] Bs (by simp) (by simp)) (fun s hs => by rw [List.mem_singleton.1 hs]; have := ok.s0; omega)) ?_
    rintro _ w29 ⟨⟨M0, g0, rfl, hg0, hM0l, hM0, hB0⟩, X29⟩
    replace Bn2 := X29.keep Bn2
    replace Bs := X29.keep Bs
    replace E := E.ext X29
    have hg0l := hB0.lt
    have hbn0 : bn < g0 ∧ w0.heap.size ≤ g0 := by omega
    refine s_allocStore (v := (.slice (some ⟨g0, 0, none⟩) N N)) (c := #[(.slice (some ⟨g0, 0, none⟩) N N)]) (n := 1) (by decide) zer124 rfl siz124 rfl rfl rfl (by simp [Value.oneCell']) ?_
    intro bi wi Ni
    have Fi := Ni.ge E
    have Oi_bn := Ni.lt Bn2
    have Oi_g0 := Ni.lt hB0
    replace Bn2 := Ni.keep Bn2
    replace hB0 := Ni.keep hB0
    replace E := E.ext Ni.ext
    have Bi := Ni.blk
    refine WpL_nil (Wp_seq (Wp_seq_region ?_))
    refine qM _ rfl ?_
    refine qV (r_lenSlice Try.underlying26 rfl) ?_
    refine qM _ rfl ?_
    refine WpL_nil (Wp_block ?_)
    have hgi : g0 < bi := by have := Ni.eq; omega
    refine Wp_loop (fun nn_ σ W4 => ∃ (k : Nat) (M : List Bool) (g : Nat), (∃ jj_, σ = upds jj_ [(2, (P6 bn 0)), (7, (P6 bi 0)), (29, (.slice ta text.length tc)), (30, (I6 (text.length : Int))), (31, (I6 (k : Int)))]) ∧ Chg none1 w0 W4 ∧ Blk W4 bn #[(I6 (N : Int)), (I6 n.start), (.slice ea n.ends.length ec), (.slice pa n.eps.length pc), (.slice xa n.edges.length xc)] 30 ∧ Blk W4 g0 ((M0.map Value.bool).toArray) 4 ∧ Blk W4 bi (#[Value.slice (some ⟨g, 0, none⟩) N N]) 124 ∧ (k ≤ text.length) ∧ (M.length = N) ∧ (MarkOf M (setP n (cloP n.eps fun s => s = n.start) (text.take k))) ∧ (Blk W4 g (M.map Value.bool).toArray 4) ∧ (g ≠ bi ∧ g ≠ bn ∧ w0.heap.size ≤ g) ∧ nn_ = text.length - k) (n := text.length - 0) ?_ ?_
    ·exact ⟨0, M0, g0, Fits.out ⟨rfl, rfl, rfl, rfl, rfl, trivial⟩, E, Bn2, hB0, Bi, Nat.zero_le _, hM0l, hM0.congr (fun s => by rw [List.take_zero]; exact Iff.of_eq (congrArg (fun I => cloP n.eps I s) (by funext t; simp))), hB0, (by omega), rfl⟩
    ·clear E Bn2 hB0 Bi
     rintro _ _ W4 ⟨k, M, g, ⟨j4, rfl⟩, E, Bn2, hB0, Bi, hk, hMl, hM, hg, hgn, rfl⟩
     refine Wp_seq_region ?_
     refine qV (r_lss rfl rfl) ?_
     refine WpL_nil (Wp_seq ?_)
     refine Wp_cond rfl (fun hlt => ?_) (fun hlt => ?_)
     ·have khlt := hlt
      replace hlt := of_decide_eq_true hlt
      obtain ⟨c, hc⟩ := get_of_lt (l := text) (i := k) (by omega)
      obtain ⟨tb, to, rfl, htcl⟩ := ints_cells ht (by omega)
      refine Wp_skip (thn_normal (Wp_seq (Wp_block (Wp_seq_region ?_))))
      refine qV (r_indexSlice (b := tb) (o := to) (len := text.length) (cap := tc) (i := k) (o' := to + k) rfl rfl rfl Try.underlying26 siz3 (by omega) (by omega)) ?_
      refine qV (r_load rfl flat3 (E.cell (fun f => f) (htcl k c hc))) ?_
      refine qA _ rfl ?_
      refine WpL_nil (Wp_seq_region ?_)
      refine qF bn 0 0 rfl Try.underlying30 rfl siz3 rfl ?_
      refine qV (r_load rfl flat3 (Bn2.cell rfl)) ?_
      refine s_make (n := N) (z := (.bool false)) (bytes := 1) (by decide) Try.underlying124 siz4 byt4 zer4 rfl rfl rfl (by omega) (by omega) ?_
      intro bx wx Nx
      have Fx := Nx.ge E
      have Ox_bn := Nx.lt Bn2
      have Ox_g0 := Nx.lt hB0
      have Ox_bi := Nx.lt Bi
      have Ox_g := Nx.lt hg
      replace Bn2 := Nx.keep Bn2
      replace hB0 := Nx.keep hB0
      replace Bi := Nx.keep Bi
      replace hg := Nx.keep hg
      replace E := E.ext Nx.ext
      have Bx := Nx.blk
      refine qA _ rfl ?_
      refine WpL_nil (Wp_seq (Wp_seq_region ?_))
      refine qF bn 0 4 rfl Try.underlying30 rfl siz28 rfl ?_
      refine qV (r_load rfl flat28 (Bn2.cell rfl)) ?_
      refine qV (r_lenSlice Try.underlying28 rfl) ?_
      refine qM _ rfl ?_
      refine WpL_nil (Wp_block ?_)
      rw [show List.replicate N (Value.bool false) = (List.replicate N false).map Value.bool by simp] at Bx
      refine Wp_loop (fun nn_ σ W6 => ∃ (j : Nat) (M2 : List Bool), (∃ jj_, σ = upds jj_ [(2, (P6 bn 0)), (7, (P6 bi 0)), (9, (I6 c)), (10, (.slice (some ⟨bx, 0, none⟩) N N)), (29, (.slice (some ⟨tb, to, none⟩) text.length tc)), (30, (I6 (text.length : Int))), (31, (I6 (k : Int))), (39, (.slice xa n.edges.length xc)), (40, (I6 (n.edges.length : Int))), (41, (I6 (j : Int)))]) ∧ Chg none1 w0 W6 ∧ Blk W6 bn #[(I6 (N : Int)), (I6 n.start), (.slice ea n.ends.length ec), (.slice pa n.eps.length pc), (.slice xa n.edges.length xc)] 30 ∧ Blk W6 g0 ((M0.map Value.bool).toArray) 4 ∧ Blk W6 bi #[(.slice (some ⟨g, 0, none⟩) N N)] 124 ∧ Blk W6 g ((M.map Value.bool).toArray) 4 ∧ Blk W6 bx ((M2.map Value.bool).toArray) 4 ∧ (j ≤ n.edges.length) ∧ (M2.length = N) ∧ (MarkOf M2 (stpJ n (setP n (cloP n.eps fun s => s = n.start) (text.take k)) c j)) ∧ nn_ = n.edges.length - j) (n := n.edges.length - 0) ?_ ?_
      ·exact ⟨0, List.replicate N false, Fits.out ⟨rfl, rfl, rfl, rfl, rfl, rfl, rfl, rfl, rfl, rfl, trivial⟩, E, Bn2, hB0, Bi, hg, Bx, Nat.zero_le _, (by simp), (mark_none N).congr fun t => by simp [stpJ], rfl⟩
      ·clear E Bn2 hB0 Bi hg Bx
       rintro _ _ W6 ⟨j, M2, ⟨j6, rfl⟩, E, Bn2, hB0, Bi, hg, Bx, hj, hM2l, hM2, rfl⟩
       refine Wp_seq_region ?_
       refine qV (r_lss rfl rfl) ?_
       refine WpL_nil (Wp_seq ?_)
       refine Wp_cond rfl (fun hlt2 => ?_) (fun hlt2 => ?_)
       ·have khlt2 := hlt2
        replace hlt2 := of_decide_eq_true hlt2
        obtain ⟨e, he⟩ := get_of_lt (l := n.edges) (i := j) (by omega)
        have hem := ok.ed e (List.mem_of_getElem? he)
        obtain ⟨a, hea, haN⟩ := int_nat (by rw [← hN]; exact hem.1)
        obtain ⟨d, hde, hdN⟩ := int_nat (by rw [← hN]; exact hem.2.1)
        obtain ⟨xb, xo, rfl, hxc⟩ := edges_cells hed (by omega)
        obtain ⟨ra, rc, hcell, hsp⟩ := hxc j e he
        rw [hea, hde] at hcell
        obtain ⟨q, hq⟩ := get_of_lt (l := M) (i := a) (by omega)
        have hqI := hM a (by omega)
        rw [hq, ← hea] at hqI
        refine Wp_skip (thn_normal (Wp_seq (Wp_block (Wp_seq_region ?_))))
        refine qV (r_indexSlice (b := xb) (o := xo) (len := n.edges.length) (cap := xc) (i := j) (o' := xo + j * 3) rfl rfl rfl Try.underlying28 siz76 (by omega) (by omega)) ?_
        refine qV (r_loadAgg rfl agg76 siz76 rfl (hcell.ext E)) ?_
        refine s_allocStore (v := (.agg #[(I6 (a : Int)), (I6 (d : Int)), (.slice ra e.2.2.length rc)])) (c := #[(I6 (a : Int)), (I6 (d : Int)), (.slice ra e.2.2.length rc)]) (n := 3) (by decide) zer76 rfl siz76 rfl rfl rfl (by simp [Value.oneCell']) ?_
        intro bu wu Nu
        have Fu := Nu.ge E
        have Ou_bn := Nu.lt Bn2
        have Ou_g0 := Nu.lt hB0
        have Ou_bi := Nu.lt Bi
        have Ou_g := Nu.lt hg
        have Ou_bx := Nu.lt Bx
        replace Bn2 := Nu.keep Bn2
        replace hB0 := Nu.keep hB0
        replace Bi := Nu.keep Bi
        replace hg := Nu.keep hg
        replace Bx := Nu.keep Bx
        replace E := E.ext Nu.ext
        have Bu := Nu.blk
        refine WpL_nil (Wp_seq_region ?_)
        refine qV (r_load rfl flat124 (Bi.cell rfl)) ?_
        refine qF bu 0 0 rfl Try.underlying76 rfl siz3 rfl ?_
        refine qV (r_load rfl flat3 (Bu.cell rfl)) ?_
        refine qV (r_indexSlice (b := g) (o := 0) (len := N) (cap := N) (i := a) (o' := 0 + a) rfl rfl (by omega) Try.underlying124 siz4 (by omega) (by omega)) ?_
        refine qV (r_load (v := (.bool q)) rfl flat4 (hg.cell (by simp [hq]))) ?_
        refine qM _ rfl ?_
        rcases Bool.eq_false_or_eq_true (q) with g1 | g1
        ·have kg1 := g1
         refine WpL_guard_yes rfl rfl (by decide) (congrArg Value.bool g1) ?_
         refine qF bu 0 2 rfl Try.underlying76 rfl siz22 rfl ?_
         refine WpL_guard_yes rfl rfl (by decide) (congrArg Value.bool g1) ?_
         refine qV (r_load rfl flat22 (Bu.cell rfl)) ?_
         refine WpL_guard_yes rfl rfl (by decide) (congrArg Value.bool g1) ?_
         refine qM _ rfl ?_
         refine WpL_guard_yes rfl rfl (by decide) (congrArg Value.bool g1) ?_
         refine WpL_enter rfl rfl (by decide) (r_callF Try.func77 kQ kQ rfl) (in_c _ _ e.2.2 c (hsp.ext E)) ?_
         rintro _ w49 ⟨rfl, X49⟩
         replace Bn2 := X49.keep Bn2
         replace hB0 := X49.keep hB0
         replace Bi := X49.keep Bi
         replace hg := X49.keep hg
         replace Bx := X49.keep Bx
         replace Bu := X49.keep Bu
         replace E := E.ext X49
         refine qV (r_pick (v := (.bool (inS e.2.2 c))) rfl (by rw [g1]; rfl)) ?_
         refine WpL_nil ?_
         refine Wp_cond rfl (fun g2 => ?_) (fun g2 => ?_)
         ·have kg2 := g2
          refine Wp_region ?_
          refine qM _ rfl ?_
          refine qF bu 0 1 rfl Try.underlying76 rfl siz3 rfl ?_
          refine qV (r_load rfl flat3 (Bu.cell rfl)) ?_
          refine qV (r_indexSlice (b := bx) (o := 0) (len := N) (cap := N) (i := d) (o' := 0 + d) rfl rfl (by omega) Try.underlying124 siz4 (by omega) (by omega)) ?_
          refine s_store (b := bx) (o := 0 + d) (c' := ((M2.set d true).map Value.bool).toArray) (v := (.bool true)) rfl rfl rfl siz4 Bx (by simp; omega) (bools_set true) ?_
          intro w10 S10
          replace Bn2 := S10.keep (by omega) Bn2
          replace hB0 := S10.keep (by omega) hB0
          replace Bi := S10.keep (by omega) Bi
          replace hg := S10.keep (by omega) hg
          replace Bu := S10.keep (by omega) Bu
          replace E := S10.step E (by first | exact Or.inl (by omega) | exact Or.inr rfl | exact Or.inr (by assumption) | exact Or.inr (by simp) | exact Or.inr (by omega) | exact Or.inr (by dsimp only; omega))
          replace Bx := S10.blk
          refine WpL_nil (inB_normal (thn_normal (Wp_region ?_)))
          refine qV (r_add rfl rfl (wI64 (by omega))) ?_
          refine qM _ rfl ?_
          refine WpL_nil (thn_normal ?_)
          exact ⟨n.edges.length - (j + 1), by omega, j + 1, M2.set d true, Fits.out ⟨rfl, rfl, rfl, rfl, rfl, rfl, rfl, rfl, rfl, rfl, trivial⟩, E, Bn2, hB0, Bi, hg, Bx, (by omega), (by rw [List.length_set]; exact hM2l), (hM2.set d).congr fun t => by rw [stpJ_snoc he, hde]; exact or_congr Iff.rfl ⟨fun h => ⟨hqI.1 (by rw [g1]), g2, h.symm⟩, fun h => h.2.2.symm⟩, rfl⟩
         ·have kg2 := g2
          refine Wp_skip (inB_normal (thn_normal (Wp_region ?_)))
          refine qV (r_add rfl rfl (wI64 (by omega))) ?_
          refine qM _ rfl ?_
          refine WpL_nil (thn_normal ?_)
          exact ⟨n.edges.length - (j + 1), by omega, j + 1, M2, Fits.out ⟨rfl, rfl, rfl, rfl, rfl, rfl, rfl, rfl, rfl, rfl, trivial⟩, E, Bn2, hB0, Bi, hg, Bx, (by omega), hM2l, hM2.congr fun t => by rw [stpJ_snoc he, g2]; simp, rfl⟩
        ·have kg1 := g1
         refine WpL_guard_no rfl rfl (by decide) (v := .bool false) (congrArg Value.bool g1) (Or.inl rfl) ?_
         refine WpL_guard_no rfl rfl (by decide) (v := .bool false) (congrArg Value.bool g1) (Or.inl rfl) ?_
         refine WpL_guard_no rfl rfl (by decide) (v := .bool false) (congrArg Value.bool g1) (Or.inl rfl) ?_
         refine WpL_guard_no rfl rfl (by decide) (v := .bool false) (congrArg Value.bool g1) (Or.inl rfl) ?_
         refine qV (r_pick (v := (.bool false)) rfl (by rw [g1]; rfl)) ?_
         refine WpL_nil ?_
         refine Wp_cond_false rfl ?_
         refine Wp_skip (inB_normal (thn_normal (Wp_region ?_)))
         refine qV (r_add rfl rfl (wI64 (by omega))) ?_
         refine qM _ rfl ?_
         refine WpL_nil (thn_normal ?_)
         exact ⟨n.edges.length - (j + 1), by omega, j + 1, M2, Fits.out ⟨rfl, rfl, rfl, rfl, rfl, rfl, rfl, rfl, rfl, rfl, trivial⟩, E, Bn2, hB0, Bi, hg, Bx, (by omega), hM2l, hM2.congr fun t => by rw [stpJ_snoc he]; exact ⟨.inl, fun h => h.resolve_right fun h2 => by have h3 := hqI.2 h2.1; rw [g1] at h3; cases h3⟩, rfl⟩
       ·have khlt2 := hlt2
        replace hlt2 := of_decide_eq_false hlt2
        have hjj : j = n.edges.length := by omega
        have hM2f : MarkOf M2 (stpP n (setP n (cloP n.eps fun s => s = n.start) (text.take k)) c) := hM2.congr fun t => by rw [hjj]; unfold stpJ stpP; rw [List.take_length]
        refine Wp_exit (thn_exit (thn_exit (inB_here (thn_normal (Wp_seq_region ?_)))))
        refine qM _ rfl ?_
        refine s_store (b := bi) (o := 0) (c' := #[(.slice (some ⟨bx, 0, none⟩) N N)]) (v := (.slice (some ⟨bx, 0, none⟩) N N)) rfl rfl rfl siz124 Bi (by simp) rfl ?_
        intro w11 S11
        replace Bn2 := S11.keep (by omega) Bn2
        replace hB0 := S11.keep (by omega) hB0
        replace hg := S11.keep (by omega) hg
        replace Bx := S11.keep (by omega) Bx
        replace E := S11.step E (by first | exact Or.inl (by omega) | exact Or.inr rfl | exact Or.inr (by assumption) | exact Or.inr (by simp) | exact Or.inr (by omega) | exact Or.inr (by dsimp only; omega))
        replace Bi := S11.blk
        refine WpL_nil (Wp_region ?_)
        refine qV (r_loadAgg (vs := [(I6 (N : Int)), (I6 n.start), (.slice ea n.ends.length ec), (.slice pa n.eps.length pc), (.slice xa n.edges.length xc)]) rfl agg30 siz30 rfl (Bn2.cells rfl)) ?_
        refine qV (r_load rfl flat124 (Bi.cell rfl)) ?_
        refine WpL_enter rfl rfl (by decide) (r_callF Try.func78 kQ kQ rfl) (nclose_c _ w0 n _ bx N M2 (stpP n (setP n (cloP n.eps fun s => s = n.start) (text.take k)) c) ok hN h0N E (by omega) Bx hM2l (fun s hs => by obtain ⟨e, he, _, _, h9⟩ := hs; rw [← h9]; exact (ok.ed e he).2.1) hM2f) ?_
        rintro _ w59 ⟨⟨M3, hM3l, hM3, hB3⟩, C9⟩
        replace Bn2 := C9.keep ((fun h => by have h' : _ = bx := h; omega)) Bn2
        replace hB0 := C9.keep ((fun h => by have h' : _ = bx := h; omega)) hB0
        replace Bi := C9.keep ((fun h => by have h' : _ = bx := h; omega)) Bi
        replace hg := C9.keep ((fun h => by have h' : _ = bx := h; omega)) hg
        replace E := E.step C9 ((fun y hy h => by have h' : y = bx := h; omega))
        refine WpL_nil (inB_normal (thn_normal (Wp_region ?_)))
        refine qV (r_add rfl rfl (wI64 (by omega))) ?_
        refine qM _ rfl ?_
        refine WpL_nil (thn_normal ?_)
        exact ⟨text.length - (k + 1), by omega, k + 1, M3, bx, Fits.out ⟨rfl, rfl, rfl, rfl, rfl, trivial⟩, E, Bn2, hB0, Bi, (by omega), hM3l, (by rw [setP_snoc hc]; exact hM3), hB3, (by omega), rfl⟩
     ·have khlt := hlt
      replace hlt := of_decide_eq_false hlt
      have hkk : k = text.length := by omega
      rw [hkk, List.take_length] at hM
      refine Wp_exit (thn_exit (thn_exit (inB_here (thn_normal (Wp_seq_region ?_)))))
      refine qF bn 0 2 rfl Try.underlying30 rfl siz26 rfl ?_
      refine qV (r_load rfl flat26 (Bn2.cell rfl)) ?_
      refine qV (r_makeFunc rfl rfl) ?_
      refine WpL_enter rfl rfl (by decide) (r_callF Try.func54 kQ kQ rfl) (ints_has_c _ _ _ n.ends (fun s => M.getD s.toNat false) (hen.ext E) (fun w x hE hx => CallV.mk (first := #[]) (cap := #[.pointer (some ⟨bi, 0, none⟩)]) Try.func79 kQ kQ rfl (by obtain ⟨a, ha, haN⟩ := int_nat (x := x) (N := N) (by have := ok.en x hx; omega); rw [ha]; exact nrun1_c w a N g bi M (hE.keep Bi) (hE.keep hg) hMl haN hN5))) ?_
      rintro _ w69 ⟨rfl, X69⟩
      replace Bn2 := X69.keep Bn2
      replace hB0 := X69.keep hB0
      replace Bi := X69.keep Bi
      replace E := E.ext X69
      refine qA _ rfl ?_
      refine qA _ rfl ?_
      refine WpL_nil (Wp_ret ?_)
      refine fin_tmp2 Try.results34 (v := (.bool (n.ends.any fun s => M.getD s.toNat false))) (v' := (.int .i64 0)) rfl rfl ?_
      refine ⟨⟨_, _, rfl, .inr (.inr (.inr ⟨hc1, by omega, hru1, ?_, rfl⟩))⟩, E⟩
      rw [acc_set, List.any_eq_true]
      have hiff : ∀ e ∈ n.ends, M.getD e.toNat false = true ↔ setP n (cloP n.eps fun s => s = n.start) text e := fun e he => by
       obtain ⟨a, ha, haN⟩ := int_nat (x := e) (N := N) (by have := ok.en e he; omega)
       rw [ha, Int.toNat_natCast, ← hM a (by omega), List.getD_eq_getElem?_getD]
       obtain ⟨q, hq⟩ := get_of_lt (l := M) (i := a) (by omega)
       rw [hq]; simp
      exact ⟨fun ⟨e, he, h⟩ => ⟨e, he, (hiff e he).1 h⟩, fun ⟨e, he, h⟩ => ⟨e, he, (hiff e he).2 h⟩⟩
end Go.Proofs
namespace Go.Proofs
open Go Go.Eng Go.Sort
set_option maxRecDepth 100000
abbrev oneB : Re := .mk 2 [(97, 97)] [] 0 0 false
abbrev starB : Re := .mk 5 [] [oneB] 0 0 false
def nfB : Nf := ⟨2, 0, [0, 1], [], [(0, 1, [(97, 97)]), (1, 1, [(97, 97)])]⟩
theorem glB : glN starB = nfB := by kernel_rfl
theorem glush_star {n : Nf} {e : Int} (h : GkP starB n e) : e = 0 ∧ n = nfB := by
 have h0 : simE starB = 0 := simE_zero.2 ⟨by simp only [starB, oneB, okRe, okRes, and_true]; decide, by decide, by decide⟩
 obtain ⟨hok, _, hu⟩ := simE_zero.1 h0
 rcases h with ⟨h1, _⟩ | ⟨_, h1, _⟩ | ⟨_, g, p, h1, h2, h3⟩
 ·exact absurd h0 h1
 ·obtain ⟨g, p, h2⟩ := gk_room hok hu (by decide)
  rw [h2] at h1; cases h1
 ·have h4 := nfG_eq hok hu h1
  rw [glB] at h4
  rcases h3 with ⟨h5, h6, _⟩ | ⟨h5, h6, h7⟩
  ·exact ⟨h5, by rw [h6, h4]⟩
  ·have h8 : edgG g p = nfB.edges := congrArg Nf.edges h4
   rw [h8] at h7
   exact absurd h7 (by decide)
theorem okB9 : OkN nfB := ⟨by decide, by decide, by decide, by decide, by decide, by decide, by decide, by decide⟩
theorem accB : Acc nfB [97, 97] := ⟨1, by decide, .edge (t := 1) (z := [(97, 97)]) (by decide) (by decide) (.edge (t := 1) (z := [(97, 97)]) (by decide) (by decide) (.nil 1))⟩
theorem runB9 {n : Nf} {b : Bool} {e : Int} (hn : n = nfB) (h : RunP n [97, 97] b e) : e = 0 ∧ b = true := by
 subst hn
 have hc := chkN_zero.2 okB9
 rcases h with ⟨h1, _⟩ | ⟨_, h1, _⟩ | ⟨_, _, h1, _⟩ | ⟨_, _, _, h1, h2⟩
 ·exact absurd hc h1
 ·simp at h1
 ·exact absurd h1 (by decide)
 ·exact ⟨h2, h1.2 accB⟩
theorem spN_c (w0 : World) (lo hi : Int) : Ret Try.prog 73 #[.int .i64 lo, .int .i64 hi] w0 fun v w => v = .agg #[.int .i64 lo, .int .i64 hi] ∧ Ext w0 w := by
 refine Ret_of Try.func73 rfl Try.ntmps73 (Nat.le_of_ble_eq_true rfl) ?_
 have E : Chg none1 w0 w0 := Chg.refl _ _
 refine Wp_seq_region ?_
 refine s_alloc (c := #[(I6 0), (I6 0)]) (by decide) zer74 rfl ?_
 intro b1 w1 N1
 have F1 := N1.ge E
 replace E := E.ext N1.ext
 have B1 := N1.blk
 refine WpL_nil (Wp_seq_region ?_)
 refine qM _ rfl ?_
 refine qM _ rfl ?_
 refine qV (r_build (ps := [(0, (I6 lo)), (1, (I6 hi))]) (v := (.agg #[(I6 lo), (I6 hi)])) rfl (by kernel_rfl)) ?_
 refine s_storeAgg (b := b1) (o := 0) (c' := #[(I6 lo), (I6 hi)]) rfl rfl (by simp [Value.oneCell']) siz74 rfl B1 (by first | (simp; done) | exact Nat.le_of_ble_eq_true rfl) rfl ?_
 intro w2 S2
 replace E := S2.step E (by first | exact Or.inl (by omega) | exact Or.inr rfl | exact Or.inr (by assumption) | exact Or.inr (by simp) | exact Or.inr (by omega) | exact Or.inr (by dsimp only; omega))
 replace B1 := S2.blk
 refine WpL_nil (Wp_ret ?_)
 refine fin_agg Try.results73 (vs := [(.int .i64 lo), (.int .i64 hi)]) (b := b1) rfl agg74 siz74 rfl (B1.cells rfl) ?_
 exact ⟨rfl, E⟩
theorem loneN_c (w0 : World) : Ret Try.prog 33 #[.int .i64 97] w0 fun v w => (∃ b, v = .agg #[.int .i64 2, .slice (some ⟨b, 0, none⟩) 1 1, .slice none 0 0, .int .i64 0, .int .i64 0, .bool false] ∧ ReAt w oneB [.int .i64 2, .slice (some ⟨b, 0, none⟩) 1 1, .slice none 0 0, .int .i64 0, .int .i64 0, .bool false]) ∧ Ext w0 w := by
 refine Ret_of Try.func33 rfl Try.ntmps33 (Nat.le_of_ble_eq_true rfl) ?_
 have E : Chg none1 w0 w0 := Chg.refl _ _
 refine Wp_seq_region ?_
 refine s_alloc (c := #[(I6 0), (.slice none 0 0), (.slice none 0 0), (I6 0), (I6 0), (.bool false)]) (by decide) zer25 rfl ?_
 intro bo wo No
 have Fo := No.ge E
 replace E := E.ext No.ext
 have Bo := No.blk
 refine WpL_nil (Wp_seq_region ?_)
 refine qM _ rfl ?_
 refine qM _ rfl ?_
 refine WpL_enter rfl rfl (by decide) (r_callF Try.func73 kQ kQ rfl) (spN_c _ 97 97) ?_
 rintro _ w9 ⟨rfl, X9⟩
 replace Bo := X9.keep Bo
 replace E := E.ext X9
 refine s_buildSlice (ps := [(0, (.agg #[(I6 97), (I6 97)]))]) (c := #[(I6 97), (I6 97)]) (by decide) rfl Try.underlying22 siz74 zer74 (by decide) (by decide) (by kernel_rfl) ?_
 intro bs ws Ns
 have Fs := Ns.ge E
 have Os_bo := Ns.lt Bo
 replace Bo := Ns.keep Bo
 replace E := E.ext Ns.ext
 have Bs := Ns.blk
 refine qV (r_build (ps := [(0, (I6 2)), (1, (.slice (some ⟨bs, 0, none⟩) 1 1))]) (v := (.agg #[(I6 2), (.slice (some ⟨bs, 0, none⟩) 1 1), (.slice none 0 0), (I6 0), (I6 0), (.bool false)])) rfl (by kernel_rfl)) ?_
 refine s_storeAgg (b := bo) (o := 0) (c' := #[(I6 2), (.slice (some ⟨bs, 0, none⟩) 1 1), (.slice none 0 0), (I6 0), (I6 0), (.bool false)]) rfl rfl (by simp [Value.oneCell']) siz25 rfl Bo (by first | (simp; done) | exact Nat.le_of_ble_eq_true rfl) rfl ?_
 intro w1 S1
 replace Bs := S1.keep (by omega) Bs
 replace E := S1.step E (by first | exact Or.inl (by omega) | exact Or.inr rfl | exact Or.inr (by assumption) | exact Or.inr (by simp) | exact Or.inr (by omega) | exact Or.inr (by dsimp only; omega))
 replace Bo := S1.blk
 refine WpL_nil (Wp_ret ?_)
 refine fin_agg Try.results33 (vs := [(.int .i64 2), (.slice (some ⟨bs, 0, none⟩) 1 1), (.slice none 0 0), (.int .i64 0), (.int .i64 0), (.bool false)]) (b := bo) rfl agg25 siz25 rfl (Bo.cells rfl) ?_
 exact ⟨⟨bs, rfl, ReAt.of (set := [(97, 97)]) (args := []) (spans_of_blk [(97, 97)] Bs (by simp) (by simp)) (by simp) (.inl rfl)⟩, E⟩
theorem lstarN_c (w0 : World) (t : Re) (vs : List Value) (ht : ReAt w0 t vs) : Ret Try.prog 32 #[.agg vs.toArray] w0 fun v w => (∃ b, v = .agg #[.int .i64 5, .slice none 0 0, .slice (some ⟨b, 0, none⟩) 1 1, .int .i64 0, .int .i64 0, .bool false] ∧ ReAt w (.mk 5 [] [t] 0 0 false) [.int .i64 5, .slice none 0 0, .slice (some ⟨b, 0, none⟩) 1 1, .int .i64 0, .int .i64 0, .bool false]) ∧ Ext w0 w := by
 have ht0 := ht
 obtain ⟨sa, sc, aa, ac, rfl, hset, hlen, hargs⟩ := ht.form
 refine Ret_of Try.func32 rfl Try.ntmps32 (Nat.le_of_ble_eq_true rfl) ?_
 have E : Chg none1 w0 w0 := Chg.refl _ _
 refine Wp_seq_region ?_
 refine s_box (v := (.agg (R6 t sa sc aa ac))) (c := (R6 t sa sc aa ac)) (by decide) rfl rfl ?_
 intro bp wp Np
 have Fp := Np.ge E
 replace E := E.ext Np.ext
 have Bp := Np.blk
 refine s_alloc (c := #[(I6 0), (.slice none 0 0), (.slice none 0 0), (I6 0), (I6 0), (.bool false)]) (by decide) zer25 rfl ?_
 intro bo wo No
 have Fo := No.ge E
 have Oo_bp := No.lt Bp
 replace Bp := No.keep Bp
 replace E := E.ext No.ext
 have Bo := No.blk
 refine WpL_nil (Wp_seq_region ?_)
 refine qV (r_loadAgg (vs := [(I6 t.kind), (.slice sa t.set.length sc), (.slice aa t.args.length ac), (I6 t.mn), (I6 t.mx), (.bool t.neg)]) rfl agg25 siz25 rfl (Bp.cells rfl)) ?_
 refine s_buildSlice (ps := [(0, (.agg (R6 t sa sc aa ac)))]) (c := (R6 t sa sc aa ac)) (by decide) rfl Try.underlying23 siz25 zer25 (by decide) (by decide) (by kernel_rfl) ?_
 intro bq wq Nq
 have Fq := Nq.ge E
 have Oq_bp := Nq.lt Bp
 have Oq_bo := Nq.lt Bo
 replace Bp := Nq.keep Bp
 replace Bo := Nq.keep Bo
 replace E := E.ext Nq.ext
 have Bq := Nq.blk
 refine qV (r_build (ps := [(0, (I6 5)), (2, (.slice (some ⟨bq, 0, none⟩) 1 1))]) (v := (.agg #[(I6 5), (.slice none 0 0), (.slice (some ⟨bq, 0, none⟩) 1 1), (I6 0), (I6 0), (.bool false)])) rfl (by kernel_rfl)) ?_
 refine s_storeAgg (b := bo) (o := 0) (c' := #[(I6 5), (.slice none 0 0), (.slice (some ⟨bq, 0, none⟩) 1 1), (I6 0), (I6 0), (.bool false)]) rfl rfl (by simp [Value.oneCell']) siz25 rfl Bo (by first | (simp; done) | exact Nat.le_of_ble_eq_true rfl) rfl ?_
 intro w1 S1
 replace Bp := S1.keep (by omega) Bp
 replace Bq := S1.keep (by omega) Bq
 replace E := S1.step E (by first | exact Or.inl (by omega) | exact Or.inr rfl | exact Or.inr (by assumption) | exact Or.inr (by simp) | exact Or.inr (by omega) | exact Or.inr (by dsimp only; omega))
 replace Bo := S1.blk
 refine WpL_nil (Wp_ret ?_)
 refine fin_agg Try.results32 (vs := [(.int .i64 5), (.slice none 0 0), (.slice (some ⟨bq, 0, none⟩) 1 1), (.int .i64 0), (.int .i64 0), (.bool false)]) (b := bo) rfl agg25 siz25 rfl (Bo.cells rfl) ?_
 exact ⟨⟨bq, rfl, ReAt.of (set := []) (args := [t]) (SlAt.nil _ _ _ _) (by simp) (.inr ⟨bq, 0, rfl, by simp only [ResAt]; exact ⟨⟨_, Bq.cells rfl, ReAt.ext E t ht0⟩, trivial⟩⟩)⟩, E⟩
theorem nfabegun_c (w0 : World) : Ret Try.prog 7 #[] w0 fun v w => v = .bool true ∧ Ext w0 w := by
 refine Ret_of Try.func7 rfl Try.ntmps7 (Nat.le_of_ble_eq_true rfl) ?_
 have E : Chg none1 w0 w0 := Chg.refl _ _
 refine Wp_seq_region ?_
 refine qA _ rfl ?_
 refine WpL_nil (Wp_seq_region ?_)
 refine WpL_enter rfl rfl (by decide) (r_callF Try.func33 kQ kQ rfl) (loneN_c _) ?_
 rintro _ w1 ⟨⟨b, rfl, hsp⟩, X1⟩
 replace E := E.ext X1
 refine WpL_enter rfl rfl (by decide) (r_callF Try.func32 kQ kQ rfl) (lstarN_c _ oneB _ hsp) ?_
 rintro _ w2 ⟨⟨b2, rfl, hst⟩, X2⟩
 replace E := E.ext X2
 refine WpL_enter rfl rfl (by decide) (r_callF Try.func5 kQ kQ rfl) (glush_c _ starB _ hst) ?_
 rintro _ w9 ⟨⟨n, ea, ec, pa, pc, xa, xc, er, rfl, hN, hP⟩, X9⟩
 replace E := E.ext X9
 obtain ⟨he0, hnb⟩ := glush_star hP
 refine qM _ rfl ?_
 refine qV (r_extract rfl rfl) ?_
 refine qV (r_extract rfl rfl) ?_
 refine s_allocStore (v := (.agg #[(I6 n.states), (I6 n.start), (.slice ea n.ends.length ec), (.slice pa n.eps.length pc), (.slice xa n.edges.length xc)])) (c := #[(I6 n.states), (I6 n.start), (.slice ea n.ends.length ec), (.slice pa n.eps.length pc), (.slice xa n.edges.length xc)]) (n := 5) (by decide) zer30 rfl siz30 rfl rfl rfl (by simp [Value.oneCell']) ?_
 intro bn wn Nn
 have Fn := Nn.ge E
 replace hN := hN.ext Nn.ext
 replace E := E.ext Nn.ext
 have Bn := Nn.blk
 refine qA _ rfl ?_
 refine WpL_nil (Wp_seq_region ?_)
 refine qV (r_loadAgg (vs := [(I6 n.states), (I6 n.start), (.slice ea n.ends.length ec), (.slice pa n.eps.length pc), (.slice xa n.edges.length xc)]) rfl agg30 siz30 rfl (Bn.cells rfl)) ?_
 refine s_buildSlice (ps := [(0, (I6 97)), (1, (I6 97))]) (c := #[(I6 97), (I6 97)]) (by decide) rfl Try.underlying26 siz3 zer3 (by decide) (by decide) (by kernel_rfl) ?_
 intro bk wk Nk
 have Fk := Nk.ge E
 have Ok_bn := Nk.lt Bn
 replace Bn := Nk.keep Bn
 replace hN := hN.ext Nk.ext
 replace E := E.ext Nk.ext
 have Bk := Nk.blk
 refine WpL_enter rfl rfl (by decide) (r_callF Try.func34 kQ kQ rfl) (nrun_c _ n _ _ [97, 97] hN.at (ints_of_blk [97, 97] Bk (by simp) (by simp))) ?_
 rintro _ w19 ⟨⟨rb, re, rfl, hR⟩, X19⟩
 replace Bn := X19.keep Bn
 replace Bk := X19.keep Bk
 replace hN := hN.ext X19
 replace E := E.ext X19
 obtain ⟨hre, hrb⟩ := runB9 hnb hR
 refine qM _ rfl ?_
 refine qV (r_extract rfl rfl) ?_
 refine qV (r_extract rfl rfl) ?_
 refine qA _ rfl ?_
 refine qA _ rfl ?_
 refine WpL_nil (Wp_seq_region ?_)
 refine qM _ rfl ?_
 obtain ⟨e1, he1⟩ : ∃ e, (decide ((er : Int) = 0)) = e := ⟨_, rfl⟩
 refine qV ((r_eql rfl rfl).trans (by rw [he1]; try rfl)) ?_
 refine qM _ rfl ?_
 refine qG (.bool e1) (yU e1 (I6 re)) (by cases e1 <;> first | exact gA | exact gB | exact .inl ⟨rfl, r_move rfl⟩) ?_
 obtain ⟨e2, he2⟩ : ∃ e, (decide ((re : Int) = 0)) = e := ⟨_, rfl⟩
 refine qG (.bool e1) (yU e1 (.bool e2)) (by cases e1 <;> first | exact gA | exact gB | exact .inl ⟨rfl, (r_eql rfl rfl).trans (by rw [he2]; try rfl)⟩) ?_
 obtain ⟨e3, he3⟩ : ∃ e, (e1 && e2) = e := ⟨_, rfl⟩
 refine qV (r_pick (v := .bool e3) rfl (by rw [← he3]; cases e1 <;> rfl)) ?_
 refine qM _ rfl ?_
 refine qG (.bool e3) (yU e3 (.bool rb)) (by cases e3 <;> first | exact gA | exact gB | exact .inl ⟨rfl, r_move rfl⟩) ?_
 obtain ⟨e4, he4⟩ : ∃ e, (e3 && rb) = e := ⟨_, rfl⟩
 refine qV (r_pick (v := .bool e4) rfl (by rw [← he4]; cases e3 <;> rfl)) ?_
 refine qM _ rfl ?_
 refine qG (.bool e4) (yU e4 (P6 bn 0)) (by cases e4 <;> first | exact gA | exact gB | exact .inl ⟨rfl, r_fieldAddr rfl Try.underlying30 rfl siz3 rfl⟩) ?_
 refine qG (.bool e4) (yU e4 (I6 n.states)) (by cases e4 <;> first | exact gA | exact gB | exact .inl ⟨rfl, r_load rfl flat3 (Bn.cell rfl)⟩) ?_
 obtain ⟨e5, he5⟩ : ∃ e, (decide ((n.states : Int) = 2)) = e := ⟨_, rfl⟩
 refine qG (.bool e4) (yU e4 (.bool e5)) (by cases e4 <;> first | exact gA | exact gB | exact .inl ⟨rfl, (r_eql rfl rfl).trans (by rw [he5]; try rfl)⟩) ?_
 obtain ⟨e6, he6⟩ : ∃ e, (e4 && e5) = e := ⟨_, rfl⟩
 refine qV (r_pick (v := .bool e6) rfl (by rw [← he6]; cases e4 <;> rfl)) ?_
 refine qM _ rfl ?_
 refine qG (.bool e6) (yU e6 (P6 bn 4)) (by cases e6 <;> first | exact gA | exact gB | exact .inl ⟨rfl, r_fieldAddr rfl Try.underlying30 rfl siz28 rfl⟩) ?_
 refine qG (.bool e6) (yU e6 (.slice xa n.edges.length xc)) (by cases e6 <;> first | exact gA | exact gB | exact .inl ⟨rfl, r_load rfl flat28 (Bn.cell rfl)⟩) ?_
 refine qG (.bool e6) (yU e6 (I6 (n.edges.length : Int))) (by cases e6 <;> first | exact gA | exact gB | exact .inl ⟨rfl, r_lenSlice Try.underlying28 rfl⟩) ?_
 obtain ⟨e7, he7⟩ : ∃ e, (decide ((((n.edges.length : Nat) : Int) : Int) = 2)) = e := ⟨_, rfl⟩
 refine qG (.bool e6) (yU e6 (.bool e7)) (by cases e6 <;> first | exact gA | exact gB | exact .inl ⟨rfl, (r_eql rfl rfl).trans (by rw [he7]; try rfl)⟩) ?_
 obtain ⟨e8, he8⟩ : ∃ e, (e6 && e7) = e := ⟨_, rfl⟩
 refine qV (r_pick (v := .bool e8) rfl (by rw [← he8]; cases e6 <;> rfl)) ?_
 refine qA _ rfl ?_
 refine WpL_nil ?_
 subst he8
 subst he7
 subst he6
 subst he5
 subst he4
 subst he3
 subst he2
 subst he1
 refine Wp_ret ?_
 refine fin_tmp Try.results7 (v := (.bool (((((decide ((er : Int) = 0)) && (decide ((re : Int) = 0))) && rb) && (decide ((n.states : Int) = 2))) && (decide ((((n.edges.length : Nat) : Int) : Int) = 2))))) rfl ?_
 exact ⟨bool_eq (by rw [he0, hre, hrb, hnb]; rfl), E⟩
def gluF (t : Re) : Fct := fun v w => ∃ ea ec pa pc xa xc, v = .agg #[.int .i64 (glN t).states, .int .i64 (glN t).start, .slice ea (glN t).ends.length ec, .slice pa (glN t).eps.length pc, .slice xa (glN t).edges.length xc] ∧ NfAt w (glN t) [.int .i64 (glN t).states, .int .i64 (glN t).start, .slice ea (glN t).ends.length ec, .slice pa (glN t).eps.length pc, .slice xa (glN t).edges.length xc]
theorem gluF_ext (t : Re) : ∀ v w w', Ext w w' → gluF t v w → gluF t v w' := by
 rintro v w w' e ⟨ea, ec, pa, pc, xa, xc, h1, h2⟩
 exact ⟨ea, ec, pa, pc, xa, xc, h1, h2.ext e⟩
theorem gluF_of {w0 : World} {t : Re} {vs : List Value} (ht : ReAt w0 t vs) (hok : okRe t) (hs : t.size ≤ 1000000) (hx : (expT t).size ≤ 2000) : Ret Try.prog 14 #[.agg vs.toArray] w0 fun r w => gluF t r w ∧ Ext w0 w :=
 (gluof_c w0 t vs ht hok hs hx).mono fun v w h => by
  obtain ⟨⟨us, rfl, hN⟩, h2⟩ := h
  have hN0 := hN
  obtain ⟨ea, ec, pa, pc, xa, xc, rfl, _, _, _⟩ := hN
  exact ⟨⟨ea, ec, pa, pc, xa, xc, rfl, hN0⟩, h2⟩
theorem both_err {t : Re} {n1 n2 : Nf} {e1 e2 : Int} (h1 : GkP t n1 e1) (h2 : ThP t n2 e2) (hs : simE t ≠ 0) : e1 = simE t ∧ e2 = simE t ∧ n1 = nf0 ∧ n2 = nf0 := by
 rcases h1 with ⟨_, h3, h4⟩ | ⟨h3, _⟩ | ⟨h3, _⟩
 ·rcases h2 with ⟨_, h5, h6⟩ | ⟨h5, _⟩ | ⟨h5, _⟩
  ·exact ⟨h4, h6, h3, h5⟩
  ·exact absurd h5 hs
  ·exact absurd h5 hs
 ·exact absurd h3 hs
 ·exact absurd h3 hs
theorem both_big {t : Re} {n1 n2 : Nf} {e1 e2 : Int} (h1 : GkP t n1 e1) (h2 : ThP t n2 e2) (hs : simE t = 0) (hp : 499 < plN t) : e1 = 2 ∧ e2 = 2 ∧ n1 = nf0 ∧ n2 = nf0 := by
 obtain ⟨hok, _, hu⟩ := simE_zero.1 hs
 have hg := gk_big hok hu hp
 have ht := tm_big hok hu hp
 rcases h1 with ⟨h3, _⟩ | ⟨_, _, h3, h4⟩ | ⟨_, g, p, h3, _⟩
 ·exact absurd hs h3
 ·rcases h2 with ⟨h5, _⟩ | ⟨_, _, h5, h6⟩ | ⟨_, _, s, a, b, h5, _⟩
  ·exact absurd hs h5
  ·exact ⟨h4, h6, h3, h5⟩
  ·rw [ht] at h5; cases h5
 ·rw [hg] at h3; cases h3
theorem glu_fine {t : Re} {n : Nf} {e : Int} (h : GkP t n e) (hs : simE t = 0) (hp : plN t ≤ 100) : e = 0 ∧ n = glN t := by
 obtain ⟨hok, _, hu⟩ := simE_zero.1 hs
 rcases h with ⟨h1, _⟩ | ⟨_, h1, _⟩ | ⟨_, g, p, h1, h2, h3⟩
 ·exact absurd hs h1
 ·obtain ⟨g, p, h2⟩ := gk_room hok hu (by omega)
  rw [h2] at h1; cases h1
 ·have h4 := nfG_eq hok hu h1
  rcases h3 with ⟨h5, h6, _⟩ | ⟨_, _, h7⟩
  ·exact ⟨h5, by rw [h6, h4]⟩
  ·have h8 := edgG_small h4
   have h9 := (gk_cnt hok hu h1).1
   have h10 : (glC t + 1) * glC t ≤ 101 * 100 := Nat.mul_le_mul (by omega) (by omega)
   omega
theorem sim_no {t : Re} (h : (decide (fitsE t 40 = 0) && usesB [7, 8, 10] t) = false) : fitsE t 40 = simE t := by
 unfold simE
 split
 ·rfl
 ·rename_i h1
  have h2 : fitsE t 40 = 0 := Classical.not_not.1 h1
  rw [decide_eq_true h2, Bool.true_and] at h
  rw [h, h2]; rfl
set_option maxHeartbeats 1000000 in
theorem nfamakes_c (w0 : World) (t : Re) (vs : List Value) (ht : ReAt w0 t vs) (hsz : t.size ≤ 2097152) : Ret Try.prog 3 #[.agg vs.toArray] w0 fun v w => v = .bool true ∧ Ext w0 w := by
 have ht0 := ht
 obtain ⟨sa, sc, aa, ac, rfl, _, _, _⟩ := ht.form
 refine Ret_of Try.func3 rfl Try.ntmps3 (Nat.le_of_ble_eq_true rfl) ?_
 have E : Chg none1 w0 w0 := Chg.refl _ _
 refine Wp_seq_region ?_
 refine s_box (v := (.agg (R6 t sa sc aa ac))) (c := (R6 t sa sc aa ac)) (by decide) rfl rfl ?_
 intro br wr Nr
 have Fr := Nr.ge E
 replace E := E.ext Nr.ext
 have Br := Nr.blk
 refine qA _ rfl ?_
 refine WpL_nil (Wp_seq_region ?_)
 refine qV (r_loadAgg (vs := [(I6 t.kind), (.slice sa t.set.length sc), (.slice aa t.args.length ac), (I6 t.mn), (I6 t.mx), (.bool t.neg)]) rfl agg25 siz25 rfl (Br.cells rfl)) ?_
 refine WpL_enter rfl rfl (by decide) (r_callF Try.func5 kQ kQ rfl) (glush_c _ t _ (ReAt.ext E t ht0)) ?_
 rintro _ w9 ⟨⟨n1, ea, ec, pa, pc, xa, xc, er1, rfl, hN1, hP1⟩, X9⟩
 replace Br := X9.keep Br
 replace E := E.ext X9
 have hA1 := hN1.at
 refine qM _ rfl ?_
 refine qV (r_extract rfl rfl) ?_
 refine qV (r_extract rfl rfl) ?_
 refine s_allocStore (v := (.agg #[(I6 n1.states), (I6 n1.start), (.slice ea n1.ends.length ec), (.slice pa n1.eps.length pc), (.slice xa n1.edges.length xc)])) (c := #[(I6 n1.states), (I6 n1.start), (.slice ea n1.ends.length ec), (.slice pa n1.eps.length pc), (.slice xa n1.edges.length xc)]) (n := 5) (by decide) zer30 rfl siz30 rfl rfl rfl (by simp [Value.oneCell']) ?_
 intro bn wn Nn
 have Fn := Nn.ge E
 have On_br := Nn.lt Br
 replace Br := Nn.keep Br
 replace hA1 := hA1.ext Nn.ext
 replace E := E.ext Nn.ext
 have Bn := Nn.blk
 refine qA _ rfl ?_
 refine WpL_nil (Wp_seq_region ?_)
 refine qV (r_loadAgg (vs := [(I6 t.kind), (.slice sa t.set.length sc), (.slice aa t.args.length ac), (I6 t.mn), (I6 t.mx), (.bool t.neg)]) rfl agg25 siz25 rfl (Br.cells rfl)) ?_
 refine WpL_enter rfl rfl (by decide) (r_callF Try.func6 kQ kQ rfl) (thom_c _ t _ (ReAt.ext E t ht0)) ?_
 rintro _ w19 ⟨⟨n2, fa, fc, qa, qc, ya, yc, er2, rfl, hN2, hP2⟩, X19⟩
 replace Br := X19.keep Br
 replace Bn := X19.keep Bn
 replace hA1 := hA1.ext X19
 replace E := E.ext X19
 refine qM _ rfl ?_
 refine qV (r_extract rfl rfl) ?_
 refine qV (r_extract rfl rfl) ?_
 refine s_allocStore (v := (.agg #[(I6 n2.states), (I6 n2.start), (.slice fa n2.ends.length fc), (.slice qa n2.eps.length qc), (.slice ya n2.edges.length yc)])) (c := #[(I6 n2.states), (I6 n2.start), (.slice fa n2.ends.length fc), (.slice qa n2.eps.length qc), (.slice ya n2.edges.length yc)]) (n := 5) (by decide) zer30 rfl siz30 rfl rfl rfl (by simp [Value.oneCell']) ?_
 intro bm wm Nm
 have Fm := Nm.ge E
 have Om_br := Nm.lt Br
 have Om_bn := Nm.lt Bn
 replace Br := Nm.keep Br
 replace Bn := Nm.keep Bn
 replace hA1 := hA1.ext Nm.ext
 replace E := E.ext Nm.ext
 have Bm := Nm.blk
 refine qA _ rfl ?_
 refine WpL_nil (Wp_seq (Wp_seq_region ?_))
 refine WpL_enter rfl rfl (by decide) (r_callF Try.func7 kQ kQ rfl) (nfabegun_c _) ?_
 rintro _ w29 ⟨rfl, X29⟩
 replace Br := X29.keep Br
 replace Bn := X29.keep Bn
 replace Bm := X29.keep Bm
 replace hA1 := hA1.ext X29
 replace E := E.ext X29
 refine qV (r_not rfl) ?_
 refine WpL_nil ?_
 refine Wp_cond_false rfl ?_
 refine Wp_skip (thn_normal (Wp_seq_region ?_))
 refine qV (r_loadAgg (vs := [(I6 t.kind), (.slice sa t.set.length sc), (.slice aa t.args.length ac), (I6 t.mn), (I6 t.mx), (.bool t.neg)]) rfl agg25 siz25 rfl (Br.cells rfl)) ?_
 refine WpL_enter rfl rfl (by decide) (r_callF Try.func8 kQ kQ rfl) (refck_c _ t _ 40 (by decide) (ReAt.ext E t ht0) hsz) ?_
 rintro _ w39 ⟨rfl, X39⟩
 replace Br := X39.keep Br
 replace Bn := X39.keep Bn
 replace Bm := X39.keep Bm
 replace hA1 := hA1.ext X39
 replace E := E.ext X39
 refine qA _ rfl ?_
 refine WpL_nil (Wp_seq ?_)
 refine Wp_cut (fun σ W1 => ∃ (u : Bool), (∃ jj_, σ = upds jj_ [(1, (P6 br 0)), (3, (P6 bn 0)), (4, (I6 er1)), (5, (P6 bm 0)), (6, (I6 er2)), (7, (I6 (fitsE t 40))), (28, (.bool u))]) ∧ Chg none1 w0 W1 ∧ Blk W1 br (R6 t sa sc aa ac) 25 ∧ Blk W1 bn #[(I6 n1.states), (I6 n1.start), (.slice ea n1.ends.length ec), (.slice pa n1.eps.length pc), (.slice xa n1.edges.length xc)] 30 ∧ Blk W1 bm #[(I6 n2.states), (I6 n2.start), (.slice fa n2.ends.length fc), (.slice qa n2.eps.length qc), (.slice ya n2.edges.length yc)] 30 ∧ (u = (decide (fitsE t 40 = 0) && usesB [7, 8, 10] t)) ∧ (NfAt W1 n1 [.int .i64 n1.states, .int .i64 n1.start, .slice ea n1.ends.length ec, .slice pa n1.eps.length pc, .slice xa n1.edges.length xc])) ?_ ?_
 ·skip
  refine Wp_region ?_
  refine qM _ rfl ?_
  refine qV (r_eql rfl rfl) ?_
  refine qM _ rfl ?_
  rcases Bool.eq_false_or_eq_true (decide ((fitsE t 40 : Int) = 0)) with g0 | g0
  ·have kg0 := g0
   replace kg0 := of_decide_eq_true kg0
   have hsz40 : t.size ≤ 1000000 := by have := (fitsE_zero (t := t) (most := 40) (by decide) (by decide)).1 kg0; omega
   refine WpL_guard_yes rfl rfl (by decide) (congrArg Value.bool g0) ?_
   refine qV (r_loadAgg (vs := [(I6 t.kind), (.slice sa t.set.length sc), (.slice aa t.args.length ac), (I6 t.mn), (I6 t.mx), (.bool t.neg)]) rfl agg25 siz25 rfl (Br.cells rfl)) ?_
   refine WpL_guard_yes rfl rfl (by decide) (congrArg Value.bool g0) ?_
   refine s_buildSlice (ps := [(0, (I6 7)), (1, (I6 8)), (2, (I6 10))]) (c := #[(I6 7), (I6 8), (I6 10)]) (by decide) rfl Try.underlying26 siz3 zer3 (by decide) (by decide) (by kernel_rfl) ?_
   intro bk wk Nk
   have Fk := Nk.ge E
   have Ok_br := Nk.lt Br
   have Ok_bn := Nk.lt Bn
   have Ok_bm := Nk.lt Bm
   replace Br := Nk.keep Br
   replace Bn := Nk.keep Bn
   replace Bm := Nk.keep Bm
   replace hA1 := hA1.ext Nk.ext
   replace E := E.ext Nk.ext
   have Bk := Nk.blk
   refine WpL_guard_yes rfl rfl (by decide) (congrArg Value.bool g0) ?_
   refine WpL_enter rfl rfl (by decide) (r_callF Try.func9 kQ kQ rfl) (hasR_c _ t _ _ [7, 8, 10] (ReAt.ext E t ht0) (ints_of_blk [7, 8, 10] Bk (by simp) (by simp)) hsz40 (by decide)) ?_
   rintro _ w49 ⟨rfl, X49⟩
   replace Br := X49.keep Br
   replace Bn := X49.keep Bn
   replace Bm := X49.keep Bm
   replace Bk := X49.keep Bk
   replace hA1 := hA1.ext X49
   replace E := E.ext X49
   refine qV (r_pick (b := decide ((fitsE t 40 : Int) = 0)) (v := (.bool (usesB [7, 8, 10] t))) rfl (by rw [g0]; rfl)) ?_
   refine WpL_nil (thn_normal ?_)
   exact ⟨(usesB [7, 8, 10] t), Fits.out ⟨rfl, rfl, rfl, rfl, rfl, rfl, rfl, trivial⟩, E, Br, Bn, Bm, (by rw [decide_eq_true kg0]; rfl), hA1⟩
  ·have kg0 := g0
   replace kg0 := of_decide_eq_false kg0
   refine WpL_guard_no rfl rfl (by decide) (v := .bool false) (congrArg Value.bool g0) (Or.inl rfl) ?_
   refine WpL_guard_no rfl rfl (by decide) (v := .bool false) (congrArg Value.bool g0) (Or.inl rfl) ?_
   refine WpL_guard_no rfl rfl (by decide) (v := .bool false) (congrArg Value.bool g0) (Or.inl rfl) ?_
   refine qV (r_pick (b := decide ((fitsE t 40 : Int) = 0)) (v := (.bool false)) rfl (by rw [g0]; rfl)) ?_
   refine WpL_nil (thn_normal ?_)
   exact ⟨false, Fits.out ⟨rfl, rfl, rfl, rfl, rfl, rfl, rfl, trivial⟩, E, Br, Bn, Bm, (by rw [decide_eq_false kg0]; rfl), hA1⟩
 ·clear E Br Bn Bm
  rintro _ W1 ⟨u, ⟨j1, rfl⟩, E, Br, Bn, Bm, hu, hA1⟩
  refine Wp_cutT (fun σ W3 => ∃ (c : Int), (∃ jj_, σ = upds jj_ [(1, (P6 br 0)), (3, (P6 bn 0)), (4, (I6 er1)), (5, (P6 bm 0)), (6, (I6 er2)), (7, (I6 c))]) ∧ Chg none1 w0 W3 ∧ Blk W3 br (R6 t sa sc aa ac) 25 ∧ Blk W3 bn #[(I6 n1.states), (I6 n1.start), (.slice ea n1.ends.length ec), (.slice pa n1.eps.length pc), (.slice xa n1.edges.length xc)] 30 ∧ Blk W3 bm #[(I6 n2.states), (I6 n2.start), (.slice fa n2.ends.length fc), (.slice qa n2.eps.length qc), (.slice ya n2.edges.length yc)] 30 ∧ (c = simE t) ∧ (NfAt W3 n1 [.int .i64 n1.states, .int .i64 n1.start, .slice ea n1.ends.length ec, .slice pa n1.eps.length pc, .slice xa n1.edges.length xc])) ?_ ?_
  ·skip
   refine Wp_cond rfl (fun hu9 => ?_) (fun hu9 => ?_)
   ·have khu9 := hu9
    have hse : simE t = 3 := by rw [hu9, eq_comm, Bool.and_eq_true, decide_eq_true_eq] at hu; unfold simE; rw [if_neg (by simpa using hu.1), if_pos hu.2]
    refine Wp_region ?_
    refine qA _ rfl ?_
    refine WpL_nil (thn_normal ?_)
    exact ⟨3, Fits.out ⟨rfl, rfl, rfl, rfl, rfl, rfl, trivial⟩, E, Br, Bn, Bm, hse.symm, hA1⟩
   ·have khu9 := hu9
    have hse : fitsE t 40 = simE t := sim_no (hu9.symm.trans hu).symm
    refine Wp_skip (thn_normal ?_)
    exact ⟨fitsE t 40, Fits.out ⟨rfl, rfl, rfl, rfl, rfl, rfl, trivial⟩, E, Br, Bn, Bm, hse, hA1⟩
  ·clear E Br Bn Bm
   rintro _ W3 ⟨c, ⟨j3, rfl⟩, E, Br, Bn, Bm, hc, hA1⟩
   refine Wp_seq (Wp_seq_region ?_)
   refine qV (r_loadAgg (vs := [(I6 t.kind), (.slice sa t.set.length sc), (.slice aa t.args.length ac), (I6 t.mn), (I6 t.mx), (.bool t.neg)]) rfl agg25 siz25 rfl (Br.cells rfl)) ?_
   refine WpL_enter rfl rfl (by decide) (r_callF Try.func10 kQ kQ rfl) (simple_c _ t _ (ReAt.ext E t ht0)) ?_
   rintro _ w59 ⟨rfl, X59⟩
   replace Br := X59.keep Br
   replace Bn := X59.keep Bn
   replace Bm := X59.keep Bm
   replace hA1 := hA1.ext X59
   replace E := E.ext X59
   refine qM _ rfl ?_
   refine qV (r_neq rfl rfl) ?_
   refine WpL_nil ?_
   have hc5 : (decide ((simE t : Int) ≠ c)) = false := by simp [hc]
   refine Wp_cond_false (congrArg Value.bool hc5) ?_
   refine Wp_skip (thn_normal (Wp_seq (Wp_seq_region ?_)))
   refine qM _ rfl ?_
   refine qV (r_neq rfl rfl) ?_
   refine WpL_nil ?_
   refine Wp_cond rfl (fun hs => ?_) (fun hs => ?_)
   ·have khs := hs
    replace hs := of_decide_eq_true hs
    obtain ⟨he1, he2, hn1, hn2⟩ := both_err hP1 hP2 (by rw [← hc]; exact hs)
    have hst12 : n1.states = 0 ∧ n2.states = 0 := ⟨by rw [hn1]; rfl, by rw [hn2]; rfl⟩
    refine Wp_seq_region ?_
    refine qM _ rfl ?_
    refine qM _ rfl ?_
    obtain ⟨e7, he7⟩ : ∃ e, (decide ((er1 : Int) = c)) = e := ⟨_, rfl⟩
    refine qV ((r_eql rfl rfl).trans (by rw [he7]; try rfl)) ?_
    refine qM _ rfl ?_
    refine qG (.bool e7) (yU e7 (I6 er2)) (by cases e7 <;> first | exact gA | exact gB | exact .inl ⟨rfl, r_move rfl⟩) ?_
    refine qG (.bool e7) (yU e7 (I6 c)) (by cases e7 <;> first | exact gA | exact gB | exact .inl ⟨rfl, r_move rfl⟩) ?_
    obtain ⟨e8, he8⟩ : ∃ e, (decide ((er2 : Int) = c)) = e := ⟨_, rfl⟩
    refine qG (.bool e7) (yU e7 (.bool e8)) (by cases e7 <;> first | exact gA | exact gB | exact .inl ⟨rfl, (r_eql rfl rfl).trans (by rw [he8]; try rfl)⟩) ?_
    obtain ⟨e9, he9⟩ : ∃ e, (e7 && e8) = e := ⟨_, rfl⟩
    refine qV (r_pick (v := .bool e9) rfl (by rw [← he9]; cases e7 <;> rfl)) ?_
    refine qM _ rfl ?_
    refine qG (.bool e9) (yU e9 (P6 bn 0)) (by cases e9 <;> first | exact gA | exact gB | exact .inl ⟨rfl, r_fieldAddr rfl Try.underlying30 rfl siz3 rfl⟩) ?_
    refine qG (.bool e9) (yU e9 (I6 n1.states)) (by cases e9 <;> first | exact gA | exact gB | exact .inl ⟨rfl, r_load rfl flat3 (Bn.cell rfl)⟩) ?_
    refine qG (.bool e9) (yU e9 (P6 bm 0)) (by cases e9 <;> first | exact gA | exact gB | exact .inl ⟨rfl, r_fieldAddr rfl Try.underlying30 rfl siz3 rfl⟩) ?_
    refine qG (.bool e9) (yU e9 (I6 n2.states)) (by cases e9 <;> first | exact gA | exact gB | exact .inl ⟨rfl, r_load rfl flat3 (Bm.cell rfl)⟩) ?_
    refine qG (.bool e9) (yU e9 (I6 (n1.states + n2.states))) (by cases e9 <;> first | exact gA | exact gB | exact .inl ⟨rfl, r_add rfl rfl (wI64 (by omega))⟩) ?_
    obtain ⟨e10, he10⟩ : ∃ e, (decide ((n1.states + n2.states : Int) = 0)) = e := ⟨_, rfl⟩
    refine qG (.bool e9) (yU e9 (.bool e10)) (by cases e9 <;> first | exact gA | exact gB | exact .inl ⟨rfl, (r_eql rfl rfl).trans (by rw [he10]; try rfl)⟩) ?_
    obtain ⟨e11, he11⟩ : ∃ e, (e9 && e10) = e := ⟨_, rfl⟩
    refine qV (r_pick (v := .bool e11) rfl (by rw [← he11]; cases e9 <;> rfl)) ?_
    refine qA _ rfl ?_
    refine WpL_nil ?_
    subst he11
    subst he10
    subst he9
    subst he8
    subst he7
    refine Wp_ret (thn_ret ?_)
    refine fin_tmp Try.results3 (v := (.bool (((decide ((er1 : Int) = c)) && (decide ((er2 : Int) = c))) && (decide ((n1.states + n2.states : Int) = 0))))) rfl ?_
    exact ⟨bool_eq (by rw [he1, he2, hn1, hn2, hc]; simp [nf0]), E⟩
   ·have khs := hs
    replace hs := of_decide_eq_false hs
    have hs0 : simE t = 0 := by rw [← hc]; simpa using hs
    obtain ⟨hok, hsz4, hus⟩ := simE_zero.1 hs0
    refine Wp_skip (thn_normal (Wp_seq (Wp_seq_region ?_)))
    refine qV (r_loadAgg (vs := [(I6 t.kind), (.slice sa t.set.length sc), (.slice aa t.args.length ac), (I6 t.mn), (I6 t.mx), (.bool t.neg)]) rfl agg25 siz25 rfl (Br.cells rfl)) ?_
    refine WpL_enter rfl rfl (by decide) (r_callF Try.func11 kQ kQ rfl) (places_c _ t (Nat.le_refl _) (by omega) hok _ _ (ReAt.ext E t ht0)) ?_
    rintro _ w69 ⟨rfl, X69⟩
    replace Br := X69.keep Br
    replace Bn := X69.keep Bn
    replace Bm := X69.keep Bm
    replace hA1 := hA1.ext X69
    replace E := E.ext X69
    refine qV (r_gtr rfl rfl) ?_
    refine WpL_nil ?_
    refine Wp_cond rfl (fun hbig => ?_) (fun hbig => ?_)
    ·have khbig := hbig
     replace hbig := of_decide_eq_true hbig
     obtain ⟨he1, he2, hn1, hn2⟩ := both_big hP1 hP2 hs0 (by omega)
     have hst12 : n1.states = 0 ∧ n2.states = 0 := ⟨by rw [hn1]; rfl, by rw [hn2]; rfl⟩
     refine Wp_seq_region ?_
     refine qM _ rfl ?_
     obtain ⟨e13, he13⟩ : ∃ e, (decide ((er1 : Int) = 2)) = e := ⟨_, rfl⟩
     refine qV ((r_eql rfl rfl).trans (by rw [he13]; try rfl)) ?_
     refine qM _ rfl ?_
     refine qG (.bool e13) (yU e13 (I6 er2)) (by cases e13 <;> first | exact gA | exact gB | exact .inl ⟨rfl, r_move rfl⟩) ?_
     obtain ⟨e14, he14⟩ : ∃ e, (decide ((er2 : Int) = 2)) = e := ⟨_, rfl⟩
     refine qG (.bool e13) (yU e13 (.bool e14)) (by cases e13 <;> first | exact gA | exact gB | exact .inl ⟨rfl, (r_eql rfl rfl).trans (by rw [he14]; try rfl)⟩) ?_
     obtain ⟨e15, he15⟩ : ∃ e, (e13 && e14) = e := ⟨_, rfl⟩
     refine qV (r_pick (v := .bool e15) rfl (by rw [← he15]; cases e13 <;> rfl)) ?_
     refine qM _ rfl ?_
     refine qG (.bool e15) (yU e15 (P6 bn 0)) (by cases e15 <;> first | exact gA | exact gB | exact .inl ⟨rfl, r_fieldAddr rfl Try.underlying30 rfl siz3 rfl⟩) ?_
     refine qG (.bool e15) (yU e15 (I6 n1.states)) (by cases e15 <;> first | exact gA | exact gB | exact .inl ⟨rfl, r_load rfl flat3 (Bn.cell rfl)⟩) ?_
     refine qG (.bool e15) (yU e15 (P6 bm 0)) (by cases e15 <;> first | exact gA | exact gB | exact .inl ⟨rfl, r_fieldAddr rfl Try.underlying30 rfl siz3 rfl⟩) ?_
     refine qG (.bool e15) (yU e15 (I6 n2.states)) (by cases e15 <;> first | exact gA | exact gB | exact .inl ⟨rfl, r_load rfl flat3 (Bm.cell rfl)⟩) ?_
     refine qG (.bool e15) (yU e15 (I6 (n1.states + n2.states))) (by cases e15 <;> first | exact gA | exact gB | exact .inl ⟨rfl, r_add rfl rfl (wI64 (by omega))⟩) ?_
     obtain ⟨e16, he16⟩ : ∃ e, (decide ((n1.states + n2.states : Int) = 0)) = e := ⟨_, rfl⟩
     refine qG (.bool e15) (yU e15 (.bool e16)) (by cases e15 <;> first | exact gA | exact gB | exact .inl ⟨rfl, (r_eql rfl rfl).trans (by rw [he16]; try rfl)⟩) ?_
     obtain ⟨e17, he17⟩ : ∃ e, (e15 && e16) = e := ⟨_, rfl⟩
     refine qV (r_pick (v := .bool e17) rfl (by rw [← he17]; cases e15 <;> rfl)) ?_
     refine qA _ rfl ?_
     refine WpL_nil ?_
     subst he17
     subst he16
     subst he15
     subst he14
     subst he13
     refine Wp_ret (thn_ret ?_)
     refine fin_tmp Try.results3 (v := (.bool (((decide ((er1 : Int) = 2)) && (decide ((er2 : Int) = 2))) && (decide ((n1.states + n2.states : Int) = 0))))) rfl ?_
     exact ⟨bool_eq (by rw [he1, he2, hn1, hn2]; simp [nf0]), E⟩
    ·have khbig := hbig
     replace hbig := of_decide_eq_false hbig
     refine Wp_skip (thn_normal (Wp_seq (Wp_seq_region ?_)))
     refine qV (r_loadAgg (vs := [(I6 t.kind), (.slice sa t.set.length sc), (.slice aa t.args.length ac), (I6 t.mn), (I6 t.mx), (.bool t.neg)]) rfl agg25 siz25 rfl (Br.cells rfl)) ?_
     refine WpL_enter rfl rfl (by decide) (r_callF Try.func11 kQ kQ rfl) (places_c _ t (Nat.le_refl _) (by omega) hok _ _ (ReAt.ext E t ht0)) ?_
     rintro _ w79 ⟨rfl, X79⟩
     replace Br := X79.keep Br
     replace Bn := X79.keep Bn
     replace Bm := X79.keep Bm
     replace hA1 := hA1.ext X79
     replace E := E.ext X79
     refine qV (r_gtr rfl rfl) ?_
     refine qM _ rfl ?_
     rcases Bool.eq_false_or_eq_true (decide ((100 : Int) < ((min (plN t) 1000 : Nat) : Int))) with g3 | g3
     ·have kg3 := g3
      replace kg3 := of_decide_eq_true kg3
      refine WpL_guard_no rfl rfl (by decide) (v := .bool true) (congrArg Value.bool g3) (Or.inl rfl) ?_
      refine WpL_guard_no rfl rfl (by decide) (v := .bool true) (congrArg Value.bool g3) (Or.inl rfl) ?_
      refine WpL_guard_no rfl rfl (by decide) (v := .bool true) (congrArg Value.bool g3) (Or.inl rfl) ?_
      refine qV (r_pick (v := (.bool true)) rfl (by rw [g3]; rfl)) ?_
      refine WpL_nil ?_
      refine Wp_cond_true rfl ?_
      refine Wp_seq_region ?_
      refine qA _ rfl ?_
      refine WpL_nil (Wp_ret (thn_ret ?_))
      refine fin_tmp Try.results3 (v := (.bool true)) rfl ?_
      exact ⟨rfl, E⟩
     ·have kg3 := g3
      replace kg3 := of_decide_eq_false kg3
      refine WpL_guard_yes rfl rfl (by decide) (congrArg Value.bool g3) ?_
      refine qV (r_loadAgg (vs := [(I6 t.kind), (.slice sa t.set.length sc), (.slice aa t.args.length ac), (I6 t.mn), (I6 t.mx), (.bool t.neg)]) rfl agg25 siz25 rfl (Br.cells rfl)) ?_
      refine WpL_guard_yes rfl rfl (by decide) (congrArg Value.bool g3) ?_
      refine WpL_enter rfl rfl (by decide) (r_callF Try.func12 kQ kQ rfl) (weight2_c _ t (Nat.le_refl _) (by omega) hok _ _ (ReAt.ext E t ht0)) ?_
      rintro _ w89 ⟨rfl, X89⟩
      replace Br := X89.keep Br
      replace Bn := X89.keep Bn
      replace Bm := X89.keep Bm
      replace hA1 := hA1.ext X89
      replace E := E.ext X89
      refine WpL_guard_yes rfl rfl (by decide) (congrArg Value.bool g3) ?_
      refine qV (r_gtr rfl rfl) ?_
      refine qV (r_pick (v := (.bool (decide ((300 : Int) < ((min (wtN t) 1000000 : Nat) : Int))))) rfl (by rw [g3]; rfl)) ?_
      refine WpL_nil ?_
      refine Wp_cond rfl (fun hwt => ?_) (fun hwt => ?_)
      ·have khwt := hwt
       replace hwt := of_decide_eq_true hwt
       refine Wp_seq_region ?_
       refine qA _ rfl ?_
       refine WpL_nil (Wp_ret (thn_ret ?_))
       refine fin_tmp Try.results3 (v := (.bool true)) rfl ?_
       exact ⟨rfl, E⟩
      ·have khwt := hwt
       replace hwt := of_decide_eq_false hwt
       have hpl : plN t ≤ 100 := by omega
       obtain ⟨he0, hgl⟩ := glu_fine hP1 hs0 hpl
       have hk0 : decide ((er1 : Int) = 0) = true := decide_eq_true he0
       have hxs := exp_size _ t (Nat.le_refl _) hok
       refine Wp_skip (thn_normal ?_)
       obtain ⟨WE, hWE⟩ : ∃ WE, WE = (w89) := ⟨_, rfl⟩
       have hz_20 : w0.heap.size ≤ w89.heap.size := E.size
       have lz_20_br : br < w89.heap.size := Br.lt
       have lz_20_bn : bn < w89.heap.size := Bn.lt
       have lz_20_bm : bm < w89.heap.size := Bm.lt
       refine Wp_seq ?_
       obtain ⟨Fs20, hFs20⟩ : ∃ Fs : List FctS, Fs = [(eF (I6 er1)), (eF (.bool true)), (eF (.bool true)), (eF (.agg #[(I6 n1.states), (I6 n1.start), (.slice ea n1.ends.length ec), (.slice pa n1.eps.length pc), (.slice xa n1.edges.length xc)])), (eF (.agg (R6 t sa sc aa ac))), (fun _ _ => gluF t), (eF (.bool true)), (eF (.bool true)), (eF undef)] := ⟨_, rfl⟩
       refine Wp_dagS (MsL []) [true, true, true, true, true, true, true, true, false] [8] [76, 77, 78, 79, 80, 81, 82, 83, 92] [[], [0], [1], [2], [2], [2, 4], [2, 3, 5], [2, 6], []] [[], [0], [1, 0], [2, 1, 0], [2, 1, 0], [2, 1, 0, 4], [2, 1, 0, 3, 5, 4], [2, 1, 0, 6, 3, 5, 4], []] Fs20 hFs20 (by kernel_rfl) mixed (by kernel_rfl) (by kernel_rfl) (by kernel_rfl) (by kernel_rfl) ?_ ?_
       ·intro wd X0
        refine qZ (fun S s' w' hi hN X U V H => ?_) ?_
        ·replace X := xN0 X
         exact DoesT_pure (r_move (U 4 rfl)) rfl
        refine qZ (fun S s' w' hi hN X U V H => ?_) ?_
        ·replace X := xN0 X
         have e76 := (H 0 rfl).2 76 _ rfl (by rw [hFs20]; rfl)
         exact DoesT_pure (Eq.trans (r_eql e76 rfl) (by rw [hk0])) rfl
        refine qZ (fun S s' w' hi hN X U V H => ?_) ?_
        ·replace X := xN0 X
         have e77 := (H 1 rfl).2 77 _ rfl (by rw [hFs20]; rfl)
         exact DoesT_pure (r_move e77) rfl
        refine DagStepsS.cons (StabS.eq) (LocS.const) (fun S s' w' hi hN X U V H => Or.inl ⟨Guarded_some rfl rfl (d := 78) ((H 2 rfl).2 78 (eF (.bool true)) rfl (by rw [hFs20]; rfl)), ?_⟩) ?_
        ·replace X := xN0 X
         exact DoesT_pure (r_loadAgg (U 3 rfl) agg30 siz30 rfl (((X0.trans X).keep Bn).cells rfl)) rfl
        refine DagStepsS.cons (StabS.eq) (LocS.const) (fun S s' w' hi hN X U V H => Or.inl ⟨Guarded_some rfl rfl (d := 78) ((H 2 rfl).2 78 (eF (.bool true)) rfl (by rw [hFs20]; rfl)), ?_⟩) ?_
        ·replace X := xN0 X
         exact DoesT_pure (r_loadAgg (U 1 rfl) agg25 siz25 rfl (((X0.trans X).keep Br).cells rfl)) rfl
        refine DagStepsS.cons (StabS.chg (U := none1) (gluF_ext t) (fun p y hp hw h => by
           exact h.elim)) (LocS.const) (fun S s' w' hi hN X U V H => Or.inl ⟨Guarded_some rfl rfl (d := 78) ((H 2 rfl).2 78 (eF (.bool true)) rfl (by rw [hFs20]; rfl)), ?_⟩) ?_
        ·replace X := xN0 X
         have e80 := (H 4 rfl).2 80 _ rfl (by rw [hFs20]; rfl)
         exact DoesT_callE (r_callF Try.func14 kQ kQ (lst1 e80)) (gluF_of (ReAt.ext (Chg.ext E (X0.trans X)) t ht0) hok (by omega) (by omega))
        refine DagStepsS.cons (StabS.eq) (LocS.const) (fun S s' w' hi hN X U V H => Or.inl ⟨Guarded_some rfl rfl (d := 78) ((H 2 rfl).2 78 (eF (.bool true)) rfl (by rw [hFs20]; rfl)), ?_⟩) ?_
        ·replace X := xN0 X
         have e79 := (H 3 rfl).2 79 _ rfl (by rw [hFs20]; rfl)
         obtain ⟨ea81, ec81, pa81, pc81, xa81, xc81, e81, N81⟩ := (show ((fun _ _ => gluF t) : FctS) S s' (s' 81) w' from (H 5 rfl).2 81 (fun _ _ => gluF t) rfl (by rw [hFs20]; rfl))
         exact DoesT_callE (r_callF Try.func13 kQ kQ (lst2 e79 e81)) (nfeq_c _ n1 (glN t) _ _ hgl (hA1.ext (X0.trans X)) N81)
        refine qZ (fun S s' w' hi hN X U V H => ?_) ?_
        ·replace X := xN0 X
         have e78 := (H 2 rfl).2 78 _ rfl (by rw [hFs20]; rfl)
         have e82 := (H 6 rfl).2 82 _ rfl (by rw [hFs20]; rfl)
         exact DoesT_pure (r_pick e78 e82) rfl
        refine DagStepsS.tail ?_
        exact DagStepsS.nil
       ·intro s' wd20 w20 X0 X20 U H
        replace X20 := X20.mono (M' := none1) (fun y _ h => by
          obtain ⟨j, hj, h⟩ := h
          exact h.elim)
        have e83 := H 7 rfl 83 _ rfl (by rw [hFs20]; rfl)
        obtain ⟨j20, rfl⟩ := Fits.out (σ := s') (l := [(83, (.bool true))]) ⟨e83, trivial⟩
        clear U H
        replace Br := (X0.trans X20).keep Br
        replace Bn := (X0.trans X20).keep Bn
        replace Bm := (X0.trans X20).keep Bm
        replace hA1 := hA1.ext (X0.trans X20)
        replace X20 := X0.trans X20
        replace E := E.ext X20
        refine qA _ rfl ?_
        refine WpL_nil (thn_normal (Wp_ret ?_))
        refine fin_tmp Try.results3 (v := (.bool true)) rfl ?_
        exact ⟨rfl, E⟩
end Go.Proofs
namespace Go.Proofs
open Go Go.Eng
set_option maxRecDepth 100000
section
variable {H : Type} {enc : TypeId × Value → H} {P : Program} {w : World} {base : Nat} {spare : Nat → Bool} {held : Bool}
theorem cells_at {a : Addr} {k : Nat} {cs : List Value} (hk : 0 < k) (h : w.cells? base a k = some cs) : ∃ b o, a = ⟨b, o, none⟩ ∧ cs.length = k ∧ CellsAt w b o cs := by
  obtain ⟨h1, h2, h3⟩ := World.cells?_some h
  obtain ⟨b, o, s⟩ := a
  have hlen : cs.length = k := by first | exact h2 | exact h1 | omega
  have h0 := h3 0 (by omega)
  have hs : s = none := by
    cases s with
    | none => rfl
    | some s =>
      exfalso
      have hc : ∃ v, w.cell? ⟨b, o, some s⟩ = some v := ⟨_, by simpa [Addr.add, List.getElem?_eq_getElem (show 0 < cs.length by omega)] using h0⟩
      obtain ⟨v, hv⟩ := hc
      simp [World.cell?] at hv
      cases hh : w.heap[b]? <;> simp [hh] at hv
      split at hv <;> simp at hv
  subst hs
  refine ⟨b, o, rfl, hlen, fun i v hv => ?_⟩
  have := h3 i (by have := lt_of_get hv; omega)
  rw [Addr.add_lit] at this
  rw [this, hv]
theorem rows_map {α : Type} {f : α → List Value} : ∀ {rows : List (List Value)}, (∀ r ∈ rows, ∃ y, r = f y) → ∃ l : List α, rows = l.map f
  | [], _ => ⟨[], rfl⟩
  | r :: rows, h => by
    obtain ⟨y, hy⟩ := h r (by simp)
    obtain ⟨l, hl⟩ := rows_map (rows := rows) (f := f) fun r' hr' => h r' (List.mem_cons_of_mem _ hr')
    exact ⟨y :: l, by rw [hy, hl]; rfl⟩
/-- A slice, if each of its elements is read. -/
theorem open_rows {t e k fuel : Nat} {cs : List Value} {x : DataW H × List MemPlace} {R : List Value → Prop} (ht : P.underlying t = some (.slice e)) (hc : P.cellsOf e = k) (hk : 0 < k)
    (h : DataW.trod enc P w base spare held fuel t cs = some x) (hR : ∀ n cs' y, n < fuel → DataW.trod enc P w base spare held n e cs' = some y → R cs') :
    ∃ a rows cap, cs = [.slice a rows.length cap] ∧ SlAt w k (.slice a rows.length cap) rows ∧ (∀ r ∈ rows, R r ∧ r.length = k) ∧ rows.length ≤ cap ∧ cap ≤ maxLen := by
  rcases DataW.trod_slice ht h with ⟨rfl, _⟩ | ⟨a, len, cap, elems, rest, n, rfl, rfl, _, hb, hl, hm, hlen, hel, _, _⟩
  · exact ⟨none, [], 0, rfl, SlAt.nil _ _ _ _, by simp, by simp, by simp [maxLen]⟩
  · have each : ∀ i, i < len → ∃ cs', w.cells? base (a.add (i * k)) k = some cs' ∧ R cs' := by
      intro i hi
      have := hel i hi
      rw [List.getElem?_eq_getElem (by omega), hc, Option.bind_eq_some_iff] at this
      obtain ⟨cs', h1, h2⟩ := this
      exact ⟨cs', h1, hR n cs' _ (by omega) h2⟩
    have fam : ∀ m, m ≤ len → ∃ rows : List (List Value), rows.length = m ∧ ∀ i r, rows[i]? = some r → w.cells? base (a.add (i * k)) k = some r ∧ R r := by
      intro m
      induction m with
      | zero => intro _; exact ⟨[], rfl, by simp⟩
      | succ m ih =>
        intro hm
        obtain ⟨rows, h1, h2⟩ := ih (by omega)
        obtain ⟨cs', h3, h4⟩ := each m (by omega)
        refine ⟨rows ++ [cs'], by simp [h1], fun i r hr => ?_⟩
        rcases Nat.lt_or_ge i rows.length with hi | hi
        · rw [List.getElem?_append_left hi] at hr; exact h2 i r hr
        · rw [List.getElem?_append_right hi] at hr
          have hi' := lt_of_get hr
          simp at hi'
          obtain rfl : i = m := by omega
          simp [h1] at hr
          subst hr
          exact ⟨h3, h4⟩
    obtain ⟨rows, hrl, hrows⟩ := fam len (Nat.le_refl _)
    have hmax : rows.length ≤ 9223372036854775807 := by simp only [maxLen] at hm; omega
    refine ⟨some a, rows, cap, by rw [hrl], ⟨some a, cap, rfl, hmax, by omega, ?_⟩, ?_, by omega, hm⟩
    · rcases Nat.eq_zero_or_pos len with h0 | h0
      · left; exact List.eq_nil_of_length_eq_zero (by omega)
      · right
        obtain ⟨r0, hr0⟩ := get_of_lt (l := rows) (i := 0) (by omega)
        have h1 := (hrows 0 r0 hr0).1
        have hz : a.add (0 * k) = a := by simp [Addr.add]
        rw [hz] at h1
        obtain ⟨b, o, rfl, _, _⟩ := cells_at hk h1
        refine ⟨b, o, rfl, fun i r hr => ?_⟩
        have h2 := (hrows i r hr).1
        rw [Addr.add_lit] at h2
        obtain ⟨b', o', he, _, h3⟩ := cells_at hk h2
        cases he
        exact h3
    · intro r hr
      obtain ⟨i, hi⟩ := List.mem_iff_getElem?.1 hr
      have h2 := hrows i r hi
      obtain ⟨_, _, _, h3, _⟩ := cells_at hk h2.1
      exact ⟨h2.2, h3⟩
end
section
variable {H : Type} {enc : TypeId × Value → H} {w : World} {base : Nat} {spare : Nat → Bool} {held : Bool}
theorem cells74 : Try.prog.cellsOf 74 = 2 := by kernel_rfl
theorem cells25 : Try.prog.cellsOf 25 = 6 := by kernel_rfl
theorem cells3 : Try.prog.cellsOf 3 = 1 := by kernel_rfl
theorem cells4 : Try.prog.cellsOf 4 = 1 := by kernel_rfl
theorem cells23 : Try.prog.cellsOf 23 = 1 := by kernel_rfl
theorem cells22 : Try.prog.cellsOf 22 = 1 := by kernel_rfl
theorem open_span {fuel : Nat} {cs : List Value} {x : DataW H × List MemPlace} (h : DataW.trod enc Try.prog w base spare held fuel 74 cs = some x) : ∃ s : Int × Int, cs = spanV s := by
  obtain ⟨xs, n, rfl, _, hl, hx, hf⟩ := DataW.trod_struct Try.underlying74 h
  rw [cells74] at hl
  match cs, hl with
  | [c0, c1], _ =>
    have h0 : DataW.trod enc Try.prog w base spare held n 3 (([c0, c1].drop 0).take (Try.prog.cellsOf 3)) = xs[0]? := hf 0 _ rfl
    have h1 : DataW.trod enc Try.prog w base spare held n 3 (([c0, c1].drop 1).take (Try.prog.cellsOf 3)) = xs[1]? := hf 1 _ rfl
    simp only [cells3, List.drop, List.take] at h0 h1
    rw [List.getElem?_eq_getElem (by rw [hx]; decide)] at h0 h1
    obtain ⟨a, e0, _⟩ := DataW.trod_int Try.underlying3 h0
    obtain ⟨b, e1, _⟩ := DataW.trod_int Try.underlying3 h1
    simp at e0 e1
    subst e0; subst e1
    exact ⟨(a, b), rfl⟩
theorem open_spans {fuel : Nat} {cs : List Value} {x : DataW H × List MemPlace} (h : DataW.trod enc Try.prog w base spare held fuel 22 cs = some x) : ∃ a l cap, cs = [.slice a l.length cap] ∧ SpansAt w (.slice a l.length cap) l := by
 obtain ⟨a, rows, cap, rfl, h1, h2, _⟩ := open_rows (R := fun cs => ∃ s : Int × Int, cs = spanV s) Try.underlying22 cells74 (by decide) h (fun n cs' y _ hy => open_span hy)
 obtain ⟨l, rfl⟩ := rows_map fun r hr => (h2 r hr).1
 exact ⟨a, l, cap, by simp, by simpa [SpansAt] using h1⟩
end
end Go.Proofs
