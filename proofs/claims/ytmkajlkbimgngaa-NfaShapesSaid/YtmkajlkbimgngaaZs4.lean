/- Contracts and plain lemmas, part 4. -/
import Derived.Tactics
import Derived.Deep.Quiet
import Derived.Laws.AppendOwn
import Derived.KernelRfl
import Derived.Laws.Entries
import Derived.Laws.Build
import Derived.Below
import Derived.RowKit3
import Derived.StillTail
import Derived.Sort.Grow
import Derived.Deep.Draws
import Derived.Test.YtmkajlkbimgngaaChecked
import Derived.Laws.StructEq
import Derived.MapKept
import Derived.Laws.BytesArg
import Derived.Defers
import Derived.Recover
import Derived.Test.YtmkajlkbimgngaaZs3
namespace Go.Proofs
open Go Go.Eng Go.Sort
set_option maxRecDepth 100000
/-- Edges in a slice of one's own, with sets in blocks of F. -/
def EdB (F : Nat → Prop) (w : World) (base : Nat) (xv : Value) (es : List Ed) : Prop := (∃ rows, w.ownsRow base TEd 3 xv es.length rows.flatten ∧ EdsF F w es rows) ∧ (∀ b, xv.ownBlock = some b → ¬ F b) ∧ ∀ y, F y → base ≤ y ∧ y < w.heap.size
theorem EdB.chg {F M : Nat → Prop} {w w' : World} {base : Nat} {xv : Value} {es : List Ed} (h : EdB F w base xv es) (c : Chg M w w') (hM : ∀ y, M y → y < base) : EdB F w' base xv es := by
 obtain ⟨⟨rows, h1, h2⟩, h3, h4⟩ := h
 exact ⟨⟨rows, own_chg h1 c fun k hk hm => by have := (h1.lt k hk).1; have := hM k hm; omega, h2.chg c fun y hy hm => by have := (h4 y hy).1; have := hM y hm; omega⟩, h3, fun y hy => ⟨(h4 y hy).1, Nat.lt_of_lt_of_le (h4 y hy).2 c.size⟩⟩
theorem EdB.ext {F : Nat → Prop} {w w' : World} {base : Nat} {xv : Value} {es : List Ed} (h : EdB F w base xv es) (c : Ext w w') : EdB F w' base xv es := h.chg c fun _ f => f.elim
theorem EdB.start (w : World) (base : Nat) : EdB (fun _ => False) w base (.slice none 0 0) [] := ⟨⟨[], World.ownsRow_nil _ _ _ _, rfl, fun i e row h => by simp at h⟩, fun b h => (by cases h), fun y h => h.elim⟩
theorem EdB.push {F : Nat → Prop} {w0 w : World} {base z rc m : Nat} {xv xv' : Value} {ra : Option Addr} {es : List Ed} {rows : List (List Value)} {a b : Int} {l : List Sp} (hown : w0.ownsRow base TEd 3 xv m rows.flatten) (hm : m = es.length) (hrows : EdsF F w0 es rows) (h3 : ∀ b, xv.ownBlock = some b → ¬ F b) (h4 : ∀ y, F y → base ≤ y ∧ y < w0.heap.size) (c : Chg (fun q => xv.ownBlock = some q) w0 w) (hz : z = w0.heap.size) (hbz : base ≤ z)
  (ho : w.ownsRow base TEd 3 xv' (m + 1) (rows.flatten ++ [.int .i64 a, .int .i64 b, .slice ra l.length rc])) (hd : ∀ k, xv'.ownBlock = some k → xv.ownBlock = some k ∨ z ≤ k) (hK : cloG l z (.slice ra l.length rc) w) : EdB (fun y => F y ∨ (Value.slice ra l.length rc).ownBlock = some y) w base xv' (es ++ [(a, b, l)]) := by
 subst hz; subst hm
 have hlk := hK.2.lt
 refine ⟨⟨rows ++ [edRow (a, b, l) (.slice ra l.length rc)], by simpa [edRow, List.flatten_append] using ho, ?_⟩, fun k hk hf => ?_, fun y hy => ?_⟩
 ·refine ((hrows.chg c fun y hy e => h3 y e hy).mono fun y hy => .inl hy).snoc ⟨_, rfl, OwnS.at hK, ?_⟩
  rcases own_some hK.2 with h1 | ⟨k, hk⟩
  ·exact .inl (List.eq_nil_of_length_eq_zero h1)
  ·exact .inr ⟨k, hk, .inr hk⟩
 ·rcases hf with hf | hf
  ·rcases hd k hk with h1 | h1
   ·exact h3 k h1 hf
   ·have := (h4 k hf).2; omega
  ·exact own_other hK.2 ho (by decide) hf hk
 ·rcases hy with hy | hy
  ·exact ⟨(h4 y hy).1, Nat.lt_of_lt_of_le (h4 y hy).2 c.size⟩
  ·have := hlk y hy; exact ⟨by omega, this.2⟩
theorem EdB.at {F : Nat → Prop} {w : World} {base : Nat} {xv : Value} {es : List Ed} (h : EdB F w base xv es) : EdgesAt w xv es := by
 obtain ⟨⟨rows, h1, h2⟩, _⟩ := h
 have h8 : ∀ r ∈ rows, r.length = 3 := fun r hr => by
  obtain ⟨i, hi⟩ := List.getElem?_of_mem hr
  obtain ⟨e, he⟩ := get_of_lt (l := es) (i := i) (by have := h2.1; have := lt_of_get hi; omega)
  obtain ⟨u, rfl, _⟩ := h2.2 i e r he hi
  rfl
 refine ⟨rows, own_slat h1 h8 h2.1 (by decide), h2.1, fun i e row h5 h6 => ?_⟩
 obtain ⟨u, h7, h9, _⟩ := h2.2 i e row h5 h6
 exact ⟨u, h7, h9⟩
def RevP (n m : Nf) (e : Int) : Prop := (chkN n ≠ 0 ∧ m = nf0 ∧ e = chkN n) ∨ (chkN n = 0 ∧ n.ends.length ≠ 1 ∧ m = nf0 ∧ e = 3) ∨ (chkN n = 0 ∧ e = 0 ∧ ∃ x, n.ends = [x] ∧ m = n.rev x)
def rvG (s x : Int) (c : Int) (z : Nat) : Fct := fun v w => ∃ b, v = .agg #[.int .i64 s, .int .i64 x, .slice (some ⟨b, 0, none⟩) 1 1, .slice none 0 0, .slice none 0 0] ∧ Blk w b #[.int .i64 c] TDI ∧ z ≤ b
theorem rvG_ext {s x c : Int} {z : Nat} : ∀ v w w', Ext w w' → rvG s x c z v w → rvG s x c z v w' := by
 rintro v w w' e ⟨b, h1, h2, h3⟩
 exact ⟨b, h1, e.keep h2, h3⟩
abbrev swp (p : Int × Int) : Int × Int := (p.2, p.1)
abbrev swe (e : Ed) : Ed := (e.2.1, e.1, e.2.2)
theorem map_take {α β : Type} (f : α → β) {l : List α} {k : Nat} {x : α} (h : l[k]? = some x) : (l.take (k + 1)).map f = (l.take k).map f ++ [f x] := by rw [List.take_add_one, h]; simp
set_option maxHeartbeats 4000000 in
theorem nrev_c (w0 : World) (n : Nf) (vs0 : List Value) (h : NfAt w0 n vs0) : Ret Try.prog 11 #[.agg vs0.toArray] w0 fun r w => NfR w0.heap.size (RevP n) r w ∧ Ext w0 w := by
 have h0 := h
 obtain ⟨ea, ec, pa, pc, xa, xc, rfl, hen, hep, hed⟩ := h
 refine Ret_of Try.func11 rfl Try.ntmps11 (Nat.le_of_ble_eq_true rfl) ?_
 have E : Chg none1 w0 w0 := Chg.refl _ _
 refine Wp_seq_region ?_
 refine s_box (v := (.agg #[(I6 n.states), (I6 n.start), (.slice ea n.ends.length ec), (.slice pa n.eps.length pc), (.slice xa n.edges.length xc)])) (c := #[(I6 n.states), (I6 n.start), (.slice ea n.ends.length ec), (.slice pa n.eps.length pc), (.slice xa n.edges.length xc)]) (by decide) rfl rfl ?_
 intro bn wn Nn
 have Fn := Nn.ge E
 replace E := E.ext Nn.ext
 have Bn := Nn.blk
 refine s_alloc (c := #[(I6 0), (I6 0), (.slice none 0 0), (.slice none 0 0), (.slice none 0 0)]) (by decide) zer26 rfl ?_
 intro br wr Nr
 have Fr := Nr.ge E
 have Or_bn := Nr.lt Bn
 replace Bn := Nr.keep Bn
 replace E := E.ext Nr.ext
 have Br := Nr.blk
 refine qA (I6 0) rfl ?_
 refine WpL_nil (Wp_seq (Wp_seq_region ?_))
 refine qV (r_loadAgg (vs := [(I6 n.states), (I6 n.start), (.slice ea n.ends.length ec), (.slice pa n.eps.length pc), (.slice xa n.edges.length xc)]) rfl agg26 siz26 rfl (Bn.cells rfl)) ?_
 refine WpL_enter rfl rfl (by decide) (r_callF (vs := [(.agg #[(I6 n.states), (I6 n.start), (.slice ea n.ends.length ec), (.slice pa n.eps.length pc), (.slice xa n.edges.length xc)])]) Try.func39 nm39 bd39 rfl) (ncheck_c _ n _ (h0.ext E)) ?_
 rintro _ w9 ⟨rfl, X9⟩
 replace Bn := X9.keep Bn
 replace Br := X9.keep Br
 replace E := E.ext X9
 refine qA (I6 (chkN n)) rfl ?_
 refine WpL_nil (Wp_seq_region ?_)
 refine qM (I6 (chkN n)) rfl ?_
 refine qV (r_neq (k := .i64) (a := chkN n) (b := 0) rfl rfl) ?_
 refine WpL_nil ?_
 refine Wp_cond (b := decide ((chkN n : Int) ≠ 0)) rfl (fun hc0 => ?_) (fun hc0 => ?_)
 ·have khc0 := hc0
  replace hc0 := of_decide_eq_true hc0
  refine Wp_seq_region ?_
  refine qV (r_build (ps := []) (v := (.agg #[(I6 0), (I6 0), (.slice none 0 0), (.slice none 0 0), (.slice none 0 0)])) rfl (by kernel_rfl)) ?_
  refine qM (I6 (chkN n)) rfl ?_
  refine s_storeAgg (b := br) (o := 0) (c' := #[(I6 0), (I6 0), (.slice none 0 0), (.slice none 0 0), (.slice none 0 0)]) rfl rfl (by simp [Value.oneCell']) siz26 rfl Br (by first | (simp; done) | exact Nat.le_of_ble_eq_true rfl) rfl ?_
  intro w2 S2
  replace Bn := S2.keep (by omega) Bn
  replace E := S2.step E (by first | exact Or.inl (by omega) | exact Or.inr rfl | exact Or.inr (by assumption) | exact Or.inr (by simp) | exact Or.inr (by omega) | exact Or.inr (by dsimp only; omega))
  replace Br := S2.blk
  refine qA (I6 (chkN n)) rfl ?_
  refine WpL_nil (Wp_ret (thn_ret ?_))
  refine fin_agg_tmp Try.results11 (vs := [(.int .i64 0), (.int .i64 0), (.slice none 0 0), (.slice none 0 0), (.slice none 0 0)]) (b := br) (v' := (.int .i64 (chkN n))) rfl agg26 siz26 rfl (Br.cells rfl) rfl ?_
  exact ⟨nfR_zero (.inl ⟨hc0, rfl, rfl⟩), E⟩
 ·have khc0 := hc0
  replace hc0 := of_decide_eq_false hc0
  have hc1 : chkN n = 0 := by omega
  have ok := chkN_zero.1 hc1
  have hpl := ok.pl
  have hxl := ok.xl
  refine Wp_skip (thn_normal (Wp_seq (Wp_seq_region ?_)))
  refine qF bn 0 2 rfl Try.underlying26 rfl siz22 rfl ?_
  refine qV (r_load (v := (.slice ea n.ends.length ec)) rfl flat22 (Bn.cell rfl)) ?_
  refine qV (r_lenSlice (ad := ea) (n := n.ends.length) (cap := ec) Try.underlying22 rfl) ?_
  refine qV (r_neq (k := .i64) (a := (n.ends.length : Int)) (b := 1) rfl rfl) ?_
  refine WpL_nil ?_
  refine Wp_cond (b := decide (((n.ends.length : Int) : Int) ≠ 1)) rfl (fun hlen => ?_) (fun hlen => ?_)
  ·have khlen := hlen
   replace hlen := of_decide_eq_true hlen
   refine Wp_seq_region ?_
   refine qV (r_build (ps := []) (v := (.agg #[(I6 0), (I6 0), (.slice none 0 0), (.slice none 0 0), (.slice none 0 0)])) rfl (by kernel_rfl)) ?_
   refine s_storeAgg (b := br) (o := 0) (c' := #[(I6 0), (I6 0), (.slice none 0 0), (.slice none 0 0), (.slice none 0 0)]) rfl rfl (by simp [Value.oneCell']) siz26 rfl Br (by first | (simp; done) | exact Nat.le_of_ble_eq_true rfl) rfl ?_
   intro w4 S4
   replace Bn := S4.keep (by omega) Bn
   replace E := S4.step E (by first | exact Or.inl (by omega) | exact Or.inr rfl | exact Or.inr (by assumption) | exact Or.inr (by simp) | exact Or.inr (by omega) | exact Or.inr (by dsimp only; omega))
   replace Br := S4.blk
   refine qA (I6 3) rfl ?_
   refine WpL_nil (Wp_ret (thn_ret ?_))
   refine fin_agg_tmp Try.results11 (vs := [(.int .i64 0), (.int .i64 0), (.slice none 0 0), (.slice none 0 0), (.slice none 0 0)]) (b := br) (v' := (.int .i64 3)) rfl agg26 siz26 rfl (Br.cells rfl) rfl ?_
   exact ⟨nfR_zero (.inr (.inl ⟨hc1, by omega, rfl, rfl⟩)), E⟩
  ·have khlen := hlen
   replace hlen := of_decide_eq_false hlen
   obtain ⟨x, hx⟩ : ∃ x, n.ends = [x] := by match h9 : n.ends, hlen with | [x], _ => exact ⟨x, rfl⟩ | [], h8 => simp at h8 | _ :: _ :: _, h8 => simp at h8; omega
   obtain ⟨eb, eo, rfl, hec⟩ := ints_cells hen (by omega)
   have hec0 := hec 0 x (by rw [hx]; rfl)
   obtain ⟨z0, hz0⟩ : ∃ z0, z0 = (w9).heap.size := ⟨_, rfl⟩
   refine Wp_skip (thn_normal ?_)
   have hz_5 : w0.heap.size ≤ w9.heap.size := E.size
   have lz_5_bn : bn < w9.heap.size := Bn.lt
   have lz_5_br : br < w9.heap.size := Br.lt
   refine Wp_seq ?_
   obtain ⟨Fs5, hFs5⟩ : ∃ Fs : List FctS, Fs = [(fun _ _ v _ => v = (P6 bn 0)), (fun _ _ v _ => v = (I6 n.states)), (fun _ _ v _ => v = (P6 bn 2)), (fun _ _ v _ => v = (.slice (some ⟨eb, eo, none⟩) n.ends.length ec)), (fun _ _ v _ => v = (.pointer (some ⟨eb, eo + 0, none⟩))), (fun _ _ v _ => v = (I6 x)), (fun _ _ v _ => v = (P6 bn 1)), (fun _ _ v _ => v = (I6 n.start)), (fun _ _ => litF TDI #[.int .i64 n.start] z0), (fun _ _ => rvG n.states x n.start z0), (fun _ _ => alF 26 #[(I6 0), (I6 0), (.slice none 0 0), (.slice none 0 0), (.slice none 0 0)] w9.heap.size), (fun _ _ v _ => v = undef)] := ⟨_, rfl⟩
   refine Wp_dagS (MsL []) [true, true, true, true, true, true, true, true, true, true, true, false] [11] [21, 22, 23, 24, 25, 26, 27, 28, 29, 30, 5, 82] [[], [0], [], [2], [3], [4], [], [6], [7], [1, 5, 8], [], []] [[], [0], [], [2], [3, 2], [4, 3, 2], [], [6], [7, 6], [1, 0, 5, 4, 3, 2, 8, 7, 6], [], []] Fs5 hFs5 (by kernel_rfl) mixed (by kernel_rfl) (by kernel_rfl) (by kernel_rfl) (by kernel_rfl) ?_ ?_
   ·intro wd X0
    refine qZ (fun S s' w' hi hN X U V H => ?_) ?_
    ·replace X := X.mono (M' := none1) (fun y _ h => by
       obtain ⟨j, hj, h⟩ := h
       exact h.elim)
     exact DoesT_pure (r_fieldAddr (b := bn) (o := 0) (o' := 0) (U 1 rfl) Try.underlying26 rfl siz3 rfl) rfl
    refine qZ (fun S s' w' hi hN X U V H => ?_) ?_
    ·replace X := X.mono (M' := none1) (fun y _ h => by
       obtain ⟨j, hj, h⟩ := h
       exact h.elim)
     have e21 : s' 21 = (.pointer (some ⟨bn, 0, none⟩)) := (H 0 rfl).2 21 (fun _ _ v _ => v = (.pointer (some ⟨bn, 0, none⟩))) rfl (by rw [hFs5]; rfl)
     exact DoesT_pure (r_load (v := (I6 n.states)) e21 flat3 (((X0.trans X).keep Bn).cell rfl)) rfl
    refine qZ (fun S s' w' hi hN X U V H => ?_) ?_
    ·replace X := X.mono (M' := none1) (fun y _ h => by
       obtain ⟨j, hj, h⟩ := h
       exact h.elim)
     exact DoesT_pure (r_fieldAddr (b := bn) (o := 0) (o' := 2) (U 1 rfl) Try.underlying26 rfl siz22 rfl) rfl
    refine qZ (fun S s' w' hi hN X U V H => ?_) ?_
    ·replace X := X.mono (M' := none1) (fun y _ h => by
       obtain ⟨j, hj, h⟩ := h
       exact h.elim)
     have e23 : s' 23 = (.pointer (some ⟨bn, 2, none⟩)) := (H 2 rfl).2 23 (fun _ _ v _ => v = (.pointer (some ⟨bn, 2, none⟩))) rfl (by rw [hFs5]; rfl)
     exact DoesT_pure (r_load (v := (.slice (some ⟨eb, eo, none⟩) n.ends.length ec)) e23 flat22 (((X0.trans X).keep Bn).cell rfl)) rfl
    refine qZ (fun S s' w' hi hN X U V H => ?_) ?_
    ·replace X := X.mono (M' := none1) (fun y _ h => by
       obtain ⟨j, hj, h⟩ := h
       exact h.elim)
     have e24 : s' 24 = (.slice (some ⟨eb, eo, none⟩) n.ends.length ec) := (H 3 rfl).2 24 (fun _ _ v _ => v = (.slice (some ⟨eb, eo, none⟩) n.ends.length ec)) rfl (by rw [hFs5]; rfl)
     exact DoesT_pure (r_indexSlice (b := eb) (o := eo) (len := n.ends.length) (cap := ec) (i := 0) (o' := eo + 0) e24 rfl rfl Try.underlying22 siz3 (by omega) (by omega)) rfl
    refine qZ (fun S s' w' hi hN X U V H => ?_) ?_
    ·replace X := X.mono (M' := none1) (fun y _ h => by
       obtain ⟨j, hj, h⟩ := h
       exact h.elim)
     have e25 : s' 25 = (.pointer (some ⟨eb, eo + 0, none⟩)) := (H 4 rfl).2 25 (fun _ _ v _ => v = (.pointer (some ⟨eb, eo + 0, none⟩))) rfl (by rw [hFs5]; rfl)
     exact DoesT_pure (r_load (v := (I6 x)) e25 flat3 (by simpa using (Chg.ext E (X0.trans X)).cell (fun f => f) hec0)) rfl
    refine qZ (fun S s' w' hi hN X U V H => ?_) ?_
    ·replace X := X.mono (M' := none1) (fun y _ h => by
       obtain ⟨j, hj, h⟩ := h
       exact h.elim)
     exact DoesT_pure (r_fieldAddr (b := bn) (o := 0) (o' := 1) (U 1 rfl) Try.underlying26 rfl siz3 rfl) rfl
    refine qZ (fun S s' w' hi hN X U V H => ?_) ?_
    ·replace X := X.mono (M' := none1) (fun y _ h => by
       obtain ⟨j, hj, h⟩ := h
       exact h.elim)
     have e27 : s' 27 = (.pointer (some ⟨bn, 1, none⟩)) := (H 6 rfl).2 27 (fun _ _ v _ => v = (.pointer (some ⟨bn, 1, none⟩))) rfl (by rw [hFs5]; rfl)
     exact DoesT_pure (r_load (v := (I6 n.start)) e27 flat3 (((X0.trans X).keep Bn).cell rfl)) rfl
    refine DagStepsS.cons (StabS.chg (U := none1) (litF_ext _ _ _) (fun p y hp hw h => by
       exact h.elim)) (LocS.const) (fun S s' w' hi hN X U V H => Or.inl ⟨Guarded_none rfl, ?_⟩) ?_
    ·replace X := X.mono (M' := none1) (fun y _ h => by
       obtain ⟨j, hj, h⟩ := h
       exact h.elim)
     have e28 : s' 28 = (.int .i64 n.start) := (H 7 rfl).2 28 (fun _ _ v _ => v = (.int .i64 n.start)) rfl (by rw [hFs5]; rfl)
     exact DoesT_lit (hs := z0) Try.underlying22 siz3 zer3 e28 (by decide) (by decide) (by kernel_rfl) (by have := X0.size; have := X.size; omega)
    refine DagStepsS.cons (StabS.chg (U := none1) (rvG_ext) (fun p y hp hw h => by
       exact h.elim)) (LocS.const) (fun S s' w' hi hN X U V H => Or.inl ⟨Guarded_none rfl, ?_⟩) ?_
    ·replace X := X.mono (M' := none1) (fun y _ h => by
       obtain ⟨j, hj, h⟩ := h
       exact h.elim)
     have e22 : s' 22 = (.int .i64 n.states) := (H 1 rfl).2 22 (fun _ _ v _ => v = (.int .i64 n.states)) rfl (by rw [hFs5]; rfl)
     have e26 : s' 26 = (.int .i64 x) := (H 5 rfl).2 26 (fun _ _ v _ => v = (.int .i64 x)) rfl (by rw [hFs5]; rfl)
     obtain ⟨b29, e29, B29, g29⟩ := (show ((fun _ _ => litF TDI #[.int .i64 n.start] z0) : FctS) S s' (s' 29) w' from (H 8 rfl).2 29 (fun _ _ => litF TDI #[.int .i64 n.start] z0) rfl (by rw [hFs5]; rfl))
     exact DoesT_pure (r_build (ps := [(0, .int .i64 n.states), (1, .int .i64 x), (2, .slice (some ⟨b29, 0, none⟩) 1 1)]) (v := .agg #[.int .i64 n.states, .int .i64 x, .slice (some ⟨b29, 0, none⟩) 1 1, .slice none 0 0, .slice none 0 0]) (bld3 e22 e26 e29) (by kernel_rfl)) ⟨b29, rfl, B29, g29⟩
    refine DagStepsS.cons (StabS.chg (U := none1) (fun v w w' x h => alF_ext _ _ _ v w w' x h) (fun p y hp hw h => by
       exact h.elim)) (LocS.const) (fun S s' w' hi hN X U V H => Or.inl ⟨Guarded_none rfl, ?_⟩) ?_
    ·replace X := X.mono (M' := none1) (fun y _ h => by
       obtain ⟨j, hj, h⟩ := h
       exact h.elim)
     exact DoesT_alloc (c := #[(I6 0), (I6 0), (.slice none 0 0), (.slice none 0 0), (.slice none 0 0)]) zer26 rfl (by have := X0.size; have := X.size; omega)
    refine DagStepsS.tail ?_
    exact DagStepsS.nil
   ·intro s' wd5 w5 X0 X5 U H
    replace X5 := X5.mono (M' := none1) (fun y _ h => by
      obtain ⟨j, hj, h⟩ := h
      exact h.elim)
    obtain ⟨b30, e30, B30, g30⟩ := (show ((fun _ _ => rvG n.states x n.start z0) : FctS) (allS [true, true, true, true, true, true, true, true, true, true, true, false]) s' (s' 30) w5 from H 9 rfl 30 (fun _ _ => rvG n.states x n.start z0) rfl (by rw [hFs5]; rfl))
    obtain ⟨b5, e5, B5, g5⟩ := (show ((fun _ _ => alF 26 #[(.int .i64 0), (.int .i64 0), (.slice none 0 0), (.slice none 0 0), (.slice none 0 0)] w9.heap.size) : FctS) (allS [true, true, true, true, true, true, true, true, true, true, true, false]) s' (s' 5) w5 from H 10 rfl 5 (fun _ _ => alF 26 #[(.int .i64 0), (.int .i64 0), (.slice none 0 0), (.slice none 0 0), (.slice none 0 0)] w9.heap.size) rfl (by rw [hFs5]; rfl))
    obtain ⟨j5, rfl⟩ := Fits.out (σ := s') (l := [(1, (.pointer (some ⟨bn, 0, none⟩))), (2, (.pointer (some ⟨br, 0, none⟩))), (30, (.agg #[(.int .i64 n.states), (.int .i64 x), (.slice (some ⟨b30, 0, none⟩) 1 1), (.slice none 0 0), (.slice none 0 0)])), (5, (.pointer (some ⟨b5, 0, none⟩)))]) ⟨U 1 rfl, U 2 rfl, e30, e5, trivial⟩
    clear U H
    replace Bn := (X0.trans X5).keep Bn
    replace Br := (X0.trans X5).keep Br
    replace X5 := X0.trans X5
    replace E := E.ext X5
    have hne5 : b30 ≠ b5 := fun e => by have h8 := B30; rw [e] at h8; unfold Blk at h8 B5; rw [h8] at B5; simp at B5
    refine s_storeAgg (b := b5) (o := 0) (c' := #[(I6 n.states), (I6 x), (.slice (some ⟨b30, 0, none⟩) 1 1), (.slice none 0 0), (.slice none 0 0)]) rfl rfl (by simp [Value.oneCell']) siz26 rfl B5 (by first | (simp; done) | exact Nat.le_of_ble_eq_true rfl) rfl ?_
    intro w6 S6
    replace Bn := S6.keep (by omega) Bn
    replace Br := S6.keep (by omega) Br
    replace B30 := S6.keep (by omega) B30
    replace E := S6.step E (by first | exact Or.inl (by omega) | exact Or.inr rfl | exact Or.inr (by assumption) | exact Or.inr (by simp) | exact Or.inr (by omega) | exact Or.inr (by dsimp only; omega))
    replace B5 := S6.blk
    refine WpL_nil (thn_normal (Wp_seq (Wp_seq_region ?_)))
    refine qF bn 0 3 rfl Try.underlying26 rfl siz23 rfl ?_
    refine qV (r_load (v := (.slice pa n.eps.length pc)) rfl flat23 (Bn.cell rfl)) ?_
    refine qV (r_lenSlice (ad := pa) (n := n.eps.length) (cap := pc) Try.underlying23 rfl) ?_
    refine qM (I6 0) rfl ?_
    refine WpL_nil (Wp_block ?_)
    obtain ⟨n3, hn3e⟩ : ∃ n3, n3 = (w6).heap.size := ⟨_, rfl⟩
    have hb3 : b5 < n3 ∧ br < n3 ∧ bn < n3 ∧ b30 < n3 ∧ w0.heap.size ≤ n3 := ⟨by rw [hn3e]; exact B5.lt, by rw [hn3e]; exact Br.lt, by rw [hn3e]; exact Bn.lt, by rw [hn3e]; exact B30.lt, by rw [hn3e]; exact E.size⟩
    refine Wp_loop (fun nn_ σ W7 => ∃ (k : Nat) (pa2 : Option Addr) (pc2 : Nat), (∃ jj_, σ = upds jj_ [(1, (P6 bn 0)), (2, (P6 br 0)), (5, (P6 b5 0)), (32, (.slice pa n.eps.length pc)), (33, (I6 (n.eps.length : Int))), (34, (I6 (k : Int)))]) ∧ Chg none1 w0 W7 ∧ Blk W7 bn #[(I6 n.states), (I6 n.start), (.slice (some ⟨eb, eo, none⟩) n.ends.length ec), (.slice pa n.eps.length pc), (.slice xa n.edges.length xc)] 26 ∧ Blk W7 br #[(I6 0), (I6 0), (.slice none 0 0), (.slice none 0 0), (.slice none 0 0)] 26 ∧ Blk W7 b5 (#[Value.int .i64 n.states, .int .i64 x, .slice (some ⟨b30, 0, none⟩) 1 1, .slice pa2 k pc2, .slice none 0 0]) 26 ∧ Blk W7 b30 #[(I6 n.start)] TDI ∧ (k ≤ n.eps.length) ∧ (W7.ownsRow n3 TPr 2 (.slice pa2 k pc2) k (((n.eps.take k).map swp).map spanV).flatten) ∧ (n3 ≤ W7.heap.size) ∧ nn_ = n.eps.length - k) (n := n.eps.length - 0) ?_ ?_
    ·exact ⟨0, none, 0, Fits.out ⟨rfl, rfl, rfl, rfl, rfl, rfl, trivial⟩, E, Bn, Br, B5, B30, Nat.zero_le _, World.ownsRow_nil _ _ _ _, (by omega), rfl⟩
    ·clear E Bn Br B5 B30
     rintro _ _ W7 ⟨k, pa2, pc2, ⟨j7, rfl⟩, E, Bn, Br, B5, B30, hk, hown, hs3, rfl⟩
     refine Wp_seq_region ?_
     refine qV (r_lss (k := .i64) (a := (k : Int)) (b := (n.eps.length : Int)) rfl rfl) ?_
     refine WpL_nil (Wp_seq ?_)
     refine Wp_cond (b := decide (((k : Int) : Int) < (n.eps.length : Int))) rfl (fun hlt => ?_) (fun hlt => ?_)
     ·have khlt := hlt
      replace hlt := of_decide_eq_true hlt
      obtain ⟨p, hp⟩ := get_of_lt (l := n.eps) (i := k) (by omega)
      obtain ⟨pb, po, rfl, hpc⟩ := spans_cells hep (by omega)
      refine Wp_skip (thn_normal (Wp_seq (Wp_block (Wp_seq_region ?_))))
      refine qV (r_indexSlice (b := pb) (o := po) (len := n.eps.length) (cap := pc) (i := k) (o' := po + k * 2) rfl rfl rfl Try.underlying23 siz41 (by omega) (by omega)) ?_
      refine qV (r_loadAgg (vs := [(I6 p.1), (I6 p.2)]) rfl agg41 siz41 rfl ((hpc k p hp).ext E)) ?_
      refine s_allocStore (v := (.agg #[(I6 p.1), (I6 p.2)])) (c := #[(I6 p.1), (I6 p.2)]) (n := 2) (by decide) zer41 rfl siz41 rfl rfl rfl (by simp [Value.oneCell']) ?_
      intro bu wu Nu
      have Fu := Nu.ge E
      have Ou_bn := Nu.lt Bn
      have Ou_br := Nu.lt Br
      have Ou_b5 := Nu.lt B5
      have Ou_b30 := Nu.lt B30
      replace Bn := Nu.keep Bn
      replace Br := Nu.keep Br
      replace B5 := Nu.keep B5
      replace B30 := Nu.keep B30
      replace hown := own_ext hown Nu.ext
      replace hs3 := Nat.le_trans hs3 Nu.ext.size
      replace E := E.ext Nu.ext
      have Bu := Nu.blk
      refine WpL_nil (Wp_region ?_)
      refine qF b5 0 3 rfl Try.underlying26 rfl siz23 rfl ?_
      refine qV (r_load (v := (.slice pa2 k pc2)) rfl flat23 (B5.cell rfl)) ?_
      refine qV (r_indexArr (b := bu) (o := 0) (i := 1) (o' := 1) rfl rfl rfl Try.underlying41 siz3 (by omega) (by omega)) ?_
      refine qV (r_load (v := (I6 p.2)) rfl flat3 (Bu.cell rfl)) ?_
      refine qV (r_indexArr (b := bu) (o := 0) (i := 0) (o' := 0) rfl rfl rfl Try.underlying41 siz3 (by omega) (by omega)) ?_
      refine qV (r_load (v := (I6 p.1)) rfl flat3 (Bu.cell rfl)) ?_
      refine qV (r_build (ps := [(0, (I6 p.2)), (1, (I6 p.1))]) (v := (.agg #[(I6 p.2), (I6 p.1)])) rfl (by kernel_rfl)) ?_
      refine s_buildSlice (ps := [(0, (.agg #[(I6 p.2), (I6 p.1)]))]) (c := #[(I6 p.2), (I6 p.1)]) (by decide) rfl Try.underlying23 siz41 zer41 (by decide) (by decide) (by kernel_rfl) ?_
      intro bv wv Nv
      have Fv := Nv.ge E
      have Ov_bn := Nv.lt Bn
      have Ov_br := Nv.lt Br
      have Ov_b5 := Nv.lt B5
      have Ov_b30 := Nv.lt B30
      have Ov_bu := Nv.lt Bu
      replace Bn := Nv.keep Bn
      replace Br := Nv.keep Br
      replace B5 := Nv.keep B5
      replace B30 := Nv.keep B30
      replace Bu := Nv.keep Bu
      replace hown := own_ext hown Nv.ext
      replace hs3 := Nat.le_trans hs3 Nv.ext.size
      replace E := E.ext Nv.ext
      have Bv := Nv.blk
      refine s_append (base := n3) (n := k) (m := 1) (xs := (((n.eps.take k).map swp).map spanV).flatten) (news := [(I6 p.2), (I6 p.1)]) (size := 2) (bytes := 16) (v := (.slice pa2 k pc2)) (by decide) Try.underlying23 siz41 byt41 zer41 rfl (by decide) rfl hown rfl (rfl) (Bv.cells rfl) (by simp [Value.oneCell']) (by unfold maxLen; omega) (by omega) (hs3) ?_
      intro v7 w59 Ov7 Cv7 Dv7
      replace Bn := Cv7.keep (fun h => by have := (hown.lt _ h).1; omega) Bn
      replace Br := Cv7.keep (fun h => by have := (hown.lt _ h).1; omega) Br
      replace B5 := Cv7.keep (fun h => by have := (hown.lt _ h).1; omega) B5
      replace B30 := Cv7.keep (fun h => by have := (hown.lt _ h).1; omega) B30
      replace E := E.step Cv7 (fun x hx h => absurd (hown.lt x h).1 (by omega))
      obtain ⟨pa3, pc3, rfl⟩ := own_form Ov7
      have hO7 := Ov7
      have hs7 := Nat.le_trans hs3 Cv7.size
      refine qF b5 0 3 rfl Try.underlying26 rfl siz23 rfl ?_
      refine s_store (b := b5) (o := 3) (c' := #[(I6 n.states), (I6 x), (.slice (some ⟨b30, 0, none⟩) 1 1), (.slice pa3 (k + 1) pc3), (.slice none 0 0)]) (v := (.slice pa3 (k + 1) pc3)) rfl rfl rfl siz23 B5 (by simp) rfl ?_
      intro w9 S9
      replace hO7 := own_chg hO7 S9.chg fun y hy h => by have h' : y = b5 := h; have := (hO7.lt y hy).1; omega
      replace hs7 := Nat.le_trans hs7 S9.chg.size
      replace Bn := S9.keep (by omega) Bn
      replace Br := S9.keep (by omega) Br
      replace B30 := S9.keep (by omega) B30
      replace E := S9.step E (by first | exact Or.inl (by omega) | exact Or.inr rfl | exact Or.inr (by assumption) | exact Or.inr (by simp) | exact Or.inr (by omega) | exact Or.inr (by dsimp only; omega))
      replace B5 := S9.blk
      refine WpL_nil (inB_normal (thn_normal (Wp_region ?_)))
      refine qV (r_add (k := .i64) (a := (k : Int)) (b := 1) (c := (k : Int) + 1) rfl rfl (wI64 (by omega))) ?_
      refine qM (I6 ((k : Int) + 1)) rfl ?_
      refine WpL_nil (thn_normal ?_)
      exact ⟨n.eps.length - (k + 1), by omega, k + 1, pa3, pc3, Fits.out ⟨rfl, rfl, rfl, rfl, rfl, rfl, trivial⟩, E, Bn, Br, B5, B30, (by omega), (by rw [map_take swp hp]; simpa [spanV, List.map_append, List.flatten_append] using hO7), hs7, rfl⟩
     ·have khlt := hlt
      replace hlt := of_decide_eq_false hlt
      have hkk : k = n.eps.length := by omega
      subst hkk
      rw [List.take_length] at hown
      refine Wp_exit (thn_exit (thn_exit (inB_here (thn_normal (Wp_seq (Wp_seq_region ?_))))))
      refine qF bn 0 4 rfl Try.underlying26 rfl siz24 rfl ?_
      refine qV (r_load (v := (.slice xa n.edges.length xc)) rfl flat24 (Bn.cell rfl)) ?_
      refine qV (r_lenSlice (ad := xa) (n := n.edges.length) (cap := xc) Try.underlying24 rfl) ?_
      refine qM (I6 0) rfl ?_
      refine WpL_nil (Wp_block ?_)
      refine Wp_loop (fun nn_ σ W10 => ∃ (j : Nat) (F : Nat → Prop) (xa2 : Option Addr) (xc2 : Nat), (∃ jj_, σ = upds jj_ [(2, (P6 br 0)), (5, (P6 b5 0)), (50, (.slice xa n.edges.length xc)), (51, (I6 (n.edges.length : Int))), (52, (I6 (j : Int)))]) ∧ Chg none1 w0 W10 ∧ Blk W10 bn #[(I6 n.states), (I6 n.start), (.slice (some ⟨eb, eo, none⟩) n.ends.length ec), (.slice pa n.eps.length pc), (.slice xa n.edges.length xc)] 26 ∧ Blk W10 br #[(I6 0), (I6 0), (.slice none 0 0), (.slice none 0 0), (.slice none 0 0)] 26 ∧ Blk W10 b5 (#[Value.int .i64 n.states, .int .i64 x, .slice (some ⟨b30, 0, none⟩) 1 1, .slice pa2 n.eps.length pc2, .slice xa2 j xc2]) 26 ∧ Blk W10 b30 #[(I6 n.start)] TDI ∧ (j ≤ n.edges.length) ∧ (W10.ownsRow n3 TPr 2 (.slice pa2 n.eps.length pc2) n.eps.length ((n.eps.map swp).map spanV).flatten) ∧ (EdB F W10 n3 (.slice xa2 j xc2) ((n.edges.take j).map swe)) ∧ (n3 ≤ W10.heap.size) ∧ nn_ = n.edges.length - j) (n := n.edges.length - 0) ?_ ?_
      ·exact ⟨0, _, none, 0, Fits.out ⟨rfl, rfl, rfl, rfl, rfl, trivial⟩, E, Bn, Br, B5, B30, Nat.zero_le _, hown, EdB.start _ _, hs3, rfl⟩
      ·clear E Bn Br B5 B30
       rintro _ _ W10 ⟨j, F, xa2, xc2, ⟨j10, rfl⟩, E, Bn, Br, B5, B30, hj, hown2, hX, hs4, rfl⟩
       refine Wp_seq_region ?_
       refine qV (r_lss (k := .i64) (a := (j : Int)) (b := (n.edges.length : Int)) rfl rfl) ?_
       refine WpL_nil (Wp_seq ?_)
       refine Wp_cond (b := decide (((j : Int) : Int) < (n.edges.length : Int))) rfl (fun hlt2 => ?_) (fun hlt2 => ?_)
       ·have khlt2 := hlt2
        replace hlt2 := of_decide_eq_true hlt2
        obtain ⟨e, he⟩ := get_of_lt (l := n.edges) (i := j) (by omega)
        obtain ⟨xb, xo, rfl, hxc⟩ := edges_cells hed (by omega)
        obtain ⟨ra, rc, hcell, hsp⟩ := hxc j e he
        have hsl : e.2.2.length ≤ 16 := by have h9 := (ok.ed e (List.mem_of_getElem? he)).2.2; unfold checkE at h9; split at h9; cases h9; omega
        have hlt9 : ∀ y, (Value.slice xa2 j xc2).ownBlock = some y → y < (W10).heap.size := fun y hy => by obtain ⟨⟨rows, h1, _⟩, _⟩ := hX; exact (h1.lt y hy).2
        have E4 : Chg none1 W10 W10 := Chg.refl _ _
        refine Wp_skip (thn_normal (Wp_seq (Wp_block (Wp_seq_region ?_))))
        refine qV (r_indexSlice (b := xb) (o := xo) (len := n.edges.length) (cap := xc) (i := j) (o' := xo + j * 3) rfl rfl rfl Try.underlying24 siz40 (by omega) (by omega)) ?_
        refine qV (r_loadAgg (vs := [(I6 e.1), (I6 e.2.1), (.slice ra e.2.2.length rc)]) rfl agg40 siz40 rfl (hcell.ext E)) ?_
        refine s_allocStore (v := (.agg #[(I6 e.1), (I6 e.2.1), (.slice ra e.2.2.length rc)])) (c := #[(I6 e.1), (I6 e.2.1), (.slice ra e.2.2.length rc)]) (n := 3) (by decide) zer40 rfl siz40 rfl rfl rfl (by simp [Value.oneCell']) ?_
        intro bu wu Nu
        have Fu := Nu.ge E
        have Fu_E4 := Nu.ge E4
        have Ou_bn := Nu.lt Bn
        have Ou_br := Nu.lt Br
        have Ou_b5 := Nu.lt B5
        have Ou_b30 := Nu.lt B30
        replace Bn := Nu.keep Bn
        replace Br := Nu.keep Br
        replace B5 := Nu.keep B5
        replace B30 := Nu.keep B30
        replace E := E.ext Nu.ext
        have Bu := Nu.blk
        replace E4 := E4.ext Nu.ext
        refine WpL_nil ?_
        replace hX := hX.ext E4
        replace hown2 := own_ext hown2 E4
        replace hs4 := Nat.le_trans hs4 E4.size
        obtain ⟨⟨rows, hownX, hrows⟩, hxF, hFl⟩ := hX
        have hlX : ((n.edges.take j).map swe).length = j := by rw [List.length_map, List.length_take]; omega
        rw [hlX] at hownX
        obtain ⟨z1, hz1⟩ : ∃ z1, z1 = (wu).heap.size := ⟨_, rfl⟩
        have hxu : ¬ (Value.slice xa2 j xc2).ownBlock = some bu := fun h => by have := hlt9 _ h; have := Nu.eq; omega
        have hz_12 : w0.heap.size ≤ wu.heap.size := E.size
        have lz_12_bn : bn < wu.heap.size := Bn.lt
        have lz_12_br : br < wu.heap.size := Br.lt
        have lz_12_b5 : b5 < wu.heap.size := B5.lt
        have lz_12_b30 : b30 < wu.heap.size := B30.lt
        have lz_12_bu : bu < wu.heap.size := Bu.lt
        obtain ⟨Fs12, hFs12⟩ : ∃ Fs : List FctS, Fs = [(fun _ _ v _ => v = (P6 b5 4)), (fun _ _ v _ => v = (.slice xa2 j xc2)), (fun _ _ v _ => v = (P6 bu 1)), (fun _ _ v _ => v = (I6 e.2.1)), (fun _ _ v _ => v = (P6 bu 0)), (fun _ _ v _ => v = (I6 e.1)), (fun _ _ v _ => v = (P6 bu 2)), (fun _ _ v _ => v = (.slice ra e.2.2.length rc)), (fun _ _ => cloG e.2.2 z1), (fun _ _ => edG e.2.1 e.1 e.2.2 z1), (fun _ _ => elG e.2.1 e.1 e.2.2 z1), (fun _ _ => apG n3 j rows.flatten (.slice xa2 j xc2) z1 e.2.1 e.1 e.2.2), (fun _ _ v _ => v = undef), (fun _ _ v _ => v = undef)] := ⟨_, rfl⟩
        refine Wp_dagS (MsL [(11, (fun q => (Value.slice xa2 j xc2).ownBlock = some q))]) [true, true, true, true, true, true, true, true, true, true, true, true, false, false] [12, 13] [56, 57, 58, 59, 60, 61, 62, 63, 64, 65, 66, 67, 83, 84] [[], [0], [], [2], [], [4], [], [6], [7], [3, 5, 8], [9], [1, 8, 10], [], []] [[], [0], [], [2], [], [4], [], [6], [7, 6], [3, 2, 5, 4, 8, 7, 6], [9, 3, 2, 5, 4, 8, 7, 6], [1, 0, 8, 7, 6, 10, 9, 3, 2, 5, 4], [], []] Fs12 hFs12 (by kernel_rfl) mixed (by kernel_rfl) (by kernel_rfl) (by kernel_rfl) (by kernel_rfl) ?_ ?_
        ·intro wd X0
         refine qZ (fun S s' w' hi hN X U V H => ?_) ?_
         ·replace X := X.mono (M' := none1) (fun y _ h => by
            obtain ⟨j, hj, h⟩ := h
            rcases MsL_or h with ⟨rfl, h0⟩ | h0
            ·exact Bool.noConfusion (hj.symm.trans (hN 11 rfl))
            exact h0.elim)
          exact DoesT_pure (r_fieldAddr (b := b5) (o := 0) (o' := 4) (U 5 rfl) Try.underlying26 rfl siz24 rfl) rfl
         refine qZ (fun S s' w' hi hN X U V H => ?_) ?_
         ·replace X := X.mono (M' := none1) (fun y _ h => by
            obtain ⟨j, hj, h⟩ := h
            rcases MsL_or h with ⟨rfl, h0⟩ | h0
            ·exact Bool.noConfusion (hj.symm.trans (hN 11 rfl))
            exact h0.elim)
          have e56 : s' 56 = (.pointer (some ⟨b5, 4, none⟩)) := (H 0 rfl).2 56 (fun _ _ v _ => v = (.pointer (some ⟨b5, 4, none⟩))) rfl (by rw [hFs12]; rfl)
          exact DoesT_pure (r_load (v := (.slice xa2 j xc2)) e56 flat24 (((X0.trans X).keep B5).cell rfl)) rfl
         refine qZ (fun S s' w' hi hN X U V H => ?_) ?_
         ·replace X := X.mono (M' := none1) (fun y _ h => by
            obtain ⟨j, hj, h⟩ := h
            rcases MsL_or h with ⟨rfl, h0⟩ | h0
            ·exact Bool.noConfusion (hj.symm.trans (hN 11 rfl))
            exact h0.elim)
          exact DoesT_pure (r_fieldAddr (b := bu) (o := 0) (o' := 1) (U 9 rfl) Try.underlying40 rfl siz3 rfl) rfl
         refine qZ (fun S s' w' hi hN X U V H => ?_) ?_
         ·replace X := X.mono (M' := none1) (fun y _ h => by
            obtain ⟨j, hj, h⟩ := h
            rcases MsL_or h with ⟨rfl, h0⟩ | h0
            ·exact Bool.noConfusion (hj.symm.trans (hN 11 rfl))
            exact h0.elim)
          have e58 : s' 58 = (.pointer (some ⟨bu, 1, none⟩)) := (H 2 rfl).2 58 (fun _ _ v _ => v = (.pointer (some ⟨bu, 1, none⟩))) rfl (by rw [hFs12]; rfl)
          exact DoesT_pure (r_load (v := (I6 e.2.1)) e58 flat3 (((X0.trans X).keep Bu).cell rfl)) rfl
         refine qZ (fun S s' w' hi hN X U V H => ?_) ?_
         ·replace X := X.mono (M' := none1) (fun y _ h => by
            obtain ⟨j, hj, h⟩ := h
            rcases MsL_or h with ⟨rfl, h0⟩ | h0
            ·exact Bool.noConfusion (hj.symm.trans (hN 11 rfl))
            exact h0.elim)
          exact DoesT_pure (r_fieldAddr (b := bu) (o := 0) (o' := 0) (U 9 rfl) Try.underlying40 rfl siz3 rfl) rfl
         refine qZ (fun S s' w' hi hN X U V H => ?_) ?_
         ·replace X := X.mono (M' := none1) (fun y _ h => by
            obtain ⟨j, hj, h⟩ := h
            rcases MsL_or h with ⟨rfl, h0⟩ | h0
            ·exact Bool.noConfusion (hj.symm.trans (hN 11 rfl))
            exact h0.elim)
          have e60 : s' 60 = (.pointer (some ⟨bu, 0, none⟩)) := (H 4 rfl).2 60 (fun _ _ v _ => v = (.pointer (some ⟨bu, 0, none⟩))) rfl (by rw [hFs12]; rfl)
          exact DoesT_pure (r_load (v := (I6 e.1)) e60 flat3 (((X0.trans X).keep Bu).cell rfl)) rfl
         refine qZ (fun S s' w' hi hN X U V H => ?_) ?_
         ·replace X := X.mono (M' := none1) (fun y _ h => by
            obtain ⟨j, hj, h⟩ := h
            rcases MsL_or h with ⟨rfl, h0⟩ | h0
            ·exact Bool.noConfusion (hj.symm.trans (hN 11 rfl))
            exact h0.elim)
          exact DoesT_pure (r_fieldAddr (b := bu) (o := 0) (o' := 2) (U 9 rfl) Try.underlying40 rfl siz30 rfl) rfl
         refine qZ (fun S s' w' hi hN X U V H => ?_) ?_
         ·replace X := X.mono (M' := none1) (fun y _ h => by
            obtain ⟨j, hj, h⟩ := h
            rcases MsL_or h with ⟨rfl, h0⟩ | h0
            ·exact Bool.noConfusion (hj.symm.trans (hN 11 rfl))
            exact h0.elim)
          have e62 : s' 62 = (.pointer (some ⟨bu, 2, none⟩)) := (H 6 rfl).2 62 (fun _ _ v _ => v = (.pointer (some ⟨bu, 2, none⟩))) rfl (by rw [hFs12]; rfl)
          exact DoesT_pure (r_load (v := (.slice ra e.2.2.length rc)) e62 flat30 (((X0.trans X).keep Bu).cell rfl)) rfl
         refine DagStepsS.cons (StabS.chg (U := (fun y => (fun q => (Value.slice xa2 j xc2).ownBlock = some q) y)) (cloG_chg (fun q h => by have := (hownX.lt q h).2; omega)) (fun p y hp hw h => by
            rcases MsL_or h with ⟨rfl, h0⟩ | h0
            ·exact h0
            exact h0.elim)) (LocS.const) (fun S s' w' hi hN X U V H => Or.inl ⟨Guarded_none rfl, ?_⟩) ?_
         ·replace X := X.mono (M' := none1) (fun y _ h => by
            obtain ⟨j, hj, h⟩ := h
            rcases MsL_or h with ⟨rfl, h0⟩ | h0
            ·exact Bool.noConfusion (hj.symm.trans (hN 11 rfl))
            exact h0.elim)
          have e63 : s' 63 = (.slice ra e.2.2.length rc) := (H 7 rfl).2 63 (fun _ _ v _ => v = (.slice ra e.2.2.length rc)) rfl (by rw [hFs12]; rfl)
          exact DoesT_callE (r_callF (vs := [(.slice ra e.2.2.length rc)]) Try.func40 nm40 bd40 (lst1 e63)) ((clones_c _ _ e.2.2 (SlAt.ext hsp (Ext.trans E (X0.trans X))) (by omega)).mono (fun v w h => ⟨(⟨h.1.1, own_low h.1.2 (by have := X0.size; have := X.size; omega)⟩ : cloG e.2.2 z1 v w), h.2⟩))
         refine DagStepsS.cons (StabS.chg (U := (fun y => (fun q => (Value.slice xa2 j xc2).ownBlock = some q) y)) (edG_chg (fun q h => by have := (hownX.lt q h).2; omega)) (fun p y hp hw h => by
            rcases MsL_or h with ⟨rfl, h0⟩ | h0
            ·exact h0
            exact h0.elim)) (LocS.const) (fun S s' w' hi hN X U V H => Or.inl ⟨Guarded_none rfl, ?_⟩) ?_
         ·replace X := X.mono (M' := none1) (fun y _ h => by
            obtain ⟨j, hj, h⟩ := h
            rcases MsL_or h with ⟨rfl, h0⟩ | h0
            ·exact Bool.noConfusion (hj.symm.trans (hN 11 rfl))
            exact h0.elim)
          have e59 : s' 59 = (.int .i64 e.2.1) := (H 3 rfl).2 59 (fun _ _ v _ => v = (.int .i64 e.2.1)) rfl (by rw [hFs12]; rfl)
          have e61 : s' 61 = (.int .i64 e.1) := (H 5 rfl).2 61 (fun _ _ v _ => v = (.int .i64 e.1)) rfl (by rw [hFs12]; rfl)
          obtain ⟨⟨a64, c64, e64⟩, O64⟩ := (show ((fun _ _ => cloG e.2.2 z1) : FctS) S s' (s' 64) w' from (H 8 rfl).2 64 (fun _ _ => cloG e.2.2 z1) rfl (by rw [hFs12]; rfl))
          exact DoesT_pure (r_build (ps := [(0, .int .i64 e.2.1), (1, .int .i64 e.1), (2, .slice a64 e.2.2.length c64)]) (v := .agg #[.int .i64 e.2.1, .int .i64 e.1, .slice a64 e.2.2.length c64]) (bld3 e59 e61 e64) (by kernel_rfl)) ⟨a64, c64, rfl, ⟨a64, c64, rfl⟩, e64 ▸ O64⟩
         refine DagStepsS.cons (StabS.chg (U := (fun y => (fun q => (Value.slice xa2 j xc2).ownBlock = some q) y)) (elG_chg (fun q h => by have := (hownX.lt q h).2; omega)) (fun p y hp hw h => by
            rcases MsL_or h with ⟨rfl, h0⟩ | h0
            ·exact h0
            exact h0.elim)) (LocS.const) (fun S s' w' hi hN X U V H => Or.inl ⟨Guarded_none rfl, ?_⟩) ?_
         ·replace X := X.mono (M' := none1) (fun y _ h => by
            obtain ⟨j, hj, h⟩ := h
            rcases MsL_or h with ⟨rfl, h0⟩ | h0
            ·exact Bool.noConfusion (hj.symm.trans (hN 11 rfl))
            exact h0.elim)
          obtain ⟨a65, c65, e65, O65⟩ := (show ((fun _ _ => edG e.2.1 e.1 e.2.2 z1) : FctS) S s' (s' 65) w' from (H 9 rfl).2 65 (fun _ _ => edG e.2.1 e.1 e.2.2 z1) rfl (by rw [hFs12]; rfl))
          exact DoesT_litE e65 (by have := X0.size; have := X.size; omega) O65
         refine DagStepsS.cons (StabS.chg (U := none1) (apG_ext _ _ _ _ _ _ _ _) (fun p y hp hw h => by
            rcases MsL_or h with ⟨rfl, h0⟩ | h0
            ·exact absurd rfl hp
            exact h0.elim)) (LocS.const) (fun S s' w' hi hN X U V H => Or.inl ⟨Guarded_none rfl, ?_⟩) ?_
         ·replace X := X.mono (M' := none1) (fun y _ h => by
            obtain ⟨j, hj, h⟩ := h
            rcases MsL_or h with ⟨rfl, h0⟩ | h0
            ·exact Bool.noConfusion (hj.symm.trans hi)
            exact h0.elim)
          have e57 : s' 57 = (.slice xa2 j xc2) := (H 1 rfl).2 57 (fun _ _ v _ => v = (.slice xa2 j xc2)) rfl (by rw [hFs12]; rfl)
          obtain ⟨b66, a66, c66, e66, B66, g66, O66⟩ := (show ((fun _ _ => elG e.2.1 e.1 e.2.2 z1) : FctS) S s' (s' 66) w' from (H 10 rfl).2 66 (fun _ _ => elG e.2.1 e.1 e.2.2 z1) rfl (by rw [hFs12]; rfl))
          exact DoesT_appE e57 (own_ext (own_ext hownX X0) X) e66 B66 O66 (by omega) (by have := X0.size; have := X.size; omega) (fun q h => .inl ⟨rfl, h⟩) (fun q h => by rcases h with h | h; exact (by have := (hownX.lt q h.2).2; omega); exact h.elim) (by have := X0.size; have := X.size; omega)
         refine DagStepsS.tail (DagStepsS.tail ?_)
         exact DagStepsS.nil
        ·intro s' wd12 w12 X0 X12 U H
         replace X12 := X12.mono (M' := (fun y => (fun q => (Value.slice xa2 j xc2).ownBlock = some q) y)) (fun y _ h => by
           obtain ⟨j, hj, h⟩ := h
           rcases MsL_or h with ⟨rfl, h0⟩ | h0
           ·exact h0
           exact h0.elim)
         obtain ⟨a67, c67, ⟨⟨u67, v67, e67⟩, O67, D67⟩, K67⟩ := (show ((fun _ _ => apG n3 j rows.flatten (.slice xa2 j xc2) z1 e.2.1 e.1 e.2.2) : FctS) (allS [true, true, true, true, true, true, true, true, true, true, true, true, false, false]) s' (s' 67) w12 from H 11 rfl 67 (fun _ _ => apG n3 j rows.flatten (.slice xa2 j xc2) z1 e.2.1 e.1 e.2.2) rfl (by rw [hFs12]; rfl))
         obtain ⟨j12, rfl⟩ := Fits.out (σ := s') (l := [(2, (.pointer (some ⟨br, 0, none⟩))), (5, (.pointer (some ⟨b5, 0, none⟩))), (50, (.slice (some ⟨xb, xo, none⟩) n.edges.length xc)), (51, (.int .i64 ((n.edges.length : Nat) : Int))), (52, (.int .i64 ((j : Nat) : Int))), (67, (.slice u67 (j + 1) v67))]) ⟨U 2 rfl, U 5 rfl, U 50 rfl, U 51 rfl, U 52 rfl, e67, trivial⟩
         clear U H
         replace Bn := Chg.keep X12 (fun h => by have := (hownX.lt _ h).1; omega) (X0.keep Bn)
         replace Br := Chg.keep X12 (fun h => by have := (hownX.lt _ h).1; omega) (X0.keep Br)
         replace B5 := Chg.keep X12 (fun h => by have := (hownX.lt _ h).1; omega) (X0.keep B5)
         replace B30 := Chg.keep X12 (fun h => by have := (hownX.lt _ h).1; omega) (X0.keep B30)
         replace Bu := Chg.keep X12 (fun h => hxu h) (X0.keep Bu)
         have hXm := Chg.trans (Ext.chg X0) X12
         replace E := (E.ext X0).step X12 (fun q hq h => by have := (hownX.lt q h).1; omega)
         rw [e67] at O67 D67
         have hX9 := EdB.push hownX hlX.symm hrows hxF hFl hXm hz1 (by omega) O67 D67 K67
         have hs9 := Nat.le_trans hs4 hXm.size
         have ho9 := own_chg hown2 hXm fun k hk h => own_other hown2 hownX (by decide) hk h
         refine qF b5 0 4 rfl Try.underlying26 rfl siz24 rfl ?_
         refine s_store (b := b5) (o := 4) (c' := #[(I6 n.states), (I6 x), (.slice (some ⟨b30, 0, none⟩) 1 1), (.slice pa2 n.eps.length pc2), (.slice u67 (j + 1) v67)]) (v := (.slice u67 (j + 1) v67)) rfl rfl rfl siz24 B5 (by simp) rfl ?_
         intro w13 S13
         replace hX9 := hX9.chg S13.chg fun y h => by have h' : y = b5 := h; omega
         replace hs9 := Nat.le_trans hs9 S13.chg.size
         replace ho9 := own_chg ho9 S13.chg fun y hy h => by have h' : y = b5 := h; have := (ho9.lt y hy).1; omega
         replace Bn := S13.keep (by omega) Bn
         replace Br := S13.keep (by omega) Br
         replace B30 := S13.keep (by omega) B30
         replace Bu := S13.keep (by omega) Bu
         replace E := S13.step E (by first | exact Or.inl (by omega) | exact Or.inr rfl | exact Or.inr (by assumption) | exact Or.inr (by simp) | exact Or.inr (by omega) | exact Or.inr (by dsimp only; omega))
         replace B5 := S13.blk
         refine WpL_nil (inB_normal (thn_normal (Wp_region ?_)))
         refine qV (r_add (k := .i64) (a := (j : Int)) (b := 1) (c := (j : Int) + 1) rfl rfl (wI64 (by omega))) ?_
         refine qM (I6 ((j : Int) + 1)) rfl ?_
         refine WpL_nil (thn_normal ?_)
         exact ⟨n.edges.length - (j + 1), by omega, j + 1, _, u67, v67, Fits.out ⟨rfl, rfl, rfl, rfl, rfl, trivial⟩, E, Bn, Br, B5, B30, (by omega), ho9, (by rw [map_take swe he]; exact hX9), hs9, rfl⟩
       ·have khlt2 := hlt2
        replace hlt2 := of_decide_eq_false hlt2
        have hjj : j = n.edges.length := by omega
        subst hjj
        rw [List.take_length] at hX
        refine Wp_exit (thn_exit (thn_exit (inB_here (thn_normal (Wp_seq_region ?_)))))
        refine qV (r_loadAgg (vs := [(I6 n.states), (I6 x), (.slice (some ⟨b30, 0, none⟩) 1 1), (.slice pa2 n.eps.length pc2), (.slice xa2 n.edges.length xc2)]) rfl agg26 siz26 rfl (B5.cells rfl)) ?_
        refine s_storeAgg (b := br) (o := 0) (c' := #[(I6 n.states), (I6 x), (.slice (some ⟨b30, 0, none⟩) 1 1), (.slice pa2 n.eps.length pc2), (.slice xa2 n.edges.length xc2)]) rfl rfl (by simp [Value.oneCell']) siz26 rfl Br (by first | (simp; done) | exact Nat.le_of_ble_eq_true rfl) rfl ?_
        intro w14 S14
        replace hX := hX.chg S14.chg fun y h => by have h' : y = _ := h; omega
        replace hown2 := own_chg hown2 S14.chg fun y hy h => by have h' : y = _ := h; have := (hown2.lt y hy).1; omega
        replace Bn := S14.keep (by omega) Bn
        replace B5 := S14.keep (by omega) B5
        replace B30 := S14.keep (by omega) B30
        replace E := S14.step E (by first | exact Or.inl (by omega) | exact Or.inr rfl | exact Or.inr (by assumption) | exact Or.inr (by simp) | exact Or.inr (by omega) | exact Or.inr (by dsimp only; omega))
        replace Br := S14.blk
        refine qA (I6 0) rfl ?_
        refine WpL_nil (Wp_ret ?_)
        refine fin_agg_tmp Try.results11 (vs := [(.int .i64 n.states), (.int .i64 x), (.slice (some ⟨b30, 0, none⟩) 1 1), (.slice pa2 n.eps.length pc2), (.slice xa2 n.edges.length xc2)]) (b := br) (v' := (.int .i64 0)) rfl agg26 siz26 rfl (Br.cells rfl) rfl ?_
        have hw0 : w0.heap.size ≤ b30 := by omega
        have e1 : n.eps.length = (n.rev x).eps.length := by simp [Nf.rev]
        have e2 : n.edges.length = (n.rev x).edges.length := by simp [Nf.rev]
        refine ⟨⟨n.rev x, some ⟨b30, 0, none⟩, 1, pa2, pc2, xa2, xc2, 0, by rw [← e1, ← e2]; rfl, fun M w7 c hM => ⟨some ⟨b30, 0, none⟩, 1, pa2, pc2, xa2, xc2, rfl, ints_of_blk [n.start] (c.keep (fun h => by have := hM _ h; omega) B30) (by simp) (by simp), ?_, ?_⟩, .inr (.inr ⟨hc1, rfl, x, hx, rfl⟩)⟩, E⟩
        ·have h9 : SpansAt _ _ (n.eps.map swp) := own_slat (own_chg hown2 c fun k hk hm => by have := (hown2.lt k hk).1; have := hM k hm; omega) (by intro r hr; obtain ⟨p, _, rfl⟩ := List.mem_map.1 hr; rfl) (by simp) (by decide)
         rw [← e1]; exact h9
        ·have h9 := (hX.chg c fun y h => by have := hM y h; omega).at
         rw [← e2]; exact h9
end Go.Proofs
namespace Go.Proofs
open Go Go.Eng Go.Sort
set_option maxRecDepth 100000
/-- The marked states among the first k, gathered. -/
structure WkP (M : List Bool) (k : Nat) (work : List Int) : Prop where
 mem : ∀ j : Nat, j < k → M[j]? = some true → (j : Int) ∈ work
 tru : ∀ s ∈ work, ∃ j : Nat, s = (j : Int) ∧ M[j]? = some true
 len : work.length ≤ k
theorem WkP.start (M : List Bool) : WkP M 0 [] := ⟨fun j h => absurd h (Nat.not_lt_zero _), fun s h => (by cases h), Nat.le_refl _⟩
theorem WkP.add {M : List Bool} {k : Nat} {work : List Int} (h : WkP M k work) (hk : M[k]? = some true) : WkP M (k + 1) (work ++ [(k : Int)]) := by
 refine ⟨fun j hj hm => ?_, fun s hs => ?_, by simp; exact h.len⟩
 ·rcases Nat.lt_or_ge j k with h1 | h1
  ·exact List.mem_append_left _ (h.mem j h1 hm)
  ·obtain rfl : j = k := (by omega)
   simp
 ·rcases List.mem_append.1 hs with h1 | h1
  ·exact h.tru s h1
  ·exact ⟨k, List.mem_singleton.1 h1, hk⟩
theorem WkP.skip {M : List Bool} {k : Nat} {work : List Int} (h : WkP M k work) (hk : M[k]? = some false) : WkP M (k + 1) work := by
 refine ⟨fun j hj hm => ?_, h.tru, Nat.le_succ_of_le h.len⟩
 rcases Nat.lt_or_ge j k with h1 | h1
 ·exact h.mem j h1 hm
 ·obtain rfl : j = k := (by omega)
  rw [hk] at hm; cases hm
theorem ep_nat {n : Nf} (ok : OkN n) {N : Nat} (hN : n.states = (N : Int)) {p : Int × Int} (hp : p ∈ n.eps) : ∃ a c : Nat, p = ((a : Int), (c : Int)) ∧ a < N ∧ c < N := by
 have h := ok.ep p hp
 obtain ⟨a, ha⟩ := Int.eq_ofNat_of_zero_le h.1.1
 obtain ⟨c, hc⟩ := Int.eq_ofNat_of_zero_le h.2.1
 exact ⟨a, c, by rw [← ha, ← hc], by omega, by omega⟩
set_option maxHeartbeats 4000000 in
theorem nclose_c (w0 wb : World) (n : Nf) (vs0 : List Value) (bq N : Nat) (M : List Bool) (I : Int → Prop) (ok : OkN n) (hN : n.states = (N : Int)) (h : NfAt wb n vs0) (E1 : Ext wb w0) (hbq : wb.heap.size ≤ bq) (hB : Blk w0 bq (M.map Value.bool).toArray 4) (hMl : M.length = N) (hI : ∀ s, I s → 0 ≤ s ∧ s < n.states) (hm : MarkOf M I) :
  Ret Try.prog 44 #[.agg vs0.toArray, .slice (some ⟨bq, 0, none⟩) N N] w0 fun _ w => (∃ M', M'.length = N ∧ MarkOf M' (cloP n.eps I) ∧ Blk w bq (M'.map Value.bool).toArray 4) ∧ Chg (fun y => y = bq) w0 w := by
 obtain ⟨ea, ec, pa, pc, xa, xc, rfl, hen, hep, hed⟩ := h
 have hst := ok.st
 rw [hN]
 have hpl := ok.pl
 have hN5 : N ≤ 500 := by omega
 have hbl := hB.lt
 refine Ret_of Try.func44 rfl Try.ntmps44 (Nat.le_of_ble_eq_true rfl) ?_
 have E : Chg (fun y => y = bq) w0 w0 := Chg.refl _ _
 refine Wp_seq_region ?_
 refine s_box (v := (.agg #[(I6 (N : Int)), (I6 n.start), (.slice ea n.ends.length ec), (.slice pa n.eps.length pc), (.slice xa n.edges.length xc)])) (c := #[(I6 (N : Int)), (I6 n.start), (.slice ea n.ends.length ec), (.slice pa n.eps.length pc), (.slice xa n.edges.length xc)]) (by decide) rfl rfl ?_
 intro bn wn Nn
 have Fn := Nn.ge E
 have Fn_E1 := Nn.ge E1
 have On_bq := Nn.lt hB
 replace hB := Nn.keep hB
 replace E := E.ext Nn.ext
 have Bn := Nn.blk
 replace E1 := E1.ext Nn.ext
 refine WpL_nil (Wp_seq_region ?_)
 refine qF bn 0 0 rfl Try.underlying26 rfl siz3 rfl ?_
 refine qV (r_load (v := (I6 (N : Int))) rfl flat3 (Bn.cell rfl)) ?_
 refine s_make (n := N) (z := (.slice none 0 0)) (bytes := 24) (by decide) Try.underlying55 siz22 byt22 zer22 rfl rfl rfl (by omega) (by omega) ?_
 intro bi wi Ni
 have Fi := Ni.ge E
 have Fi_E1 := Ni.ge E1
 have Oi_bq := Ni.lt hB
 have Oi_bn := Ni.lt Bn
 replace hB := Ni.keep hB
 replace Bn := Ni.keep Bn
 replace E := E.ext Ni.ext
 have Bi := Ni.blk
 replace E1 := E1.ext Ni.ext
 refine qA (.slice (some ⟨bi, 0, none⟩) N N) rfl ?_
 refine WpL_nil (Wp_seq (Wp_seq_region ?_))
 refine qF bn 0 3 rfl Try.underlying26 rfl siz23 rfl ?_
 refine qV (r_load (v := (.slice pa n.eps.length pc)) rfl flat23 (Bn.cell rfl)) ?_
 refine qV (r_lenSlice (ad := pa) (n := n.eps.length) (cap := pc) Try.underlying23 rfl) ?_
 refine qM (I6 0) rfl ?_
 refine WpL_nil (Wp_block ?_)
 obtain ⟨n1, hn1e⟩ : ∃ n1, n1 = wn.heap.size := ⟨_, rfl⟩
 have hw1 : w0.heap.size ≤ n1 ∧ wb.heap.size ≤ n1 := by have := Nn.ext.size; have := E1.size; omega
 have hbi1 : n1 ≤ bi := by have := Ni.eq; omega
 have hbd1 : bn < n1 ∧ bq < n1 := by have := Nn.eq; have := Nn.size; omega
 have hG0 := GSt.made (To := TDIs) (e := TDI) (sz := 1) (base := n1) (n := N) Bi hbi1 (by omega) hbi1
 have hs0 : n1 ≤ wi.heap.size := by have := Ni.ext.size; omega
 refine Wp_loop (fun nn_ σ W1 => ∃ (k : Nat) (into : List (List Int)) (vs : List Value), (∃ jj_, σ = upds jj_ [(1, (.slice (some ⟨bq, 0, none⟩) N N)), (4, (.slice (some ⟨bi, 0, none⟩) N N)), (17, (.slice pa n.eps.length pc)), (18, (I6 (n.eps.length : Int))), (19, (I6 (k : Int)))]) ∧ Chg (fun y => y = bq) w0 W1 ∧ Chg none1 wb W1 ∧ Blk W1 bq ((M.map Value.bool).toArray) 4 ∧ Blk W1 bn #[(I6 (N : Int)), (I6 n.start), (.slice ea n.ends.length ec), (.slice pa n.eps.length pc), (.slice xa n.edges.length xc)] 26 ∧ (k ≤ n.eps.length) ∧ (SucP n.eps N k into) ∧ (GSt TDIs TDI 1 W1 n1 (.slice (some ⟨bi, 0, none⟩) N N) vs (into.map iRow)) ∧ (n1 ≤ W1.heap.size) ∧ nn_ = n.eps.length - k) (n := n.eps.length - 0) ?_ ?_
 ·exact ⟨0, List.replicate N [], List.replicate N (.slice none 0 0), Fits.out ⟨rfl, rfl, rfl, rfl, rfl, trivial⟩, E, E1, hB, Bn, Nat.zero_le _, SucP.start _ _, (by rw [iRow_rep]; exact hG0), hs0, rfl⟩
 ·clear E E1 hB Bn
  rintro _ _ W1 ⟨k, into, vs, ⟨j1, rfl⟩, E, E1, hB, Bn, hk, hS, hG, hsz, rfl⟩
  refine Wp_seq_region ?_
  refine qV (r_lss (k := .i64) (a := (k : Int)) (b := (n.eps.length : Int)) rfl rfl) ?_
  refine WpL_nil (Wp_seq ?_)
  refine Wp_cond (b := decide (((k : Int) : Int) < (n.eps.length : Int))) rfl (fun hlt => ?_) (fun hlt => ?_)
  ·have khlt := hlt
   replace hlt := of_decide_eq_true hlt
   obtain ⟨p, hp⟩ := get_of_lt (l := n.eps) (i := k) (by omega)
   obtain ⟨a, c, hpe, ha, hc⟩ := ep_nat ok hN (List.mem_of_getElem? hp)
   obtain ⟨pb, po, rfl, hpc⟩ := spans_cells hep (by omega)
   have hpc0 := hpc k p hp
   rw [hpe] at hpc0
   obtain ⟨l0, hl0⟩ := get_of_lt (l := into) (i := a) (by have := hS.1; omega)
   have hlen := hS.len hl0
   have hGl : (into.map iRow).length = N := by rw [List.length_map]; exact hS.1
   obtain ⟨v1, hv1⟩ := get_of_lt (l := vs) (i := a) (by have := hG.l.len; omega)
   have hp1 : (into.map iRow)[a]? = some (l0.length, l0.map (Value.int .i64)) := by rw [List.getElem?_map, hl0]; rfl
   have hinn := hG.l.inn a v1 _ hv1 hp1
   have hinl0 := hinn.lt
   obtain ⟨va, vc, rfl⟩ := own_form hinn
   refine Wp_skip (thn_normal (Wp_seq (Wp_block (Wp_seq_region ?_))))
   refine qV (r_indexSlice (b := pb) (o := po) (len := n.eps.length) (cap := pc) (i := k) (o' := po + k * 2) rfl rfl rfl Try.underlying23 siz41 (by omega) (by omega)) ?_
   refine qV (r_loadAgg (vs := [(I6 (a : Int)), (I6 (c : Int))]) rfl agg41 siz41 rfl (hpc0.ext E1)) ?_
   refine s_allocStore (v := (.agg #[(I6 (a : Int)), (I6 (c : Int))])) (c := #[(I6 (a : Int)), (I6 (c : Int))]) (n := 2) (by decide) zer41 rfl siz41 rfl rfl rfl (by simp [Value.oneCell']) ?_
   intro bx wx Nx
   have Fx := Nx.ge E
   have Fx_E1 := Nx.ge E1
   have Ox_bq := Nx.lt hB
   have Ox_bn := Nx.lt Bn
   replace hB := Nx.keep hB
   replace Bn := Nx.keep Bn
   replace hG := hG.ext Nx.ext
   replace hinn := own_ext hinn Nx.ext
   replace hsz := Nat.le_trans hsz Nx.ext.size
   replace E := E.ext Nx.ext
   have Bx := Nx.blk
   replace E1 := E1.ext Nx.ext
   refine WpL_nil ?_
   obtain ⟨gg, hgg, _, hg2⟩ := own_cells (hG.l.on hGl.symm) (by omega)
   simp only [Option.some.injEq, Addr.mk.injEq, and_true] at hgg
   subst hgg
   have hbx := Nx.eq
   have hinl := hinn.lt
   obtain ⟨h0, hh0⟩ : ∃ h0, h0 = (wx).heap.size := ⟨_, rfl⟩
   obtain ⟨Fs3, hFs3⟩ : ∃ Fs : List (FactT ((fun y => (Value.slice va l0.length vc).ownBlock = some y))), Fs = [.eq (.slice (some ⟨bi, 0, none⟩) N N), .eq (P6 bx 0), .eq (I6 (a : Int)), .eq (.slice (some ⟨bi, 0, none⟩) N N), .eq (P6 bx 0), .eq (I6 (a : Int)), .eq (.pointer (some ⟨bi, 0 + a, none⟩)), .eq (.slice va l0.length vc), .eq (P6 bx 1), .eq (I6 (c : Int)), .till (litF TDI #[.int .i64 (c : Int)] 0) (litF_ext _ _ _), .own (appF n1 TDI 1 (l0.length + 1) (l0.map (Value.int .i64) ++ [Value.int .i64 (c : Int)]) (.slice va l0.length vc) h0) (appF_ext _ _ _ _ _ _ _)] := ⟨_, rfl⟩
   refine Wp_dagT ((fun y => (Value.slice va l0.length vc).ownBlock = some y)) 12 11 [23, 24, 25, 26, 27, 28, 29, 30, 31, 32, 33, 34] [[], [], [1], [], [], [4], [3, 5], [6], [], [8], [9], [7, 10]] Fs3 hFs3 rfl mixed (by kernel_rfl) (by kernel_rfl) (by kernel_rfl) ?_ ?_
   ·intro wd X0
    refine DagStepsT.cons (fun s' w' X U H => ?_) ?_
    ·exact DoesT_val (r_move (v := (.slice (some ⟨bi, 0, none⟩) N N)) (U 4 rfl)) (Chg.refl _ _) rfl
    refine DagStepsT.cons (fun s' w' X U H => ?_) ?_
    ·exact DoesT_val (r_indexArr (b := bx) (o := 0) (i := 0) (o' := 0) (U 6 rfl) rfl rfl Try.underlying41 siz3 (by omega) (by omega)) (Chg.refl _ _) rfl
    refine DagStepsT.cons (fun s' w' X U H => ?_) ?_
    ·have e24 : s' 24 = (.pointer (some ⟨bx, 0, none⟩)) := H 1 rfl 24 (.eq (.pointer (some ⟨bx, 0, none⟩))) rfl (by rw [hFs3]; rfl)
     exact DoesT_val (r_load (v := (I6 (a : Int))) e24 flat3 ((Chg.keep X (fun h => by have := (hinl0 _ h).2; omega) (X0.keep Bx)).cell rfl)) (Chg.refl _ _) rfl
    refine DagStepsT.cons (fun s' w' X U H => ?_) ?_
    ·exact DoesT_val (r_move (v := (.slice (some ⟨bi, 0, none⟩) N N)) (U 4 rfl)) (Chg.refl _ _) rfl
    refine DagStepsT.cons (fun s' w' X U H => ?_) ?_
    ·exact DoesT_val (r_indexArr (b := bx) (o := 0) (i := 0) (o' := 0) (U 6 rfl) rfl rfl Try.underlying41 siz3 (by omega) (by omega)) (Chg.refl _ _) rfl
    refine DagStepsT.cons (fun s' w' X U H => ?_) ?_
    ·have e27 : s' 27 = (.pointer (some ⟨bx, 0, none⟩)) := H 4 rfl 27 (.eq (.pointer (some ⟨bx, 0, none⟩))) rfl (by rw [hFs3]; rfl)
     exact DoesT_val (r_load (v := (I6 (a : Int))) e27 flat3 ((Chg.keep X (fun h => by have := (hinl0 _ h).2; omega) (X0.keep Bx)).cell rfl)) (Chg.refl _ _) rfl
    refine DagStepsT.cons (fun s' w' X U H => ?_) ?_
    ·have e26 : s' 26 = (.slice (some ⟨bi, 0, none⟩) N N) := H 3 rfl 26 (.eq (.slice (some ⟨bi, 0, none⟩) N N)) rfl (by rw [hFs3]; rfl)
     have e28 : s' 28 = (.int .i64 ((a : Nat) : Int)) := H 5 rfl 28 (.eq (.int .i64 ((a : Nat) : Int))) rfl (by rw [hFs3]; rfl)
     exact DoesT_val (r_indexSlice (b := bi) (o := 0) (len := N) (cap := N) (i := a) (o' := 0 + a) e26 e28 rfl Try.underlying55 siz22 (by omega) (by omega)) (Chg.refl _ _) rfl
    refine DagStepsT.cons (fun s' w' X U H => ?_) ?_
    ·have e29 : s' 29 = (.pointer (some ⟨bi, 0 + a, none⟩)) := H 6 rfl 29 (.eq (.pointer (some ⟨bi, 0 + a, none⟩))) rfl (by rw [hFs3]; rfl)
     exact DoesT_val (r_load (v := (.slice va l0.length vc)) e29 flat22 (by have h1 := hg2 a _ hv1; exact (Ext.cell X (X0.cell h1)))) (Chg.refl _ _) rfl
    refine DagStepsT.cons (fun s' w' X U H => ?_) ?_
    ·exact DoesT_val (r_indexArr (b := bx) (o := 0) (i := 1) (o' := 1) (U 6 rfl) rfl rfl Try.underlying41 siz3 (by omega) (by omega)) (Chg.refl _ _) rfl
    refine DagStepsT.cons (fun s' w' X U H => ?_) ?_
    ·have e31 : s' 31 = (.pointer (some ⟨bx, 1, none⟩)) := H 8 rfl 31 (.eq (.pointer (some ⟨bx, 1, none⟩))) rfl (by rw [hFs3]; rfl)
     exact DoesT_val (r_load (v := (I6 (c : Int))) e31 flat3 ((Chg.keep X (fun h => by have := (hinl0 _ h).2; omega) (X0.keep Bx)).cell rfl)) (Chg.refl _ _) rfl
    refine DagStepsT.cons (fun s' w' X U H => ?_) ?_
    ·have e32 : s' 32 = (.int .i64 ((c : Nat) : Int)) := H 9 rfl 32 (.eq (.int .i64 ((c : Nat) : Int))) rfl (by rw [hFs3]; rfl)
     exact DoesT_lit Try.underlying22 siz3 zer3 e32 (by decide) (by decide) (by kernel_rfl) (Nat.zero_le _)
    refine DagStepsT.cons (fun s' w' X U H => ?_) ?_
    ·have e30 : s' 30 = (.slice va l0.length vc) := H 7 rfl 30 (.eq (.slice va l0.length vc)) rfl (by rw [hFs3]; rfl)
     obtain ⟨b33, e33, B33, _⟩ := (show (.till (litF TDI #[.int .i64 ((c : Nat) : Int)] 0) (litF_ext _ _ _) : FactT ((fun y => (Value.slice va l0.length vc).ownBlock = some y))).In (s' 33) w' from FactT.at_false (H 10 rfl 33 (.till (litF TDI #[.int .i64 ((c : Nat) : Int)] 0) (litF_ext _ _ _)) rfl (by rw [hFs3]; rfl)))
     exact DoesT_append Try.underlying22 siz3 byt3 zer3 rfl (by decide) e30 (own_ext (own_ext hinn X0) X) e33 rfl (B33.cells rfl) (by simp [Value.oneCell']) (by unfold maxLen; omega) (by omega) (by have := X0.size; have := X.size; omega) (fun y h => h) (by have := X0.size; have := X.size; omega)
    exact DagStepsT.nil
   ·intro s' wd3 w3 X0 X3 U H
    have e23 : s' 23 = (.slice (some ⟨bi, 0, none⟩) N N) := H 0 23 (.eq (.slice (some ⟨bi, 0, none⟩) N N)) rfl (by rw [hFs3]; rfl)
    have e25 : s' 25 = (.int .i64 ((a : Nat) : Int)) := H 2 25 (.eq (.int .i64 ((a : Nat) : Int))) rfl (by rw [hFs3]; rfl)
    obtain ⟨⟨a34, c34, e34⟩, O34, D34⟩ := (show (.own (appF n1 TDI 1 (l0.length + 1) (l0.map (Value.int .i64) ++ [Value.int .i64 ((c : Nat) : Int)]) (.slice va l0.length vc) h0) (appF_ext _ _ _ _ _ _ _) : FactT ((fun y => (Value.slice va l0.length vc).ownBlock = some y))).In (s' 34) w3 from H 11 34 (.own (appF n1 TDI 1 (l0.length + 1) (l0.map (Value.int .i64) ++ [Value.int .i64 ((c : Nat) : Int)]) (.slice va l0.length vc) h0) (appF_ext _ _ _ _ _ _ _)) rfl (by rw [hFs3]; rfl))
    obtain ⟨j3, rfl⟩ := Fits.out (σ := s') (l := [(1, (.slice (some ⟨bq, 0, none⟩) N N)), (4, (.slice (some ⟨bi, 0, none⟩) N N)), (17, (.slice (some ⟨pb, po, none⟩) n.eps.length pc)), (18, (.int .i64 ((n.eps.length : Nat) : Int))), (19, (.int .i64 ((k : Nat) : Int))), (23, (.slice (some ⟨bi, 0, none⟩) N N)), (25, (.int .i64 ((a : Nat) : Int))), (34, (.slice a34 (l0.length + 1) c34))]) ⟨U 1 rfl, U 4 rfl, U 17 rfl, U 18 rfl, U 19 rfl, e23, e25, e34, trivial⟩
    clear U H
    replace hB := Chg.keep X3 (fun h => by have := (hinl _ h).1; omega) (X0.keep hB)
    replace Bn := Chg.keep X3 (fun h => by have := (hinl _ h).1; omega) (X0.keep Bn)
    replace Bx := Chg.keep X3 (fun h => by have := (hinl0 _ h).2; omega) (X0.keep Bx)
    have hXm := Chg.trans (Ext.chg X0) X3
    replace E := (E.ext X0).step X3 (fun y hy h => by have := (hinl _ h).1; omega)
    replace E1 := (E1.ext X0).step X3 (fun y hy h => by have := (hinl _ h).1; omega)
    obtain ⟨cur, hBo, hcs⟩ := own_blkG (own_chg (hG.l.on hGl.symm) hXm (fun b hb hm => hG.l.apo a _ _ hv1 hm hb))
    have hs9 := Nat.le_trans hsz hXm.size
    have hPx : True := trivial
    have hBo0 := hBo
    refine qV (r_indexSlice (b := bi) (o := 0) (len := N) (cap := N) (i := a) (o' := 0 + a) rfl rfl rfl Try.underlying55 siz22 (by omega) (by omega)) ?_
    refine s_store (b := bi) (o := 0 + a) (c' := cur.setIfInBounds (0 + a) (.slice a34 (l0.length + 1) c34)) (v := (.slice a34 (l0.length + 1) c34)) rfl rfl rfl siz22 hBo (by omega) (rfl) ?_
    intro w4 S4
    replace hPx := S4
    replace hs9 := Nat.le_trans hs9 S4.chg.size
    replace hB := S4.keep (by omega) hB
    replace Bn := S4.keep (by omega) Bn
    replace E := S4.step E (by first | exact Or.inl (by omega) | exact Or.inr rfl | exact Or.inr (by assumption) | exact Or.inr (by simp) | exact Or.inr (by omega) | exact Or.inr (by dsimp only; omega))
    replace E1 := S4.step E1 (Or.inl (by omega))
    replace hBo := S4.blk
    have hG9 := hG.grow hGl.symm hv1 hp1 (m' := l0.length + 1) (xs' := (l0 ++ [((c : Nat) : Int)]).map (Value.int .i64)) (v' := .slice a34 (l0.length + 1) c34) (by rw [e34] at O34; rw [List.map_append]; exact O34) hXm (by rw [e34, hh0] at D34; exact D34) hBo0 (by simpa using hPx)
    refine WpL_nil (inB_normal (thn_normal (Wp_region ?_)))
    refine qV (r_add (k := .i64) (a := (k : Int)) (b := 1) (c := (k : Int) + 1) rfl rfl (wI64 (by omega))) ?_
    refine qM (I6 ((k : Int) + 1)) rfl ?_
    refine WpL_nil (thn_normal ?_)
    exact ⟨n.eps.length - (k + 1), by omega, k + 1, into.set a (l0 ++ [((c : Nat) : Int)]), vs.set a (.slice a34 (l0.length + 1) c34), Fits.out ⟨rfl, rfl, rfl, rfl, rfl, trivial⟩, E, E1, hB, Bn, (by omega), (by have h9 := hS.add hp (a := a) (by rw [hpe]) hl0; rw [hpe] at h9; exact h9), (by rw [List.map_set]; simpa [iRow] using hG9), hs9, rfl⟩
  ·have khlt := hlt
   replace hlt := of_decide_eq_false hlt
   have hSk : n.eps.length ≤ k := by omega
   obtain ⟨n3, hn3e⟩ : ∃ n3, n3 = (W1).heap.size := ⟨_, rfl⟩
   have hn13 : n1 ≤ n3 := by omega
   have hbn3 : bn < n3 ∧ bq < n3 := by omega
   have E9 : Chg none1 W1 W1 := Chg.refl _ _
   refine Wp_exit (thn_exit (thn_exit (inB_here (thn_normal (Wp_seq_region ?_)))))
   refine qA (.slice none 0 0) rfl ?_
   refine WpL_nil (Wp_seq (Wp_seq_region ?_))
   refine qM (.slice (some ⟨bq, 0, none⟩) N N) rfl ?_
   refine qV (r_lenSlice (ad := some ⟨bq, 0, none⟩) (n := N) (cap := N) Try.underlying92 rfl) ?_
   refine qM (I6 0) rfl ?_
   refine WpL_nil (Wp_block ?_)
   refine Wp_loop (fun nn_ σ W5 => ∃ (k2 : Nat) (work : List Int) (ka : Option Addr) (kc kn : Nat), (∃ jj_, σ = upds jj_ [(1, (.slice (some ⟨bq, 0, none⟩) N N)), (4, (.slice (some ⟨bi, 0, none⟩) N N)), (37, (.slice (some ⟨bq, 0, none⟩) N N)), (38, (I6 (N : Int))), (39, (I6 (k2 : Int))), (7, (.slice ka kn kc))]) ∧ Chg (fun y => y = bq) w0 W5 ∧ Chg none1 wb W5 ∧ Chg none1 W1 W5 ∧ Blk W5 bq ((M.map Value.bool).toArray) 4 ∧ Blk W5 bn #[(I6 (N : Int)), (I6 n.start), (.slice ea n.ends.length ec), (.slice pa n.eps.length pc), (.slice xa n.edges.length xc)] 26 ∧ (k2 ≤ N) ∧ (WkP M k2 work) ∧ (kn = work.length) ∧ (W5.ownsRow n3 TDI 1 (.slice ka kn kc) kn (work.map (Value.int .i64))) ∧ (n3 ≤ W5.heap.size) ∧ nn_ = N - k2) (n := N - 0) ?_ ?_
   ·exact ⟨0, [], none, 0, 0, Fits.out ⟨rfl, rfl, rfl, rfl, rfl, rfl, trivial⟩, E, E1, E9, hB, Bn, Nat.zero_le _, WkP.start M, rfl, World.ownsRow_nil _ _ _ _, (by omega), rfl⟩
   ·clear E E1 E9 hB Bn
    rintro _ _ W5 ⟨k2, work, ka, kc, kn, ⟨j5, rfl⟩, E, E1, E9, hB, Bn, hk2, hW, hkn, hw, hs3, rfl⟩
    refine Wp_seq_region ?_
    refine qV (r_lss (k := .i64) (a := (k2 : Int)) (b := (N : Int)) rfl rfl) ?_
    refine WpL_nil (Wp_seq ?_)
    refine Wp_cond (b := decide (((k2 : Int) : Int) < (N : Int))) rfl (fun hlt2 => ?_) (fun hlt2 => ?_)
    ·have khlt2 := hlt2
     replace hlt2 := of_decide_eq_true hlt2
     obtain ⟨q, hq⟩ := get_of_lt (l := M) (i := k2) (by omega)
     refine Wp_skip (thn_normal (Wp_seq (Wp_block (Wp_seq_region ?_))))
     refine qM (I6 (k2 : Int)) rfl ?_
     refine qV (r_indexSlice (b := bq) (o := 0) (len := N) (cap := N) (i := k2) (o' := 0 + k2) rfl rfl rfl Try.underlying92 siz4 (by omega) (by omega)) ?_
     refine qV (r_load (v := (.bool q)) rfl flat4 (hB.cell (by simp [hq]))) ?_
     refine qA (I6 (k2 : Int)) rfl ?_
     refine qA (.bool q) rfl ?_
     refine WpL_nil (Wp_seq_region ?_)
     refine qM (.bool q) rfl ?_
     refine WpL_nil ?_
     refine Wp_cond (b := q) rfl (fun hqt => ?_) (fun hqt => ?_)
     ·have khqt := hqt
      have hwl := hW.len
      refine Wp_region ?_
      refine qM (.slice ka kn kc) rfl ?_
      refine qM (I6 (k2 : Int)) rfl ?_
      refine s_buildSlice (ps := [(0, (I6 (k2 : Int)))]) (c := #[(I6 (k2 : Int))]) (by decide) rfl Try.underlying22 siz3 zer3 (by decide) (by decide) (by kernel_rfl) ?_
      intro b8 w8 N8
      have F8 := N8.ge E
      have F8_E1 := N8.ge E1
      have F8_E9 := N8.ge E9
      have O8_bq := N8.lt hB
      have O8_bn := N8.lt Bn
      replace hB := N8.keep hB
      replace Bn := N8.keep Bn
      replace hw := own_ext hw N8.ext
      replace hs3 := Nat.le_trans hs3 N8.ext.size
      replace E := E.ext N8.ext
      have B8 := N8.blk
      replace E1 := E1.ext N8.ext
      replace E9 := E9.ext N8.ext
      refine s_append (base := n3) (n := kn) (m := 1) (xs := (work.map (Value.int .i64))) (news := [(I6 (k2 : Int))]) (size := 1) (bytes := 8) (v := (.slice ka kn kc)) (by decide) Try.underlying22 siz3 byt3 zer3 rfl (by decide) rfl hw rfl (rfl) (B8.cells rfl) (by simp [Value.oneCell']) (by unfold maxLen; omega) (by omega) (hs3) ?_
      intro v7 w59 Ov7 Cv7 Dv7
      replace hB := Cv7.keep (fun h => by have := (hw.lt _ h).1; omega) hB
      replace Bn := Cv7.keep (fun h => by have := (hw.lt _ h).1; omega) Bn
      replace E := E.step Cv7 (fun x hx h => absurd (hw.lt x h).1 (by omega))
      replace E1 := E1.step Cv7 (fun x hx h => absurd (hw.lt x h).1 (by omega))
      replace E9 := E9.step Cv7 (fun x hx h => absurd (hw.lt x h).1 (by omega))
      obtain ⟨ka2, kc2, rfl⟩ := own_form Ov7
      refine qA (.slice ka2 (kn + 1) kc2) rfl ?_
      refine WpL_nil (inB_normal (thn_normal (Wp_region ?_)))
      refine qV (r_add (k := .i64) (a := (k2 : Int)) (b := 1) (c := (k2 : Int) + 1) rfl rfl (wI64 (by omega))) ?_
      refine qM (I6 ((k2 : Int) + 1)) rfl ?_
      refine WpL_nil (thn_normal ?_)
      exact ⟨N - (k2 + 1), by omega, k2 + 1, work ++ [((k2 : Nat) : Int)], ka2, kc2, kn + 1, Fits.out ⟨rfl, rfl, rfl, rfl, rfl, rfl, trivial⟩, E, E1, E9, hB, Bn, (by omega), hW.add (by rw [hq, hqt]), (by simp; omega), (by rw [List.map_append]; exact Ov7), Nat.le_trans hs3 Cv7.size, rfl⟩
     ·have khqt := hqt
      refine Wp_skip (inB_normal (thn_normal (Wp_region ?_)))
      refine qV (r_add (k := .i64) (a := (k2 : Int)) (b := 1) (c := (k2 : Int) + 1) rfl rfl (wI64 (by omega))) ?_
      refine qM (I6 ((k2 : Int) + 1)) rfl ?_
      refine WpL_nil (thn_normal ?_)
      exact ⟨N - (k2 + 1), by omega, k2 + 1, work, ka, kc, kn, Fits.out ⟨rfl, rfl, rfl, rfl, rfl, rfl, trivial⟩, E, E1, E9, hB, Bn, (by omega), hW.skip (by rw [hq, hqt]), hkn, hw, hs3, rfl⟩
    ·have khlt2 := hlt2
     replace hlt2 := of_decide_eq_false hlt2
     have hk2N : k2 = N := by omega
     rw [hk2N] at hW
     have hwl0 := hW.len
     have hcl0 : cntT M ≤ M.length := List.countP_le_length
     have hC9 := Ext.chg (M := fun y => y = bq) E9
     refine Wp_exit (thn_exit (thn_exit (inB_here (thn_normal (Wp_block ?_)))))
     refine Wp_loop (fun nn_ σ W9 => ∃ (M3 : List Bool) (work : List Int) (ka : Option Addr) (kc kn : Nat), (∃ jj_, σ = upds jj_ [(1, (.slice (some ⟨bq, 0, none⟩) N N)), (4, (.slice (some ⟨bi, 0, none⟩) N N)), (7, (.slice ka kn kc))]) ∧ Chg (fun y => y = bq) w0 W9 ∧ Chg none1 wb W9 ∧ Blk W9 bq ((M3.map Value.bool).toArray) 4 ∧ Blk W9 bn #[(I6 (N : Int)), (I6 n.start), (.slice ea n.ends.length ec), (.slice pa n.eps.length pc), (.slice xa n.edges.length xc)] 26 ∧ (CloSt n.eps N I M3 work []) ∧ (work.length + cntT M3 ≤ 1000) ∧ (kn = work.length) ∧ (W9.ownsRow n3 TDI 1 (.slice ka kn kc) kn (work.map (Value.int .i64))) ∧ (n3 ≤ W9.heap.size) ∧ (Chg (fun y => y = bq) W1 W9) ∧ nn_ = 2 * cntT M3 + work.length) (n := 2 * cntT M + work.length) ?_ ?_
     ·exact ⟨M, work, ka, kc, kn, Fits.out ⟨rfl, rfl, rfl, trivial⟩, E, E1, hB, Bn, CloSt.start hMl hm (fun j hj => hW.mem j (by have := lt_of_get hj; omega) hj) hW.tru, (by omega), hkn, hw, hs3, hC9, rfl⟩
     ·clear E E1 hB Bn
      rintro _ _ W9 ⟨M3, work, ka, kc, kn, ⟨j9, rfl⟩, E, E1, hB, Bn, hL, hcn, hkn, hw, hs3, hC9, rfl⟩
      refine Wp_seq (Wp_seq_region ?_)
      refine qM (.slice ka kn kc) rfl ?_
      refine qV (r_lenSlice (ad := ka) (n := kn) (cap := kc) Try.underlying22 rfl) ?_
      refine qV (r_gtr (k := .i64) (a := (kn : Int)) (b := 0) rfl rfl) ?_
      refine WpL_nil ?_
      refine Wp_cond (b := decide ((0 : Int) < (kn : Int))) rfl (fun hlt3 => ?_) (fun hlt3 => ?_)
      ·have khlt3 := hlt3
       replace hlt3 := of_decide_eq_true hlt3
       obtain ⟨wl, x, hwx⟩ := snocs (l := work) (by omega)
       have hwl : work.length = wl.length + 1 := by rw [hwx]; simp
       obtain ⟨u, hxu, hMu⟩ := hL.wm x (by rw [hwx]; simp)
       have hMl3 := hL.len
       have hun : u < N := by have := lt_of_get hMu; omega
       obtain ⟨kg, rfl, _, hkc⟩ := own_cells hw (by omega)
       have hle := own_le hw
       obtain ⟨Z, hZ⟩ : ∃ Z, Z = 2 * cntT M3 + work.length := ⟨_, rfl⟩
       refine Wp_skip (thn_normal (Wp_block (Wp_seq_region ?_)))
       refine qM (.slice (some ⟨kg, 0, none⟩) kn kc) rfl ?_
       refine qM (.slice (some ⟨kg, 0, none⟩) kn kc) rfl ?_
       refine qV (r_lenSlice (ad := some ⟨kg, 0, none⟩) (n := kn) (cap := kc) Try.underlying22 rfl) ?_
       refine qV (r_sub (k := .i64) (a := (kn : Int)) (b := 1) (c := (kn : Int) - 1) rfl rfl (wI64 (by omega))) ?_
       refine qV (r_indexSlice (b := kg) (o := 0) (len := kn) (cap := kc) (i := kn - 1) (o' := 0 + (kn - 1)) rfl rfl (by omega) Try.underlying22 siz3 (by omega) (by omega)) ?_
       refine qV (r_load (v := (I6 x)) rfl flat3 (hkc (kn - 1) _ (by rw [hkn, hwl, Nat.add_sub_cancel, List.getElem?_map, hwx]; simp))) ?_
       refine qA (I6 x) rfl ?_
       refine WpL_nil (Wp_seq_region ?_)
       refine qM (.slice (some ⟨kg, 0, none⟩) kn kc) rfl ?_
       refine qM (.slice (some ⟨kg, 0, none⟩) kn kc) rfl ?_
       refine qV (r_lenSlice (ad := some ⟨kg, 0, none⟩) (n := kn) (cap := kc) Try.underlying22 rfl) ?_
       refine qV (r_sub (k := .i64) (a := (kn : Int)) (b := 1) (c := (kn : Int) - 1) rfl rfl (wI64 (by omega))) ?_
       obtain ⟨a2, ha2⟩ : ∃ a' : Option Addr, (if kc = 0 then (some ⟨kg, 0, none⟩) else Option.map (fun q : Addr => q.add (0 * 1)) (some ⟨kg, 0, none⟩)) = a' := ⟨_, rfl⟩
       refine qV (r_sliceHi (a := (some ⟨kg, 0, none⟩)) (len := kn) (cap := kc) (hi := kn - 1) (l := (kn : Int) - 1) Try.underlying22 siz3 rfl rfl (by omega) (by omega) ha2) ?_
       refine qA (.slice a2 (kn - 1) kc) rfl ?_
       refine WpL_nil (Wp_seq_region ?_)
       refine qM (.slice (some ⟨bi, 0, none⟩) N N) rfl ?_
       refine qM (I6 x) rfl ?_
       have ha3 : a2 = some ⟨kg, 0, none⟩ := by rw [← ha2, if_neg (by omega)]; simp [Addr.add_lit]
       subst ha3
       have hw2 := own_cut hw (m := kn - 1) (by omega) (by omega)
       rw [show (work.map (Value.int .i64)).take ((kn - 1) * 1) = wl.map (Value.int .i64) by rw [hwx, List.map_append, Nat.mul_one, List.take_append_of_le_length (by simp; omega), List.take_of_length_le (by simp; omega)]] at hw2
       have hL2 : CloSt n.eps N I M3 wl [x] := by rw [hwx] at hL; exact hL.pop
       subst hxu
       obtain ⟨lu, hlu⟩ := get_of_lt (l := into) (i := u) (by have := hS.1; omega)
       have hGl : (into.map iRow).length = N := by rw [List.length_map]; exact hS.1
       obtain ⟨v1, hv1⟩ := get_of_lt (l := vs) (i := u) (by have := hG.l.len; omega)
       have hp1 : (into.map iRow)[u]? = some (lu.length, lu.map (Value.int .i64)) := by rw [List.getElem?_map, hlu]; rfl
       have hinn := hG.l.inn u v1 _ hv1 hp1
       have hinl := hinn.lt
       obtain ⟨va, vc, rfl⟩ := own_form hinn
       obtain ⟨gg, hgg, _, hg2⟩ := own_cells ((hG.chg hC9 (fun b h1 _ h => by have h' : b = bq := h; omega)).l.on hGl.symm) (by omega)
       simp only [Option.some.injEq, Addr.mk.injEq, and_true] at hgg
       subst hgg
       have hlul := hS.len hlu
       refine qV (r_indexSlice (b := bi) (o := 0) (len := N) (cap := N) (i := u) (o' := 0 + u) rfl rfl (by omega) Try.underlying55 siz22 (by omega) (by omega)) ?_
       refine qV (r_load (v := (.slice va lu.length vc)) rfl flat22 (hg2 u _ hv1)) ?_
       refine qV (r_lenSlice (ad := va) (n := lu.length) (cap := vc) Try.underlying22 rfl) ?_
       refine qM (I6 0) rfl ?_
       refine WpL_nil (Wp_block ?_)
       refine Wp_loop (fun nn_ σ W11 => ∃ (j : Nat) (M4 : List Bool) (work : List Int) (ka : Option Addr) (kc kn : Nat), (∃ jj_, σ = upds jj_ [(1, (.slice (some ⟨bq, 0, none⟩) N N)), (4, (.slice (some ⟨bi, 0, none⟩) N N)), (67, (.slice va lu.length vc)), (68, (I6 (lu.length : Int))), (69, (I6 (j : Int))), (7, (.slice ka kn kc))]) ∧ Chg (fun y => y = bq) w0 W11 ∧ Chg none1 wb W11 ∧ Blk W11 bq ((M4.map Value.bool).toArray) 4 ∧ Blk W11 bn #[(I6 (N : Int)), (I6 n.start), (.slice ea n.ends.length ec), (.slice pa n.eps.length pc), (.slice xa n.edges.length xc)] 26 ∧ (j ≤ lu.length) ∧ (CloSt n.eps N I M4 work [(u : Int)]) ∧ (∀ (i v : Nat), i < j → lu[i]? = some (v : Int) → M4[v]? = some true) ∧ (M4[u]? = some true) ∧ (work.length + cntT M4 ≤ 1000) ∧ (kn = work.length) ∧ (W11.ownsRow n3 TDI 1 (.slice ka kn kc) kn (work.map (Value.int .i64))) ∧ (n3 ≤ W11.heap.size) ∧ (Chg (fun y => y = bq) W1 W11) ∧ (2 * cntT M4 + work.length < Z) ∧ nn_ = lu.length - j) (n := lu.length - 0) ?_ ?_
       ·exact ⟨0, M3, wl, some ⟨kg, 0, none⟩, kc, kn - 1, Fits.out ⟨rfl, rfl, rfl, rfl, rfl, rfl, trivial⟩, E, E1, hB, Bn, Nat.zero_le _, hL2, (fun i v h => absurd h (Nat.not_lt_zero _)), hMu, (by omega), (by omega), hw2, hs3, hC9, (by omega), rfl⟩
       ·clear E E1 hB Bn
        rintro _ _ W11 ⟨j, M4, work, ka, kc, kn, ⟨j11, rfl⟩, E, E1, hB, Bn, hj, hL, hQ, hMu, hcn, hkn, hw, hs3, hC9, hZ, rfl⟩
        refine Wp_seq_region ?_
        refine qV (r_lss (k := .i64) (a := (j : Int)) (b := (lu.length : Int)) rfl rfl) ?_
        refine WpL_nil (Wp_seq ?_)
        refine Wp_cond (b := decide (((j : Int) : Int) < (lu.length : Int))) rfl (fun hlt4 => ?_) (fun hlt4 => ?_)
        ·have khlt4 := hlt4
         replace hlt4 := of_decide_eq_true hlt4
         obtain ⟨t, ht⟩ := get_of_lt (l := lu) (i := j) (by omega)
         have hte := (hS.full hSk hlu t).1 (List.mem_of_getElem? ht)
         have htn := (ok.ep _ hte).2
         obtain ⟨v, hv⟩ := Int.eq_ofNat_of_zero_le htn.1
         have hvN : v < N := by simp only at htn; omega
         subst hv
         have hMl4 := hL.len
         obtain ⟨q, hq⟩ := get_of_lt (l := M4) (i := v) (by omega)
         have hinE := own_intsD (own_chg hinn hC9 (fun b hb h => by have h' : b = bq := h; have := (hinl b hb).1; omega)) rfl
         obtain ⟨ub, uo, rfl, huc⟩ := ints_cells hinE (by omega)
         refine Wp_skip (thn_normal (Wp_seq (Wp_block (Wp_seq_region ?_))))
         refine qV (r_indexSlice (b := ub) (o := uo) (len := lu.length) (cap := vc) (i := j) (o' := uo + j) rfl rfl rfl Try.underlying22 siz3 (by omega) (by omega)) ?_
         refine qV (r_load (v := (I6 (v : Int))) rfl flat3 (huc j _ ht)) ?_
         refine qA (I6 (v : Int)) rfl ?_
         refine WpL_nil (Wp_seq_region ?_)
         refine qM (.slice (some ⟨bq, 0, none⟩) N N) rfl ?_
         refine qM (I6 (v : Int)) rfl ?_
         refine qV (r_indexSlice (b := bq) (o := 0) (len := N) (cap := N) (i := v) (o' := 0 + v) rfl rfl (by omega) Try.underlying92 siz4 (by omega) (by omega)) ?_
         refine qV (r_load (v := (.bool q)) rfl flat4 (hB.cell (by simp [hq]))) ?_
         refine qV (r_not (b := q) rfl) ?_
         refine WpL_nil ?_
         refine Wp_cond (b := !q) rfl (fun hqf => ?_) (fun hqf => ?_)
         ·have khqf := hqf
          replace hqf := by simpa using hqf
          have hMv : M4[v]? = some false := by rw [hq, hqf]
          have hLk := hL.mark hvN ⟨u, rfl, hMu⟩ hte
          have hcs := cntT_set hMv
          refine Wp_seq_region ?_
          refine qM (.slice (some ⟨bq, 0, none⟩) N N) rfl ?_
          refine qM (I6 (v : Int)) rfl ?_
          refine qV (r_indexSlice (b := bq) (o := 0) (len := N) (cap := N) (i := v) (o' := 0 + v) rfl rfl (by omega) Try.underlying92 siz4 (by omega) (by omega)) ?_
          refine s_store (b := bq) (o := 0 + v) (c' := ((M4.set v true).map Value.bool).toArray) (v := (.bool true)) rfl rfl rfl siz4 hB (by simp; omega) (bools_set true) ?_
          intro w14 S14
          replace hw := own_chg hw S14.chg fun b hb h => by subst h; have := (hw.lt _ hb).1; omega
          replace hs3 := Nat.le_trans hs3 S14.chg.size
          replace hC9 := hC9.step S14.chg (fun y _ h => h)
          replace Bn := S14.keep (by omega) Bn
          replace E := S14.step E (by first | exact Or.inl (by omega) | exact Or.inr rfl | exact Or.inr (by assumption) | exact Or.inr (by simp) | exact Or.inr (by omega) | exact Or.inr (by dsimp only; omega))
          replace E1 := S14.step E1 (Or.inl (by omega))
          replace hB := S14.blk
          refine WpL_nil (Wp_region ?_)
          refine qM (.slice ka kn kc) rfl ?_
          refine qM (I6 (v : Int)) rfl ?_
          refine s_buildSlice (ps := [(0, (I6 (v : Int)))]) (c := #[(I6 (v : Int))]) (by decide) rfl Try.underlying22 siz3 zer3 (by decide) (by decide) (by kernel_rfl) ?_
          intro b15 w15 N15
          have F15 := N15.ge E
          have F15_E1 := N15.ge E1
          have O15_bq := N15.lt hB
          have O15_bn := N15.lt Bn
          replace hB := N15.keep hB
          replace Bn := N15.keep Bn
          replace hw := own_ext hw N15.ext
          replace hs3 := Nat.le_trans hs3 N15.ext.size
          replace hC9 := hC9.ext N15.ext
          replace E := E.ext N15.ext
          have B15 := N15.blk
          replace E1 := E1.ext N15.ext
          refine s_append (base := n3) (n := kn) (m := 1) (xs := (work.map (Value.int .i64))) (news := [(I6 (v : Int))]) (size := 1) (bytes := 8) (v := (.slice ka kn kc)) (by decide) Try.underlying22 siz3 byt3 zer3 rfl (by decide) rfl hw rfl (rfl) (B15.cells rfl) (by simp [Value.oneCell']) (by unfold maxLen; omega) (by omega) (hs3) ?_
          intro v7 w59 Ov7 Cv7 Dv7
          replace hB := Cv7.keep (fun h => by have := (hw.lt _ h).1; omega) hB
          replace Bn := Cv7.keep (fun h => by have := (hw.lt _ h).1; omega) Bn
          replace E := E.step Cv7 (fun x hx h => absurd (hw.lt x h).1 (by omega))
          replace E1 := E1.step Cv7 (fun x hx h => absurd (hw.lt x h).1 (by omega))
          obtain ⟨ka2, kc2, rfl⟩ := own_form Ov7
          replace hC9 := hC9.step Cv7 (fun x hx h => absurd (hw.lt x h).1 (by omega))
          refine qA (.slice ka2 (kn + 1) kc2) rfl ?_
          refine WpL_nil (inB_normal (thn_normal (Wp_region ?_)))
          refine qV (r_add (k := .i64) (a := (j : Int)) (b := 1) (c := (j : Int) + 1) rfl rfl (wI64 (by omega))) ?_
          refine qM (I6 ((j : Int) + 1)) rfl ?_
          refine WpL_nil (thn_normal ?_)
          exact ⟨lu.length - (j + 1), by omega, j + 1, M4.set v true, work ++ [((v : Nat) : Int)], ka2, kc2, kn + 1, Fits.out ⟨rfl, rfl, rfl, rfl, rfl, rfl, trivial⟩, E, E1, hB, Bn, (by omega), hLk, (fun i v2 hi h9 => by rcases Nat.lt_or_ge i j with h1 | h1; exact set_true (hQ i v2 h1 h9); (have h2 : i = j := by omega); rw [h2, ht] at h9; (have h3 : v = v2 := by have := Option.some.inj h9; omega); rw [← h3, List.getElem?_set, if_pos rfl, if_pos (by omega)]), set_true hMu, (by simp; omega), (by simp; omega), (by rw [List.map_append]; exact Ov7), Nat.le_trans hs3 Cv7.size, hC9, (by simp; omega), rfl⟩
         ·have khqf := hqf
          replace hqf := by simpa using hqf
          refine Wp_skip (inB_normal (thn_normal (Wp_region ?_)))
          refine qV (r_add (k := .i64) (a := (j : Int)) (b := 1) (c := (j : Int) + 1) rfl rfl (wI64 (by omega))) ?_
          refine qM (I6 ((j : Int) + 1)) rfl ?_
          refine WpL_nil (thn_normal ?_)
          exact ⟨lu.length - (j + 1), by omega, j + 1, M4, work, ka, kc, kn, Fits.out ⟨rfl, rfl, rfl, rfl, rfl, rfl, trivial⟩, E, E1, hB, Bn, (by omega), hL, (fun i v2 hi h9 => by rcases Nat.lt_or_ge i j with h1 | h1; exact hQ i v2 h1 h9; (have h2 : i = j := by omega); rw [h2, ht] at h9; (have h3 : v = v2 := by have := Option.some.inj h9; omega); rw [← h3, hq, hqf]), hMu, hcn, hkn, hw, hs3, hC9, hZ, rfl⟩
        ·have khlt4 := hlt4
         replace hlt4 := of_decide_eq_false hlt4
         refine Wp_exit (thn_exit (thn_exit (inB_here (inB_normal (thn_normal ?_)))))
         exact ⟨2 * cntT M4 + work.length, by omega, M4, work, ka, kc, kn, Fits.out ⟨rfl, rfl, rfl, trivial⟩, E, E1, hB, Bn, hL.done (fun v h9 => by have h8 := (hS.full hSk hlu ((v : Nat) : Int)).2 h9; obtain ⟨i, hi⟩ := List.getElem?_of_mem h8; exact hQ i v (by have := lt_of_get hi; omega) hi), hcn, hkn, hw, hs3, hC9, rfl⟩
      ·have khlt3 := hlt3
       replace hlt3 := of_decide_eq_false hlt3
       have hw0 : work = [] := List.eq_nil_of_length_eq_zero (by omega)
       rw [hw0] at hL
       refine Wp_exit (thn_exit (thn_exit (inB_here ?_)))
       refine fin_none Try.results44 ?_
       exact ⟨⟨M3, hL.len, hL.fin (fun s h9 => by have := hI s h9; omega) (fun p h9 => by have := (ok.ep p h9).2; omega), hB⟩, E⟩
end Go.Proofs
namespace Go.Proofs
open Go Go.Eng Go.Sort
set_option maxRecDepth 100000
theorem MarkOf.congr {M : List Bool} {I J : Int → Prop} (h : MarkOf M I) (hIJ : ∀ s, I s ↔ J s) : MarkOf M J := fun k hk => (h k hk).trans (hIJ _)
theorem MarkOf.set {M : List Bool} {I : Int → Prop} (h : MarkOf M I) (a : Nat) : MarkOf (M.set a true) (fun s => I s ∨ s = (a : Int)) := by
 intro k hk
 rw [List.length_set] at hk
 rw [List.getElem?_set]
 by_cases e : a = k
 ·subst e
  rw [if_pos rfl, if_pos hk]
  simp
 ·rw [if_neg e]
  refine (h k hk).trans ⟨.inl, fun h2 => h2.resolve_right fun h3 => e (by omega)⟩
theorem mark_none (N : Nat) : MarkOf (List.replicate N false) (fun _ => False) := by
 intro k hk
 rw [List.length_replicate] at hk
 rw [List.getElem?_replicate, if_pos hk]; simp
theorem int_nat {x : Int} {N : Nat} (h : 0 ≤ x ∧ x < (N : Int)) : ∃ a : Nat, x = (a : Int) ∧ a < N := by
 obtain ⟨a, ha⟩ := Int.eq_ofNat_of_zero_le h.1
 exact ⟨a, ha, by omega⟩
set_option maxHeartbeats 2000000 in
theorem nclosure_c (w0 : World) (n : Nf) (vs0 : List Value) (N : Nat) (v : Value) (l : List Int) (ok : OkN n) (hN : n.states = (N : Int)) (h : NfAt w0 n vs0) (hl : IntsAt w0 v l) (hln : ∀ s ∈ l, 0 ≤ s ∧ s < (N : Int)) :
  Ret Try.prog 42 #[.agg vs0.toArray, v] w0 fun r w => (∃ M b, r = .slice (some ⟨b, 0, none⟩) N N ∧ w0.heap.size ≤ b ∧ M.length = N ∧ MarkOf M (cloP n.eps fun s => s ∈ l) ∧ Blk w b (M.map Value.bool).toArray 4) ∧ Ext w0 w := by
 have h0 := h
 obtain ⟨ea, ec, pa, pc, xa, xc, rfl, hen, hep, hed⟩ := h
 obtain ⟨la, lc, rfl⟩ := SlAt.form hl
 have hlc := SlAt.cap hl
 have hle := SlAt.le hl
 have hst := ok.st
 have hN5 : N ≤ 500 := by omega
 rw [hN] at h0
 rw [hN]
 rw [List.length_map] at hl hlc hle ⊢
 refine Ret_of Try.func42 rfl Try.ntmps42 (Nat.le_of_ble_eq_true rfl) ?_
 have E : Chg none1 w0 w0 := Chg.refl _ _
 refine Wp_seq_region ?_
 refine s_box (v := (.agg #[(I6 (N : Int)), (I6 n.start), (.slice ea n.ends.length ec), (.slice pa n.eps.length pc), (.slice xa n.edges.length xc)])) (c := #[(I6 (N : Int)), (I6 n.start), (.slice ea n.ends.length ec), (.slice pa n.eps.length pc), (.slice xa n.edges.length xc)]) (by decide) rfl rfl ?_
 intro bn wn Nn
 have Fn := Nn.ge E
 replace E := E.ext Nn.ext
 have Bn := Nn.blk
 refine qA (.slice none 0 0) rfl ?_
 refine WpL_nil (Wp_seq_region ?_)
 refine qF bn 0 0 rfl Try.underlying26 rfl siz3 rfl ?_
 refine qV (r_load (v := (I6 (N : Int))) rfl flat3 (Bn.cell rfl)) ?_
 refine s_make (n := N) (z := (.bool false)) (bytes := 1) (by decide) Try.underlying92 siz4 byt4 zer4 rfl rfl rfl (by omega) (by omega) ?_
 intro bi wi Ni
 have Fi := Ni.ge E
 have Oi_bn := Ni.lt Bn
 replace Bn := Ni.keep Bn
 replace E := E.ext Ni.ext
 have Bi := Ni.blk
 refine qA (.slice (some ⟨bi, 0, none⟩) N N) rfl ?_
 refine WpL_nil (Wp_seq (Wp_seq_region ?_))
 refine qM (.slice la l.length lc) rfl ?_
 refine qV (r_lenSlice (ad := la) (n := l.length) (cap := lc) Try.underlying22 rfl) ?_
 refine qM (I6 0) rfl ?_
 refine WpL_nil (Wp_block ?_)
 have hbi : bn < bi := by have := Ni.eq; have := Bn.lt; omega
 rw [show List.replicate N (Value.bool false) = (List.replicate N false).map Value.bool by simp] at Bi
 refine Wp_loop (fun nn_ σ W1 => ∃ (k : Nat) (M : List Bool), (∃ jj_, σ = upds jj_ [(2, (P6 bn 0)), (5, (.slice (some ⟨bi, 0, none⟩) N N)), (11, (.slice la l.length lc)), (12, (I6 (l.length : Int))), (13, (I6 (k : Int)))]) ∧ Chg none1 w0 W1 ∧ Blk W1 bn #[(I6 (N : Int)), (I6 n.start), (.slice ea n.ends.length ec), (.slice pa n.eps.length pc), (.slice xa n.edges.length xc)] 26 ∧ Blk W1 bi ((M.map Value.bool).toArray) 4 ∧ (k ≤ l.length) ∧ (M.length = N) ∧ (MarkOf M (fun s => s ∈ l.take k)) ∧ nn_ = l.length - k) (n := l.length - 0) ?_ ?_
 ·exact ⟨0, List.replicate N false, Fits.out ⟨rfl, rfl, rfl, rfl, rfl, trivial⟩, E, Bn, Bi, Nat.zero_le _, (by simp), (mark_none N).congr fun s => by simp, rfl⟩
 ·clear E Bn Bi
  rintro _ _ W1 ⟨k, M, ⟨j1, rfl⟩, E, Bn, Bi, hk, hMl, hM, rfl⟩
  refine Wp_seq_region ?_
  refine qV (r_lss (k := .i64) (a := (k : Int)) (b := (l.length : Int)) rfl rfl) ?_
  refine WpL_nil (Wp_seq ?_)
  refine Wp_cond (b := decide (((k : Int) : Int) < (l.length : Int))) rfl (fun hlt => ?_) (fun hlt => ?_)
  ·have khlt := hlt
   replace hlt := of_decide_eq_true hlt
   obtain ⟨x, hx⟩ := get_of_lt (l := l) (i := k) (by omega)
   obtain ⟨a, ha, haN⟩ := int_nat (hln x (List.mem_of_getElem? hx))
   subst ha
   obtain ⟨lb, lo, rfl, hlc2⟩ := ints_cells hl (by omega)
   refine Wp_skip (thn_normal (Wp_seq (Wp_block (Wp_seq_region ?_))))
   refine qV (r_indexSlice (b := lb) (o := lo) (len := l.length) (cap := lc) (i := k) (o' := lo + k) rfl rfl rfl Try.underlying22 siz3 (by omega) (by omega)) ?_
   refine qV (r_load (v := (I6 (a : Int))) rfl flat3 (E.cell (fun f => f) (hlc2 k _ hx))) ?_
   refine qA (I6 (a : Int)) rfl ?_
   refine WpL_nil (Wp_region ?_)
   refine qM (.slice (some ⟨bi, 0, none⟩) N N) rfl ?_
   refine qM (I6 (a : Int)) rfl ?_
   refine qV (r_indexSlice (b := bi) (o := 0) (len := N) (cap := N) (i := a) (o' := 0 + a) rfl rfl (by omega) Try.underlying92 siz4 (by omega) (by omega)) ?_
   refine s_store (b := bi) (o := 0 + a) (c' := ((M.set a true).map Value.bool).toArray) (v := (.bool true)) rfl rfl rfl siz4 Bi (by simp; omega) (bools_set true) ?_
   intro w3 S3
   replace Bn := S3.keep (by omega) Bn
   replace E := S3.step E (by first | exact Or.inl (by omega) | exact Or.inr rfl | exact Or.inr (by assumption) | exact Or.inr (by simp) | exact Or.inr (by omega) | exact Or.inr (by dsimp only; omega))
   replace Bi := S3.blk
   refine WpL_nil (inB_normal (thn_normal (Wp_region ?_)))
   refine qV (r_add (k := .i64) (a := (k : Int)) (b := 1) (c := (k : Int) + 1) rfl rfl (wI64 (by omega))) ?_
   refine qM (I6 ((k : Int) + 1)) rfl ?_
   refine WpL_nil (thn_normal ?_)
   exact ⟨l.length - (k + 1), by omega, k + 1, M.set a true, Fits.out ⟨rfl, rfl, rfl, rfl, rfl, trivial⟩, E, Bn, Bi, (by omega), (by rw [List.length_set]; exact hMl), (hM.set a).congr fun s => by rw [List.take_add_one, hx]; simp, rfl⟩
  ·have khlt := hlt
   replace hlt := of_decide_eq_false hlt
   have hkk : k = l.length := by omega
   rw [hkk, List.take_length] at hM
   refine Wp_exit (thn_exit (thn_exit (inB_here (thn_normal (Wp_seq_region ?_)))))
   refine qV (r_loadAgg (vs := [(I6 (N : Int)), (I6 n.start), (.slice ea n.ends.length ec), (.slice pa n.eps.length pc), (.slice xa n.edges.length xc)]) rfl agg26 siz26 rfl (Bn.cells rfl)) ?_
   refine qM (.slice (some ⟨bi, 0, none⟩) N N) rfl ?_
   refine WpL_enter rfl rfl (by decide) (r_callF (vs := [(.agg #[(I6 (N : Int)), (I6 n.start), (.slice ea n.ends.length ec), (.slice pa n.eps.length pc), (.slice xa n.edges.length xc)]), (.slice (some ⟨bi, 0, none⟩) N N)]) Try.func44 nm44 bd44 rfl) (nclose_c _ w0 n _ bi N M (fun s => s ∈ l) ok hN h0 E (by omega) Bi hMl (fun s hs => by rw [hN]; exact hln s hs) hM) ?_
   rintro _ w9 ⟨⟨M2, hM2l, hM2, hB2⟩, C9⟩
   replace Bn := C9.keep ((fun h => by have h' : _ = bi := h; omega)) Bn
   replace E := E.step C9 ((fun y hy h => by have h' : y = bi := h; omega))
   refine WpL_nil (Wp_seq_region ?_)
   refine qM (.slice (some ⟨bi, 0, none⟩) N N) rfl ?_
   refine qA (.slice (some ⟨bi, 0, none⟩) N N) rfl ?_
   refine WpL_nil (Wp_ret ?_)
   refine fin_tmp Try.results42 (v := (.slice (some ⟨bi, 0, none⟩) N N)) rfl ?_
   exact ⟨⟨M2, bi, rfl, by omega, hM2l, hM2, hB2⟩, E⟩
theorem nrun1_c (w0 : World) (a N g b : Nat) (M : List Bool) (hB : Blk w0 b #[.slice (some ⟨g, 0, none⟩) N N] 92) (hg : Blk w0 g (M.map Value.bool).toArray 4) (hMl : M.length = N) (ha : a < N) (hN : N ≤ 500) : Ret Try.prog 46 #[.int .i64 ((a : Nat) : Int), .pointer (some ⟨b, 0, none⟩)] w0 fun r w => r = .bool (M.getD a false) ∧ Ext w0 w := by
 obtain ⟨q, hq⟩ := get_of_lt (l := M) (i := a) (by omega)
 refine Ret_of Try.func46 rfl Try.ntmps46 (Nat.le_of_ble_eq_true rfl) ?_
 have E : Chg none1 w0 w0 := Chg.refl _ _
 refine Wp_seq_region ?_
 refine qA (.bool false) rfl ?_
 refine WpL_nil (Wp_seq_region ?_)
 refine qV (r_load (v := (.slice (some ⟨g, 0, none⟩) N N)) rfl flat92 (hB.cell rfl)) ?_
 refine qM (I6 (a : Int)) rfl ?_
 refine qV (r_indexSlice (b := g) (o := 0) (len := N) (cap := N) (i := a) (o' := 0 + a) rfl rfl (by omega) Try.underlying92 siz4 (by omega) (by omega)) ?_
 refine qV (r_load (v := (.bool q)) rfl flat4 (hg.cell (by simp [hq]))) ?_
 refine qA (.bool q) rfl ?_
 refine WpL_nil (Wp_ret ?_)
 refine fin_tmp Try.results46 (v := (.bool q)) rfl ?_
 exact ⟨bool_eq (by rw [List.getD_eq_getElem?_getD, hq]; rfl), E⟩
/-- What Run returns. -/
def RunP (n : Nf) (text : List Int) (b : Bool) (e : Int) : Prop := (chkN n ≠ 0 ∧ b = false ∧ e = chkN n) ∨ (chkN n = 0 ∧ 1000 < text.length ∧ b = false ∧ e = 2) ∨ (chkN n = 0 ∧ text.length ≤ 1000 ∧ (text.any fun r => !runeB r) = true ∧ b = false ∧ e = 1) ∨
 (chkN n = 0 ∧ text.length ≤ 1000 ∧ (text.any fun r => !runeB r) = false ∧ (b = true ↔ Acc n text) ∧ e = 0)
/-- What is marked when the first j edges have been gone through. -/
def stpJ (n : Nf) (I : Int → Prop) (c : Int) (j : Nat) : Int → Prop := fun t => ∃ e ∈ n.edges.take j, I e.1 ∧ inS e.2.2 c = true ∧ e.2.1 = t
theorem stpJ_snoc {n : Nf} {I : Int → Prop} {c : Int} {j : Nat} {e : Ed} (he : n.edges[j]? = some e) (t : Int) : stpJ n I c (j + 1) t ↔ stpJ n I c j t ∨ (I e.1 ∧ inS e.2.2 c = true ∧ e.2.1 = t) := by
 unfold stpJ
 rw [List.take_add_one, he]
 constructor
 ·rintro ⟨f, hf, h⟩
  rcases List.mem_append.1 hf with h1 | h1
  ·exact .inl ⟨f, h1, h⟩
  ·simp at h1; subst h1; exact .inr h
 ·rintro (⟨f, hf, h⟩ | h)
  ·exact ⟨f, List.mem_append_left _ hf, h⟩
  ·exact ⟨e, List.mem_append_right _ (by simp), h⟩
theorem setP_snoc {n : Nf} {I : Int → Prop} {text : List Int} {k : Nat} {c : Int} (h : text[k]? = some c) : setP n I (text.take (k + 1)) = cloP n.eps (stpP n (setP n I (text.take k)) c) := by
 rw [List.take_add_one, h]
 unfold setP
 rw [List.foldl_append]; rfl
set_option maxHeartbeats 4000000 in
theorem nrun_c (w0 : World) (n : Nf) (vs0 : List Value) (v : Value) (text : List Int) (h : NfAt w0 n vs0) (ht : IntsAt w0 v text) :
  Ret Try.prog 12 #[.agg vs0.toArray, v] w0 fun r w => (∃ b e, r = .tuple #[.bool b, .int .i64 e] ∧ RunP n text b e) ∧ Ext w0 w := by
 have h0 := h
 obtain ⟨ea, ec, pa, pc, xa, xc, rfl, hen, hep, hed⟩ := h
 obtain ⟨ta, tc, rfl⟩ := SlAt.form ht
 have htc := SlAt.cap ht
 have htl := SlAt.le ht
 rw [List.length_map] at ht htc htl ⊢
 refine Ret_of Try.func12 rfl Try.ntmps12 (Nat.le_of_ble_eq_true rfl) ?_
 have E : Chg none1 w0 w0 := Chg.refl _ _
 refine Wp_seq_region ?_
 refine s_box (v := (.agg #[(I6 n.states), (I6 n.start), (.slice ea n.ends.length ec), (.slice pa n.eps.length pc), (.slice xa n.edges.length xc)])) (c := #[(I6 n.states), (I6 n.start), (.slice ea n.ends.length ec), (.slice pa n.eps.length pc), (.slice xa n.edges.length xc)]) (by decide) rfl rfl ?_
 intro bn wn Nn
 have Fn := Nn.ge E
 replace E := E.ext Nn.ext
 have Bn := Nn.blk
 refine qA (.bool false) rfl ?_
 refine qA (I6 0) rfl ?_
 refine WpL_nil (Wp_seq (Wp_seq_region ?_))
 refine qV (r_loadAgg (vs := [(I6 n.states), (I6 n.start), (.slice ea n.ends.length ec), (.slice pa n.eps.length pc), (.slice xa n.edges.length xc)]) rfl agg26 siz26 rfl (Bn.cells rfl)) ?_
 refine WpL_enter rfl rfl (by decide) (r_callF (vs := [(.agg #[(I6 n.states), (I6 n.start), (.slice ea n.ends.length ec), (.slice pa n.eps.length pc), (.slice xa n.edges.length xc)])]) Try.func39 nm39 bd39 rfl) (ncheck_c _ n _ (h0.ext E)) ?_
 rintro _ w9 ⟨rfl, X9⟩
 replace Bn := X9.keep Bn
 replace E := E.ext X9
 refine qA (I6 (chkN n)) rfl ?_
 refine WpL_nil (Wp_seq_region ?_)
 refine qM (I6 (chkN n)) rfl ?_
 refine qV (r_neq (k := .i64) (a := chkN n) (b := 0) rfl rfl) ?_
 refine WpL_nil ?_
 refine Wp_cond (b := decide ((chkN n : Int) ≠ 0)) rfl (fun hc0 => ?_) (fun hc0 => ?_)
 ·have khc0 := hc0
  replace hc0 := of_decide_eq_true hc0
  refine Wp_seq_region ?_
  refine qM (I6 (chkN n)) rfl ?_
  refine qA (.bool false) rfl ?_
  refine qA (I6 (chkN n)) rfl ?_
  refine WpL_nil (Wp_ret (thn_ret ?_))
  refine fin_tmp2 Try.results12 (v := (.bool false)) (v' := (.int .i64 (chkN n))) rfl rfl ?_
  exact ⟨⟨_, _, rfl, .inl ⟨hc0, rfl, rfl⟩⟩, E⟩
 ·have khc0 := hc0
  replace hc0 := of_decide_eq_false hc0
  have hc1 : chkN n = 0 := by omega
  have ok := chkN_zero.1 hc1
  refine Wp_skip (thn_normal (Wp_seq (Wp_seq_region ?_)))
  refine qM (.slice ta text.length tc) rfl ?_
  refine qV (r_lenSlice (ad := ta) (n := text.length) (cap := tc) Try.underlying22 rfl) ?_
  refine qV (r_gtr (k := .i64) (a := (text.length : Int)) (b := 1000) rfl rfl) ?_
  refine WpL_nil ?_
  refine Wp_cond (b := decide ((1000 : Int) < (text.length : Int))) rfl (fun hlen => ?_) (fun hlen => ?_)
  ·have khlen := hlen
   replace hlen := of_decide_eq_true hlen
   refine Wp_seq_region ?_
   refine qA (.bool false) rfl ?_
   refine qA (I6 2) rfl ?_
   refine WpL_nil (Wp_ret (thn_ret ?_))
   refine fin_tmp2 Try.results12 (v := (.bool false)) (v' := (.int .i64 2)) rfl rfl ?_
   exact ⟨⟨_, _, rfl, .inr (.inl ⟨hc1, by omega, rfl, rfl⟩)⟩, E⟩
  ·have khlen := hlen
   replace hlen := of_decide_eq_false hlen
   refine Wp_skip (thn_normal (Wp_seq (Wp_seq_region ?_)))
   refine qM (.slice ta text.length tc) rfl ?_
   refine WpL_enter rfl rfl (by decide) (r_callF (vs := [(.slice ta text.length tc)]) Try.func41 nm41 bd41 rfl) (runes_c _ _ text (ht.ext E)) ?_
   rintro _ w19 ⟨rfl, X19⟩
   replace Bn := X19.keep Bn
   replace E := E.ext X19
   refine qV (r_not (b := !(text.any fun r => !runeB r)) rfl) ?_
   refine WpL_nil ?_
   refine Wp_cond (b := !(!(text.any fun r => !runeB r))) rfl (fun hru => ?_) (fun hru => ?_)
   ·have khru := hru
    replace hru := by simpa using hru
    replace hru := by simpa using hru
    refine Wp_seq_region ?_
    refine qA (.bool false) rfl ?_
    refine qA (I6 1) rfl ?_
    refine WpL_nil (Wp_ret (thn_ret ?_))
    refine fin_tmp2 Try.results12 (v := (.bool false)) (v' := (.int .i64 1)) rfl rfl ?_
    exact ⟨⟨_, _, rfl, .inr (.inr (.inl ⟨hc1, by omega, by simpa using hru, rfl, rfl⟩))⟩, E⟩
   ·have khru := hru
    replace hru := by simpa using hru
    replace hru := by simpa using hru
    have hru1 : (text.any fun r => !runeB r) = false := by simpa using hru
    obtain ⟨N, hN, _⟩ : ∃ N : Nat, n.states = (N : Int) ∧ True := by have := ok.s0; obtain ⟨a, ha⟩ := Int.eq_ofNat_of_zero_le (show 0 ≤ n.states by omega); exact ⟨a, ha, trivial⟩
    have hst := ok.st
    have hxl := ok.xl
    have hN5 : N ≤ 500 := by omega
    have h0N := h0
    rw [hN] at h0N
    have Bn2 := Bn
    rw [hN] at Bn2
    refine Wp_skip (thn_normal (Wp_seq_region ?_))
    refine qV (r_loadAgg (vs := [(I6 (N : Int)), (I6 n.start), (.slice ea n.ends.length ec), (.slice pa n.eps.length pc), (.slice xa n.edges.length xc)]) rfl agg26 siz26 rfl (Bn2.cells rfl)) ?_
    refine qF bn 0 1 rfl Try.underlying26 rfl siz3 rfl ?_
    refine qV (r_load (v := (I6 n.start)) rfl flat3 (Bn2.cell rfl)) ?_
    refine s_buildSlice (ps := [(0, (I6 n.start))]) (c := #[(I6 n.start)]) (by decide) rfl Try.underlying22 siz3 zer3 (by decide) (by decide) (by kernel_rfl) ?_
    intro bs ws Ns
    have Fs := Ns.ge E
    have Os_bn := Ns.lt Bn2
    replace Bn2 := Ns.keep Bn2
    replace E := E.ext Ns.ext
    have Bs := Ns.blk
    have hbnl : bn < (ws).heap.size ∧ w0.heap.size ≤ (ws).heap.size := ⟨Bn2.lt, E.size⟩
    refine WpL_enter rfl rfl (by decide) (r_callF (vs := [(.agg #[(I6 (N : Int)), (I6 n.start), (.slice ea n.ends.length ec), (.slice pa n.eps.length pc), (.slice xa n.edges.length xc)]), (.slice (some ⟨bs, 0, none⟩) 1 1)]) Try.func42 nm42 bd42 rfl) (nclosure_c _ n _ N _ [n.start] ok hN (h0N.ext E) (ints_of_blk [n.start] Bs (by simp) (by simp)) (fun s hs => by rw [List.mem_singleton.1 hs]; have := ok.s0; omega)) ?_
    rintro _ w29 ⟨⟨M0, g0, rfl, hg0, hM0l, hM0, hB0⟩, X29⟩
    replace Bn2 := X29.keep Bn2
    replace Bs := X29.keep Bs
    replace E := E.ext X29
    have hg0l := hB0.lt
    have hbn0 : bn < g0 ∧ w0.heap.size ≤ g0 := by omega
    refine s_allocStore (v := (.slice (some ⟨g0, 0, none⟩) N N)) (c := #[(.slice (some ⟨g0, 0, none⟩) N N)]) (n := 1) (by decide) zer92 rfl siz92 rfl rfl rfl (by simp [Value.oneCell']) ?_
    intro bi wi Ni
    have Fi := Ni.ge E
    have Oi_bn := Ni.lt Bn2
    have Oi_g0 := Ni.lt hB0
    replace Bn2 := Ni.keep Bn2
    replace hB0 := Ni.keep hB0
    replace E := E.ext Ni.ext
    have Bi := Ni.blk
    refine WpL_nil (Wp_seq (Wp_seq_region ?_))
    refine qM (.slice ta text.length tc) rfl ?_
    refine qV (r_lenSlice (ad := ta) (n := text.length) (cap := tc) Try.underlying22 rfl) ?_
    refine qM (I6 0) rfl ?_
    refine WpL_nil (Wp_block ?_)
    have hgi : g0 < bi := by have := Ni.eq; omega
    refine Wp_loop (fun nn_ σ W4 => ∃ (k : Nat) (M : List Bool) (g : Nat), (∃ jj_, σ = upds jj_ [(2, (P6 bn 0)), (7, (P6 bi 0)), (29, (.slice ta text.length tc)), (30, (I6 (text.length : Int))), (31, (I6 (k : Int)))]) ∧ Chg none1 w0 W4 ∧ Blk W4 bn #[(I6 (N : Int)), (I6 n.start), (.slice ea n.ends.length ec), (.slice pa n.eps.length pc), (.slice xa n.edges.length xc)] 26 ∧ Blk W4 g0 ((M0.map Value.bool).toArray) 4 ∧ Blk W4 bi (#[Value.slice (some ⟨g, 0, none⟩) N N]) 92 ∧ (k ≤ text.length) ∧ (M.length = N) ∧ (MarkOf M (setP n (cloP n.eps fun s => s = n.start) (text.take k))) ∧ (Blk W4 g (M.map Value.bool).toArray 4) ∧ (g ≠ bi ∧ g ≠ bn ∧ w0.heap.size ≤ g) ∧ nn_ = text.length - k) (n := text.length - 0) ?_ ?_
    ·exact ⟨0, M0, g0, Fits.out ⟨rfl, rfl, rfl, rfl, rfl, trivial⟩, E, Bn2, hB0, Bi, Nat.zero_le _, hM0l, hM0.congr (fun s => by rw [List.take_zero]; exact Iff.of_eq (congrArg (fun I => cloP n.eps I s) (by funext t; simp))), hB0, (by omega), rfl⟩
    ·clear E Bn2 hB0 Bi
     rintro _ _ W4 ⟨k, M, g, ⟨j4, rfl⟩, E, Bn2, hB0, Bi, hk, hMl, hM, hg, hgn, rfl⟩
     refine Wp_seq_region ?_
     refine qV (r_lss (k := .i64) (a := (k : Int)) (b := (text.length : Int)) rfl rfl) ?_
     refine WpL_nil (Wp_seq ?_)
     refine Wp_cond (b := decide (((k : Int) : Int) < (text.length : Int))) rfl (fun hlt => ?_) (fun hlt => ?_)
     ·have khlt := hlt
      replace hlt := of_decide_eq_true hlt
      obtain ⟨c, hc⟩ := get_of_lt (l := text) (i := k) (by omega)
      obtain ⟨tb, to, rfl, htcl⟩ := ints_cells ht (by omega)
      refine Wp_skip (thn_normal (Wp_seq (Wp_block (Wp_seq_region ?_))))
      refine qV (r_indexSlice (b := tb) (o := to) (len := text.length) (cap := tc) (i := k) (o' := to + k) rfl rfl rfl Try.underlying22 siz3 (by omega) (by omega)) ?_
      refine qV (r_load (v := (I6 c)) rfl flat3 (E.cell (fun f => f) (htcl k c hc))) ?_
      refine qA (I6 c) rfl ?_
      refine WpL_nil (Wp_seq_region ?_)
      refine qF bn 0 0 rfl Try.underlying26 rfl siz3 rfl ?_
      refine qV (r_load (v := (I6 (N : Int))) rfl flat3 (Bn2.cell rfl)) ?_
      refine s_make (n := N) (z := (.bool false)) (bytes := 1) (by decide) Try.underlying92 siz4 byt4 zer4 rfl rfl rfl (by omega) (by omega) ?_
      intro bx wx Nx
      have Fx := Nx.ge E
      have Ox_bn := Nx.lt Bn2
      have Ox_g0 := Nx.lt hB0
      have Ox_bi := Nx.lt Bi
      have Ox_g := Nx.lt hg
      replace Bn2 := Nx.keep Bn2
      replace hB0 := Nx.keep hB0
      replace Bi := Nx.keep Bi
      replace hg := Nx.keep hg
      replace E := E.ext Nx.ext
      have Bx := Nx.blk
      refine qA (.slice (some ⟨bx, 0, none⟩) N N) rfl ?_
      refine WpL_nil (Wp_seq (Wp_seq_region ?_))
      refine qF bn 0 4 rfl Try.underlying26 rfl siz24 rfl ?_
      refine qV (r_load (v := (.slice xa n.edges.length xc)) rfl flat24 (Bn2.cell rfl)) ?_
      refine qV (r_lenSlice (ad := xa) (n := n.edges.length) (cap := xc) Try.underlying24 rfl) ?_
      refine qM (I6 0) rfl ?_
      refine WpL_nil (Wp_block ?_)
      rw [show List.replicate N (Value.bool false) = (List.replicate N false).map Value.bool by simp] at Bx
      refine Wp_loop (fun nn_ σ W6 => ∃ (j : Nat) (M2 : List Bool), (∃ jj_, σ = upds jj_ [(2, (P6 bn 0)), (7, (P6 bi 0)), (9, (I6 c)), (10, (.slice (some ⟨bx, 0, none⟩) N N)), (29, (.slice (some ⟨tb, to, none⟩) text.length tc)), (30, (I6 (text.length : Int))), (31, (I6 (k : Int))), (39, (.slice xa n.edges.length xc)), (40, (I6 (n.edges.length : Int))), (41, (I6 (j : Int)))]) ∧ Chg none1 w0 W6 ∧ Blk W6 bn #[(I6 (N : Int)), (I6 n.start), (.slice ea n.ends.length ec), (.slice pa n.eps.length pc), (.slice xa n.edges.length xc)] 26 ∧ Blk W6 g0 ((M0.map Value.bool).toArray) 4 ∧ Blk W6 bi #[(.slice (some ⟨g, 0, none⟩) N N)] 92 ∧ Blk W6 g ((M.map Value.bool).toArray) 4 ∧ Blk W6 bx ((M2.map Value.bool).toArray) 4 ∧ (j ≤ n.edges.length) ∧ (M2.length = N) ∧ (MarkOf M2 (stpJ n (setP n (cloP n.eps fun s => s = n.start) (text.take k)) c j)) ∧ nn_ = n.edges.length - j) (n := n.edges.length - 0) ?_ ?_
      ·exact ⟨0, List.replicate N false, Fits.out ⟨rfl, rfl, rfl, rfl, rfl, rfl, rfl, rfl, rfl, rfl, trivial⟩, E, Bn2, hB0, Bi, hg, Bx, Nat.zero_le _, (by simp), (mark_none N).congr fun t => by simp [stpJ], rfl⟩
      ·clear E Bn2 hB0 Bi hg Bx
       rintro _ _ W6 ⟨j, M2, ⟨j6, rfl⟩, E, Bn2, hB0, Bi, hg, Bx, hj, hM2l, hM2, rfl⟩
       refine Wp_seq_region ?_
       refine qV (r_lss (k := .i64) (a := (j : Int)) (b := (n.edges.length : Int)) rfl rfl) ?_
       refine WpL_nil (Wp_seq ?_)
       refine Wp_cond (b := decide (((j : Int) : Int) < (n.edges.length : Int))) rfl (fun hlt2 => ?_) (fun hlt2 => ?_)
       ·have khlt2 := hlt2
        replace hlt2 := of_decide_eq_true hlt2
        obtain ⟨e, he⟩ := get_of_lt (l := n.edges) (i := j) (by omega)
        have hem := ok.ed e (List.mem_of_getElem? he)
        obtain ⟨a, hea, haN⟩ := int_nat (by rw [← hN]; exact hem.1)
        obtain ⟨d, hde, hdN⟩ := int_nat (by rw [← hN]; exact hem.2.1)
        obtain ⟨xb, xo, rfl, hxc⟩ := edges_cells hed (by omega)
        obtain ⟨ra, rc, hcell, hsp⟩ := hxc j e he
        rw [hea, hde] at hcell
        obtain ⟨q, hq⟩ := get_of_lt (l := M) (i := a) (by omega)
        have hqI := hM a (by omega)
        rw [hq, ← hea] at hqI
        refine Wp_skip (thn_normal (Wp_seq (Wp_block (Wp_seq_region ?_))))
        refine qV (r_indexSlice (b := xb) (o := xo) (len := n.edges.length) (cap := xc) (i := j) (o' := xo + j * 3) rfl rfl rfl Try.underlying24 siz40 (by omega) (by omega)) ?_
        refine qV (r_loadAgg (vs := [(I6 (a : Int)), (I6 (d : Int)), (.slice ra e.2.2.length rc)]) rfl agg40 siz40 rfl (hcell.ext E)) ?_
        refine s_allocStore (v := (.agg #[(I6 (a : Int)), (I6 (d : Int)), (.slice ra e.2.2.length rc)])) (c := #[(I6 (a : Int)), (I6 (d : Int)), (.slice ra e.2.2.length rc)]) (n := 3) (by decide) zer40 rfl siz40 rfl rfl rfl (by simp [Value.oneCell']) ?_
        intro bu wu Nu
        have Fu := Nu.ge E
        have Ou_bn := Nu.lt Bn2
        have Ou_g0 := Nu.lt hB0
        have Ou_bi := Nu.lt Bi
        have Ou_g := Nu.lt hg
        have Ou_bx := Nu.lt Bx
        replace Bn2 := Nu.keep Bn2
        replace hB0 := Nu.keep hB0
        replace Bi := Nu.keep Bi
        replace hg := Nu.keep hg
        replace Bx := Nu.keep Bx
        replace E := E.ext Nu.ext
        have Bu := Nu.blk
        refine WpL_nil (Wp_seq_region ?_)
        refine qV (r_load (v := (.slice (some ⟨g, 0, none⟩) N N)) rfl flat92 (Bi.cell rfl)) ?_
        refine qF bu 0 0 rfl Try.underlying40 rfl siz3 rfl ?_
        refine qV (r_load (v := (I6 (a : Int))) rfl flat3 (Bu.cell rfl)) ?_
        refine qV (r_indexSlice (b := g) (o := 0) (len := N) (cap := N) (i := a) (o' := 0 + a) rfl rfl (by omega) Try.underlying92 siz4 (by omega) (by omega)) ?_
        refine qV (r_load (v := (.bool q)) rfl flat4 (hg.cell (by simp [hq]))) ?_
        refine qM (.bool q) rfl ?_
        rcases Bool.eq_false_or_eq_true (q) with g1 | g1
        ·have kg1 := g1
         refine WpL_guard_yes (oj := _) rfl rfl (by decide) (congrArg Value.bool g1) ?_
         refine qF bu 0 2 rfl Try.underlying40 rfl siz30 rfl ?_
         refine WpL_guard_yes (oj := _) rfl rfl (by decide) (congrArg Value.bool g1) ?_
         refine qV (r_load (v := (.slice ra e.2.2.length rc)) rfl flat30 (Bu.cell rfl)) ?_
         refine WpL_guard_yes (oj := _) rfl rfl (by decide) (congrArg Value.bool g1) ?_
         refine qM (I6 c) rfl ?_
         refine WpL_guard_yes (oj := _) rfl rfl (by decide) (congrArg Value.bool g1) ?_
         refine WpL_enter rfl rfl (by decide) (r_callF (vs := [(.slice ra e.2.2.length rc), (I6 c)]) Try.func43 nm43 bd43 rfl) (in_c _ _ e.2.2 c (hsp.ext E)) ?_
         rintro _ w49 ⟨rfl, X49⟩
         replace Bn2 := X49.keep Bn2
         replace hB0 := X49.keep hB0
         replace Bi := X49.keep Bi
         replace hg := X49.keep hg
         replace Bx := X49.keep Bx
         replace Bu := X49.keep Bu
         replace E := E.ext X49
         refine qV (r_pick (b := q) (v := (.bool (inS e.2.2 c))) rfl (by rw [g1]; rfl)) ?_
         refine WpL_nil ?_
         refine Wp_cond (b := inS e.2.2 c) rfl (fun g2 => ?_) (fun g2 => ?_)
         ·have kg2 := g2
          refine Wp_region ?_
          refine qM (.slice (some ⟨bx, 0, none⟩) N N) rfl ?_
          refine qF bu 0 1 rfl Try.underlying40 rfl siz3 rfl ?_
          refine qV (r_load (v := (I6 (d : Int))) rfl flat3 (Bu.cell rfl)) ?_
          refine qV (r_indexSlice (b := bx) (o := 0) (len := N) (cap := N) (i := d) (o' := 0 + d) rfl rfl (by omega) Try.underlying92 siz4 (by omega) (by omega)) ?_
          refine s_store (b := bx) (o := 0 + d) (c' := ((M2.set d true).map Value.bool).toArray) (v := (.bool true)) rfl rfl rfl siz4 Bx (by simp; omega) (bools_set true) ?_
          intro w10 S10
          replace Bn2 := S10.keep (by omega) Bn2
          replace hB0 := S10.keep (by omega) hB0
          replace Bi := S10.keep (by omega) Bi
          replace hg := S10.keep (by omega) hg
          replace Bu := S10.keep (by omega) Bu
          replace E := S10.step E (by first | exact Or.inl (by omega) | exact Or.inr rfl | exact Or.inr (by assumption) | exact Or.inr (by simp) | exact Or.inr (by omega) | exact Or.inr (by dsimp only; omega))
          replace Bx := S10.blk
          refine WpL_nil (inB_normal (thn_normal (Wp_region ?_)))
          refine qV (r_add (k := .i64) (a := (j : Int)) (b := 1) (c := (j : Int) + 1) rfl rfl (wI64 (by omega))) ?_
          refine qM (I6 ((j : Int) + 1)) rfl ?_
          refine WpL_nil (thn_normal ?_)
          exact ⟨n.edges.length - (j + 1), by omega, j + 1, M2.set d true, Fits.out ⟨rfl, rfl, rfl, rfl, rfl, rfl, rfl, rfl, rfl, rfl, trivial⟩, E, Bn2, hB0, Bi, hg, Bx, (by omega), (by rw [List.length_set]; exact hM2l), (hM2.set d).congr fun t => by rw [stpJ_snoc he, hde]; exact or_congr Iff.rfl ⟨fun h => ⟨hqI.1 (by rw [g1]), g2, h.symm⟩, fun h => h.2.2.symm⟩, rfl⟩
         ·have kg2 := g2
          refine Wp_skip (inB_normal (thn_normal (Wp_region ?_)))
          refine qV (r_add (k := .i64) (a := (j : Int)) (b := 1) (c := (j : Int) + 1) rfl rfl (wI64 (by omega))) ?_
          refine qM (I6 ((j : Int) + 1)) rfl ?_
          refine WpL_nil (thn_normal ?_)
          exact ⟨n.edges.length - (j + 1), by omega, j + 1, M2, Fits.out ⟨rfl, rfl, rfl, rfl, rfl, rfl, rfl, rfl, rfl, rfl, trivial⟩, E, Bn2, hB0, Bi, hg, Bx, (by omega), hM2l, hM2.congr fun t => by rw [stpJ_snoc he, g2]; simp, rfl⟩
        ·have kg1 := g1
         refine WpL_guard_no (oj := _) rfl rfl (by decide) (v := .bool false) (congrArg Value.bool g1) (Or.inl rfl) ?_
         refine WpL_guard_no (oj := _) rfl rfl (by decide) (v := .bool false) (congrArg Value.bool g1) (Or.inl rfl) ?_
         refine WpL_guard_no (oj := _) rfl rfl (by decide) (v := .bool false) (congrArg Value.bool g1) (Or.inl rfl) ?_
         refine WpL_guard_no (oj := _) rfl rfl (by decide) (v := .bool false) (congrArg Value.bool g1) (Or.inl rfl) ?_
         refine qV (r_pick (b := q) (v := (.bool false)) rfl (by rw [g1]; rfl)) ?_
         refine WpL_nil ?_
         refine Wp_cond_false rfl ?_
         refine Wp_skip (inB_normal (thn_normal (Wp_region ?_)))
         refine qV (r_add (k := .i64) (a := (j : Int)) (b := 1) (c := (j : Int) + 1) rfl rfl (wI64 (by omega))) ?_
         refine qM (I6 ((j : Int) + 1)) rfl ?_
         refine WpL_nil (thn_normal ?_)
         exact ⟨n.edges.length - (j + 1), by omega, j + 1, M2, Fits.out ⟨rfl, rfl, rfl, rfl, rfl, rfl, rfl, rfl, rfl, rfl, trivial⟩, E, Bn2, hB0, Bi, hg, Bx, (by omega), hM2l, hM2.congr fun t => by rw [stpJ_snoc he]; exact ⟨.inl, fun h => h.resolve_right fun h2 => by have h3 := hqI.2 h2.1; rw [g1] at h3; cases h3⟩, rfl⟩
       ·have khlt2 := hlt2
        replace hlt2 := of_decide_eq_false hlt2
        have hjj : j = n.edges.length := by omega
        have hM2f : MarkOf M2 (stpP n (setP n (cloP n.eps fun s => s = n.start) (text.take k)) c) := hM2.congr fun t => by rw [hjj]; unfold stpJ stpP; rw [List.take_length]
        refine Wp_exit (thn_exit (thn_exit (inB_here (thn_normal (Wp_seq_region ?_)))))
        refine qM (.slice (some ⟨bx, 0, none⟩) N N) rfl ?_
        refine s_store (b := bi) (o := 0) (c' := #[(.slice (some ⟨bx, 0, none⟩) N N)]) (v := (.slice (some ⟨bx, 0, none⟩) N N)) rfl rfl rfl siz92 Bi (by simp) rfl ?_
        intro w11 S11
        replace Bn2 := S11.keep (by omega) Bn2
        replace hB0 := S11.keep (by omega) hB0
        replace hg := S11.keep (by omega) hg
        replace Bx := S11.keep (by omega) Bx
        replace E := S11.step E (by first | exact Or.inl (by omega) | exact Or.inr rfl | exact Or.inr (by assumption) | exact Or.inr (by simp) | exact Or.inr (by omega) | exact Or.inr (by dsimp only; omega))
        replace Bi := S11.blk
        refine WpL_nil (Wp_region ?_)
        refine qV (r_loadAgg (vs := [(I6 (N : Int)), (I6 n.start), (.slice ea n.ends.length ec), (.slice pa n.eps.length pc), (.slice xa n.edges.length xc)]) rfl agg26 siz26 rfl (Bn2.cells rfl)) ?_
        refine qV (r_load (v := (.slice (some ⟨bx, 0, none⟩) N N)) rfl flat92 (Bi.cell rfl)) ?_
        refine WpL_enter rfl rfl (by decide) (r_callF (vs := [(.agg #[(I6 (N : Int)), (I6 n.start), (.slice ea n.ends.length ec), (.slice pa n.eps.length pc), (.slice xa n.edges.length xc)]), (.slice (some ⟨bx, 0, none⟩) N N)]) Try.func44 nm44 bd44 rfl) (nclose_c _ w0 n _ bx N M2 (stpP n (setP n (cloP n.eps fun s => s = n.start) (text.take k)) c) ok hN h0N E (by omega) Bx hM2l (fun s hs => by obtain ⟨e, he, _, _, h9⟩ := hs; rw [← h9]; exact (ok.ed e he).2.1) hM2f) ?_
        rintro _ w59 ⟨⟨M3, hM3l, hM3, hB3⟩, C9⟩
        replace Bn2 := C9.keep ((fun h => by have h' : _ = bx := h; omega)) Bn2
        replace hB0 := C9.keep ((fun h => by have h' : _ = bx := h; omega)) hB0
        replace Bi := C9.keep ((fun h => by have h' : _ = bx := h; omega)) Bi
        replace hg := C9.keep ((fun h => by have h' : _ = bx := h; omega)) hg
        replace E := E.step C9 ((fun y hy h => by have h' : y = bx := h; omega))
        refine WpL_nil (inB_normal (thn_normal (Wp_region ?_)))
        refine qV (r_add (k := .i64) (a := (k : Int)) (b := 1) (c := (k : Int) + 1) rfl rfl (wI64 (by omega))) ?_
        refine qM (I6 ((k : Int) + 1)) rfl ?_
        refine WpL_nil (thn_normal ?_)
        exact ⟨text.length - (k + 1), by omega, k + 1, M3, bx, Fits.out ⟨rfl, rfl, rfl, rfl, rfl, trivial⟩, E, Bn2, hB0, Bi, (by omega), hM3l, (by rw [setP_snoc hc]; exact hM3), hB3, (by omega), rfl⟩
     ·have khlt := hlt
      replace hlt := of_decide_eq_false hlt
      have hkk : k = text.length := by omega
      rw [hkk, List.take_length] at hM
      refine Wp_exit (thn_exit (thn_exit (inB_here (thn_normal (Wp_seq_region ?_)))))
      refine qF bn 0 2 rfl Try.underlying26 rfl siz22 rfl ?_
      refine qV (r_load (v := (.slice ea n.ends.length ec)) rfl flat22 (Bn2.cell rfl)) ?_
      refine qV (r_makeFunc (vs := []) (us := [(P6 bi 0)]) rfl rfl) ?_
      refine WpL_enter rfl rfl (by decide) (r_callF (vs := [(.slice ea n.ends.length ec), (.func (.func 46) #[] #[(P6 bi 0)])]) Try.func45 nm45 bd45 rfl) (ints_has_c _ _ _ n.ends (fun s => M.getD s.toNat false) (hen.ext E) (fun w x hE hx => CallV.mk (first := #[]) (cap := #[.pointer (some ⟨bi, 0, none⟩)]) Try.func46 nm46 bd46 rfl (by obtain ⟨a, ha, haN⟩ := int_nat (x := x) (N := N) (by have := ok.en x hx; omega); rw [ha]; exact nrun1_c w a N g bi M (hE.keep Bi) (hE.keep hg) hMl haN hN5))) ?_
      rintro _ w69 ⟨rfl, X69⟩
      replace Bn2 := X69.keep Bn2
      replace hB0 := X69.keep hB0
      replace Bi := X69.keep Bi
      replace E := E.ext X69
      refine qA (.bool (n.ends.any fun s => M.getD s.toNat false)) rfl ?_
      refine qA (I6 0) rfl ?_
      refine WpL_nil (Wp_ret ?_)
      refine fin_tmp2 Try.results12 (v := (.bool (n.ends.any fun s => M.getD s.toNat false))) (v' := (.int .i64 0)) rfl rfl ?_
      refine ⟨⟨_, _, rfl, .inr (.inr (.inr ⟨hc1, by omega, hru1, ?_, rfl⟩))⟩, E⟩
      rw [acc_set, List.any_eq_true]
      have hiff : ∀ e ∈ n.ends, M.getD e.toNat false = true ↔ setP n (cloP n.eps fun s => s = n.start) text e := fun e he => by
       obtain ⟨a, ha, haN⟩ := int_nat (x := e) (N := N) (by have := ok.en e he; omega)
       rw [ha, Int.toNat_natCast, ← hM a (by omega), List.getD_eq_getElem?_getD]
       obtain ⟨q, hq⟩ := get_of_lt (l := M) (i := a) (by omega)
       rw [hq]; simp
      exact ⟨fun ⟨e, he, h⟩ => ⟨e, he, (hiff e he).1 h⟩, fun ⟨e, he, h⟩ => ⟨e, he, (hiff e he).2 h⟩⟩
end Go.Proofs
namespace Go.Proofs
open Go Go.Eng
/-- A map that counts the first k of some keys. -/
def CntM (es : List (Int × Int)) (ks : List Int) (k : Nat) : Prop := ∀ q : Int, (getM es q).getD 0 = (((ks.take k).countP (fun x => x == q) : Nat) : Int)
theorem CntM.nil (ks : List Int) : CntM [] ks 0 := fun q => by simp [getM]
theorem CntM.put {es : List (Int × Int)} {ks : List Int} {k : Nat} {a : Int} (h : CntM es ks k) (ha : ks[k]? = some a) : CntM (putM es a ((getM es a).getD 0 + 1)) ks (k + 1) := by
 intro q
 rw [getM_put, List.take_add_one, ha, List.countP_append]
 have h1 := h q
 by_cases e : a = q
 ·subst e
  rw [if_pos rfl, h1]
  simp
 ·rw [if_neg e, h1]
  simp [e]
theorem CntM.bound {es : List (Int × Int)} {ks : List Int} {k : Nat} (h : CntM es ks k) (q : Int) : 0 ≤ (getM es q).getD 0 ∧ (getM es q).getD 0 ≤ (ks.length : Int) := by
 rw [h q]
 have := List.countP_le_length (p := fun x : Int => x == q) (l := ks.take k)
 rw [List.length_take] at this
 omega
theorem CntM.full {es : List (Int × Int)} {ks : List Int} {k : Nat} (h : CntM es ks k) (hk : ks.length ≤ k) (q : Int) : (getM es q).getD 0 = ((ks.countP (fun x => x == q) : Nat) : Int) := by
 rw [h q, List.take_of_length_le hk]
theorem epN_keys (s : ThS) (q : Int) : epN s q = (s.eps.map (·.1)).countP (fun x => x == q) := by
 unfold epN; rw [List.countP_map]; rfl
theorem edN_keys (s : ThS) (q : Int) : edN s q = (s.edges.map (·.1)).countP (fun x => x == q) := by
 unfold edN; rw [List.countP_map]; rfl
end Go.Proofs
namespace Go.Proofs
open Go Go.Eng Go.Sort
set_option maxRecDepth 100000
abbrev aT : Re := .mk 2 [(97, 97)] [] 0 0 false
theorem thom_one {n : Nf} {e : Int} (h : ThP aT n e) : e = 0 ∧ n.ends.length = 1 ∧ n.edges.length = 1 := by
 have h0 : simE aT = 0 := simE_zero.2 ⟨by simp only [aT, okRe, okRes, and_true]; decide, by decide, by decide⟩
 have h1 : tmO aT ⟨0, [], []⟩ = some (⟨2, [], [(((0 : Nat) : Int), ((1 : Nat) : Int), [(97, 97)])]⟩, 0, 1) := by rfl
 rcases h with ⟨h2, _⟩ | ⟨_, h2, _⟩ | ⟨_, h2, s, a, b, h3, h4⟩
 ·exact absurd h0 h2
 ·rw [h1] at h2; cases h2
 ·rw [h1] at h3
  cases h3
  subst h4
  exact ⟨h2, rfl, rfl⟩
theorem mkA_at {w : World} {b : Nat} (h : SpansAt w (.slice (some ⟨b, 0, none⟩) 1 1) [(97, 97)]) : ReAt w aT [.int .i64 2, .slice (some ⟨b, 0, none⟩) 1 1, .slice none 0 0, .int .i64 0, .int .i64 0, .bool false] := by
 simp only [aT, ReAt]
 exact ⟨_, _, _, _, rfl, h, ⟨Nat.le_refl _, by decide⟩, .inl trivial⟩
theorem NfAt.parts {w : World} {n : Nf} {a b : Int} {v1 v2 v3 : Value} (h : NfAt w n [.int .i64 a, .int .i64 b, v1, v2, v3]) : IntsAt w v1 n.ends ∧ SpansAt w v2 n.eps ∧ EdgesAt w v3 n.edges := by
 obtain ⟨ea, ec, pa, pc, xa, xc, h1, h2, h3, h4⟩ := h
 simp only [List.cons.injEq, and_true] at h1
 obtain ⟨_, _, rfl, rfl, rfl⟩ := h1
 exact ⟨h2, h3, h4⟩
theorem run_ok {n : Nf} {text : List Int} {b : Bool} {e : Int} (ok : OkN n) (hl : text.length ≤ 1000) (hr : ∀ x ∈ text, runeB x = true) (h : RunP n text b e) : e = 0 ∧ (b = true ↔ Acc n text) := by
 have hc := chkN_zero.2 ok
 have ha : (text.any fun r => !runeB r) = false := by rw [List.any_eq_false]; intro x hx; rw [hr x hx]; decide
 rcases h with ⟨h1, _⟩ | ⟨_, h1, _⟩ | ⟨_, _, h1, _⟩ | ⟨_, _, _, h1, h2⟩
 ·exact absurd hc h1
 ·omega
 ·rw [ha] at h1; cases h1
 ·exact ⟨h2, h1⟩
theorem rev_ok {n m : Nf} {e x : Int} (ok : OkN n) (hx : n.ends = [x]) (h : RevP n m e) : e = 0 ∧ m = n.rev x := by
 have hc := chkN_zero.2 ok
 rcases h with ⟨h1, _⟩ | ⟨_, h1, _⟩ | ⟨_, h1, y, h2, h3⟩
 ·exact absurd hc h1
 ·rw [hx] at h1; exact absurd rfl h1
 ·rw [hx] at h2
  cases h2
  exact ⟨h1, h3⟩
set_option maxHeartbeats 4000000 in
theorem nfshapes_c (w0 : World) (v1 v2 : Value) (l t : List Int) (h1 : IntsAt w0 v1 l) (h2 : IntsAt w0 v2 t) :
  Ret Try.prog 3 #[v1, v2] w0 fun v w => v = .bool true ∧ Ext w0 w := by
 obtain ⟨a1, c1, rfl⟩ := SlAt.form h1
 obtain ⟨a2, c2, rfl⟩ := SlAt.form h2
 simp only [List.length_map] at h1 h2 ⊢
 refine Ret_of Try.func3 rfl Try.ntmps3 (Nat.le_of_ble_eq_true rfl) ?_
 have E : Chg none1 w0 w0 := Chg.refl _ _
 refine Wp_seq_region ?_
 refine qA (.bool false) rfl ?_
 refine WpL_nil (Wp_seq (Wp_seq_region ?_))
 refine WpL_enter rfl rfl (by decide) (r_callF (vs := [(I6 97)]) Try.func7 nm7 bd7 rfl) (one_c _ 97) ?_
 rintro _ w8 ⟨b8, rfl, hs8, X8⟩
 replace E := E.ext X8
 refine WpL_enter rfl rfl (by decide) (r_callF (vs := [(.agg #[(I6 2), (.slice (some ⟨b8, 0, none⟩) 1 1), (.slice none 0 0), (I6 0), (I6 0), (.bool false)])]) Try.func6 nm6 bd6 rfl) (thom_c _ aT _ (mkA_at hs8)) ?_
 rintro _ w9 ⟨⟨n1, ea, ec, pa, pc, xa, xc, er1, rfl, hN1, hP1⟩, X9⟩
 replace E := E.ext X9
 obtain ⟨he1, hl1, hl2⟩ := thom_one hP1
 refine qM (.tuple #[(.agg #[(I6 n1.states), (I6 n1.start), (.slice ea n1.ends.length ec), (.slice pa n1.eps.length pc), (.slice xa n1.edges.length xc)]), (I6 er1)]) rfl ?_
 refine qV (r_extract (vs := #[(.agg #[(I6 n1.states), (I6 n1.start), (.slice ea n1.ends.length ec), (.slice pa n1.eps.length pc), (.slice xa n1.edges.length xc)]), (I6 er1)]) (v := (.agg #[(I6 n1.states), (I6 n1.start), (.slice ea n1.ends.length ec), (.slice pa n1.eps.length pc), (.slice xa n1.edges.length xc)])) rfl rfl) ?_
 refine qV (r_extract (vs := #[(.agg #[(I6 n1.states), (I6 n1.start), (.slice ea n1.ends.length ec), (.slice pa n1.eps.length pc), (.slice xa n1.edges.length xc)]), (I6 er1)]) (v := (I6 er1)) rfl rfl) ?_
 refine s_allocStore (v := (.agg #[(I6 n1.states), (I6 n1.start), (.slice ea n1.ends.length ec), (.slice pa n1.eps.length pc), (.slice xa n1.edges.length xc)])) (c := #[(I6 n1.states), (I6 n1.start), (.slice ea n1.ends.length ec), (.slice pa n1.eps.length pc), (.slice xa n1.edges.length xc)]) (n := 5) (by decide) zer26 rfl siz26 rfl rfl rfl (by simp [Value.oneCell']) ?_
 intro bk wk Nk
 have Fk := Nk.ge E
 replace E := E.ext Nk.ext
 have Bk := Nk.blk
 refine qA (I6 er1) rfl ?_
 refine WpL_nil (Wp_seq_region ?_)
 refine qM (I6 er1) rfl ?_
 obtain ⟨e1, he1⟩ : ∃ e, (decide ((er1 : Int) ≠ 0)) = e := ⟨_, rfl⟩
 refine qV ((r_neq (k := .i64) (a := er1) (b := 0) rfl rfl).trans (by rw [he1]; try rfl)) ?_
 refine qM (.bool e1) rfl ?_
 refine qG (.bool e1) (nU e1 (P6 bk 2)) (by cases e1 <;> first | exact gA | exact gB | exact .inl ⟨rfl, r_fieldAddr (b := bk) (o := 0) (o' := 2) rfl Try.underlying26 rfl siz22 rfl⟩) ?_
 refine qG (.bool e1) (nU e1 (.slice ea n1.ends.length ec)) (by cases e1 <;> first | exact gA | exact gB | exact .inl ⟨rfl, r_load (v := (.slice ea n1.ends.length ec)) rfl flat22 (Bk.cell rfl)⟩) ?_
 refine qG (.bool e1) (nU e1 (I6 (n1.ends.length : Int))) (by cases e1 <;> first | exact gA | exact gB | exact .inl ⟨rfl, r_lenSlice (ad := ea) (n := n1.ends.length) (cap := ec) Try.underlying22 rfl⟩) ?_
 obtain ⟨e2, he2⟩ : ∃ e, (decide ((((n1.ends.length : Nat) : Int) : Int) ≠ 1)) = e := ⟨_, rfl⟩
 refine qG (.bool e1) (nU e1 (.bool e2)) (by cases e1 <;> first | exact gA | exact gB | exact .inl ⟨rfl, (r_neq (k := .i64) (a := (n1.ends.length : Int)) (b := 1) rfl rfl).trans (by rw [he2]; try rfl)⟩) ?_
 obtain ⟨e3, he3⟩ : ∃ e, (e1 || e2) = e := ⟨_, rfl⟩
 refine qV (r_pick (b := e1) (v := .bool e3) rfl (by rw [← he3]; cases e1 <;> rfl)) ?_
 refine qM (.bool e3) rfl ?_
 refine qG (.bool e3) (nU e3 (P6 bk 4)) (by cases e3 <;> first | exact gA | exact gB | exact .inl ⟨rfl, r_fieldAddr (b := bk) (o := 0) (o' := 4) rfl Try.underlying26 rfl siz24 rfl⟩) ?_
 refine qG (.bool e3) (nU e3 (.slice xa n1.edges.length xc)) (by cases e3 <;> first | exact gA | exact gB | exact .inl ⟨rfl, r_load (v := (.slice xa n1.edges.length xc)) rfl flat24 (Bk.cell rfl)⟩) ?_
 refine qG (.bool e3) (nU e3 (I6 (n1.edges.length : Int))) (by cases e3 <;> first | exact gA | exact gB | exact .inl ⟨rfl, r_lenSlice (ad := xa) (n := n1.edges.length) (cap := xc) Try.underlying24 rfl⟩) ?_
 obtain ⟨e4, he4⟩ : ∃ e, (decide ((((n1.edges.length : Nat) : Int) : Int) ≠ 1)) = e := ⟨_, rfl⟩
 refine qG (.bool e3) (nU e3 (.bool e4)) (by cases e3 <;> first | exact gA | exact gB | exact .inl ⟨rfl, (r_neq (k := .i64) (a := (n1.edges.length : Int)) (b := 1) rfl rfl).trans (by rw [he4]; try rfl)⟩) ?_
 obtain ⟨e5, he5⟩ : ∃ e, (e3 || e4) = e := ⟨_, rfl⟩
 refine qV (r_pick (b := e3) (v := .bool e5) rfl (by rw [← he5]; cases e3 <;> rfl)) ?_
 refine WpL_nil ?_
 subst he5
 subst he4
 subst he3
 subst he2
 subst he1
 have hc6 : ((((decide ((er1 : Int) ≠ 0)) || (decide ((((n1.ends.length : Nat) : Int) : Int) ≠ 1))) || (decide ((((n1.edges.length : Nat) : Int) : Int) ≠ 1)))) = false := by simp [he1, hl1, hl2]
 refine Wp_cond_false (congrArg Value.bool hc6) ?_
 refine Wp_skip (thn_normal (Wp_seq_region ?_))
 refine qM (.slice a1 l.length c1) rfl ?_
 refine WpL_enter rfl rfl (by decide) (r_callF (vs := [(.slice a1 l.length c1)]) Try.func8 nm8 bd8 rfl) (mkRe_c _ _ l (h1.ext E)) ?_
 rintro _ wa ⟨a, us, rfl, ga, za, ha, Xa⟩
 replace Bk := Xa.keep Bk
 replace E := E.ext Xa
 have hat := ReIn.at a ha
 have hwas0 := E.size
 obtain ⟨sa, sc, aa, ac, rfl, _, _, _⟩ := ha.form
 refine qM (.slice a2 t.length c2) rfl ?_
 refine WpL_enter rfl rfl (by decide) (r_callF (vs := [(.slice a2 t.length c2)]) Try.func9 nm9 bd9 rfl) (text_o _ _ t (h2.ext E)) ?_
 rintro _ wt ⟨ta, tc, text, rfl, htx, htl, htr, Xt⟩
 replace Bk := Xt.keep Bk
 replace E := E.ext Xt
 have hTl := htx.lt
 have hwas : w0.heap.size ≤ wa.heap.size := hwas0
 obtain ⟨nT, hnT⟩ : ∃ nT, nT = wt.heap.size := ⟨_, rfl⟩
 have htx2 : wt.ownsRow wa.heap.size TDI 1 (.slice ta text.length tc) text.length (text.map (Value.int .i64)) := by rw [← ints_flatD]; exact htx
 have E5 : Chg none1 wt wt := Chg.refl _ _
 refine s_allocStore (v := (.agg (R6 a sa sc aa ac))) (c := (R6 a sa sc aa ac)) (n := 6) (by decide) zer33 rfl siz33 rfl rfl rfl (by simp [Value.oneCell']) ?_
 intro br wr Nr
 have Fr := Nr.ge E
 have Fr_E5 := Nr.ge E5
 replace E := E.ext Nr.ext
 have Br := Nr.blk
 replace E5 := E5.ext Nr.ext
 refine qA (.slice ta text.length tc) rfl ?_
 refine WpL_nil (Wp_seq (Wp_seq_region ?_))
 refine qV (r_loadAgg (vs := [(I6 a.kind), (.slice sa a.set.length sc), (.slice aa a.args.length ac), (I6 a.mn), (I6 a.mx), (.bool a.neg)]) rfl agg33 siz33 rfl (Br.cells rfl)) ?_
 refine WpL_enter rfl rfl (by decide) (r_callF (vs := [(.agg (R6 a sa sc aa ac))]) Try.func10 nm10 bd10 rfl) (simple_c _ a _ (ReAt.ext (Ext.trans Xt E5) a hat)) ?_
 rintro _ w19 ⟨rfl, X19⟩
 replace Br := X19.keep Br
 replace E := E.ext X19
 replace E5 := E5.ext X19
 refine qV (r_neq (k := .i64) (a := simE a) (b := 0) rfl rfl) ?_
 refine WpL_nil ?_
 refine Wp_cond (b := decide ((simE a : Int) ≠ 0)) rfl (fun hs => ?_) (fun hs => ?_)
 ·have khs := hs
  replace hs := of_decide_eq_true hs
  refine Wp_seq_region ?_
  refine qA (.bool true) rfl ?_
  refine WpL_nil (Wp_ret (thn_ret ?_))
  refine fin_tmp Try.results3 (v := (.bool true)) rfl ?_
  exact ⟨rfl, E⟩
 ·have khs := hs
  replace hs := of_decide_eq_false hs
  have hs0 : simE a = 0 := by omega
  obtain ⟨hok, hsz, hus⟩ := simE_zero.1 hs0
  refine Wp_skip (thn_normal (Wp_seq_region ?_))
  refine qV (r_loadAgg (vs := [(I6 a.kind), (.slice sa a.set.length sc), (.slice aa a.args.length ac), (I6 a.mn), (I6 a.mx), (.bool a.neg)]) rfl agg33 siz33 rfl (Br.cells rfl)) ?_
  have hE5s := E5.size
  refine WpL_enter rfl rfl (by decide) (r_callF (vs := [(.agg (R6 a sa sc aa ac))]) Try.func6 nm6 bd6 rfl) ((thom_c _ a _ (ReAt.ext (Ext.trans Xt E5) a hat)).mono (R' := fun r w => NfR nT (ThP a) r w ∧ Ext _ w) (fun r w h => ⟨by obtain ⟨n, ea, ec, pa, pc, xa, xc, e, h1, h2, h3⟩ := h.1; exact ⟨n, ea, ec, pa, pc, xa, xc, e, h1, h2.low (by omega), h3⟩, h.2⟩)) ?_
  rintro _ w29 ⟨⟨n, ea2, ec2, pa2, pc2, xa2, xc2, er, rfl, hN, hP⟩, X29⟩
  replace Br := X29.keep Br
  replace E := E.ext X29
  replace E5 := E5.ext X29
  have E6 : Chg none1 w29 w29 := Chg.refl _ _
  refine qM (.tuple #[(.agg #[(I6 n.states), (I6 n.start), (.slice ea2 n.ends.length ec2), (.slice pa2 n.eps.length pc2), (.slice xa2 n.edges.length xc2)]), (I6 er)]) rfl ?_
  refine qV (r_extract (vs := #[(.agg #[(I6 n.states), (I6 n.start), (.slice ea2 n.ends.length ec2), (.slice pa2 n.eps.length pc2), (.slice xa2 n.edges.length xc2)]), (I6 er)]) (v := (.agg #[(I6 n.states), (I6 n.start), (.slice ea2 n.ends.length ec2), (.slice pa2 n.eps.length pc2), (.slice xa2 n.edges.length xc2)])) rfl rfl) ?_
  refine qV (r_extract (vs := #[(.agg #[(I6 n.states), (I6 n.start), (.slice ea2 n.ends.length ec2), (.slice pa2 n.eps.length pc2), (.slice xa2 n.edges.length xc2)]), (I6 er)]) (v := (I6 er)) rfl rfl) ?_
  refine s_allocStore (v := (.agg #[(I6 n.states), (I6 n.start), (.slice ea2 n.ends.length ec2), (.slice pa2 n.eps.length pc2), (.slice xa2 n.edges.length xc2)])) (c := #[(I6 n.states), (I6 n.start), (.slice ea2 n.ends.length ec2), (.slice pa2 n.eps.length pc2), (.slice xa2 n.edges.length xc2)]) (n := 5) (by decide) zer26 rfl siz26 rfl rfl rfl (by simp [Value.oneCell']) ?_
  intro bm wm Nm
  have Fm := Nm.ge E
  have Fm_E5 := Nm.ge E5
  have Fm_E6 := Nm.ge E6
  have Om_br := Nm.lt Br
  replace Br := Nm.keep Br
  replace E := E.ext Nm.ext
  have Bm := Nm.blk
  replace E5 := E5.ext Nm.ext
  replace E6 := E6.ext Nm.ext
  refine qA (I6 er) rfl ?_
  refine WpL_nil (Wp_seq (Wp_seq_region ?_))
  refine qM (I6 er) rfl ?_
  refine qV (r_neq (k := .i64) (a := er) (b := 0) rfl rfl) ?_
  refine WpL_nil ?_
  refine Wp_cond (b := decide ((er : Int) ≠ 0)) rfl (fun he => ?_) (fun he => ?_)
  ·have khe := he
   replace he := of_decide_eq_true he
   have he2 : er = 2 := by rcases hP with ⟨h9, _⟩ | ⟨_, _, _, h9⟩ | ⟨_, h9, _⟩; exact absurd hs0 h9; exact h9; exact absurd h9 he
   refine Wp_seq_region ?_
   refine qM (I6 er) rfl ?_
   refine qV (r_eql (k := .i64) (a := er) (b := 2) rfl rfl) ?_
   refine qA (.bool (decide ((er : Int) = 2))) rfl ?_
   refine WpL_nil (Wp_ret (thn_ret ?_))
   refine fin_tmp Try.results3 (v := (.bool (decide ((er : Int) = 2)))) rfl ?_
   exact ⟨by rw [he2]; rfl, E⟩
  ·have khe := he
   replace he := of_decide_eq_false he
   have he0 : er = 0 := by omega
   obtain ⟨s, fa, fb, hth, hn⟩ : ∃ s fa fb, tmO a ⟨0, [], []⟩ = some (s, fa, fb) ∧ n = nfT s fa fb := by rcases hP with ⟨h9, _⟩ | ⟨_, _, _, h9⟩ | ⟨_, _, h9⟩; exact absurd hs0 h9; omega; exact h9
   obtain ⟨ok, hsh⟩ := thom_ok hok hth
   rw [← hn] at ok
   have hns : n.states = ((s.n : Nat) : Int) := by rw [hn]; rfl
   have hn1 : n.ends = [((fb : Nat) : Int)] := by rw [hn]; rfl
   have hnp : n.eps = s.eps := by rw [hn]; rfl
   have hnx : n.edges = s.edges := by rw [hn]; rfl
   have hst := ok.st
   have hpl := ok.pl
   have hxl := ok.xl
   obtain ⟨hen, hep, hed⟩ := hN.at.parts
   refine Wp_skip (thn_normal (Wp_seq_region ?_))
   refine s_makeMap kInt kInt (by decide) ?_
   intro bg wg Ng
   have Fg := Ng.ge E
   have Fg_E5 := Ng.ge E5
   have Fg_E6 := Ng.ge E6
   have Og_br := Ng.lt Br
   have Og_bm := Ng.lt Bm
   replace Br := Ng.keep Br
   replace Bm := Ng.keep Bm
   replace E := E.ext Ng.ext
   replace E5 := E5.ext Ng.ext
   replace E6 := E6.ext Ng.ext
   intro Mg
   refine s_makeMap kInt kInt (by decide) ?_
   intro bh wh Nh
   have Fh := Nh.ge E
   have Fh_E5 := Nh.ge E5
   have Fh_E6 := Nh.ge E6
   have Oh_br := Nh.lt Br
   have Oh_bm := Nh.lt Bm
   have Oh_bg := Nh.ltM Mg
   replace Br := Nh.keep Br
   replace Bm := Nh.keep Bm
   replace Mg := Nh.keepM Mg
   replace E := E.ext Nh.ext
   replace E5 := E5.ext Nh.ext
   replace E6 := E6.ext Nh.ext
   intro Mh
   refine qA (.map (some bg)) rfl ?_
   refine qA (.map (some bh)) rfl ?_
   refine WpL_nil (Wp_seq (Wp_seq_region ?_))
   refine qF bm 0 4 rfl Try.underlying26 rfl siz24 rfl ?_
   refine qV (r_load (v := (.slice xa2 n.edges.length xc2)) rfl flat24 (Bm.cell rfl)) ?_
   refine qV (r_lenSlice (ad := xa2) (n := n.edges.length) (cap := xc2) Try.underlying24 rfl) ?_
   refine qM (I6 0) rfl ?_
   refine WpL_nil (Wp_block ?_)
   refine Wp_loop (fun nn_ σ W9 => ∃ (k : Nat) (es : List (Int × Int)), (∃ jj_, σ = upds jj_ [(8, (.slice ta text.length tc)), (9, (P6 bm 0)), (11, (.map (some bg))), (12, (.map (some bh))), (62, (.slice xa2 n.edges.length xc2)), (63, (I6 (n.edges.length : Int))), (64, (I6 (k : Int)))]) ∧ Chg none1 w0 W9 ∧ Chg none1 wt W9 ∧ Chg none1 w29 W9 ∧ Blk W9 br (R6 a sa sc aa ac) 33 ∧ Blk W9 bm #[(I6 n.states), (I6 n.start), (.slice ea2 n.ends.length ec2), (.slice pa2 n.eps.length pc2), (.slice xa2 n.edges.length xc2)] 26 ∧ MapAt W9 bg kInt kInt es ∧ MapAt W9 bh kInt kInt ([]) ∧ (k ≤ n.edges.length) ∧ (CntM es (n.edges.map (·.1)) k) ∧ nn_ = n.edges.length - k) (n := n.edges.length - 0) ?_ ?_
   ·exact ⟨0, [], Fits.out ⟨rfl, rfl, rfl, rfl, rfl, rfl, rfl, trivial⟩, E, E5, E6, Br, Bm, Mg, Mh, Nat.zero_le _, CntM.nil _, rfl⟩
   ·clear E E5 E6 Br Bm Mg Mh
    rintro _ _ W9 ⟨k, es, ⟨j9, rfl⟩, E, E5, E6, Br, Bm, Mg, Mh, hk, hC, rfl⟩
    refine Wp_seq_region ?_
    refine qV (r_lss (k := .i64) (a := (k : Int)) (b := (n.edges.length : Int)) rfl rfl) ?_
    refine WpL_nil (Wp_seq ?_)
    refine Wp_cond (b := decide (((k : Int) : Int) < (n.edges.length : Int))) rfl (fun hlt => ?_) (fun hlt => ?_)
    ·have khlt := hlt
     replace hlt := of_decide_eq_true hlt
     obtain ⟨e, he⟩ := get_of_lt (l := n.edges) (i := k) (by omega)
     obtain ⟨xb, xo, rfl, hxc⟩ := edges_cells hed (by omega)
     obtain ⟨ra, rc, hcell, hsp⟩ := hxc k e he
     have hek : (n.edges.map (·.1))[k]? = some e.1 := by rw [List.getElem?_map, he]; rfl
     have hbd := hC.bound e.1
     rw [List.length_map] at hbd
     refine Wp_skip (thn_normal (Wp_seq (Wp_block (Wp_seq_region ?_))))
     refine qV (r_indexSlice (b := xb) (o := xo) (len := n.edges.length) (cap := xc2) (i := k) (o' := xo + k * 3) rfl rfl rfl Try.underlying24 siz40 (by omega) (by omega)) ?_
     refine qV (r_loadAgg (vs := [(I6 e.1), (I6 e.2.1), (.slice ra e.2.2.length rc)]) rfl agg40 siz40 rfl (hcell.ext E6)) ?_
     refine s_allocStore (v := (.agg #[(I6 e.1), (I6 e.2.1), (.slice ra e.2.2.length rc)])) (c := #[(I6 e.1), (I6 e.2.1), (.slice ra e.2.2.length rc)]) (n := 3) (by decide) zer40 rfl siz40 rfl rfl rfl (by simp [Value.oneCell']) ?_
     intro bu wu Nu
     have Fu := Nu.ge E
     have Fu_E5 := Nu.ge E5
     have Fu_E6 := Nu.ge E6
     have Ou_br := Nu.lt Br
     have Ou_bm := Nu.lt Bm
     have Ou_bg := Nu.ltM Mg
     have Ou_bh := Nu.ltM Mh
     replace Br := Nu.keep Br
     replace Bm := Nu.keep Bm
     replace Mg := Nu.keepM Mg
     replace Mh := Nu.keepM Mh
     replace E := E.ext Nu.ext
     have Bu := Nu.blk
     replace E5 := E5.ext Nu.ext
     replace E6 := E6.ext Nu.ext
     refine WpL_nil (Wp_region ?_)
     refine qM (.map (some bg)) rfl ?_
     refine qF bu 0 0 rfl Try.underlying40 rfl siz3 rfl ?_
     refine qV (r_load (v := (I6 e.1)) rfl flat3 (Bu.cell rfl)) ?_
     refine WpL_val (v := (I6 ((getM es e.1).getD 0))) rfl rfl (by decide) (r_lookup (k := e.1) (z := 0) Try.underlying38 (keyInt Try.underlying3) zer3 Mg rfl rfl) ?_
     refine qV (r_add (k := .i64) (a := (getM es e.1).getD 0) (b := 1) (c := ((getM es e.1).getD 0) + 1) rfl rfl (wI64 (by omega))) ?_
     refine s_mapUpdate (k := e.1) (v := (((getM es e.1).getD 0) + 1)) Try.underlying38 (keyInt Try.underlying3) Mg rfl rfl rfl ?_
     intro w11 S11 H11
     replace Br := S11.keep (by omega) Br
     replace Bm := S11.keep (by omega) Bm
     replace Mh := S11.keepM (by omega) Mh
     replace Bu := S11.keep (by omega) Bu
     replace E := S11.step E (by first | exact Or.inl (by omega) | exact Or.inr rfl | exact Or.inr (by assumption) | exact Or.inr (by simp) | exact Or.inr (by omega) | exact Or.inr (by dsimp only; omega))
     replace E5 := S11.step E5 (Or.inl (by omega))
     replace E6 := S11.step E6 (Or.inl (by omega))
     replace Mg := H11
     refine WpL_nil (inB_normal (thn_normal (Wp_region ?_)))
     refine qV (r_add (k := .i64) (a := (k : Int)) (b := 1) (c := (k : Int) + 1) rfl rfl (wI64 (by omega))) ?_
     refine qM (I6 ((k : Int) + 1)) rfl ?_
     refine WpL_nil (thn_normal ?_)
     exact ⟨n.edges.length - (k + 1), by omega, k + 1, putM es e.1 ((getM es e.1).getD 0 + 1), Fits.out ⟨rfl, rfl, rfl, rfl, rfl, rfl, rfl, trivial⟩, E, E5, E6, Br, Bm, Mg, Mh, (by omega), hC.put hek, rfl⟩
    ·have khlt := hlt
     replace hlt := of_decide_eq_false hlt
     have hCE := hC.full (by rw [List.length_map]; omega)
     refine Wp_exit (thn_exit (thn_exit (inB_here (thn_normal (Wp_seq (Wp_seq_region ?_))))))
     refine qF bm 0 3 rfl Try.underlying26 rfl siz23 rfl ?_
     refine qV (r_load (v := (.slice pa2 n.eps.length pc2)) rfl flat23 (Bm.cell rfl)) ?_
     refine qV (r_lenSlice (ad := pa2) (n := n.eps.length) (cap := pc2) Try.underlying23 rfl) ?_
     refine qM (I6 0) rfl ?_
     refine WpL_nil (Wp_block ?_)
     refine Wp_loop (fun nn_ σ W12 => ∃ (k2 : Nat) (ps : List (Int × Int)), (∃ jj_, σ = upds jj_ [(8, (.slice ta text.length tc)), (9, (P6 bm 0)), (11, (.map (some bg))), (12, (.map (some bh))), (75, (.slice pa2 n.eps.length pc2)), (76, (I6 (n.eps.length : Int))), (77, (I6 (k2 : Int)))]) ∧ Chg none1 w0 W12 ∧ Chg none1 wt W12 ∧ Chg none1 w29 W12 ∧ Blk W12 br (R6 a sa sc aa ac) 33 ∧ Blk W12 bm #[(I6 n.states), (I6 n.start), (.slice ea2 n.ends.length ec2), (.slice pa2 n.eps.length pc2), (.slice xa2 n.edges.length xc2)] 26 ∧ MapAt W12 bg kInt kInt es ∧ MapAt W12 bh kInt kInt ps ∧ (k2 ≤ n.eps.length) ∧ (CntM ps (n.eps.map (·.1)) k2) ∧ nn_ = n.eps.length - k2) (n := n.eps.length - 0) ?_ ?_
     ·exact ⟨0, [], Fits.out ⟨rfl, rfl, rfl, rfl, rfl, rfl, rfl, trivial⟩, E, E5, E6, Br, Bm, Mg, Mh, Nat.zero_le _, CntM.nil _, rfl⟩
     ·clear E E5 E6 Br Bm Mg Mh
      rintro _ _ W12 ⟨k2, ps, ⟨j12, rfl⟩, E, E5, E6, Br, Bm, Mg, Mh, hk2, hC2, rfl⟩
      refine Wp_seq_region ?_
      refine qV (r_lss (k := .i64) (a := (k2 : Int)) (b := (n.eps.length : Int)) rfl rfl) ?_
      refine WpL_nil (Wp_seq ?_)
      refine Wp_cond (b := decide (((k2 : Int) : Int) < (n.eps.length : Int))) rfl (fun hlt2 => ?_) (fun hlt2 => ?_)
      ·have khlt2 := hlt2
       replace hlt2 := of_decide_eq_true hlt2
       obtain ⟨p, hp⟩ := get_of_lt (l := n.eps) (i := k2) (by omega)
       obtain ⟨pb, po, rfl, hpc⟩ := spans_cells hep (by omega)
       have hpk : (n.eps.map (·.1))[k2]? = some p.1 := by rw [List.getElem?_map, hp]; rfl
       have hbd := hC2.bound p.1
       rw [List.length_map] at hbd
       refine Wp_skip (thn_normal (Wp_seq (Wp_block (Wp_seq_region ?_))))
       refine qV (r_indexSlice (b := pb) (o := po) (len := n.eps.length) (cap := pc2) (i := k2) (o' := po + k2 * 2) rfl rfl rfl Try.underlying23 siz41 (by omega) (by omega)) ?_
       refine qV (r_loadAgg (vs := [(I6 p.1), (I6 p.2)]) rfl agg41 siz41 rfl ((hpc k2 p hp).ext E6)) ?_
       refine s_allocStore (v := (.agg #[(I6 p.1), (I6 p.2)])) (c := #[(I6 p.1), (I6 p.2)]) (n := 2) (by decide) zer41 rfl siz41 rfl rfl rfl (by simp [Value.oneCell']) ?_
       intro bu wu Nu
       have Fu := Nu.ge E
       have Fu_E5 := Nu.ge E5
       have Fu_E6 := Nu.ge E6
       have Ou_br := Nu.lt Br
       have Ou_bm := Nu.lt Bm
       have Ou_bg := Nu.ltM Mg
       have Ou_bh := Nu.ltM Mh
       replace Br := Nu.keep Br
       replace Bm := Nu.keep Bm
       replace Mg := Nu.keepM Mg
       replace Mh := Nu.keepM Mh
       replace E := E.ext Nu.ext
       have Bu := Nu.blk
       replace E5 := E5.ext Nu.ext
       replace E6 := E6.ext Nu.ext
       refine WpL_nil (Wp_region ?_)
       refine qM (.map (some bh)) rfl ?_
       refine qV (r_indexArr (b := bu) (o := 0) (i := 0) (o' := 0) rfl rfl rfl Try.underlying41 siz3 (by omega) (by omega)) ?_
       refine qV (r_load (v := (I6 p.1)) rfl flat3 (Bu.cell rfl)) ?_
       refine WpL_val (v := (I6 ((getM ps p.1).getD 0))) rfl rfl (by decide) (r_lookup (k := p.1) (z := 0) Try.underlying38 (keyInt Try.underlying3) zer3 Mh rfl rfl) ?_
       refine qV (r_add (k := .i64) (a := (getM ps p.1).getD 0) (b := 1) (c := ((getM ps p.1).getD 0) + 1) rfl rfl (wI64 (by omega))) ?_
       refine s_mapUpdate (k := p.1) (v := (((getM ps p.1).getD 0) + 1)) Try.underlying38 (keyInt Try.underlying3) Mh rfl rfl rfl ?_
       intro w14 S14 H14
       replace Br := S14.keep (by omega) Br
       replace Bm := S14.keep (by omega) Bm
       replace Mg := S14.keepM (by omega) Mg
       replace Bu := S14.keep (by omega) Bu
       replace E := S14.step E (by first | exact Or.inl (by omega) | exact Or.inr rfl | exact Or.inr (by assumption) | exact Or.inr (by simp) | exact Or.inr (by omega) | exact Or.inr (by dsimp only; omega))
       replace E5 := S14.step E5 (Or.inl (by omega))
       replace E6 := S14.step E6 (Or.inl (by omega))
       replace Mh := H14
       refine WpL_nil (inB_normal (thn_normal (Wp_region ?_)))
       refine qV (r_add (k := .i64) (a := (k2 : Int)) (b := 1) (c := (k2 : Int) + 1) rfl rfl (wI64 (by omega))) ?_
       refine qM (I6 ((k2 : Int) + 1)) rfl ?_
       refine WpL_nil (thn_normal ?_)
       exact ⟨n.eps.length - (k2 + 1), by omega, k2 + 1, putM ps p.1 ((getM ps p.1).getD 0 + 1), Fits.out ⟨rfl, rfl, rfl, rfl, rfl, rfl, rfl, trivial⟩, E, E5, E6, Br, Bm, Mg, Mh, (by omega), hC2.put hpk, rfl⟩
      ·have khlt2 := hlt2
       replace hlt2 := of_decide_eq_false hlt2
       have hCP := hC2.full (by rw [List.length_map]; omega)
       refine Wp_exit (thn_exit (thn_exit (inB_here (thn_normal (Wp_seq (Wp_seq_region ?_))))))
       refine qF bm 0 0 rfl Try.underlying26 rfl siz3 rfl ?_
       refine qV (r_load (v := (I6 n.states)) rfl flat3 (Bm.cell rfl)) ?_
       refine qM (I6 0) rfl ?_
       refine WpL_nil (Wp_block ?_)
       refine Wp_loop (fun nn_ σ W15 => ∃ (q : Nat), (∃ jj_, σ = upds jj_ [(8, (.slice ta text.length tc)), (9, (P6 bm 0)), (11, (.map (some bg))), (12, (.map (some bh))), (88, (I6 n.states)), (89, (I6 (q : Int)))]) ∧ Chg none1 w0 W15 ∧ Chg none1 wt W15 ∧ Chg none1 w29 W15 ∧ Blk W15 br (R6 a sa sc aa ac) 33 ∧ Blk W15 bm #[(I6 n.states), (I6 n.start), (.slice ea2 n.ends.length ec2), (.slice pa2 n.eps.length pc2), (.slice xa2 n.edges.length xc2)] 26 ∧ MapAt W15 bg kInt kInt es ∧ MapAt W15 bh kInt kInt ps ∧ (q ≤ s.n) ∧ nn_ = s.n - q) (n := s.n - 0) ?_ ?_
       ·exact ⟨0, Fits.out ⟨rfl, rfl, rfl, rfl, rfl, rfl, trivial⟩, E, E5, E6, Br, Bm, Mg, Mh, Nat.zero_le _, rfl⟩
       ·clear E E5 E6 Br Bm Mg Mh
        rintro _ _ W15 ⟨q, ⟨j15, rfl⟩, E, E5, E6, Br, Bm, Mg, Mh, hq, rfl⟩
        refine Wp_seq_region ?_
        refine qV (r_lss (k := .i64) (a := (q : Int)) (b := n.states) rfl rfl) ?_
        refine WpL_nil (Wp_seq ?_)
        refine Wp_cond (b := decide (((q : Int) : Int) < n.states)) rfl (fun hlt3 => ?_) (fun hlt3 => ?_)
        ·have khlt3 := hlt3
         replace hlt3 := of_decide_eq_true hlt3
         have hf1 := hCE ((q : Nat) : Int)
         have hf2 := hCP ((q : Nat) : Int)
         rw [hnx, ← edN_keys] at hf1
         rw [hnp, ← epN_keys] at hf2
         have hdg := hsh.dg q
         refine Wp_skip (thn_normal (Wp_seq (Wp_block (Wp_seq_region ?_))))
         refine qM (I6 (q : Int)) rfl ?_
         refine qA (I6 (q : Int)) rfl ?_
         refine WpL_nil (Wp_seq_region ?_)
         refine qM (.map (some bg)) rfl ?_
         refine qM (I6 (q : Int)) rfl ?_
         refine WpL_val (v := (I6 ((getM es (q : Int)).getD 0))) rfl rfl (by decide) (r_lookup (k := (q : Int)) (z := 0) Try.underlying38 (keyInt Try.underlying3) zer3 Mg rfl rfl) ?_
         obtain ⟨e17, he17⟩ : ∃ e, (decide ((1 : Int) < (getM es ((q : Nat) : Int)).getD 0)) = e := ⟨_, rfl⟩
         refine qV ((r_gtr (k := .i64) (a := (getM es (q : Int)).getD 0) (b := 1) rfl rfl).trans (by rw [he17]; try rfl)) ?_
         refine qM (.bool e17) rfl ?_
         refine qG (.bool e17) (nU e17 (.map (some bh))) (by cases e17 <;> first | exact gA | exact gB | exact .inl ⟨rfl, r_move (v := (.map (some bh))) rfl⟩) ?_
         refine qG (.bool e17) (nU e17 (I6 (q : Int))) (by cases e17 <;> first | exact gA | exact gB | exact .inl ⟨rfl, r_move (v := (I6 (q : Int))) rfl⟩) ?_
         refine qG (.bool e17) (nU e17 (I6 ((getM ps (q : Int)).getD 0))) (by cases e17 <;> first | exact gA | exact gB | exact .inl ⟨rfl, r_lookup (k := (q : Int)) (z := 0) Try.underlying38 (keyInt Try.underlying3) zer3 Mh rfl rfl⟩) ?_
         obtain ⟨e18, he18⟩ : ∃ e, (decide ((2 : Int) < (getM ps ((q : Nat) : Int)).getD 0)) = e := ⟨_, rfl⟩
         refine qG (.bool e17) (nU e17 (.bool e18)) (by cases e17 <;> first | exact gA | exact gB | exact .inl ⟨rfl, (r_gtr (k := .i64) (a := (getM ps (q : Int)).getD 0) (b := 2) rfl rfl).trans (by rw [he18]; try rfl)⟩) ?_
         obtain ⟨e19, he19⟩ : ∃ e, (e17 || e18) = e := ⟨_, rfl⟩
         refine qV (r_pick (b := e17) (v := .bool e19) rfl (by rw [← he19]; cases e17 <;> rfl)) ?_
         refine qM (.bool e19) rfl ?_
         refine qG (.bool e19) (nU e19 (.map (some bg))) (by cases e19 <;> first | exact gA | exact gB | exact .inl ⟨rfl, r_move (v := (.map (some bg))) rfl⟩) ?_
         refine qG (.bool e19) (nU e19 (I6 (q : Int))) (by cases e19 <;> first | exact gA | exact gB | exact .inl ⟨rfl, r_move (v := (I6 (q : Int))) rfl⟩) ?_
         refine qG (.bool e19) (nU e19 (I6 ((getM es (q : Int)).getD 0))) (by cases e19 <;> first | exact gA | exact gB | exact .inl ⟨rfl, r_lookup (k := (q : Int)) (z := 0) Try.underlying38 (keyInt Try.underlying3) zer3 Mg rfl rfl⟩) ?_
         obtain ⟨e20, he20⟩ : ∃ e, (decide ((0 : Int) < (getM es ((q : Nat) : Int)).getD 0)) = e := ⟨_, rfl⟩
         refine qG (.bool e19) (nU e19 (.bool e20)) (by cases e19 <;> first | exact gA | exact gB | exact .inl ⟨rfl, (r_gtr (k := .i64) (a := (getM es (q : Int)).getD 0) (b := 0) rfl rfl).trans (by rw [he20]; try rfl)⟩) ?_
         refine qG (.bool e19) (nU e19 (.bool e20)) (by cases e19 <;> first | exact gA | exact gB | exact .inl ⟨rfl, r_move (v := (.bool e20)) rfl⟩) ?_
         refine qG (nU e19 (.bool e20)) (nU e19 (yU e20 (.map (some bh)))) (by cases e19 <;> cases e20 <;> first | exact gA | exact gB | exact .inl ⟨rfl, r_move (v := (.map (some bh))) rfl⟩) ?_
         refine qG (nU e19 (.bool e20)) (nU e19 (yU e20 (I6 (q : Int)))) (by cases e19 <;> cases e20 <;> first | exact gA | exact gB | exact .inl ⟨rfl, r_move (v := (I6 (q : Int))) rfl⟩) ?_
         refine qG (nU e19 (.bool e20)) (nU e19 (yU e20 (I6 ((getM ps (q : Int)).getD 0)))) (by cases e19 <;> cases e20 <;> first | exact gA | exact gB | exact .inl ⟨rfl, r_lookup (k := (q : Int)) (z := 0) Try.underlying38 (keyInt Try.underlying3) zer3 Mh rfl rfl⟩) ?_
         obtain ⟨e21, he21⟩ : ∃ e, (decide ((0 : Int) < (getM ps ((q : Nat) : Int)).getD 0)) = e := ⟨_, rfl⟩
         refine qG (nU e19 (.bool e20)) (nU e19 (yU e20 (.bool e21))) (by cases e19 <;> cases e20 <;> first | exact gA | exact gB | exact .inl ⟨rfl, (r_gtr (k := .i64) (a := (getM ps (q : Int)).getD 0) (b := 0) rfl rfl).trans (by rw [he21]; try rfl)⟩) ?_
         obtain ⟨e22, he22⟩ : ∃ e, (e20 && e21) = e := ⟨_, rfl⟩
         refine qG (.bool e19) (nU e19 (.bool e22)) (by cases e19 <;> first | exact gA | exact gB | exact .inl ⟨rfl, r_pick (b := e20) (v := .bool e22) rfl (by rw [← he22]; cases e20 <;> rfl)⟩) ?_
         obtain ⟨e23, he23⟩ : ∃ e, (e19 || e22) = e := ⟨_, rfl⟩
         refine qV (r_pick (b := e19) (v := .bool e23) rfl (by rw [← he23]; cases e19 <;> rfl)) ?_
         refine WpL_nil ?_
         subst he23
         subst he22
         subst he21
         subst he20
         subst he19
         subst he18
         subst he17
         have hc24 : ((((decide ((1 : Int) < (getM es ((q : Nat) : Int)).getD 0)) || (decide ((2 : Int) < (getM ps ((q : Nat) : Int)).getD 0))) || ((decide ((0 : Int) < (getM es ((q : Nat) : Int)).getD 0)) && (decide ((0 : Int) < (getM ps ((q : Nat) : Int)).getD 0))))) = false := by rw [hf1, hf2]; simp; omega
         refine Wp_cond_false (congrArg Value.bool hc24) ?_
         refine Wp_skip (inB_normal (thn_normal (Wp_region ?_)))
         refine qV (r_add (k := .i64) (a := (q : Int)) (b := 1) (c := (q : Int) + 1) rfl rfl (wI64 (by omega))) ?_
         refine qM (I6 ((q : Int) + 1)) rfl ?_
         refine WpL_nil (thn_normal ?_)
         exact ⟨s.n - (q + 1), by omega, q + 1, Fits.out ⟨rfl, rfl, rfl, rfl, rfl, rfl, trivial⟩, E, E5, E6, Br, Bm, Mg, Mh, (by omega), rfl⟩
        ·have khlt3 := hlt3
         replace hlt3 := of_decide_eq_false hlt3
         have hNc := hN.ext E6
         refine Wp_exit (thn_exit (thn_exit (inB_here (thn_normal (Wp_seq_region ?_)))))
         refine qV (r_loadAgg (vs := [(I6 n.states), (I6 n.start), (.slice ea2 n.ends.length ec2), (.slice pa2 n.eps.length pc2), (.slice xa2 n.edges.length xc2)]) rfl agg26 siz26 rfl (Bm.cells rfl)) ?_
         refine WpL_enter rfl rfl (by decide) (r_callF (vs := [(.agg #[(I6 n.states), (I6 n.start), (.slice ea2 n.ends.length ec2), (.slice pa2 n.eps.length pc2), (.slice xa2 n.edges.length xc2)])]) Try.func11 nm11 bd11 rfl) ((nrev_c _ n _ hNc.at).mono (R' := fun r w => NfR nT (RevP n) r w ∧ Ext _ w) (fun r w h => ⟨by obtain ⟨n, ea, ec, pa, pc, xa, xc, e, h1, h2, h3⟩ := h.1; exact ⟨n, ea, ec, pa, pc, xa, xc, e, h1, h2.low (by have := E5.size; omega), h3⟩, h.2⟩)) ?_
         rintro _ w39 ⟨⟨m, ea3, ec3, pa3, pc3, xa3, xc3, er2, rfl, hM, hRv⟩, X39⟩
         replace Br := X39.keep Br
         replace Bm := X39.keep Bm
         replace Mg := X39.keepM Mg
         replace Mh := X39.keepM Mh
         replace E := E.ext X39
         replace E5 := E5.ext X39
         replace E6 := E6.ext X39
         obtain ⟨her2, hm⟩ := rev_ok ok hn1 hRv
         have E7 : Chg none1 w39 w39 := Chg.refl _ _
         refine qM (.tuple #[(.agg #[(I6 m.states), (I6 m.start), (.slice ea3 m.ends.length ec3), (.slice pa3 m.eps.length pc3), (.slice xa3 m.edges.length xc3)]), (I6 er2)]) rfl ?_
         refine qV (r_extract (vs := #[(.agg #[(I6 m.states), (I6 m.start), (.slice ea3 m.ends.length ec3), (.slice pa3 m.eps.length pc3), (.slice xa3 m.edges.length xc3)]), (I6 er2)]) (v := (.agg #[(I6 m.states), (I6 m.start), (.slice ea3 m.ends.length ec3), (.slice pa3 m.eps.length pc3), (.slice xa3 m.edges.length xc3)])) rfl rfl) ?_
         refine qV (r_extract (vs := #[(.agg #[(I6 m.states), (I6 m.start), (.slice ea3 m.ends.length ec3), (.slice pa3 m.eps.length pc3), (.slice xa3 m.edges.length xc3)]), (I6 er2)]) (v := (I6 er2)) rfl rfl) ?_
         refine s_allocStore (v := (.agg #[(I6 m.states), (I6 m.start), (.slice ea3 m.ends.length ec3), (.slice pa3 m.eps.length pc3), (.slice xa3 m.edges.length xc3)])) (c := #[(I6 m.states), (I6 m.start), (.slice ea3 m.ends.length ec3), (.slice pa3 m.eps.length pc3), (.slice xa3 m.edges.length xc3)]) (n := 5) (by decide) zer26 rfl siz26 rfl rfl rfl (by simp [Value.oneCell']) ?_
         intro bv wv Nv
         have Fv := Nv.ge E
         have Fv_E5 := Nv.ge E5
         have Fv_E6 := Nv.ge E6
         have Fv_E7 := Nv.ge E7
         have Ov_br := Nv.lt Br
         have Ov_bm := Nv.lt Bm
         have Ov_bg := Nv.ltM Mg
         have Ov_bh := Nv.ltM Mh
         replace Br := Nv.keep Br
         replace Bm := Nv.keep Bm
         replace Mg := Nv.keepM Mg
         replace Mh := Nv.keepM Mh
         replace E := E.ext Nv.ext
         have Bv := Nv.blk
         replace E5 := E5.ext Nv.ext
         replace E6 := E6.ext Nv.ext
         replace E7 := E7.ext Nv.ext
         refine qA (I6 er2) rfl ?_
         refine WpL_nil (Wp_seq_region ?_)
         refine qV (r_loadAgg (vs := [(I6 n.states), (I6 n.start), (.slice ea2 n.ends.length ec2), (.slice pa2 n.eps.length pc2), (.slice xa2 n.edges.length xc2)]) rfl agg26 siz26 rfl (Bm.cells rfl)) ?_
         refine qM (.slice ta text.length tc) rfl ?_
         have htE := own_ext htx2 E5
         refine WpL_enter rfl rfl (by decide) (r_callF (vs := [(.agg #[(I6 n.states), (I6 n.start), (.slice ea2 n.ends.length ec2), (.slice pa2 n.eps.length pc2), (.slice xa2 n.edges.length xc2)]), (.slice ta text.length tc)]) Try.func12 nm12 bd12 rfl) (nrun_c _ n _ _ text (hN.ext E6).at (own_intsD htE rfl)) ?_
         rintro _ w49 ⟨⟨b1, er3, rfl, hR1⟩, X49⟩
         replace Br := X49.keep Br
         replace Bm := X49.keep Bm
         replace Mg := X49.keepM Mg
         replace Mh := X49.keepM Mh
         replace Bv := X49.keep Bv
         replace E := E.ext X49
         replace E5 := E5.ext X49
         replace E6 := E6.ext X49
         replace E7 := E7.ext X49
         obtain ⟨her3, hA1⟩ := run_ok ok (by omega) htr hR1
         have htF := own_ext htx2 E5
         have hMc := hM.ext E7
         refine qM (.tuple #[(.bool b1), (I6 er3)]) rfl ?_
         refine qV (r_extract (vs := #[(.bool b1), (I6 er3)]) (v := (.bool b1)) rfl rfl) ?_
         refine qV (r_extract (vs := #[(.bool b1), (I6 er3)]) (v := (I6 er3)) rfl rfl) ?_
         refine qA (.bool b1) rfl ?_
         refine qA (I6 er3) rfl ?_
         refine WpL_nil (Wp_seq_region ?_)
         refine qM (.slice ta text.length tc) rfl ?_
         refine WpL_enter rfl rfl (by decide) (r_callF (vs := [(.slice ta text.length tc)]) Try.func13 nm13 bd13 rfl) (revo_c _ wa.heap.size tc ta text text.length rfl htF (by omega)) ?_
         rintro _ w59 ⟨hO2, C59⟩
         replace Br := C59.keep ((fun h => by have := hTl _ h; omega)) Br
         replace Bm := C59.keep ((fun h => by have := hTl _ h; omega)) Bm
         replace Mg := C59.keepM ((fun h => by have := hTl _ h; omega)) Mg
         replace Mh := C59.keepM ((fun h => by have := hTl _ h; omega)) Mh
         replace Bv := C59.keep ((fun h => by have := hTl _ h; omega)) Bv
         replace E := E.step C59 ((fun x hx h => by have := hTl _ h; omega))
         have hMd := hMc.chg C59 (fun y h => by rw [hnT]; exact (hTl y h).2)
         have okR := ok.rev hn1
         rw [← hm] at okR
         refine WpL_nil (Wp_seq_region ?_)
         refine qV (r_loadAgg (vs := [(I6 m.states), (I6 m.start), (.slice ea3 m.ends.length ec3), (.slice pa3 m.eps.length pc3), (.slice xa3 m.edges.length xc3)]) rfl agg26 siz26 rfl (Bv.cells rfl)) ?_
         refine qM (.slice ta text.length tc) rfl ?_
         refine WpL_enter rfl rfl (by decide) (r_callF (vs := [(.agg #[(I6 m.states), (I6 m.start), (.slice ea3 m.ends.length ec3), (.slice pa3 m.eps.length pc3), (.slice xa3 m.edges.length xc3)]), (.slice ta text.length tc)]) Try.func12 nm12 bd12 rfl) (nrun_c _ m _ _ text.reverse hMd.at (own_intsD hO2 (by simp))) ?_
         rintro _ w69 ⟨⟨b2, er4, rfl, hR2⟩, X69⟩
         replace Br := X69.keep Br
         replace Bm := X69.keep Bm
         replace Mg := X69.keepM Mg
         replace Mh := X69.keepM Mh
         replace Bv := X69.keep Bv
         replace E := E.ext X69
         obtain ⟨her4, hA2⟩ := run_ok okR (by simp; omega) (fun x hx => htr x (List.mem_reverse.1 hx)) hR2
         have hbb : b1 = b2 := Bool.eq_iff_iff.2 (hA1.trans ((acc_rev hn1 text).symm.trans (by rw [hA2, hm])))
         refine qM (.tuple #[(.bool b2), (I6 er4)]) rfl ?_
         refine qV (r_extract (vs := #[(.bool b2), (I6 er4)]) (v := (.bool b2)) rfl rfl) ?_
         refine qV (r_extract (vs := #[(.bool b2), (I6 er4)]) (v := (I6 er4)) rfl rfl) ?_
         refine qA (.bool b2) rfl ?_
         refine qA (I6 er4) rfl ?_
         refine WpL_nil (Wp_seq_region ?_)
         refine qM (I6 er2) rfl ?_
         refine qM (I6 er3) rfl ?_
         refine qM (I6 er4) rfl ?_
         refine s_buildSlice (ps := [(0, (I6 er2)), (1, (I6 er3)), (2, (I6 er4))]) (c := #[(I6 er2), (I6 er3), (I6 er4)]) (by decide) rfl Try.underlying98 siz27 zer27 (by decide) (by decide) (by kernel_rfl) ?_
         intro bz wz Nz
         have Fz := Nz.ge E
         have Oz_br := Nz.lt Br
         have Oz_bm := Nz.lt Bm
         have Oz_bg := Nz.ltM Mg
         have Oz_bh := Nz.ltM Mh
         have Oz_bv := Nz.lt Bv
         replace Br := Nz.keep Br
         replace Bm := Nz.keep Bm
         replace Mg := Nz.keepM Mg
         replace Mh := Nz.keepM Mh
         replace Bv := Nz.keep Bv
         replace E := E.ext Nz.ext
         have Bz := Nz.blk
         refine WpL_enter rfl rfl (by decide) (r_callF (vs := [(.slice (some ⟨bz, 0, none⟩) 3 3)]) Try.func14 nm14 bd14 rfl) (good_c _ _ [er2, er3, er4] (ints_of_blk [er2, er3, er4] Bz (by simp) (by simp))) ?_
         rintro _ w79 ⟨rfl, X79⟩
         replace Br := X79.keep Br
         replace Bm := X79.keep Bm
         replace Mg := X79.keepM Mg
         replace Mh := X79.keepM Mh
         replace Bv := X79.keep Bv
         replace Bz := X79.keep Bz
         replace E := E.ext X79
         obtain ⟨e25, he25⟩ : ∃ e, (!([er2, er3, er4].any fun e => decide (e ≠ 0))) = e := ⟨_, rfl⟩
         refine qV (r_move (v := .bool e25) (congrArg Value.bool he25)) ?_
         refine qG (.bool e25) (yU e25 (.bool b1)) (by cases e25 <;> first | exact gA | exact gB | exact .inl ⟨rfl, r_move (v := (.bool b1)) rfl⟩) ?_
         refine qG (.bool e25) (yU e25 (.bool b2)) (by cases e25 <;> first | exact gA | exact gB | exact .inl ⟨rfl, r_move (v := (.bool b2)) rfl⟩) ?_
         refine qG (.bool e25) (yU e25 (.bool (b1 == b2))) (by cases e25 <;> first | exact gA | exact gB | exact .inl ⟨rfl, r_eqlB (p := b1) (q := b2) Try.underlying4 rfl rfl⟩) ?_
         obtain ⟨e26, he26⟩ : ∃ e, (e25 && (b1 == b2)) = e := ⟨_, rfl⟩
         refine qV (r_pick (b := e25) (v := .bool e26) rfl (by rw [← he26]; cases e25 <;> rfl)) ?_
         refine qM (.bool e26) rfl ?_
         refine qG (.bool e26) (yU e26 (P6 bm 2)) (by cases e26 <;> first | exact gA | exact gB | exact .inl ⟨rfl, r_fieldAddr (b := bm) (o := 0) (o' := 2) rfl Try.underlying26 rfl siz22 rfl⟩) ?_
         refine qG (.bool e26) (yU e26 (.slice ea2 n.ends.length ec2)) (by cases e26 <;> first | exact gA | exact gB | exact .inl ⟨rfl, r_load (v := (.slice ea2 n.ends.length ec2)) rfl flat22 (Bm.cell rfl)⟩) ?_
         refine qG (.bool e26) (yU e26 (I6 (n.ends.length : Int))) (by cases e26 <;> first | exact gA | exact gB | exact .inl ⟨rfl, r_lenSlice (ad := ea2) (n := n.ends.length) (cap := ec2) Try.underlying22 rfl⟩) ?_
         obtain ⟨e27, he27⟩ : ∃ e, (decide ((((n.ends.length : Nat) : Int) : Int) = 1)) = e := ⟨_, rfl⟩
         refine qG (.bool e26) (yU e26 (.bool e27)) (by cases e26 <;> first | exact gA | exact gB | exact .inl ⟨rfl, (r_eql (k := .i64) (a := (n.ends.length : Int)) (b := 1) rfl rfl).trans (by rw [he27]; try rfl)⟩) ?_
         obtain ⟨e28, he28⟩ : ∃ e, (e26 && e27) = e := ⟨_, rfl⟩
         refine qV (r_pick (b := e26) (v := .bool e28) rfl (by rw [← he28]; cases e26 <;> rfl)) ?_
         refine qA (.bool e28) rfl ?_
         refine WpL_nil ?_
         subst he28
         subst he27
         subst he26
         subst he25
         refine Wp_ret ?_
         refine fin_tmp Try.results3 (v := (.bool (((!([er2, er3, er4].any fun e => decide (e ≠ 0))) && (b1 == b2)) && (decide ((((n.ends.length : Nat) : Int) : Int) = 1))))) rfl ?_
         exact ⟨bool_eq (by simp [her2, her3, her4, hbb, hn1]), E⟩
end Go.Proofs
