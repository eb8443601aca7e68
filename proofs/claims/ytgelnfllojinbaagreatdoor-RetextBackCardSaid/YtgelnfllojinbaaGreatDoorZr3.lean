/- Contracts and plain lemmas, part 3. -/
import Derived.Shelf.SlSortCmp.WholeK
import Derived.Shelf.Strconv.Itoa3
import Derived.Shelf.Sort.Plain
import Derived.Shelf.Small.Strs
import Derived.Shelf.Strings.Prefix
import Derived.Shelf.Small.Wraps
import Derived.Shelf.Strings.OnBuilder
import Derived.Shelf.Unicode.DecodeAny
import Derived.Shelf.Unicode.ValidAny
import Derived.Shelf.Strings.Runes
import Derived.Shelf.Strings.SlTrimAscii
import Derived.Shelf.Spec.TrailingZeros
import Derived.Test.YtgelnfllojinbaaGreatDoorProg
import Derived.Tactics
import Derived.Deep.Quiet
import Derived.Laws.AppendOwn
import Derived.KernelRfl
import Derived.Laws.Entries
import Derived.Laws.Build
import Derived.Below
import Derived.RowKit3
import Derived.StillTail
import Derived.Sort.Grow
import Derived.Deep.Draws
import Derived.Lib.AppendIntMem
import Derived.Laws.Externs
import Derived.Test.YtgelnfllojinbaaGreatDoorChecked
import Derived.Laws.StructEq
import Derived.Lib.IndexLaws
import Derived.MapKept
import Derived.Laws.BytesArg
import Derived.Lib.ConvBytes
import Derived.Defers
import Derived.Recover
import Derived.Lib.TrimUEq
import Derived.Lib.TrimAscii
import Derived.Lib.MapLaws
import Derived.OpenShut
import Derived.ChangeSlices
import Derived.Test.YtgelnfllojinbaaGreatDoorRows
import Derived.Test.YtgelnfllojinbaaGreatDoorZr2
namespace Go.Proofs
open Go Go.Eng
set_option linter.unusedSectionVars false
variable [Drw]
mutual
def sameT : Re → Re → Bool
  | .mk k s a m x g, .mk k' s' a' m' x' g' => decide (k = k') && decide (s = s') && decide (m = m') && decide (x = x') && decide (g = g') && sameTs a a'
def sameTs : List Re → List Re → Bool
  | [], [] => true
  | t :: ts, u :: us => sameT t u && sameTs ts us
  | _, _ => false
end
mutual
theorem sameT_iff : ∀ (t u : Re), sameT t u = true ↔ t = u
  | .mk k s a m x g, .mk k' s' a' m' x' g' => by
    simp only [sameT, Bool.and_eq_true, decide_eq_true_eq, sameTs_iff a a', Re.mk.injEq]
    constructor
    · rintro ⟨⟨⟨⟨⟨h1, h2⟩, h3⟩, h4⟩, h5⟩, h6⟩; exact ⟨h1, h2, h6, h3, h4, h5⟩
    · rintro ⟨h1, h2, h6, h3, h4, h5⟩; exact ⟨⟨⟨⟨⟨h1, h2⟩, h3⟩, h4⟩, h5⟩, h6⟩
theorem sameTs_iff : ∀ (ts us : List Re), sameTs ts us = true ↔ ts = us
  | [], [] => by simp [sameTs]
  | t :: ts, u :: us => by simp only [sameTs, Bool.and_eq_true, sameT_iff t u, sameTs_iff ts us, List.cons.injEq]
  | [], _ :: _ => by simp [sameTs]
  | _ :: _, [] => by simp [sameTs]
end
theorem okRes_iff (ts : List Re) : okRes ts ↔ ∀ x ∈ ts, okRe x := by
  induction ts with
  | nil => simp [okRes]
  | cons t ts ih => simp [okRes, ih]
end Go.Proofs
namespace Go.Proofs
open Go Go.Eng
set_option linter.unusedSectionVars false
variable [Drw]
set_option maxRecDepth 100000
def RsAt (w : World) (v : Value) (ts : List Re) : Prop := ∃ aa ac, v = .slice aa ts.length ac ∧ (ts.length ≤ ac ∧ ac ≤ 9223372036854775807) ∧ (ts = [] ∨ ∃ b o, aa = some ⟨b, o, none⟩ ∧ ResAt w b o ts)
theorem RsAt.ext {w w' : World} {v : Value} {ts : List Re} (h : RsAt w v ts) (e : Ext w w') : RsAt w' v ts := by
 obtain ⟨aa, ac, h1, h2, h3⟩ := h
 refine ⟨aa, ac, h1, h2, ?_⟩
 rcases h3 with h | ⟨b, o, h4, h5⟩
 ·exact .inl h
 ·exact .inr ⟨b, o, h4, ResAt.ext e ts h5⟩
theorem RsAt.cells {w : World} {aa : Option Addr} {n ac : Nat} {ts : List Re} (h : RsAt w (.slice aa n ac) ts) (hn : 0 < n) : ∃ b o, aa = some ⟨b, o, none⟩ ∧ ∀ i t, ts[i]? = some t → ∃ vs, CellsAt w b (o + i * 6) vs ∧ ReAt w t vs := by
 obtain ⟨aa', ac', h1, h2, h3⟩ := h
 simp only [Value.slice.injEq] at h1
 obtain ⟨rfl, rfl, rfl⟩ := h1
 rcases h3 with rfl | ⟨b, o, h4, h5⟩
 ·simp at hn
 ·exact ⟨b, o, h4, fun i t ht => ResAt.get h5 ht⟩
theorem ReAt.rs {w : World} {t : Re} {sa aa : Option Addr} {k m x : Int} {n sc n' ac : Nat} {ng : Bool} (h : ReAt w t [.int .i64 k, .slice sa n sc, .slice aa n' ac, .int .i64 m, .int .i64 x, .bool ng]) : RsAt w (.slice aa n' ac) t.args := by
 obtain ⟨sa', sc', aa', ac', hv, _, h2, h3⟩ := h.form
 simp at hv
 obtain ⟨_, _, ⟨rfl, rfl, rfl⟩, _⟩ := hv
 exact ⟨_, _, rfl, h2, h3⟩
theorem sameT_eq (t u : Re) : sameT t u = (decide (t.kind = u.kind) && decide (t.set = u.set) && decide (t.mn = u.mn) && decide (t.mx = u.mx) && decide (t.neg = u.neg) && sameTs t.args u.args) := by
 cases t; cases u; simp only [sameT, Re.kind, Re.set, Re.args, Re.mn, Re.mx, Re.neg]; try rfl
set_option maxHeartbeats 1000000 in
theorem eqf_c (w0 : World) (v1 v2 fv : Value) (l1 l2 : List Re) (h1 : RsAt w0 v1 l1) (h2 : RsAt w0 v2 l2)
  (hf : ∀ (w : World) (x u : Re) (vs us : List Value), Ext w0 w → x ∈ l1 → ReAt w x vs → ReAt w u us → CallV Tryz.prog fv #[.agg vs.toArray, .agg us.toArray] w fun r w' => r = .bool (sameT x u) ∧ Ext w w') :
  Ret Tryz.prog 33 #[v1, v2, fv] w0 fun v w => v = .bool (sameTs l1 l2) ∧ Ext w0 w := by
 have g1 := h1
 have g2 := h2
 obtain ⟨a1, c1, rfl, hb1, _⟩ := h1
 obtain ⟨a2, c2, rfl, hb2, _⟩ := h2
 refine Ret_of Tryz.func33 rfl Tryz.ntmps33 (Nat.le_of_ble_eq_true rfl) ?_
 have E : Chg none1 w0 w0 := Chg.refl _ _
 refine Wp_seq_region ?_
 refine qA (.bool false) rfl ?_
 refine WpL_nil (Wp_seq (Wp_seq_region ?_))
 refine qM (.slice a1 l1.length c1) rfl ?_
 refine qV (r_lenSlice (ad := a1) (n := l1.length) (cap := c1) Tryz.underlying23 rfl) ?_
 refine qM (.slice a2 l2.length c2) rfl ?_
 refine qV (r_lenSlice (ad := a2) (n := l2.length) (cap := c2) Tryz.underlying23 rfl) ?_
 refine qV (r_neq (k := .i64) (a := (l1.length : Int)) (b := (l2.length : Int)) rfl rfl) ?_
 refine WpL_nil ?_
 refine Wp_cond (b := decide (((l1.length : Int) : Int) ≠ (l2.length : Int))) rfl (fun hl => ?_) (fun hl => ?_)
 ·have khl := hl
  replace hl := of_decide_eq_true hl
  refine Wp_seq_region ?_
  refine qA (.bool false) rfl ?_
  refine WpL_nil (Wp_ret (thn_ret ?_))
  refine fin_tmp Tryz.results33 (v := (.bool false)) rfl ?_
  exact ⟨bool_eq (by symm; rw [← Bool.not_eq_true, sameTs_iff]; intro h; rw [h] at hl; exact hl rfl), E⟩
 ·have khl := hl
  replace hl := of_decide_eq_false hl
  refine Wp_skip (thn_normal (Wp_seq (Wp_seq_region ?_)))
  refine qM (.slice a1 l1.length c1) rfl ?_
  refine qV (r_lenSlice (ad := a1) (n := l1.length) (cap := c1) Tryz.underlying23 rfl) ?_
  refine qM (I6 0) rfl ?_
  refine WpL_nil (Wp_block ?_)
  refine Wp_loop (fun nn_ σ W2 => ∃ (k : Nat), (∃ jj_, σ = upds jj_ [(1, (.slice a2 l2.length c2)), (2, fv), (15, (.slice a1 l1.length c1)), (16, (I6 (l1.length : Int))), (17, (I6 (k : Int)))]) ∧ Chg none1 w0 W2 ∧ (k ≤ l1.length) ∧ (∀ (i : Nat), i < k → l1[i]? = l2[i]?) ∧ nn_ = l1.length - k) (n := l1.length - 0) ?_ ?_
  ·exact ⟨0, Fits.out ⟨rfl, rfl, rfl, rfl, rfl, trivial⟩, E, Nat.zero_le _, (fun i h => absurd h (Nat.not_lt_zero _)), rfl⟩
  ·clear E
   rintro _ _ W2 ⟨k, ⟨j2, rfl⟩, E, hk, heq, rfl⟩
   refine Wp_seq_region ?_
   refine qV (r_lss (k := .i64) (a := (k : Int)) (b := (l1.length : Int)) rfl rfl) ?_
   refine WpL_nil (Wp_seq ?_)
   refine Wp_cond (b := decide (((k : Int) : Int) < (l1.length : Int))) rfl (fun hlt => ?_) (fun hlt => ?_)
   ·have khlt := hlt
    replace hlt := of_decide_eq_true hlt
    obtain ⟨p, hp⟩ := get_of_lt (l := l1) (i := k) (by omega)
    obtain ⟨q, hq⟩ := get_of_lt (l := l2) (i := k) (by omega)
    obtain ⟨b1, o1, rfl, hc1⟩ := g1.cells (by omega)
    obtain ⟨b2, o2, rfl, hc2⟩ := g2.cells (by omega)
    obtain ⟨vs, hcv, hpv⟩ := hc1 k p hp
    obtain ⟨us, hcu, hqu⟩ := hc2 k q hq
    have hpv0 := hpv
    have hqu0 := hqu
    obtain ⟨sa, sc, aa, ac, rfl, _, _, _⟩ := hpv.form
    obtain ⟨sa2, sc2, aa2, ac2, rfl, _, _, _⟩ := hqu.form
    refine Wp_skip (thn_normal (Wp_seq (Wp_block (Wp_seq_region ?_))))
    refine qM (I6 (k : Int)) rfl ?_
    refine qV (r_indexSlice (b := b1) (o := o1) (len := l1.length) (cap := c1) (i := k) (o' := o1 + k * 6) rfl rfl rfl Tryz.underlying23 siz25 (by omega) (by omega)) ?_
    refine qV (r_loadAgg (vs := [(I6 p.kind), (.slice sa p.set.length sc), (.slice aa p.args.length ac), (I6 p.mn), (I6 p.mx), (.bool p.neg)]) rfl agg25 siz25 rfl (hcv.ext E)) ?_
    refine s_alloc (c := #[(I6 0), (.slice none 0 0), (.slice none 0 0), (I6 0), (I6 0), (.bool false)]) (by decide) zer25 rfl ?_
    intro bp wp Np
    have Fp := Np.ge E
    replace E := E.ext Np.ext
    have Bp := Np.blk
    refine qA (I6 (k : Int)) rfl ?_
    refine s_storeAgg (b := bp) (o := 0) (c' := (R6 p sa sc aa ac)) rfl rfl (by simp [Value.oneCell']) siz25 rfl Bp (by first | (simp; done) | exact Nat.le_of_ble_eq_true rfl) rfl ?_
    intro w4 S4
    replace E := S4.step E (by first | exact Or.inl (by omega) | assumption | exact Or.inr rfl | exact Or.inr (by assumption) | exact Or.inr (by simp) | exact Or.inr (by omega) | exact Or.inr (by dsimp only; omega))
    replace Bp := S4.blk
    refine WpL_nil (Wp_seq_region ?_)
    refine qM (.slice (some ⟨b2, o2, none⟩) l2.length c2) rfl ?_
    refine qM (I6 (k : Int)) rfl ?_
    refine qV (r_indexSlice (b := b2) (o := o2) (len := l2.length) (cap := c2) (i := k) (o' := o2 + k * 6) rfl rfl rfl Tryz.underlying23 siz25 (by omega) (by omega)) ?_
    refine qV (r_loadAgg (vs := [(I6 q.kind), (.slice sa2 q.set.length sc2), (.slice aa2 q.args.length ac2), (I6 q.mn), (I6 q.mx), (.bool q.neg)]) rfl agg25 siz25 rfl (hcu.ext E)) ?_
    refine s_allocStore (v := (.agg (R6 q sa2 sc2 aa2 ac2))) (c := (R6 q sa2 sc2 aa2 ac2)) (n := 6) (by decide) zer25 rfl siz25 rfl rfl rfl (by simp [Value.oneCell']) ?_
    intro bq wq Nq
    have Fq := Nq.ge E
    have Oq_bp := Nq.lt Bp
    replace Bp := Nq.keep Bp
    replace E := E.ext Nq.ext
    have Bq := Nq.blk
    refine WpL_nil (Wp_seq_region ?_)
    refine qM fv rfl ?_
    refine qV (r_loadAgg (vs := [(I6 p.kind), (.slice sa p.set.length sc), (.slice aa p.args.length ac), (I6 p.mn), (I6 p.mx), (.bool p.neg)]) rfl agg25 siz25 rfl (Bp.cells rfl)) ?_
    refine qV (r_loadAgg (vs := [(I6 q.kind), (.slice sa2 q.set.length sc2), (.slice aa2 q.args.length ac2), (I6 q.mn), (I6 q.mx), (.bool q.neg)]) rfl agg25 siz25 rfl (Bq.cells rfl)) ?_
    refine WpL_callV (fv := fv) (vs := [(.agg (R6 p sa sc aa ac)), (.agg (R6 q sa2 sc2 aa2 ac2))]) (by decide) rfl rfl (hf _ p q _ _ E (List.mem_of_getElem? hp) (ReAt.ext E p hpv0) (ReAt.ext E q hqu0)) ?_
    rintro _ w9 ⟨rfl, X9⟩
    replace Bp := X9.keep Bp
    replace Bq := X9.keep Bq
    replace E := E.ext X9
    refine qV (r_not (b := sameT p q) rfl) ?_
    refine WpL_nil ?_
    refine Wp_cond (b := !(sameT p q)) rfl (fun hpq => ?_) (fun hpq => ?_)
    ·have khpq := hpq
     replace hpq := by simpa using hpq
     refine Wp_seq_region ?_
     refine qA (.bool false) rfl ?_
     refine WpL_nil (Wp_ret (inB_ret (thn_ret (thn_ret (inB_ret (thn_ret ?_))))))
     refine fin_tmp Tryz.results33 (v := (.bool false)) rfl ?_
     exact ⟨bool_eq (by symm; rw [← Bool.not_eq_true, sameTs_iff]; intro h; subst h; rw [hp] at hq; cases hq; rw [(sameT_iff p p).2 rfl] at hpq; cases hpq), E⟩
    ·have khpq := hpq
     replace hpq := by simpa using hpq
     have hpq2 : p = q := (sameT_iff p q).1 (by simpa using hpq)
     refine Wp_skip (inB_normal (thn_normal (Wp_region ?_)))
     refine qV (r_add (k := .i64) (a := (k : Int)) (b := 1) (c := (k : Int) + 1) rfl rfl (wI64 (by omega))) ?_
     refine qM (I6 ((k : Int) + 1)) rfl ?_
     refine WpL_nil (thn_normal ?_)
     exact ⟨l1.length - (k + 1), by omega, k + 1, Fits.out ⟨rfl, rfl, rfl, rfl, rfl, trivial⟩, E, (by omega), (fun i hi => by rcases Nat.lt_or_ge i k with h | h; exact heq i h; obtain rfl : i = k := (by omega); rw [hp, hq, hpq2]), rfl⟩
   ·have khlt := hlt
    replace hlt := of_decide_eq_false hlt
    have hkk : k = l1.length := by omega
    refine Wp_exit (thn_exit (thn_exit (inB_here (thn_normal (Wp_seq_region ?_)))))
    refine qA (.bool true) rfl ?_
    refine WpL_nil (Wp_ret ?_)
    refine fin_tmp Tryz.results33 (v := (.bool true)) rfl ?_
    exact ⟨bool_eq (by symm; rw [sameTs_iff]; exact get_ext (by omega) (fun i hi => heq i (by omega))), E⟩
set_option maxHeartbeats 1000000 in
theorem resame_c : ∀ (n : Nat) (t u : Re) (w0 : World) (vs us : List Value), t.size ≤ n → ReAt w0 t vs → ReAt w0 u us →
    Ret Tryz.prog 13 #[.agg vs.toArray, .agg us.toArray] w0 fun v w => v = .bool (sameT t u) ∧ Ext w0 w := by
  intro n
  induction n with
  | zero => intro t u w0 vs us hn; have := t.size_pos; omega
  | succ n ih =>
  intro t u w0 vs us hn ht hu
  have ht0 := ht
  have hu0 := hu
  obtain ⟨sa, sc, aa, ac, rfl, hts, _, _⟩ := ht.form
  obtain ⟨sa2, sc2, aa2, ac2, rfl, hus, _, _⟩ := hu.form
  have hF : sameT t u = (decide (t.kind = u.kind) && decide (t.set = u.set) && decide (t.mn = u.mn) && decide (t.mx = u.mx) && decide (t.neg = u.neg) && sameTs t.args u.args) := sameT_eq t u
  refine Ret_of Tryz.func13 rfl Tryz.ntmps13 (Nat.le_of_ble_eq_true rfl) ?_
  have E : Chg none1 w0 w0 := Chg.refl _ _
  refine Wp_seq_region ?_
  refine s_box (v := (.agg (R6 t sa sc aa ac))) (c := (R6 t sa sc aa ac)) (by decide) rfl rfl ?_
  intro b1 w1 N1
  have F1 := N1.ge E
  replace E := E.ext N1.ext
  have B1 := N1.blk
  refine s_box (v := (.agg (R6 u sa2 sc2 aa2 ac2))) (c := (R6 u sa2 sc2 aa2 ac2)) (by decide) rfl rfl ?_
  intro b2 w2 N2
  have F2 := N2.ge E
  have O2_b1 := N2.lt B1
  replace B1 := N2.keep B1
  replace E := E.ext N2.ext
  have B2 := N2.blk
  refine qA (.bool false) rfl ?_
  refine WpL_nil (Wp_seq_region ?_)
  refine qF b1 0 0 rfl Tryz.underlying25 rfl siz3 rfl ?_
  refine qV (r_load (v := (I6 t.kind)) rfl flat3 (B1.cell rfl)) ?_
  refine qF b2 0 0 rfl Tryz.underlying25 rfl siz3 rfl ?_
  refine qV (r_load (v := (I6 u.kind)) rfl flat3 (B2.cell rfl)) ?_
  refine qV (r_eql (k := .i64) (a := t.kind) (b := u.kind) rfl rfl) ?_
  refine qM (.bool (decide ((t.kind : Int) = u.kind))) rfl ?_
  rcases Bool.eq_false_or_eq_true (decide ((t.kind : Int) = u.kind)) with g1 | g1
  · have kg1 := g1
    replace kg1 := of_decide_eq_true kg1
    refine WpL_guard_yes (oj := _) rfl rfl (by decide) (congrArg Value.bool g1) ?_
    refine qF b1 0 1 rfl Tryz.underlying25 rfl siz22 rfl ?_
    refine WpL_guard_yes (oj := _) rfl rfl (by decide) (congrArg Value.bool g1) ?_
    refine qV (r_load (v := (.slice sa t.set.length sc)) rfl flat22 (B1.cell rfl)) ?_
    refine WpL_guard_yes (oj := _) rfl rfl (by decide) (congrArg Value.bool g1) ?_
    refine qF b2 0 1 rfl Tryz.underlying25 rfl siz22 rfl ?_
    refine WpL_guard_yes (oj := _) rfl rfl (by decide) (congrArg Value.bool g1) ?_
    refine qV (r_load (v := (.slice sa2 u.set.length sc2)) rfl flat22 (B2.cell rfl)) ?_
    refine WpL_guard_yes (oj := _) rfl rfl (by decide) (congrArg Value.bool g1) ?_
    refine WpL_enter rfl rfl (by decide) (r_callF (vs := [(.slice sa t.set.length sc), (.slice sa2 u.set.length sc2)]) Tryz.func32 nm32 bd32 rfl) (speq_c _ _ _ t.set u.set (SlAt.ext hts E) (SlAt.ext hus E)) ?_
    rintro _ w9 ⟨rfl, X9⟩
    replace B1 := X9.keep B1
    replace B2 := X9.keep B2
    replace E := E.ext X9
    refine qV (r_pick (b := decide ((t.kind : Int) = u.kind)) (v := (.bool (decide (t.set = u.set)))) rfl (by rw [g1]; rfl)) ?_
    refine qM (.bool (decide (t.set = u.set))) rfl ?_
    rcases Bool.eq_false_or_eq_true (decide (t.set = u.set)) with g2 | g2
    · have kg2 := g2
      replace kg2 := of_decide_eq_true kg2
      refine WpL_guard_yes (oj := _) rfl rfl (by decide) (congrArg Value.bool g2) ?_
      refine qF b1 0 3 rfl Tryz.underlying25 rfl siz3 rfl ?_
      refine WpL_guard_yes (oj := _) rfl rfl (by decide) (congrArg Value.bool g2) ?_
      refine qV (r_load (v := (I6 t.mn)) rfl flat3 (B1.cell rfl)) ?_
      refine WpL_guard_yes (oj := _) rfl rfl (by decide) (congrArg Value.bool g2) ?_
      refine qF b2 0 3 rfl Tryz.underlying25 rfl siz3 rfl ?_
      refine WpL_guard_yes (oj := _) rfl rfl (by decide) (congrArg Value.bool g2) ?_
      refine qV (r_load (v := (I6 u.mn)) rfl flat3 (B2.cell rfl)) ?_
      refine WpL_guard_yes (oj := _) rfl rfl (by decide) (congrArg Value.bool g2) ?_
      refine qV (r_eql (k := .i64) (a := t.mn) (b := u.mn) rfl rfl) ?_
      refine qV (r_pick (b := decide (t.set = u.set)) (v := (.bool (decide ((t.mn : Int) = u.mn)))) rfl (by rw [g2]; rfl)) ?_
      refine qM (.bool (decide ((t.mn : Int) = u.mn))) rfl ?_
      rcases Bool.eq_false_or_eq_true (decide ((t.mn : Int) = u.mn)) with g3 | g3
      · have kg3 := g3
        replace kg3 := of_decide_eq_true kg3
        refine WpL_guard_yes (oj := _) rfl rfl (by decide) (congrArg Value.bool g3) ?_
        refine qF b1 0 4 rfl Tryz.underlying25 rfl siz3 rfl ?_
        refine WpL_guard_yes (oj := _) rfl rfl (by decide) (congrArg Value.bool g3) ?_
        refine qV (r_load (v := (I6 t.mx)) rfl flat3 (B1.cell rfl)) ?_
        refine WpL_guard_yes (oj := _) rfl rfl (by decide) (congrArg Value.bool g3) ?_
        refine qF b2 0 4 rfl Tryz.underlying25 rfl siz3 rfl ?_
        refine WpL_guard_yes (oj := _) rfl rfl (by decide) (congrArg Value.bool g3) ?_
        refine qV (r_load (v := (I6 u.mx)) rfl flat3 (B2.cell rfl)) ?_
        refine WpL_guard_yes (oj := _) rfl rfl (by decide) (congrArg Value.bool g3) ?_
        refine qV (r_eql (k := .i64) (a := t.mx) (b := u.mx) rfl rfl) ?_
        refine qV (r_pick (b := decide ((t.mn : Int) = u.mn)) (v := (.bool (decide ((t.mx : Int) = u.mx)))) rfl (by rw [g3]; rfl)) ?_
        refine qM (.bool (decide ((t.mx : Int) = u.mx))) rfl ?_
        rcases Bool.eq_false_or_eq_true (decide ((t.mx : Int) = u.mx)) with g4 | g4
        · have kg4 := g4
          replace kg4 := of_decide_eq_true kg4
          refine WpL_guard_yes (oj := _) rfl rfl (by decide) (congrArg Value.bool g4) ?_
          refine qF b1 0 5 rfl Tryz.underlying25 rfl siz4 rfl ?_
          refine WpL_guard_yes (oj := _) rfl rfl (by decide) (congrArg Value.bool g4) ?_
          refine qV (r_load (v := (.bool t.neg)) rfl flat4 (B1.cell rfl)) ?_
          refine WpL_guard_yes (oj := _) rfl rfl (by decide) (congrArg Value.bool g4) ?_
          refine qF b2 0 5 rfl Tryz.underlying25 rfl siz4 rfl ?_
          refine WpL_guard_yes (oj := _) rfl rfl (by decide) (congrArg Value.bool g4) ?_
          refine qV (r_load (v := (.bool u.neg)) rfl flat4 (B2.cell rfl)) ?_
          refine WpL_guard_yes (oj := _) rfl rfl (by decide) (congrArg Value.bool g4) ?_
          refine qV (r_eqlB (p := t.neg) (q := u.neg) Tryz.underlying4 rfl rfl) ?_
          refine qV (r_pick (b := decide ((t.mx : Int) = u.mx)) (v := (.bool (t.neg == u.neg))) rfl (by rw [g4]; rfl)) ?_
          refine qM (.bool (t.neg == u.neg)) rfl ?_
          rcases Bool.eq_false_or_eq_true (t.neg == u.neg) with g5 | g5
          · have kg5 := g5
            refine WpL_guard_yes (oj := _) rfl rfl (by decide) (congrArg Value.bool g5) ?_
            refine qF b1 0 2 rfl Tryz.underlying25 rfl siz23 rfl ?_
            refine WpL_guard_yes (oj := _) rfl rfl (by decide) (congrArg Value.bool g5) ?_
            refine qV (r_load (v := (.slice aa t.args.length ac)) rfl flat23 (B1.cell rfl)) ?_
            refine WpL_guard_yes (oj := _) rfl rfl (by decide) (congrArg Value.bool g5) ?_
            refine qF b2 0 2 rfl Tryz.underlying25 rfl siz23 rfl ?_
            refine WpL_guard_yes (oj := _) rfl rfl (by decide) (congrArg Value.bool g5) ?_
            refine qV (r_load (v := (.slice aa2 u.args.length ac2)) rfl flat23 (B2.cell rfl)) ?_
            refine WpL_guard_yes (oj := _) rfl rfl (by decide) (congrArg Value.bool g5) ?_
            refine WpL_enter rfl rfl (by decide) (r_callF (vs := [(.slice aa t.args.length ac), (.slice aa2 u.args.length ac2), (.func (.func 13) #[] #[])]) Tryz.func33 nm33 bd33 rfl) (eqf_c _ _ _ _ t.args u.args ((ReAt.rs ht0).ext E) ((ReAt.rs hu0).ext E) (fun w x y vs us hE hx h1 h2 => CallV.mk (first := #[]) (cap := #[]) Tryz.func13 nm13 bd13 rfl (ih x y w vs us (by obtain ⟨i, hi⟩ := List.mem_iff_getElem?.1 hx; have := Re.size_arg hi; omega) h1 h2))) ?_
            rintro _ w19 ⟨rfl, X19⟩
            replace B1 := X19.keep B1
            replace B2 := X19.keep B2
            replace E := E.ext X19
            refine qV (r_pick (b := t.neg == u.neg) (v := (.bool (sameTs t.args u.args))) rfl (by rw [g5]; rfl)) ?_
            refine qA (.bool (sameTs t.args u.args)) rfl ?_
            refine WpL_nil (Wp_ret ?_)
            refine fin_tmp Tryz.results13 (v := (.bool (sameTs t.args u.args))) rfl ?_
            exact ⟨bool_eq (by rw [hF, g1, g2, g3, g4]; simp at g5; simp [g5]), E⟩
          · have kg5 := g5
            refine WpL_guard_no (oj := _) rfl rfl (by decide) (v := .bool false) (congrArg Value.bool g5) (Or.inl rfl) ?_
            refine WpL_guard_no (oj := _) rfl rfl (by decide) (v := .bool false) (congrArg Value.bool g5) (Or.inl rfl) ?_
            refine WpL_guard_no (oj := _) rfl rfl (by decide) (v := .bool false) (congrArg Value.bool g5) (Or.inl rfl) ?_
            refine WpL_guard_no (oj := _) rfl rfl (by decide) (v := .bool false) (congrArg Value.bool g5) (Or.inl rfl) ?_
            refine WpL_guard_no (oj := _) rfl rfl (by decide) (v := .bool false) (congrArg Value.bool g5) (Or.inl rfl) ?_
            refine qV (r_pick (b := t.neg == u.neg) (v := (.bool false)) rfl (by rw [g5]; rfl)) ?_
            refine qA (.bool false) rfl ?_
            refine WpL_nil (Wp_ret ?_)
            refine fin_tmp Tryz.results13 (v := (.bool false)) rfl ?_
            exact ⟨bool_eq (by rw [hF]; simp at g5; simp [g5]), E⟩
        · have kg4 := g4
          replace kg4 := of_decide_eq_false kg4
          refine WpL_guard_no (oj := _) rfl rfl (by decide) (v := .bool false) (congrArg Value.bool g4) (Or.inl rfl) ?_
          refine WpL_guard_no (oj := _) rfl rfl (by decide) (v := .bool false) (congrArg Value.bool g4) (Or.inl rfl) ?_
          refine WpL_guard_no (oj := _) rfl rfl (by decide) (v := .bool false) (congrArg Value.bool g4) (Or.inl rfl) ?_
          refine WpL_guard_no (oj := _) rfl rfl (by decide) (v := .bool false) (congrArg Value.bool g4) (Or.inl rfl) ?_
          refine WpL_guard_no (oj := _) rfl rfl (by decide) (v := .bool false) (congrArg Value.bool g4) (Or.inl rfl) ?_
          refine qV (r_pick (b := decide ((t.mx : Int) = u.mx)) (v := (.bool false)) rfl (by rw [g4]; rfl)) ?_
          refine qM (.bool false) rfl ?_
          refine WpL_guard_no (oj := _) rfl rfl (by decide) (v := .bool false) rfl (Or.inl rfl) ?_
          refine WpL_guard_no (oj := _) rfl rfl (by decide) (v := .bool false) rfl (Or.inl rfl) ?_
          refine WpL_guard_no (oj := _) rfl rfl (by decide) (v := .bool false) rfl (Or.inl rfl) ?_
          refine WpL_guard_no (oj := _) rfl rfl (by decide) (v := .bool false) rfl (Or.inl rfl) ?_
          refine WpL_guard_no (oj := _) rfl rfl (by decide) (v := .bool false) rfl (Or.inl rfl) ?_
          refine qV (r_pick (b := false) (v := (.bool false)) rfl rfl) ?_
          refine qA (.bool false) rfl ?_
          refine WpL_nil (Wp_ret ?_)
          refine fin_tmp Tryz.results13 (v := (.bool false)) rfl ?_
          exact ⟨bool_eq (by rw [hF]; simp at g4; simp [g4]), E⟩
      · have kg3 := g3
        replace kg3 := of_decide_eq_false kg3
        refine WpL_guard_no (oj := _) rfl rfl (by decide) (v := .bool false) (congrArg Value.bool g3) (Or.inl rfl) ?_
        refine WpL_guard_no (oj := _) rfl rfl (by decide) (v := .bool false) (congrArg Value.bool g3) (Or.inl rfl) ?_
        refine WpL_guard_no (oj := _) rfl rfl (by decide) (v := .bool false) (congrArg Value.bool g3) (Or.inl rfl) ?_
        refine WpL_guard_no (oj := _) rfl rfl (by decide) (v := .bool false) (congrArg Value.bool g3) (Or.inl rfl) ?_
        refine WpL_guard_no (oj := _) rfl rfl (by decide) (v := .bool false) (congrArg Value.bool g3) (Or.inl rfl) ?_
        refine qV (r_pick (b := decide ((t.mn : Int) = u.mn)) (v := (.bool false)) rfl (by rw [g3]; rfl)) ?_
        refine qM (.bool false) rfl ?_
        refine WpL_guard_no (oj := _) rfl rfl (by decide) (v := .bool false) rfl (Or.inl rfl) ?_
        refine WpL_guard_no (oj := _) rfl rfl (by decide) (v := .bool false) rfl (Or.inl rfl) ?_
        refine WpL_guard_no (oj := _) rfl rfl (by decide) (v := .bool false) rfl (Or.inl rfl) ?_
        refine WpL_guard_no (oj := _) rfl rfl (by decide) (v := .bool false) rfl (Or.inl rfl) ?_
        refine WpL_guard_no (oj := _) rfl rfl (by decide) (v := .bool false) rfl (Or.inl rfl) ?_
        refine qV (r_pick (b := false) (v := (.bool false)) rfl rfl) ?_
        refine qM (.bool false) rfl ?_
        refine WpL_guard_no (oj := _) rfl rfl (by decide) (v := .bool false) rfl (Or.inl rfl) ?_
        refine WpL_guard_no (oj := _) rfl rfl (by decide) (v := .bool false) rfl (Or.inl rfl) ?_
        refine WpL_guard_no (oj := _) rfl rfl (by decide) (v := .bool false) rfl (Or.inl rfl) ?_
        refine WpL_guard_no (oj := _) rfl rfl (by decide) (v := .bool false) rfl (Or.inl rfl) ?_
        refine WpL_guard_no (oj := _) rfl rfl (by decide) (v := .bool false) rfl (Or.inl rfl) ?_
        refine qV (r_pick (b := false) (v := (.bool false)) rfl rfl) ?_
        refine qA (.bool false) rfl ?_
        refine WpL_nil (Wp_ret ?_)
        refine fin_tmp Tryz.results13 (v := (.bool false)) rfl ?_
        exact ⟨bool_eq (by rw [hF]; simp at g3; simp [g3]), E⟩
    · have kg2 := g2
      replace kg2 := of_decide_eq_false kg2
      refine WpL_guard_no (oj := _) rfl rfl (by decide) (v := .bool false) (congrArg Value.bool g2) (Or.inl rfl) ?_
      refine WpL_guard_no (oj := _) rfl rfl (by decide) (v := .bool false) (congrArg Value.bool g2) (Or.inl rfl) ?_
      refine WpL_guard_no (oj := _) rfl rfl (by decide) (v := .bool false) (congrArg Value.bool g2) (Or.inl rfl) ?_
      refine WpL_guard_no (oj := _) rfl rfl (by decide) (v := .bool false) (congrArg Value.bool g2) (Or.inl rfl) ?_
      refine WpL_guard_no (oj := _) rfl rfl (by decide) (v := .bool false) (congrArg Value.bool g2) (Or.inl rfl) ?_
      refine qV (r_pick (b := decide (t.set = u.set)) (v := (.bool false)) rfl (by rw [g2]; rfl)) ?_
      refine qM (.bool false) rfl ?_
      refine WpL_guard_no (oj := _) rfl rfl (by decide) (v := .bool false) rfl (Or.inl rfl) ?_
      refine WpL_guard_no (oj := _) rfl rfl (by decide) (v := .bool false) rfl (Or.inl rfl) ?_
      refine WpL_guard_no (oj := _) rfl rfl (by decide) (v := .bool false) rfl (Or.inl rfl) ?_
      refine WpL_guard_no (oj := _) rfl rfl (by decide) (v := .bool false) rfl (Or.inl rfl) ?_
      refine WpL_guard_no (oj := _) rfl rfl (by decide) (v := .bool false) rfl (Or.inl rfl) ?_
      refine qV (r_pick (b := false) (v := (.bool false)) rfl rfl) ?_
      refine qM (.bool false) rfl ?_
      refine WpL_guard_no (oj := _) rfl rfl (by decide) (v := .bool false) rfl (Or.inl rfl) ?_
      refine WpL_guard_no (oj := _) rfl rfl (by decide) (v := .bool false) rfl (Or.inl rfl) ?_
      refine WpL_guard_no (oj := _) rfl rfl (by decide) (v := .bool false) rfl (Or.inl rfl) ?_
      refine WpL_guard_no (oj := _) rfl rfl (by decide) (v := .bool false) rfl (Or.inl rfl) ?_
      refine WpL_guard_no (oj := _) rfl rfl (by decide) (v := .bool false) rfl (Or.inl rfl) ?_
      refine qV (r_pick (b := false) (v := (.bool false)) rfl rfl) ?_
      refine qM (.bool false) rfl ?_
      refine WpL_guard_no (oj := _) rfl rfl (by decide) (v := .bool false) rfl (Or.inl rfl) ?_
      refine WpL_guard_no (oj := _) rfl rfl (by decide) (v := .bool false) rfl (Or.inl rfl) ?_
      refine WpL_guard_no (oj := _) rfl rfl (by decide) (v := .bool false) rfl (Or.inl rfl) ?_
      refine WpL_guard_no (oj := _) rfl rfl (by decide) (v := .bool false) rfl (Or.inl rfl) ?_
      refine WpL_guard_no (oj := _) rfl rfl (by decide) (v := .bool false) rfl (Or.inl rfl) ?_
      refine qV (r_pick (b := false) (v := (.bool false)) rfl rfl) ?_
      refine qA (.bool false) rfl ?_
      refine WpL_nil (Wp_ret ?_)
      refine fin_tmp Tryz.results13 (v := (.bool false)) rfl ?_
      exact ⟨bool_eq (by rw [hF]; simp at g2; simp [g2]), E⟩
  · have kg1 := g1
    replace kg1 := of_decide_eq_false kg1
    refine WpL_guard_no (oj := _) rfl rfl (by decide) (v := .bool false) (congrArg Value.bool g1) (Or.inl rfl) ?_
    refine WpL_guard_no (oj := _) rfl rfl (by decide) (v := .bool false) (congrArg Value.bool g1) (Or.inl rfl) ?_
    refine WpL_guard_no (oj := _) rfl rfl (by decide) (v := .bool false) (congrArg Value.bool g1) (Or.inl rfl) ?_
    refine WpL_guard_no (oj := _) rfl rfl (by decide) (v := .bool false) (congrArg Value.bool g1) (Or.inl rfl) ?_
    refine WpL_guard_no (oj := _) rfl rfl (by decide) (v := .bool false) (congrArg Value.bool g1) (Or.inl rfl) ?_
    refine qV (r_pick (b := decide ((t.kind : Int) = u.kind)) (v := (.bool false)) rfl (by rw [g1]; rfl)) ?_
    refine qM (.bool false) rfl ?_
    refine WpL_guard_no (oj := _) rfl rfl (by decide) (v := .bool false) rfl (Or.inl rfl) ?_
    refine WpL_guard_no (oj := _) rfl rfl (by decide) (v := .bool false) rfl (Or.inl rfl) ?_
    refine WpL_guard_no (oj := _) rfl rfl (by decide) (v := .bool false) rfl (Or.inl rfl) ?_
    refine WpL_guard_no (oj := _) rfl rfl (by decide) (v := .bool false) rfl (Or.inl rfl) ?_
    refine WpL_guard_no (oj := _) rfl rfl (by decide) (v := .bool false) rfl (Or.inl rfl) ?_
    refine qV (r_pick (b := false) (v := (.bool false)) rfl rfl) ?_
    refine qM (.bool false) rfl ?_
    refine WpL_guard_no (oj := _) rfl rfl (by decide) (v := .bool false) rfl (Or.inl rfl) ?_
    refine WpL_guard_no (oj := _) rfl rfl (by decide) (v := .bool false) rfl (Or.inl rfl) ?_
    refine WpL_guard_no (oj := _) rfl rfl (by decide) (v := .bool false) rfl (Or.inl rfl) ?_
    refine WpL_guard_no (oj := _) rfl rfl (by decide) (v := .bool false) rfl (Or.inl rfl) ?_
    refine WpL_guard_no (oj := _) rfl rfl (by decide) (v := .bool false) rfl (Or.inl rfl) ?_
    refine qV (r_pick (b := false) (v := (.bool false)) rfl rfl) ?_
    refine qM (.bool false) rfl ?_
    refine WpL_guard_no (oj := _) rfl rfl (by decide) (v := .bool false) rfl (Or.inl rfl) ?_
    refine WpL_guard_no (oj := _) rfl rfl (by decide) (v := .bool false) rfl (Or.inl rfl) ?_
    refine WpL_guard_no (oj := _) rfl rfl (by decide) (v := .bool false) rfl (Or.inl rfl) ?_
    refine WpL_guard_no (oj := _) rfl rfl (by decide) (v := .bool false) rfl (Or.inl rfl) ?_
    refine WpL_guard_no (oj := _) rfl rfl (by decide) (v := .bool false) rfl (Or.inl rfl) ?_
    refine qV (r_pick (b := false) (v := (.bool false)) rfl rfl) ?_
    refine qM (.bool false) rfl ?_
    refine WpL_guard_no (oj := _) rfl rfl (by decide) (v := .bool false) rfl (Or.inl rfl) ?_
    refine WpL_guard_no (oj := _) rfl rfl (by decide) (v := .bool false) rfl (Or.inl rfl) ?_
    refine WpL_guard_no (oj := _) rfl rfl (by decide) (v := .bool false) rfl (Or.inl rfl) ?_
    refine WpL_guard_no (oj := _) rfl rfl (by decide) (v := .bool false) rfl (Or.inl rfl) ?_
    refine WpL_guard_no (oj := _) rfl rfl (by decide) (v := .bool false) rfl (Or.inl rfl) ?_
    refine qV (r_pick (b := false) (v := (.bool false)) rfl rfl) ?_
    refine qA (.bool false) rfl ?_
    refine WpL_nil (Wp_ret ?_)
    refine fin_tmp Tryz.results13 (v := (.bool false)) rfl ?_
    exact ⟨bool_eq (by rw [hF]; simp at g1; simp [g1]), E⟩
end Go.Proofs
namespace Go.Proofs
open Go Go.Eng
set_option linter.unusedSectionVars false
variable [Drw]
set_option maxRecDepth 100000
set_option maxHeartbeats 400000 in
theorem clone_c (w0 : World) (v : Value) (l : List (Int × Int)) (h : SpansAt w0 v l) (hl : l.length ≤ 2000000) :
  Ret Tryz.prog 55 #[v] w0 fun r w => ∃ a c, r = .slice a l.length c ∧ SlIn (fun b => w0.heap.size ≤ b ∧ b < w.heap.size) w 2 r (l.map spanV) ∧ Ext w0 w := by
 obtain ⟨a, c, rfl⟩ := SlAt.form h
 simp only [List.length_map] at h ⊢
 obtain ⟨base, hbase⟩ : ∃ base, base = w0.heap.size := ⟨_, rfl⟩
 refine Ret_of Tryz.func55 rfl Tryz.ntmps55 (Nat.le_of_ble_eq_true rfl) ?_
 have E : Chg none1 w0 w0 := Chg.refl _ _
 refine Wp_seq_region ?_
 refine qA (.slice none 0 0) rfl ?_
 refine WpL_nil (Wp_seq (Wp_seq_region ?_))
 refine qM (.slice a l.length c) rfl ?_
 refine WpL_val (v := (.bool a.isNone)) rfl rfl (by decide) (r_eqlNil Tryz.underlying22 rfl rfl) ?_
 refine WpL_nil ?_
 refine Wp_cond (b := a.isNone) rfl (fun hn => ?_) (fun hn => ?_)
 ·have khn := hn
  have hl0 : l.length = 0 := by rcases Nat.eq_zero_or_pos l.length with h0 | h0; exact h0; obtain ⟨b, o, rfl, _⟩ := spans_cells h h0; simp at hn
  have hl1 : l = [] := List.eq_nil_of_length_eq_zero hl0
  refine Wp_seq_region ?_
  refine qA (.slice none 0 0) rfl ?_
  refine WpL_nil (Wp_ret (thn_ret ?_))
  refine fin_tmp Tryz.results55 (v := (.slice none 0 0)) rfl ?_
  exact ⟨none, 0, by rw [hl0], by subst hl1; exact SlIn.nil _ _ _ _ _, E⟩
 ·have khn := hn
  rcases Bool.eq_false_or_eq_true (decide (l.length = 0)) with hz | hz
  ·have khz := hz
   replace khz := of_decide_eq_true khz
   refine Wp_skip (thn_normal (Wp_seq_region ?_))
   refine s_build0 (by decide) Tryz.underlying22 siz62 ?_
   intro bq wq Nq
   have Fq := Nq.ge E
   replace E := E.ext Nq.ext
   have Bq := Nq.blk
   refine qM (.slice a l.length c) rfl ?_
   refine qV (r_append0 Tryz.underlying22 siz62 (a' := a) (c' := c) rfl (Nat.le_refl _) (by show Value.slice a l.length c = _; rw [khz])) ?_
   refine qA (.slice (some ⟨bq, 0, none⟩) 0 0) rfl ?_
   refine WpL_nil (Wp_ret ?_)
   refine fin_tmp Tryz.results55 (v := (.slice (some ⟨bq, 0, none⟩) 0 0)) rfl ?_
   have hl1 : l = [] := List.eq_nil_of_length_eq_zero khz
   exact ⟨some ⟨bq, 0, none⟩, 0, by rw [khz], by subst hl1; exact SlIn.nil _ _ _ _ _, E⟩
  ·have khz := hz
   replace khz := of_decide_eq_false khz
   obtain ⟨b, o, rfl, hcl⟩ := spans_cells h (by omega)
   refine Wp_skip (thn_normal (Wp_seq_region ?_))
   refine s_build0 (by decide) Tryz.underlying22 siz62 ?_
   intro bq wq Nq
   have Fq := Nq.ge E
   replace E := E.ext Nq.ext
   have Bq := Nq.blk
   refine qM (.slice (some ⟨b, o, none⟩) l.length c) rfl ?_
   have hown := own_empty (base := base) (size := 2) Bq (by omega)
   have hbs : base ≤ wq.heap.size := by have := Nq.ext.size; omega
   refine s_append (base := base) (n := 0) (m := l.length) (xs := []) (news := (l.map spanV).flatten) (size := 2) (bytes := 16) (v := (.slice (some ⟨bq, 0, none⟩) 0 0)) (by decide) Tryz.underlying22 siz62 byt62 zer62 rfl (by decide) rfl hown rfl (spans_six l) ((spans_flat hcl).ext Nq.ext) (spans_one l) (by unfold maxLen; omega) (by omega) (hbs) ?_
   intro v9 w29 Ov9 Cv9 Dv9
   replace E := E.step Cv9 (fun x hx h => absurd (hown.lt x h).1 (by omega))
   obtain ⟨la, lc, rfl⟩ := own_form Ov9
   refine qA (.slice la (0 + l.length) lc) rfl ?_
   refine WpL_nil (Wp_ret ?_)
   refine fin_tmp Tryz.results55 (v := (.slice la (0 + l.length) lc)) rfl ?_
   simp only [Nat.zero_add, List.nil_append] at Ov9
   have hsl := own_slat Ov9 (by intro r hr; simp only [List.mem_map] at hr; obtain ⟨p, _, rfl⟩ := hr; rfl) (by simp) (by decide)
   obtain ⟨gq, rfl, hgq, _⟩ := own_cells Ov9 (by omega)
   simp only [Nat.zero_add]
   exact ⟨some ⟨gq, 0, none⟩, lc, rfl, SlIn.mk hsl ⟨by omega, (Ov9.lt gq rfl).2⟩, E⟩
mutual
def setsOk : Re → Prop
  | .mk _ set args _ _ _ => set.length ≤ 2000000 ∧ setsOks args
def setsOks : List Re → Prop
  | [] => True
  | t :: ts => setsOk t ∧ setsOks ts
end
theorem setsOk_set {t : Re} (h : setsOk t) : t.set.length ≤ 2000000 := by cases t; simp only [setsOk] at h; exact h.1
theorem setsOk_arg {t : Re} (h : setsOk t) {i : Nat} {x : Re} (hx : t.args[i]? = some x) : setsOk x := by
  cases t with
  | mk k set args mn mx ng =>
  simp only [setsOk] at h
  replace h := h.2
  simp only [Re.args] at hx
  induction args generalizing i with
  | nil => simp at hx
  | cons u us ih =>
    simp only [setsOks] at h
    cases i with
    | zero => simp at hx; subst hx; exact h.1
    | succ i => simp at hx; exact ih hx h.2
def copyF (n0 : Nat) (t : Re) : Fct := fun v w => ∃ vs Z L, v = .agg vs.toArray ∧ Tree Z w t vs L ∧ (∀ x, Z x → ¬ L x) ∧ (∀ x, Z x ∨ L x → n0 ≤ x ∧ x < w.heap.size)
theorem copyF_ext (n0 : Nat) (t : Re) : ∀ v w w', Chg none1 w w' → copyF n0 t v w → copyF n0 t v w' := by
 rintro v w w' e ⟨vs, Z, L, h1, h2, h3, h4⟩
 exact ⟨vs, Z, L, h1, Tree.ext e t h2, h3, fun x hx => ⟨(h4 x hx).1, Nat.lt_of_lt_of_le (h4 x hx).2 e.size⟩⟩
def copyG (n0 : Nat) (t : Re) : Fct := fun v w => ∃ b vs Z L, v = .slice (some ⟨b, 0, none⟩) 1 1 ∧ Blk w b vs.toArray TRe ∧ Tree Z w t vs L ∧ (∀ x, Z x → ¬ L x) ∧ (∀ x, Z x ∨ L x → n0 ≤ x ∧ x < w.heap.size)
theorem copyG_ext (n0 : Nat) (t : Re) : ∀ v w w', Chg none1 w w' → copyG n0 t v w → copyG n0 t v w' := by
 rintro v w w' e ⟨b, vs, Z, L, h0, h1, h2, h3, h4⟩
 exact ⟨b, vs, Z, L, h0, Ext.keep e h1, Tree.ext e t h2, h3, fun x hx => ⟨(h4 x hx).1, Nat.lt_of_lt_of_le (h4 x hx).2 e.size⟩⟩
theorem DoesT_one {N n0 : Nat} {σ : Env} {w : World} {dst : Option Tmp} {ty : TypeId} {pos : String} {af : Array Edge} {g : Option (Nat × Bool)} {x : Operand} {t : Re} {vs : List Value} {Z L : Nat → Prop} (hx : ev σ x = .agg vs.toArray) (h2 : Tree Z w t vs L) (h3 : ∀ x, Z x → ¬ L x) (h4 : ∀ x, Z x ∨ L x → n0 ≤ x ∧ x < w.heap.size) :
  DoesT none1 Tryz.prog N ⟨dst, .buildSlice 23 1 #[(0, x)], ty, pos, af, g⟩ (copyG n0 t) σ w := by
 have h2' := h2
 obtain ⟨sa, sc, aa, ac, rfl, _⟩ := h2.form
 have hn := New.mk' w #[.int .i64 t.kind, .slice sa t.set.length sc, .slice aa t.args.length ac, .int .i64 t.mn, .int .i64 t.mx, .bool t.neg] TRe
 refine DoesT_val (run_buildSlice (parts := [(0, x)]) (ps := [(0, .agg #[.int .i64 t.kind, .slice sa t.set.length sc, .slice aa t.args.length ac, .int .i64 t.mn, .int .i64 t.mx, .bool t.neg])]) (by simp only [List.map, hx]) Tryz.underlying23 siz25 zer25 (by decide) (by decide) (by kernel_rfl)) hn.ext ?_
 exact ⟨_, _, Z, L, rfl, hn.blk, Tree.ext hn.ext t h2', h3, fun x hx => ⟨(h4 x hx).1, Nat.lt_of_lt_of_le (h4 x hx).2 hn.ext.size⟩⟩
theorem copy_step {w1 w2 w3 : World} {base n1 b3 : Nat} {v v' : Value} {x : Re} {vs : List Value} {ts : List Re} {rows : List (List Value)} {Z L Z1 L1 : Nat → Prop}
  (hTs : Trees Z w1 ts rows L) (hT : Tree Z1 w1 x vs L1) (hd1 : ∀ y, Z y → ¬ L y) (hd2 : ∀ y, Z y ∨ L y → base ≤ y ∧ y < n1) (hd3 : ∀ q, v.ownBlock = some q → (¬ Z q ∧ ¬ L q) ∧ (base ≤ q ∧ q < n1)) (he1 : ∀ y, Z1 y → ¬ L1 y) (he2 : ∀ y, Z1 y ∨ L1 y → n1 ≤ y ∧ y < w1.heap.size)
  (C : Chg (fun y => v.ownBlock = some y) w1 w2) (hD : ∀ q, v'.ownBlock = some q → v.ownBlock = some q ∨ w1.heap.size ≤ q) (C3 : Chg (fun y => y = b3) w2 w3) (hb3 : b3 < base) (hbn : base ≤ n1) (hnw : n1 ≤ w1.heap.size) :
  Trees (fun y => Z y ∨ Z1 y) w3 (ts ++ [x]) (rows ++ [vs]) (fun y => L y ∨ L1 y) ∧ (∀ y, (Z y ∨ Z1 y) → ¬ (L y ∨ L1 y)) ∧ (∀ y, (Z y ∨ Z1 y) ∨ (L y ∨ L1 y) → base ≤ y ∧ y < w3.heap.size) ∧ (∀ q, v'.ownBlock = some q → ¬ (Z q ∨ Z1 q) ∧ ¬ (L q ∨ L1 q)) := by
 have hs2 := C.size
 have hs3 := C3.size
 have kz : ∀ y, Z y → ¬ v.ownBlock = some y := fun y hy h => (hd3 y h).1.1 hy
 have kl : ∀ y, L y → ¬ v.ownBlock = some y := fun y hy h => (hd3 y h).1.2 hy
 have kz1 : ∀ y, Z1 y → ¬ v.ownBlock = some y := fun y hy h => by have := (hd3 y h).2; have := he2 y (.inl hy); omega
 have kl1 : ∀ y, L1 y → ¬ v.ownBlock = some y := fun y hy h => by have := (hd3 y h).2; have := he2 y (.inr hy); omega
 have mz : ∀ y, Z y → ¬ y = b3 := fun y hy h => by have := hd2 y (.inl hy); omega
 have ml : ∀ y, L y → ¬ y = b3 := fun y hy h => by have := hd2 y (.inr hy); omega
 have mz1 : ∀ y, Z1 y → ¬ y = b3 := fun y hy h => by have := he2 y (.inl hy); omega
 have ml1 : ∀ y, L1 y → ¬ y = b3 := fun y hy h => by have := he2 y (.inr hy); omega
 have h1 := Trees.chg C3 mz ts ml (Trees.chg C kz ts kl hTs)
 have h2 := Tree.chg C3 mz1 x ml1 (Tree.chg C kz1 x kl1 hT)
 refine ⟨Trees.snoc (Tree.mono (fun _ h => .inr h) x (fun _ h => h) h2) (Trees.mono (fun _ h => .inl h) ts (fun _ h => h) h1) (fun y a b => by have := hd2 y (.inr a); have := he2 y (.inr b); omega), ?_, ?_, ?_⟩
 ·rintro y (a | a) (b | b)
  ·exact hd1 y a b
  ·have := hd2 y (.inl a); have := he2 y (.inr b); omega
  ·have := hd2 y (.inr b); have := he2 y (.inl a); omega
  ·exact he1 y a b
 ·rintro y ((a | a) | (a | a))
  ·have := hd2 y (.inl a); omega
  ·have := he2 y (.inl a); omega
  ·have := hd2 y (.inr a); omega
  ·have := he2 y (.inr a); omega
 ·intro q hq
  rcases hD q hq with h | h
  ·refine ⟨?_, ?_⟩
   ·rintro (a | a); exact kz q a h; exact kz1 q a h
   ·rintro (a | a); exact kl q a h; exact kl1 q a h
  ·refine ⟨?_, ?_⟩
   ·rintro (a | a); have := hd2 q (.inl a); omega; have := he2 q (.inl a); omega
   ·rintro (a | a); have := hd2 q (.inr a); omega; have := he2 q (.inr a); omega
theorem copy_done {w : World} {base n0 sc lc : Nat} {t : Re} {sa la : Option Addr} {rows : List (List Value)} {Z L Z0 : Nat → Prop} (hown : w.ownsRow base TRe 6 (.slice la t.args.length lc) t.args.length rows.flatten) (hTs : Trees Z w t.args rows L)
    (hset : SlIn Z0 w 2 (.slice sa t.set.length sc) (t.set.map spanV)) (hd1 : ∀ x, Z x → ¬ L x) (hd2 : ∀ x, Z x ∨ L x → base ≤ x ∧ x < w.heap.size) (hd3 : ∀ q, (Value.slice la t.args.length lc).ownBlock = some q → ¬ Z q ∧ ¬ L q) (hz0 : ∀ x, Z0 x → n0 ≤ x ∧ x < base) (hn0 : n0 ≤ base) (hbs : base ≤ w.heap.size) :
    copyF n0 t (.agg #[.int .i64 t.kind, .slice sa t.set.length sc, .slice la t.args.length lc, .int .i64 t.mn, .int .i64 t.mx, .bool t.neg]) w := by
  refine ⟨[.int .i64 t.kind, .slice sa t.set.length sc, .slice la t.args.length lc, .int .i64 t.mn, .int .i64 t.mx, .bool t.neg], fun x => Z x ∨ Z0 x, fun x => L x ∨ (Value.slice la t.args.length lc).ownBlock = some x, rfl, ?_, ?_, ?_⟩
  · have hlt := hown.lt
    cases t with
    | mk k set args mn mx ng =>
    simp only [Re.kind, Re.set, Re.args, Re.mn, Re.mx, Re.neg] at *
    simp only [Tree]
    refine ⟨sa, sc, la, lc, rfl, hset.mono fun _ h => .inr h, ?_, ?_⟩
    · rcases hown.2 with ⟨h1, h2⟩ | ⟨q, cap, cur, h1, h2, h3, h4, h5, h6, h7⟩
      · simp at h1; omega
      · simp only [Value.slice.injEq] at h1
        obtain ⟨_, _, rfl⟩ := h1
        simp only [maxLen] at h5
        exact ⟨h4, by omega⟩
    · rcases hown.2 with ⟨h1, h2⟩ | ⟨q, cap, cur, h1, h2, h3, h4, h5, h6, h7⟩
      · exact .inl (List.eq_nil_of_length_eq_zero h2)
      · simp only [Value.slice.injEq] at h1
        obtain ⟨rfl, _, rfl⟩ := h1
        refine .inr ⟨q, rows, cur.toList.drop (args.length * 6), L, .inr rfl, rfl, ?_, Trees.six hTs, Trees.mono (fun _ h => .inl h) args (fun _ h => h) hTs, fun x hx => ⟨.inl hx, fun h => ?_⟩⟩
        · have : (rows.flatten ++ cur.toList.drop (args.length * 6)).toArray = cur := by rw [← h7, List.take_append_drop]
          rw [this]; exact h3
        · subst h; exact (hd3 x rfl).2 hx
  · rintro x (a | a) (b | b)
    · exact hd1 x a b
    · exact (hd3 x b).1 a
    · have := hz0 x a; have := hd2 x (.inr b); omega
    · have := hz0 x a; have := hown.lt x b; omega
  · rintro x ((a | a) | (a | a))
    · have := hd2 x (.inl a); omega
    · have := hz0 x a; omega
    · have := hd2 x (.inr a); omega
    · have := hown.lt x a; omega
theorem copyF_le {n0 n1 : Nat} (h : n1 ≤ n0) {t : Re} {v : Value} {w : World} (hc : copyF n0 t v w) : copyF n1 t v w := by
 obtain ⟨vs, Z, L, h1, h2, h3, h4⟩ := hc
 exact ⟨vs, Z, L, h1, h2, h3, fun x hx => ⟨Nat.le_trans h (h4 x hx).1, (h4 x hx).2⟩⟩
theorem copyF_chg {n0 b : Nat} {t : Re} {v : Value} {w w' : World} (c : Chg (fun y => y = b) w w') (hb : b < n0) (hc : copyF n0 t v w) : copyF n0 t v w' := by
 obtain ⟨vs, Z, L, h1, h2, h3, h4⟩ := hc
 exact ⟨vs, Z, L, h1, Tree.chg c (fun x hx h => by have := h4 x (.inl hx); omega) t (fun x hx h => by have := h4 x (.inr hx); omega) h2, h3, fun x hx => ⟨(h4 x hx).1, Nat.lt_of_lt_of_le (h4 x hx).2 c.size⟩⟩
set_option maxHeartbeats 2000000 in
theorem copy_c : ∀ (n : Nat) (t : Re) (w0 : World) (vs : List Value), t.size ≤ n → t.size ≤ 1000000 → setsOk t → ReAt w0 t vs →
    Ret Tryz.prog 31 #[.agg vs.toArray] w0 fun v w => copyF w0.heap.size t v w ∧ Ext w0 w := by
  intro n
  induction n with
  | zero => intro t w0 vs hn; have := t.size_pos; omega
  | succ n ih =>
  intro t w0 vs hn hM hso ht
  have ht0 := ht
  obtain ⟨sa, sc, aa, ac, rfl, hts, hac, _⟩ := ht.form
  have hal : t.args.length ≤ t.size := by
    have h1 := t.size_eq
    have : ∀ ts : List Re, ts.length ≤ Re.sizes ts := by
      intro ts
      induction ts with
      | nil => simp
      | cons x xs ih => have := x.size_pos; simp only [List.length_cons, Re.sizes]; omega
    have := this t.args
    omega
  refine Ret_of Tryz.func31 rfl Tryz.ntmps31 (Nat.le_of_ble_eq_true rfl) ?_
  have E : Chg none1 w0 w0 := Chg.refl _ _
  refine Wp_seq_region ?_
  refine s_box (v := (.agg (R6 t sa sc aa ac))) (c := (R6 t sa sc aa ac)) (by decide) rfl rfl ?_
  intro br wr Nr
  have Fr := Nr.ge E
  replace E := E.ext Nr.ext
  have Br := Nr.blk
  refine s_alloc (c := #[(I6 0), (.slice none 0 0), (.slice none 0 0), (I6 0), (I6 0), (.bool false)]) (by decide) zer25 rfl ?_
  intro bp wp Np
  have Fp := Np.ge E
  have Op_br := Np.lt Br
  replace Br := Np.keep Br
  replace E := E.ext Np.ext
  have Bp := Np.blk
  refine WpL_nil (Wp_seq_region ?_)
  refine qV (r_loadAgg (vs := [(I6 t.kind), (.slice sa t.set.length sc), (.slice aa t.args.length ac), (I6 t.mn), (I6 t.mx), (.bool t.neg)]) rfl agg25 siz25 rfl (Br.cells rfl)) ?_
  refine s_allocStore (v := (.agg (R6 t sa sc aa ac))) (c := (R6 t sa sc aa ac)) (n := 6) (by decide) zer25 rfl siz25 rfl rfl rfl (by simp [Value.oneCell']) ?_
  intro bq wq Nq
  have Fq := Nq.ge E
  have Oq_br := Nq.lt Br
  have Oq_bp := Nq.lt Bp
  replace Br := Nq.keep Br
  replace Bp := Nq.keep Bp
  replace E := E.ext Nq.ext
  have Bq := Nq.blk
  refine WpL_nil (Wp_seq_region ?_)
  refine qF br 0 1 rfl Tryz.underlying25 rfl siz22 rfl ?_
  refine qV (r_load (v := (.slice sa t.set.length sc)) rfl flat22 (Br.cell rfl)) ?_
  obtain ⟨n3, hn3⟩ : ∃ n3, n3 = wq.heap.size := ⟨_, rfl⟩
  have hq3 := Bq.lt
  refine WpL_enter rfl rfl (by decide) (r_callF (vs := [(.slice sa t.set.length sc)]) Tryz.func55 nm55 bd55 rfl) (clone_c _ _ t.set (SlAt.ext hts E) (setsOk_set hso)) ?_
  rintro _ w9 ⟨sa3, sc3, rfl, hset, X9⟩
  replace Br := X9.keep Br
  replace Bp := X9.keep Bp
  replace Bq := X9.keep Bq
  replace E := E.ext X9
  obtain ⟨base, hbase⟩ : ∃ base, base = w9.heap.size := ⟨_, rfl⟩
  have hs9 := X9.size
  rw [← hbase, ← hn3] at hset
  have hbs : base ≤ w9.heap.size := by omega
  refine qF bq 0 1 rfl Tryz.underlying25 rfl siz22 rfl ?_
  refine s_store (b := bq) (o := 1) (c' := (R6 t sa3 sc3 aa ac)) (v := (.slice sa3 t.set.length sc3)) rfl rfl rfl siz22 Bq (by simp) rfl ?_
  intro w1 S1
  replace hbs := Nat.le_trans hbs S1.chg.size
  replace hset := SlIn.chg hset S1.chg (fun x hx hm => by have hx' := hx; have hm' : x = bq := hm; omega)
  replace Br := S1.keep (by omega) Br
  replace Bp := S1.keep (by omega) Bp
  replace E := S1.step E (by first | exact Or.inl (by omega) | assumption | exact Or.inr rfl | exact Or.inr (by assumption) | exact Or.inr (by simp) | exact Or.inr (by omega) | exact Or.inr (by dsimp only; omega))
  replace Bq := S1.blk
  refine qF bq 0 2 rfl Tryz.underlying25 rfl siz23 rfl ?_
  refine s_store (b := bq) (o := 2) (c' := #[(I6 t.kind), (.slice sa3 t.set.length sc3), (.slice none 0 0), (I6 t.mn), (I6 t.mx), (.bool t.neg)]) (v := (.slice none 0 0)) rfl rfl rfl siz23 Bq (by simp) rfl ?_
  intro w2 S2
  replace hbs := Nat.le_trans hbs S2.chg.size
  replace hset := SlIn.chg hset S2.chg (fun x hx hm => by have hx' := hx; have hm' : x = bq := hm; omega)
  replace Br := S2.keep (by omega) Br
  replace Bp := S2.keep (by omega) Bp
  replace E := S2.step E (by first | exact Or.inl (by omega) | assumption | exact Or.inr rfl | exact Or.inr (by assumption) | exact Or.inr (by simp) | exact Or.inr (by omega) | exact Or.inr (by dsimp only; omega))
  replace Bq := S2.blk
  refine WpL_nil (Wp_seq (Wp_seq_region ?_))
  refine qF br 0 2 rfl Tryz.underlying25 rfl siz23 rfl ?_
  refine qV (r_load (v := (.slice aa t.args.length ac)) rfl flat23 (Br.cell rfl)) ?_
  refine qV (r_lenSlice (ad := aa) (n := t.args.length) (cap := ac) Tryz.underlying23 rfl) ?_
  refine qM (I6 0) rfl ?_
  refine WpL_nil (Wp_block ?_)
  refine Wp_loop (fun nn_ σ W3 => ∃ (k : Nat) (la : Option Addr) (lc : Nat) (rows : List (List Value)) (Z : Nat → Prop) (L : Nat → Prop), (∃ jj_, σ = upds jj_ [(2, (P6 bp 0)), (3, (P6 bq 0)), (13, (.slice aa t.args.length ac)), (14, (I6 (t.args.length : Int))), (15, (I6 (k : Int)))]) ∧ Chg none1 w0 W3 ∧ Blk W3 br (R6 t sa sc aa ac) 25 ∧ Blk W3 bp #[(I6 0), (.slice none 0 0), (.slice none 0 0), (I6 0), (I6 0), (.bool false)] 25 ∧ Blk W3 bq (#[(I6 t.kind), (.slice sa3 t.set.length sc3), (.slice la k lc), (I6 t.mn), (I6 t.mx), (.bool t.neg)]) 25 ∧ (k ≤ t.args.length) ∧ (W3.ownsRow base TRe 6 (.slice la k lc) k rows.flatten) ∧ (Trees Z W3 (t.args.take k) rows L) ∧ (∀ x, Z x → ¬ L x) ∧ (∀ x, Z x ∨ L x → base ≤ x ∧ x < W3.heap.size) ∧ (∀ x, (Value.slice la k lc).ownBlock = some x → ¬ Z x ∧ ¬ L x) ∧ (base ≤ W3.heap.size) ∧ (SlIn (fun b => n3 ≤ b ∧ b < base) W3 2 (.slice sa3 t.set.length sc3) (t.set.map spanV)) ∧ nn_ = t.args.length - k) (n := t.args.length - 0) ?_ ?_
  · exact ⟨0, none, 0, [], (fun _ => False), (fun _ => False), Fits.out ⟨rfl, rfl, rfl, rfl, rfl, trivial⟩, E, Br, Bp, Bq, Nat.zero_le _, World.ownsRow_nil _ _ _ _, (by simp only [List.take_zero, Trees]), (fun _ f _ => f), (by rintro x (f | f) <;> exact f.elim), (by simp [Value.ownBlock]), hbs, hset, rfl⟩
  · clear E Br Bp Bq
    rintro _ _ W3 ⟨k, la, lc, rows, Z, L, ⟨j3, rfl⟩, E, Br, Bp, Bq, hk, hown, hTs, hd1, hd2, hd3, hbs, hset, rfl⟩
    refine Wp_seq_region ?_
    refine qV (r_lss (k := .i64) (a := (k : Int)) (b := (t.args.length : Int)) rfl rfl) ?_
    refine WpL_nil (Wp_seq ?_)
    refine Wp_cond (b := decide (((k : Int) : Int) < (t.args.length : Int))) rfl (fun hlt => ?_) (fun hlt => ?_)
    · have khlt := hlt
      replace hlt := of_decide_eq_true hlt
      obtain ⟨x, hx⟩ := get_of_lt (l := t.args) (i := k) (by omega)
      obtain ⟨b, o, rfl, hcl⟩ := (ReAt.rs ht0).cells (by omega)
      obtain ⟨xs, hcx, hrx⟩ := hcl k x hx
      have hrx0 := hrx
      obtain ⟨xsa, xsc, xaa, xac, rfl, _, _, _⟩ := hrx.form
      obtain ⟨nk, hnk⟩ : ∃ nk, nk = (W3).heap.size := ⟨_, rfl⟩
      have hnkle : nk ≤ (W3).heap.size := by omega
      have hlt3 := hown.lt
      rw [← hnk] at hd2 hlt3
      refine Wp_skip (thn_normal (Wp_seq (Wp_block (Wp_seq_region ?_))))
      refine qV (r_indexSlice (b := b) (o := o) (len := t.args.length) (cap := ac) (i := k) (o' := o + k * 6) rfl rfl rfl Tryz.underlying23 siz25 (by omega) (by omega)) ?_
      refine qV (r_loadAgg (vs := [(I6 x.kind), (.slice xsa x.set.length xsc), (.slice xaa x.args.length xac), (I6 x.mn), (I6 x.mx), (.bool x.neg)]) rfl agg25 siz25 rfl (hcx.ext E)) ?_
      refine s_allocStore (v := (.agg (R6 x xsa xsc xaa xac))) (c := (R6 x xsa xsc xaa xac)) (n := 6) (by decide) zer25 rfl siz25 rfl rfl rfl (by simp [Value.oneCell']) ?_
      intro bs ws Ns
      have Fs := Ns.ge E
      have Os_br := Ns.lt Br
      have Os_bp := Ns.lt Bp
      have Os_bq := Ns.lt Bq
      replace Br := Ns.keep Br
      replace Bp := Ns.keep Bp
      replace Bq := Ns.keep Bq
      replace hset := SlIn.chg hset Ns.ext (fun _ _ f => f)
      replace hbs := Nat.le_trans hbs Ns.ext.size
      replace hnkle := Nat.le_trans hnkle Ns.ext.size
      replace hown := own_ext hown Ns.ext
      replace hTs := Trees.ext Ns.ext _ hTs
      replace E := E.ext Ns.ext
      have Bs := Ns.blk
      refine WpL_nil ?_
      obtain ⟨n1, hn1⟩ : ∃ n1, n1 = ws.heap.size := ⟨_, rfl⟩
      have hnk1 : nk ≤ n1 := by rw [hn1]; exact hnkle
      have hn1le : n1 ≤ ws.heap.size := by omega
      have hbn1 : base ≤ n1 := by rw [hn1]; exact hbs
      obtain ⟨Fs5, hFs5⟩ : ∃ Fs : List (FactT (none1)), Fs = [.eq (P6 bq 2), .eq (.slice la k lc), .eq (.agg (R6 x xsa xsc xaa xac)), .gen (copyF n1 x) (copyF_ext n1 x), .gen (copyG n1 x) (copyG_ext n1 x)] := ⟨_, rfl⟩
      refine Wp_dagT (none1) 5 3 [19, 20, 21, 22, 23] [[], [0], [], [2], [3]] Fs5 hFs5 rfl mixed (by kernel_rfl) (by kernel_rfl) (by kernel_rfl) ?_ ?_
      · intro wd X0
        refine DagStepsT.cons (fun s' w' X U H => ?_) ?_
        · exact DoesT_val (r_fieldAddr (b := bq) (o := 0) (o' := 2) (U 3 rfl) Tryz.underlying25 rfl siz23 rfl) (Chg.refl _ _) rfl
        refine DagStepsT.cons (fun s' w' X U H => ?_) ?_
        · have e19 : s' 19 = (.pointer (some ⟨bq, 2, none⟩)) := H 0 rfl 19 (.eq (.pointer (some ⟨bq, 2, none⟩))) rfl (by rw [hFs5]; rfl)
          exact DoesT_val (r_load (v := (.slice la k lc)) e19 flat23 ((Chg.keep X (fun f => f) (X0.keep Bq)).cell rfl)) (Chg.refl _ _) rfl
        refine DagStepsT.cons (fun s' w' X U H => ?_) ?_
        · exact DoesT_val (r_loadAgg (vs := [(I6 x.kind), (.slice xsa x.set.length xsc), (.slice xaa x.args.length xac), (I6 x.mn), (I6 x.mx), (.bool x.neg)]) (U 5 rfl) agg25 siz25 rfl ((Chg.keep X (fun f => f) (X0.keep Bs)).cells rfl)) (Chg.refl _ _) rfl
        refine DagStepsT.cons (fun s' w' X U H => ?_) ?_
        · have e21 : s' 21 = (.agg #[(.int .i64 x.kind), (.slice xsa x.set.length xsc), (.slice xaa x.args.length xac), (.int .i64 x.mn), (.int .i64 x.mx), (.bool x.neg)]) := H 2 rfl 21 (.eq (.agg #[(.int .i64 x.kind), (.slice xsa x.set.length xsc), (.slice xaa x.args.length xac), (.int .i64 x.mn), (.int .i64 x.mx), (.bool x.neg)])) rfl (by rw [hFs5]; rfl)
          exact DoesT_enter (r_callF (vs := [(.agg (R6 x xsa xsc xaa xac))]) Tryz.func31 nm31 bd31 (lst1 e21)) ((ih x _ _ (by have := Re.size_arg hx; omega) (by have := Re.size_arg hx; omega) (setsOk_arg hso hx) (ReAt.ext ((Ext.trans E X0).trans X) x hrx0)).mono (fun v w2 h => ⟨copyF_le (by have := X0.size; have := X.size; omega) h.1, h.2⟩))
        refine DagStepsT.cons (fun s' w' X U H => ?_) ?_
        · obtain ⟨v22, Z22, L22, e22, T22, D22, R22⟩ := (show (.gen (copyF n1 x) (copyF_ext n1 x) : FactT (none1)).In (s' 22) w' from H 3 rfl 22 (.gen (copyF n1 x) (copyF_ext n1 x)) rfl (by rw [hFs5]; rfl))
          exact (DoesT_one e22 T22 D22 R22)
        exact DagStepsT.nil
      · intro s' wd5 w5 X0 X5 U H
        have e20 : s' 20 = (.slice la k lc) := H 1 20 (.eq (.slice la k lc)) rfl (by rw [hFs5]; rfl)
        obtain ⟨v22, Z22, L22, e22, T22, D22, R22⟩ := (show (.gen (copyF n1 x) (copyF_ext n1 x) : FactT (none1)).In (s' 22) w5 from H 3 22 (.gen (copyF n1 x) (copyF_ext n1 x)) rfl (by rw [hFs5]; rfl))
        obtain ⟨b23, v23, Z23, L23, e23, B23, T23, D23, R23⟩ := (show (.gen (copyG n1 x) (copyG_ext n1 x) : FactT (none1)).In (s' 23) w5 from H 4 23 (.gen (copyG n1 x) (copyG_ext n1 x)) rfl (by rw [hFs5]; rfl))
        obtain ⟨j5, rfl⟩ := Fits.out (σ := s') (l := [(2, (.pointer (some ⟨bp, 0, none⟩))), (3, (.pointer (some ⟨bq, 0, none⟩))), (13, (.slice (some ⟨b, o, none⟩) t.args.length ac)), (14, (.int .i64 ((t.args.length : Nat) : Int))), (15, (.int .i64 ((k : Nat) : Int))), (20, (.slice la k lc)), (23, (.slice (some ⟨b23, 0, none⟩) 1 1))]) ⟨U 2 rfl, U 3 rfl, U 13 rfl, U 14 rfl, U 15 rfl, e20, e23, trivial⟩
        clear U H
        replace Br := Chg.keep X5 (fun f => f) (X0.keep Br)
        replace Bp := Chg.keep X5 (fun f => f) (X0.keep Bp)
        replace Bq := Chg.keep X5 (fun f => f) (X0.keep Bq)
        replace Bs := Chg.keep X5 (fun f => f) (X0.keep Bs)
        replace hset := SlIn.chg hset X0 (fun _ _ f => f)
        replace hset := SlIn.chg hset X5 (fun _ _ f => f)
        replace hbs := Nat.le_trans hbs X0.size
        replace hbs := Nat.le_trans hbs X5.size
        replace hnkle := Nat.le_trans hnkle X0.size
        replace hnkle := Nat.le_trans hnkle X5.size
        replace hown := own_ext hown X0
        replace hown := own_ext hown X5
        replace hTs := Trees.ext X0 _ hTs
        replace hTs := Trees.ext X5 _ hTs
        replace hn1le := Nat.le_trans hn1le X0.size
        replace hn1le := Nat.le_trans hn1le X5.size
        replace E := (E.ext X0).step X5 (fun _ _ f => f.elim)
        refine s_append (base := base) (n := k) (m := 1) (xs := rows.flatten) (news := v23) (size := 6) (bytes := 80) (v := (.slice la k lc)) (by decide) Tryz.underlying23 siz25 byt25 zer25 rfl (by decide) rfl hown rfl (by rw [T23.len]) (B23.cells (by simp)) (T23.one) (by unfold maxLen; omega) (by omega) (hbs) ?_
        intro v9 w29 Ov9 Cv9 Dv9
        replace Br := Cv9.keep (fun h => by have := (hown.lt _ h).1; omega) Br
        replace Bp := Cv9.keep (fun h => by have := (hown.lt _ h).1; omega) Bp
        replace Bq := Cv9.keep (fun h => by have := (hown.lt _ h).1; omega) Bq
        replace E := E.step Cv9 (fun x hx h => absurd (hown.lt x h).1 (by omega))
        obtain ⟨la2, lc2, rfl⟩ := own_form Ov9
        have hC3 : Chg (fun y => y = bq) w29 w29 := Chg.refl _ _
        replace hset := SlIn.chg hset Cv9 (fun y hy hm => by have := (hown.lt y hm).1; have hy' := hy; omega)
        replace hbs := Nat.le_trans hbs Cv9.size
        refine qF bq 0 2 rfl Tryz.underlying25 rfl siz23 rfl ?_
        refine s_store (b := bq) (o := 2) (c' := #[(I6 t.kind), (.slice sa3 t.set.length sc3), (.slice la2 (k + 1) lc2), (I6 t.mn), (I6 t.mx), (.bool t.neg)]) (v := (.slice la2 (k + 1) lc2)) rfl rfl rfl siz23 Bq (by simp) rfl ?_
        intro w6 S6
        replace hbs := Nat.le_trans hbs S6.chg.size
        replace hset := SlIn.chg hset S6.chg (fun x hx hm => by have hx' := hx; have hm' : x = bq := hm; omega)
        replace hC3 := S6.chg
        replace Br := S6.keep (by omega) Br
        replace Bp := S6.keep (by omega) Bp
        replace E := S6.step E (by first | exact Or.inl (by omega) | assumption | exact Or.inr rfl | exact Or.inr (by assumption) | exact Or.inr (by simp) | exact Or.inr (by omega) | exact Or.inr (by dsimp only; omega))
        replace Bq := S6.blk
        refine WpL_nil (inB_normal (thn_normal (Wp_region ?_)))
        refine qV (r_add (k := .i64) (a := (k : Int)) (b := 1) (c := (k : Int) + 1) rfl rfl (wI64 (by omega))) ?_
        refine qM (I6 ((k : Int) + 1)) rfl ?_
        refine WpL_nil (thn_normal ?_)
        have hstep := copy_step (base := base) (n1 := n1) (b3 := bq) hTs T23 hd1 (fun y hy => by have := hd2 y hy; omega) (fun q hq => ⟨hd3 q hq, by have := hlt3 q hq; omega⟩) D23 R23 Cv9 Dv9 hC3 (by omega) hbn1 hn1le
        exact ⟨t.args.length - (k + 1), by omega, k + 1, la2, lc2, rows ++ [v23], (fun y => Z y ∨ Z23 y), (fun y => L y ∨ L23 y), Fits.out ⟨rfl, rfl, rfl, rfl, rfl, trivial⟩, E, Br, Bp, Bq, (by omega), (by have h := own_chg Ov9 hC3 (fun q hq hm => by have := (Ov9.lt q hq).1; have hm' : q = bq := hm; omega); simpa using h), (by rw [List.take_add_one, hx]; exact hstep.1), hstep.2.1, hstep.2.2.1, hstep.2.2.2, hbs, hset, rfl⟩
    · have khlt := hlt
      replace hlt := of_decide_eq_false hlt
      have hkk : k = t.args.length := by omega
      subst hkk
      rw [List.take_length] at hTs
      have hcf := copy_done (n0 := n3) hown hTs hset hd1 hd2 hd3 (fun x h => h) (by omega) hbs
      refine Wp_exit (thn_exit (thn_exit (inB_here (thn_normal (Wp_seq_region ?_)))))
      refine qV (r_loadAgg (vs := [(I6 t.kind), (.slice sa3 t.set.length sc3), (.slice la t.args.length lc), (I6 t.mn), (I6 t.mx), (.bool t.neg)]) rfl agg25 siz25 rfl (Bq.cells rfl)) ?_
      refine s_storeAgg (b := bp) (o := 0) (c' := (R6 t sa3 sc3 la lc)) rfl rfl (by simp [Value.oneCell']) siz25 rfl Bp (by first | (simp; done) | exact Nat.le_of_ble_eq_true rfl) rfl ?_
      intro w7 S7
      replace hcf := copyF_chg S7.chg (by omega) hcf
      replace Br := S7.keep (by omega) Br
      replace Bq := S7.keep (by omega) Bq
      replace E := S7.step E (by first | exact Or.inl (by omega) | assumption | exact Or.inr rfl | exact Or.inr (by assumption) | exact Or.inr (by simp) | exact Or.inr (by omega) | exact Or.inr (by dsimp only; omega))
      replace Bp := S7.blk
      refine WpL_nil (Wp_ret ?_)
      refine fin_agg Tryz.results31 (vs := [(.int .i64 t.kind), (.slice sa3 t.set.length sc3), (.slice la t.args.length lc), (.int .i64 t.mn), (.int .i64 t.mx), (.bool t.neg)]) (b := bp) rfl agg25 siz25 rfl (Bp.cells rfl) ?_
      exact ⟨copyF_le (by omega) hcf, E⟩
end Go.Proofs
namespace Go.Proofs
open Go Go.Eng
set_option linter.unusedSectionVars false
variable [Drw]
set_option maxRecDepth 100000
def RowsIn (S : Nat → Prop) (w : World) : List Re → List (List Value) → Prop
  | [], rows => rows = []
  | t :: ts, rows => ∃ r rs, rows = r :: rs ∧ ReIn S w t r ∧ RowsIn S w ts rs
theorem RowsIn.ext {S : Nat → Prop} {w w' : World} (e : Ext w w') : ∀ {ts : List Re} {rows : List (List Value)}, RowsIn S w ts rows → RowsIn S w' ts rows
  | [], _, h => h
  | t :: ts, rows, h => by
    obtain ⟨r, rs, h1, h2, h3⟩ := h
    exact ⟨r, rs, h1, ReIn.ext e t h2, RowsIn.ext e h3⟩
theorem RowsIn.six {S : Nat → Prop} {w : World} : ∀ {ts : List Re} {rows : List (List Value)}, RowsIn S w ts rows → ∀ r ∈ rows, r.length = 6
  | [], _, h => by simp only [RowsIn] at h; subst h; simp
  | t :: ts, rows, h => by
    obtain ⟨r, rs, rfl, h2, h3⟩ := h
    intro q hq
    rcases List.mem_cons.1 hq with rfl | hq
    · exact h2.len
    · exact RowsIn.six h3 q hq
theorem RowsIn.get {S : Nat → Prop} {w : World} : ∀ {ts : List Re} {rows : List (List Value)}, RowsIn S w ts rows → ∀ {i : Nat} {t : Re}, ts[i]? = some t → ∃ r, rows[i]? = some r ∧ ReIn S w t r
  | [], _, _, i, t, hi => by simp at hi
  | t :: ts, rows, h, i, u, hi => by
    obtain ⟨r, rs, rfl, h2, h3⟩ := h
    cases i with
    | zero => simp at hi; subst hi; exact ⟨r, rfl, h2⟩
    | succ i => simp at hi; obtain ⟨q, h4, h5⟩ := RowsIn.get h3 hi; exact ⟨q, by simpa using h4, h5⟩
theorem RowsIn.append {S : Nat → Prop} {w : World} {us : List Re} {qs : List (List Value)} (hu : RowsIn S w us qs) : ∀ {ts : List Re} {rows : List (List Value)}, RowsIn S w ts rows → RowsIn S w (ts ++ us) (rows ++ qs)
  | [], _, h => by simp only [RowsIn] at h; subst h; simpa using hu
  | t :: ts, rows, h => by
    obtain ⟨r, rs, rfl, h2, h3⟩ := h
    exact ⟨r, rs ++ qs, rfl, h2, RowsIn.append hu h3⟩
theorem RowsIn.single {S : Nat → Prop} {w : World} {t : Re} {r : List Value} (h : ReIn S w t r) : RowsIn S w [t] [r] := ⟨r, [], rfl, h, rfl⟩
/-- Rows of one's own, read as expressions. -/
theorem own_res {S : Nat → Prop} {w : World} {base n : Nat} {a : Option Addr} {c : Nat} {ts : List Re} {rows : List (List Value)} (h : w.ownsRow base TRe 6 (.slice a n c) n rows.flatten) (hr : RowsIn S w ts rows) (hn : ts.length = n) : (n ≤ c ∧ c ≤ 9223372036854775807) ∧ (ts = [] ∨ ∃ b, base ≤ b ∧ b < w.heap.size ∧ a = some ⟨b, 0, none⟩ ∧ ∀ i t, ts[i]? = some t → ∃ vs, CellsAt w b (0 + i * 6) vs ∧ ReIn S w t vs) := by
 rcases h.2 with ⟨h1, h2⟩ | ⟨g, cap, cur, h1, h2, h3, h4, h5, h6, h7⟩
 ·simp only [Value.slice.injEq] at h1
  obtain ⟨rfl, rfl, rfl⟩ := h1
  exact ⟨by simp, .inl (List.eq_nil_of_length_eq_zero hn)⟩
 ·simp only [Value.slice.injEq] at h1
  obtain ⟨rfl, _, rfl⟩ := h1
  simp only [maxLen] at h5
  refine ⟨⟨h4, by omega⟩, .inr ⟨g, h2, (h.lt g rfl).2, rfl, fun i t ht => ?_⟩⟩
  obtain ⟨r, h8, h9⟩ := hr.get ht
  have hb : Blk w g (rows.flatten ++ cur.toList.drop (n * 6)).toArray TRe := by
   have : (rows.flatten ++ cur.toList.drop (n * 6)).toArray = cur := by rw [← h7, List.take_append_drop]
   rw [this]; exact h3
  exact ⟨r, by rw [Nat.zero_add]; exact rows_at hb hr.six h8, h9⟩
end Go.Proofs
namespace Go.Proofs
open Go Go.Eng
set_option linter.unusedSectionVars false
variable [Drw]
set_option maxRecDepth 100000
theorem RowsIn.chg {S M : Nat → Prop} {w w' : World} (c : Chg M w w') (hm : ∀ b, S b → ¬ M b) : ∀ {ts : List Re} {rows : List (List Value)}, RowsIn S w ts rows → RowsIn S w' ts rows
  | [], _, h => h
  | t :: ts, rows, h => by
    obtain ⟨r, rs, h1, h2, h3⟩ := h
    exact ⟨r, rs, h1, ReIn.chg c hm t h2, RowsIn.chg c hm h3⟩
theorem RowsIn.mono {S S' : Nat → Prop} {w : World} (hs : ∀ b, S b → S' b) : ∀ {ts : List Re} {rows : List (List Value)}, RowsIn S w ts rows → RowsIn S' w ts rows
  | [], _, h => h
  | t :: ts, rows, h => by
    obtain ⟨r, rs, h1, h2, h3⟩ := h
    exact ⟨r, rs, h1, ReIn.mono hs t h2, RowsIn.mono hs h3⟩
theorem SlIn.lt {S : Nat → Prop} {w : World} {v : Value} {l : List (Int × Int)} (h : SlIn S w 2 v (l.map spanV)) : SlIn (fun b => S b ∧ b < w.heap.size) w 2 v (l.map spanV) := by
  obtain ⟨a, cap, h1, h2, h3, h4⟩ := h
  refine ⟨a, cap, h1, h2, h3, ?_⟩
  rcases h4 with h | ⟨b, o, hb, h5, h6⟩
  · exact .inl h
  · cases l with
    | nil => exact .inl rfl
    | cons s r =>
      have := h6 0 (spanV s) rfl 0 _ rfl
      exact .inr ⟨b, o, ⟨hb, World.block_lt_of_cell? w _ this⟩, h5, h6⟩
mutual
theorem ReIn.lt {S : Nat → Prop} {w : World} : ∀ (t : Re) {vs : List Value}, ReIn S w t vs → ReIn (fun b => S b ∧ b < w.heap.size) w t vs
  | .mk k set args mn mx ng, vs, h => by
    simp only [ReIn] at h ⊢
    obtain ⟨sa, sc, aa, ac, hv, hs, hl, ha⟩ := h
    refine ⟨sa, sc, aa, ac, hv, SlIn.lt hs, hl, ?_⟩
    rcases ha with h | ⟨b, o, hb, h1, h2⟩
    · exact .inl h
    · match args, h2 with
      | [], _ => exact .inl rfl
      | t :: ts, h2 =>
        have h3 := h2
        simp only [ResIn] at h3
        obtain ⟨⟨us, h4, h5⟩, _⟩ := h3
        obtain ⟨_, _, _, _, rfl, _⟩ := h5.form
        have := h4 0 _ rfl
        exact .inr ⟨b, o, ⟨hb, World.block_lt_of_cell? w _ this⟩, h1, ResIn.lt (t :: ts) h2⟩
theorem ResIn.lt {S : Nat → Prop} {w : World} {b : Nat} : ∀ (ts : List Re) {o : Nat}, ResIn S w b o ts → ResIn (fun b => S b ∧ b < w.heap.size) w b o ts
  | [], _, _ => by simp only [ResIn]
  | t :: ts, o, h => by
    simp only [ResIn] at h ⊢
    obtain ⟨⟨vs, h1, h2⟩, h3⟩ := h
    exact ⟨⟨vs, h1, ReIn.lt t h2⟩, ResIn.lt ts h3⟩
end
theorem okRe_arg {t : Re} (h : okRe t) {i : Nat} {x : Re} (hx : t.args[i]? = some x) : okRe x := by
  cases t with
  | mk k set args mn mx ng => exact (okRes_iff args).1 (okRe_args h) x (List.mem_of_getElem? hx)
end Go.Proofs
namespace Go.Proofs
open Go Go.Eng Go.Sort Go.Lib
set_option linter.unusedSectionVars false
variable [Drw]
set_option maxRecDepth 100000
abbrev TRd : Nat := 57
/-- The reader: what is still to be read. -/
def Rd (w : World) (b : Nat) (s : Bys) : Prop := Blk w b #[.string (bS s), .bool false] TRd
theorem Rd.ext {w w' : World} {b : Nat} {s : Bys} (h : Rd w b s) (e : Ext w w') : Rd w' b s := e.keep h
theorem hasp_c (w0 : World) (s p : Bys) : Ret Tryz.prog 60 #[.string (bS s), .string (bS p)] w0 fun r w => r = .bool (hasPrefix s p) ∧ Ext w0 w := by
 refine (Any.strings_HasPrefix Tryz.hasS (bS s) (bS p) w0).mono ?_
 rintro e w' ⟨rfl, rfl⟩
 exact ⟨_, rfl, rfl, Ext.refl _⟩
theorem cutp_c (w0 : World) (s p : Bys) : Ret Tryz.prog 99 #[.string (bS s), .string (bS p)] w0 fun r w => r = .tuple #[.string (bS (trimPrefix s p)), .bool (hasPrefix s p)] ∧ Ext w0 w := by
 refine (Any.strings_CutPrefix Tryz.cutS (bS s) (bS p) w0).mono ?_
 rintro e w' ⟨rfl, rfl⟩
 exact ⟨_, rfl, rfl, Ext.refl _⟩
theorem is_c (w0 : World) (b : Nat) (s p : Bys) (h : Rd w0 b s) : Ret Tryz.prog 100 #[.pointer (some ⟨b, 0, none⟩), .string (bS p)] w0 fun r w => r = .bool (hasPrefix s p) ∧ Ext w0 w := by
 refine Ret_of Tryz.func100 rfl Tryz.ntmps100 (Nat.le_of_ble_eq_true rfl) ?_
 have E : Chg none1 w0 w0 := Chg.refl _ _
 refine Wp_seq_region ?_
 refine qA (.bool false) rfl ?_
 refine WpL_nil (Wp_seq_region ?_)
 refine qM (P6 b 0) rfl ?_
 refine qV (r_nilCheck (a := ⟨b, 0, none⟩) rfl) ?_
 refine qF b 0 0 rfl Tryz.underlying57 rfl siz9 rfl ?_
 refine qV (r_load (v := (.string (bS s))) rfl flat9 (h.cell rfl)) ?_
 refine qM (.string (bS p)) rfl ?_
 refine WpL_enter rfl rfl (by decide) (r_callF (vs := [(.string (bS s)), (.string (bS p))]) Tryz.func60 nm60 bd60 rfl) (hasp_c _ s p) ?_
 rintro _ w9 ⟨rfl, X9⟩
 replace h := X9.keep h
 replace E := E.ext X9
 refine qA (.bool (hasPrefix s p)) rfl ?_
 refine WpL_nil (Wp_ret ?_)
 refine fin_tmp Tryz.results100 (v := (.bool (hasPrefix s p))) rfl ?_
 exact ⟨rfl, E⟩
theorem take_c (w0 : World) (b : Nat) (s p : Bys) (h : Rd w0 b s) : Ret Tryz.prog 78 #[.pointer (some ⟨b, 0, none⟩), .string (bS p)] w0 fun r w => r = .bool (hasPrefix s p) ∧ Rd w b (trimPrefix s p) ∧ Chg (fun y => y = b) w0 w := by
 refine Ret_of Tryz.func78 rfl Tryz.ntmps78 (Nat.le_of_ble_eq_true rfl) ?_
 have E : Chg (fun y => y = b) w0 w0 := Chg.refl _ _
 refine Wp_seq_region ?_
 refine qA (.bool false) rfl ?_
 refine WpL_nil (Wp_seq_region ?_)
 refine qM (P6 b 0) rfl ?_
 refine qV (r_nilCheck (a := ⟨b, 0, none⟩) rfl) ?_
 refine qF b 0 0 rfl Tryz.underlying57 rfl siz9 rfl ?_
 refine qV (r_load (v := (.string (bS s))) rfl flat9 (h.cell rfl)) ?_
 refine qM (.string (bS p)) rfl ?_
 refine WpL_enter rfl rfl (by decide) (r_callF (vs := [(.string (bS s)), (.string (bS p))]) Tryz.func99 nm99 bd99 rfl) (cutp_c _ s p) ?_
 rintro _ w9 ⟨rfl, X9⟩
 replace h := X9.keep h
 replace E := E.ext X9
 refine qM (.tuple #[(.string (bS (trimPrefix s p))), (.bool (hasPrefix s p))]) rfl ?_
 refine qV (r_extract (vs := #[(.string (bS (trimPrefix s p))), (.bool (hasPrefix s p))]) (v := (.string (bS (trimPrefix s p)))) rfl rfl) ?_
 refine qV (r_extract (vs := #[(.string (bS (trimPrefix s p))), (.bool (hasPrefix s p))]) (v := (.bool (hasPrefix s p))) rfl rfl) ?_
 refine qA (.string (bS (trimPrefix s p))) rfl ?_
 refine qA (.bool (hasPrefix s p)) rfl ?_
 refine WpL_nil (Wp_seq_region ?_)
 refine qM (P6 b 0) rfl ?_
 refine qM (.string (bS (trimPrefix s p))) rfl ?_
 refine qV (r_nilCheck (a := ⟨b, 0, none⟩) rfl) ?_
 refine qF b 0 0 rfl Tryz.underlying57 rfl siz9 rfl ?_
 refine s_store (b := b) (o := 0) (c' := #[(.string (bS (trimPrefix s p))), (.bool false)]) (v := (.string (bS (trimPrefix s p)))) rfl rfl rfl siz9 h (by simp) rfl ?_
 intro w1 S1
 replace E := S1.step E (by first | exact Or.inl (by omega) | assumption | exact Or.inr rfl | exact Or.inr (by assumption) | exact Or.inr (by simp) | exact Or.inr (by omega) | exact Or.inr (by dsimp only; omega))
 replace h := S1.blk
 refine WpL_nil (Wp_seq_region ?_)
 refine qM (.bool (hasPrefix s p)) rfl ?_
 refine qA (.bool (hasPrefix s p)) rfl ?_
 refine WpL_nil (Wp_ret ?_)
 refine fin_tmp Tryz.results78 (v := (.bool (hasPrefix s p))) rfl ?_
 exact ⟨rfl, h, E⟩
theorem rneed_c (w0 : World) (b : Nat) (s p : Bys) (h : Rd w0 b s) (hp : hasPrefix s p = true) : Ret Tryz.prog 123 #[.pointer (some ⟨b, 0, none⟩), .string (bS p)] w0 fun r w => r = .tuple #[] ∧ Rd w b (trimPrefix s p) ∧ Chg (fun y => y = b) w0 w := by
 refine Ret_of Tryz.func123 rfl Tryz.ntmps123 (Nat.le_of_ble_eq_true rfl) ?_
 have E : Chg (fun y => y = b) w0 w0 := Chg.refl _ _
 refine Wp_seq_region ?_
 refine qM (P6 b 0) rfl ?_
 refine qM (.string (bS p)) rfl ?_
 refine WpL_enter rfl rfl (by decide) (r_callF (vs := [(P6 b 0), (.string (bS p))]) Tryz.func78 nm78 bd78 rfl) (take_c _ b s p h) ?_
 rintro _ w9 ⟨rfl, h9, X9⟩
 replace E := E.step X9 (by intro x hx hm; omega)
 refine qV (r_not (b := hasPrefix s p) rfl) ?_
 refine WpL_nil ?_
 have hc1 : (!(hasPrefix s p)) = false := by rw [hp]; rfl
 refine Wp_cond_false (congrArg Value.bool hc1) ?_
 refine Wp_skip ?_
 refine fin_none Tryz.results123 ?_
 exact ⟨rfl, h9, E⟩
end Go.Proofs
namespace Go.Proofs
open Go Go.Eng Go.Sort Go.Lib
set_option linter.unusedSectionVars false
variable [Drw]
set_option maxRecDepth 100000
/-- The reader and the tables. -/
structure StR (w : World) (b : Nat) (s : Bys) : Prop where
 lay : Lay w
 rd : Rd w b s
 hb : 6 < b
theorem StR.ext {w w' : World} {b : Nat} {s : Bys} (h : StR w b s) (e : Ext w w') : StR w' b s := ⟨h.lay.ext e, h.rd.ext e, h.hb⟩
theorem StR.to {w w' : World} {b : Nat} {s r : Bys} (h : StR w b s) (e : Chg (fun y => y = b) w w') (hr : Rd w' b r) : StR w' b r := by
 have hb := h.hb
 refine ⟨⟨h.lay.nd, fun j hj => e.cell (fun hh => ?_) (h.lay.tz j hj), h.lay.pow.chg e (fun hh => ?_), fun c hc => e.cell (fun hh => ?_) (h.lay.u8.1 c hc), fun i hi => ⟨e.cell (fun hh => ?_) (h.lay.u8.2 i hi).1, e.cell (fun hh => ?_) (h.lay.u8.2 i hi).2⟩⟩, hr, hb⟩
 all_goals first | omega | (simp only at hh; omega)
theorem StR.off {w w' : World} {b : Nat} {s : Bys} {M : Nat → Prop} (h : StR w b s) (e : Chg M w w') (hm : ∀ y, M y → b < y) : StR w' b s := by
 have hb := h.hb
 refine ⟨⟨h.lay.nd, fun j hj => e.cell (fun hh => ?_) (h.lay.tz j hj), h.lay.pow.chg e (fun hh => ?_), fun c hc => e.cell (fun hh => ?_) (h.lay.u8.1 c hc), fun i hi => ⟨e.cell (fun hh => ?_) (h.lay.u8.2 i hi).1, e.cell (fun hh => ?_) (h.lay.u8.2 i hi).2⟩⟩, e.keep (fun hh => ?_) h.rd, hb⟩
 all_goals (have h9 := hm _ hh; first | omega | (simp only at h9; omega))
theorem StR.put {w w' : World} {b x : Nat} {s : Bys} {c : Array Value} {t : TypeId} (h : StR w b s) (S : Put w w' x c t) (hx : b < x) : StR w' b s := h.off S.chg fun y hy => by rw [hy]; exact hx
theorem StR.lt {w : World} {b : Nat} {s : Bys} (h : StR w b s) : b < w.heap.size := h.rd.lt
/-- A result of the reader: an expression in new memory, and what is left. -/
def PR (B b : Nat) (t : Re) (rest : Bys) (r : Value) (w : World) : Prop := ∃ sa sc aa ac, r = .agg #[.int .i64 t.kind, .slice sa t.set.length sc, .slice aa t.args.length ac, .int .i64 t.mn, .int .i64 t.mx, .bool t.neg] ∧ ReIn (fun y => B ≤ y) w t [.int .i64 t.kind, .slice sa t.set.length sc, .slice aa t.args.length ac, .int .i64 t.mn, .int .i64 t.mx, .bool t.neg] ∧ StR w b rest
/-- The contract of a function of the reader that reads an expression. -/
def RdOk (b f : Nat) (p : Bys → Option (Re × Bys)) : Prop := ∀ (w : World) (s : Bys) (t : Re) (r : Bys), p s = some (t, r) → StR w b s → Ret Tryz.prog f #[.pointer (some ⟨b, 0, none⟩)] w fun v w' => PR w.heap.size b t r v w' ∧ Chg (fun y => y = b) w w'
def runT1 (c : Int) : Re := .mk 2 [(c, c)] [] 0 0 false
theorem one_row {w : World} {b : Nat} {t : TypeId} {u v : Value} (h : Blk w b #[u, v] t) : ∀ (i : Nat) (r : List Value), [[u, v]][i]? = some r → CellsAt w b (0 + i * 2) r
  | 0, r, hr => by cases hr; exact h.cells rfl
  | i + 1, r, hr => by simp at hr
theorem rone_c (w0 : World) (c : Int) : Ret Tryz.prog 134 #[.int .i64 c] w0 fun r w => (∃ vs, r = .agg vs.toArray ∧ ReIn (fun y => w0.heap.size ≤ y) w (runT1 c) vs) ∧ Ext w0 w := by
 refine Ret_of Tryz.func134 rfl Tryz.ntmps134 (Nat.le_of_ble_eq_true rfl) ?_
 have E : Chg none1 w0 w0 := Chg.refl _ _
 refine Wp_seq_region ?_
 refine s_alloc (c := #[(I6 0), (.slice none 0 0), (.slice none 0 0), (I6 0), (I6 0), (.bool false)]) (by decide) zer25 rfl ?_
 intro b1 w1 N1
 have F1 := N1.ge E
 replace E := E.ext N1.ext
 have B1 := N1.blk
 refine WpL_nil (Wp_seq_region ?_)
 refine qM (I6 c) rfl ?_
 refine qM (I6 c) rfl ?_
 refine qV (r_build (ps := [(0, (I6 c)), (1, (I6 c))]) (v := (.agg #[(I6 c), (I6 c)])) rfl (by kernel_rfl)) ?_
 refine s_buildSlice (ps := [(0, (.agg #[(I6 c), (I6 c)]))]) (c := #[(I6 c), (I6 c)]) (by decide) rfl Tryz.underlying22 siz62 zer62 (by decide) (by decide) (by kernel_rfl) ?_
 intro b2 w2 N2
 have F2 := N2.ge E
 have O2_b1 := N2.lt B1
 replace B1 := N2.keep B1
 replace E := E.ext N2.ext
 have B2 := N2.blk
 refine qV (r_build (ps := [(0, (I6 2)), (1, (.slice (some ⟨b2, 0, none⟩) 1 1))]) (v := (.agg #[(I6 2), (.slice (some ⟨b2, 0, none⟩) 1 1), (.slice none 0 0), (I6 0), (I6 0), (.bool false)])) rfl (by kernel_rfl)) ?_
 refine s_storeAgg (b := b1) (o := 0) (c' := #[(I6 2), (.slice (some ⟨b2, 0, none⟩) 1 1), (.slice none 0 0), (I6 0), (I6 0), (.bool false)]) rfl rfl (by simp [Value.oneCell']) siz25 rfl B1 (by first | (simp; done) | exact Nat.le_of_ble_eq_true rfl) rfl ?_
 intro w3 S3
 replace B2 := S3.keep (by omega) B2
 replace E := S3.step E (by first | exact Or.inl (by omega) | assumption | exact Or.inr rfl | exact Or.inr (by assumption) | exact Or.inr (by simp) | exact Or.inr (by omega) | exact Or.inr (by dsimp only; omega))
 replace B1 := S3.blk
 refine WpL_nil (Wp_ret ?_)
 refine fin_agg Tryz.results134 (vs := [(.int .i64 2), (.slice (some ⟨b2, 0, none⟩) 1 1), (.slice none 0 0), (.int .i64 0), (.int .i64 0), (.bool false)]) (b := b1) rfl agg25 siz25 rfl (B1.cells rfl) ?_
 exact ⟨⟨_, rfl, ReIn.of (set := [(c, c)]) (args := []) ⟨_, _, rfl, by simp, Nat.le_refl 1, .inr ⟨_, 0, by omega, rfl, one_row B2⟩⟩ (by decide) (.inl rfl)⟩, E⟩
theorem pre_cons (c : UInt8) (r : Bys) : hasPrefix (c :: r) [c] = true := by unfold hasPrefix; simp [List.isPrefixOf]
theorem pre_ne {c d : UInt8} {r : Bys} (h : d ≠ c) : hasPrefix (d :: r) [c] = false := by unfold hasPrefix; simp [List.isPrefixOf, Ne.symm h]
theorem trim_cons (c : UInt8) (r : Bys) : trimPrefix (c :: r) [c] = r := by unfold trimPrefix; rw [if_pos (pre_cons c r)]; rfl
theorem trim_no {s p : Bys} (h : hasPrefix s p = false) : trimPrefix s p = s := by unfold trimPrefix; rw [if_neg (by rw [h]; decide)]
theorem stake_c (w0 : World) (b : Nat) (s p : Bys) (h : StR w0 b s) : Ret Tryz.prog 78 #[.pointer (some ⟨b, 0, none⟩), .string (bS p)] w0 fun r w => r = .bool (hasPrefix s p) ∧ StR w b (trimPrefix s p) ∧ Chg (fun y => y = b) w0 w :=
 (take_c w0 b s p h.rd).mono fun _ _ ⟨h1, h2, h3⟩ => ⟨h1, h.to h3 h2, h3⟩
theorem sneed_c (w0 : World) (b : Nat) (r : Bys) (c : UInt8) (h : StR w0 b (c :: r)) : Ret Tryz.prog 123 #[.pointer (some ⟨b, 0, none⟩), .string (bS [c])] w0 fun v w => v = .tuple #[] ∧ StR w b r ∧ Chg (fun y => y = b) w0 w :=
 (rneed_c w0 b (c :: r) [c] h.rd (pre_cons c r)).mono fun _ _ ⟨h1, h2, h3⟩ => ⟨h1, h.to h3 (by rw [trim_cons] at h2; exact h2), h3⟩
theorem digit_c (w0 : World) (b : Nat) (d : UInt8) (r : Bys) (h : Rd w0 b (d :: r)) (hd : 48 ≤ d.toNat ∧ d.toNat ≤ 57) : Ret Tryz.prog 122 #[.pointer (some ⟨b, 0, none⟩)] w0 fun v w => v = .int .i64 ((d.toNat - 48 : Nat) : Int) ∧ Rd w b r ∧ Chg (fun y => y = b) w0 w := by
 refine Ret_of Tryz.func122 rfl Tryz.ntmps122 (Nat.le_of_ble_eq_true rfl) ?_
 have E : Chg (fun y => y = b) w0 w0 := Chg.refl _ _
 refine Wp_seq_region ?_
 refine qA (I6 0) rfl ?_
 refine WpL_nil (Wp_seq (Wp_seq_region ?_))
 refine qM (P6 b 0) rfl ?_
 refine qV (r_nilCheck (a := ⟨b, 0, none⟩) rfl) ?_
 refine qF b 0 0 rfl Tryz.underlying57 rfl siz9 rfl ?_
 refine qV (r_load (v := (.string (bS (d :: r)))) rfl flat9 (h.cell rfl)) ?_
 refine WpL_val (v := (.bool false)) rfl rfl (by decide) ((r_eqlS (l := d :: r) (m := []) rfl rfl).trans (by rfl)) ?_
 refine qM (.bool false) rfl ?_
 refine WpL_guard_yes (oj := _) rfl rfl (by decide) rfl ?_
 refine qM (P6 b 0) rfl ?_
 refine WpL_guard_yes (oj := _) rfl rfl (by decide) rfl ?_
 refine qV (r_nilCheck (a := ⟨b, 0, none⟩) rfl) ?_
 refine WpL_guard_yes (oj := _) rfl rfl (by decide) rfl ?_
 refine qF b 0 0 rfl Tryz.underlying57 rfl siz9 rfl ?_
 refine WpL_guard_yes (oj := _) rfl rfl (by decide) rfl ?_
 refine qV (r_load (v := (.string (bS (d :: r)))) rfl flat9 (h.cell rfl)) ?_
 refine WpL_guard_yes (oj := _) rfl rfl (by decide) rfl ?_
 refine qV (r_indexStr (i := 0) (b := d) Tryz.underlying9 rfl rfl rfl rfl) ?_
 refine WpL_guard_yes (oj := _) rfl rfl (by decide) rfl ?_
 refine qV (r_lss (k := .u8) (a := (d.toNat : Int)) (b := 48) rfl rfl) ?_
 refine qV (r_pick (b := false) (v := (.bool (decide (((d.toNat : Int) : Int) < 48)))) rfl rfl) ?_
 refine qM (.bool (decide (((d.toNat : Int) : Int) < 48))) rfl ?_
 have hg1 : (decide ((((d.toNat : Nat) : Int) : Int) < 48)) = false := decide_eq_false (by omega)
 refine WpL_guard_yes (oj := _) rfl rfl (by decide) (congrArg Value.bool hg1) ?_
 refine qM (P6 b 0) rfl ?_
 refine WpL_guard_yes (oj := _) rfl rfl (by decide) (congrArg Value.bool hg1) ?_
 refine qV (r_nilCheck (a := ⟨b, 0, none⟩) rfl) ?_
 refine WpL_guard_yes (oj := _) rfl rfl (by decide) (congrArg Value.bool hg1) ?_
 refine qF b 0 0 rfl Tryz.underlying57 rfl siz9 rfl ?_
 refine WpL_guard_yes (oj := _) rfl rfl (by decide) (congrArg Value.bool hg1) ?_
 refine qV (r_load (v := (.string (bS (d :: r)))) rfl flat9 (h.cell rfl)) ?_
 refine WpL_guard_yes (oj := _) rfl rfl (by decide) (congrArg Value.bool hg1) ?_
 refine qV (r_indexStr (i := 0) (b := d) Tryz.underlying9 rfl rfl rfl rfl) ?_
 refine WpL_guard_yes (oj := _) rfl rfl (by decide) (congrArg Value.bool hg1) ?_
 refine qV (r_gtr (k := .u8) (a := (d.toNat : Int)) (b := 57) rfl rfl) ?_
 refine qV (r_pick (b := decide (((d.toNat : Int) : Int) < 48)) (v := (.bool (decide ((57 : Int) < (d.toNat : Int))))) rfl (by rw [hg1]; rfl)) ?_
 refine WpL_nil ?_
 have hc2 : (decide ((57 : Int) < ((d.toNat : Nat) : Int))) = false := decide_eq_false (by omega)
 refine Wp_cond_false (congrArg Value.bool hc2) ?_
 refine Wp_skip (thn_normal (Wp_seq_region ?_))
 refine qM (P6 b 0) rfl ?_
 refine qV (r_nilCheck (a := ⟨b, 0, none⟩) rfl) ?_
 refine qF b 0 0 rfl Tryz.underlying57 rfl siz9 rfl ?_
 refine qV (r_load (v := (.string (bS (d :: r)))) rfl flat9 (h.cell rfl)) ?_
 refine qV (r_indexStr (i := 0) (b := d) Tryz.underlying9 rfl rfl rfl rfl) ?_
 refine qA (.int .u8 (d.toNat : Int)) rfl ?_
 refine WpL_nil (Wp_seq_region ?_)
 refine qM (P6 b 0) rfl ?_
 refine qM (P6 b 0) rfl ?_
 refine qV (r_nilCheck (a := ⟨b, 0, none⟩) rfl) ?_
 refine qF b 0 0 rfl Tryz.underlying57 rfl siz9 rfl ?_
 refine qV (r_load (v := (.string (bS (d :: r)))) rfl flat9 (h.cell rfl)) ?_
 refine qV (r_sliceSLo (l := d :: r) (lo := 1) Tryz.underlying9 rfl rfl rfl (by simp) rfl) ?_
 refine qV (r_nilCheck (a := ⟨b, 0, none⟩) rfl) ?_
 refine qF b 0 0 rfl Tryz.underlying57 rfl siz9 rfl ?_
 refine s_store (b := b) (o := 0) (c' := #[(.string (bS r)), (.bool false)]) (v := (.string (bS r))) rfl rfl rfl siz9 h (by simp) rfl ?_
 intro w3 S3
 replace E := S3.step E (by first | exact Or.inl (by omega) | assumption | exact Or.inr rfl | exact Or.inr (by assumption) | exact Or.inr (by simp) | exact Or.inr (by omega) | exact Or.inr (by dsimp only; omega))
 replace h := S3.blk
 refine WpL_nil (Wp_seq_region ?_)
 refine qM (.int .u8 (d.toNat : Int)) rfl ?_
 refine qV (r_sub (k := .u8) (a := (d.toNat : Int)) (b := 48) (c := (d.toNat : Int) - 48) rfl rfl (wU8 (by omega))) ?_
 refine qV (r_convInt (k := .u8) (k' := .i64) (n := (d.toNat : Int) - 48) (c := (d.toNat : Int) - 48) ⟨_, Tryz.underlying5⟩ Tryz.underlying3 rfl (wI64 (by omega))) ?_
 refine qA (I6 ((d.toNat : Int) - 48)) rfl ?_
 refine WpL_nil (Wp_ret ?_)
 refine fin_tmp Tryz.results122 (v := (.int .i64 (((d.toNat : Nat) : Int) - 48))) rfl ?_
 exact ⟨int_eq (by omega), h, E⟩
theorem sdigit_c (w0 : World) (b : Nat) (d : UInt8) (r : Bys) (h : StR w0 b (d :: r)) (hd : 48 ≤ d.toNat ∧ d.toNat ≤ 57) : Ret Tryz.prog 122 #[.pointer (some ⟨b, 0, none⟩)] w0 fun v w => v = .int .i64 ((d.toNat - 48 : Nat) : Int) ∧ StR w b r ∧ Chg (fun y => y = b) w0 w :=
 (digit_c w0 b d r h.rd hd).mono fun _ _ ⟨h1, h2, h3⟩ => ⟨h1, h.to h3 h2, h3⟩
/-- A closing parenthesis behind an expression. -/
def clP (alt : Bys → Option (Re × Bys)) (s : Bys) : Option (Re × Bys) :=
  match alt s with
  | some (x, c :: r) => if c = 41 then some (x, r) else none
  | _ => none
theorem clP_some {alt : Bys → Option (Re × Bys)} {s r : Bys} {x : Re} (h : clP alt s = some (x, r)) : alt s = some (x, 41 :: r) := by
 unfold clP at h
 split at h
 ·rename_i a c q hq
  split at h
  ·rename_i hc; subst hc; cases h; exact hq
  ·cases h
 ·cases h
theorem closed_c (b : Nat) (alt : Bys → Option (Re × Bys)) (hA : RdOk b 29 alt) (w0 : World) (s r : Bys) (x : Re) (k mn : Int) (ng : Bool) (hs : clP alt s = some (x, r)) (h : StR w0 b s) :
  Ret Tryz.prog 133 #[.pointer (some ⟨b, 0, none⟩), .agg #[.int .i64 k, .slice none 0 0, .slice none 0 0, .int .i64 mn, .int .i64 0, .bool ng]] w0 fun v w => PR w0.heap.size b (.mk k [] [x] mn 0 ng) r v w ∧ Chg (fun y => y = b) w0 w := by
 have hal := clP_some hs
 have hlt := h.lt
 refine Ret_of Tryz.func133 rfl Tryz.ntmps133 (Nat.le_of_ble_eq_true rfl) ?_
 have E : Chg (fun y => y = b) w0 w0 := Chg.refl _ _
 refine Wp_seq_region ?_
 refine s_box (v := (.agg #[(I6 k), (.slice none 0 0), (.slice none 0 0), (I6 mn), (I6 0), (.bool ng)])) (c := #[(I6 k), (.slice none 0 0), (.slice none 0 0), (I6 mn), (I6 0), (.bool ng)]) (by decide) rfl rfl ?_
 intro bx wx Nx
 have Fx := Nx.ge E
 replace E := E.ext Nx.ext
 have Bx := Nx.blk
 refine s_alloc (c := #[(I6 0), (.slice none 0 0), (.slice none 0 0), (I6 0), (I6 0), (.bool false)]) (by decide) zer25 rfl ?_
 intro bo wo No
 have Fo := No.ge E
 have Oo_bx := No.lt Bx
 replace Bx := No.keep Bx
 replace E := E.ext No.ext
 have Bo := No.blk
 refine WpL_nil (Wp_seq_region ?_)
 refine qM (P6 b 0) rfl ?_
 have hbo : bo < wo.heap.size ∧ bx < wo.heap.size := ⟨Bo.lt, Bx.lt⟩
 refine WpL_enter rfl rfl (by decide) (r_callF (vs := [(P6 b 0)]) Tryz.func29 nm29 bd29 rfl) (hA _ _ _ _ hal (h.ext (Nx.ext.trans No.ext))) ?_
 rintro _ w9 ⟨⟨sa, sc, aa, ac, rfl, hX, h9⟩, X9⟩
 replace Bx := X9.keep (fun hh => by omega) Bx
 replace Bo := X9.keep (fun hh => by omega) Bo
 replace E := E.trans X9
 refine s_buildSlice (ps := [(0, (.agg (R6 x sa sc aa ac)))]) (c := (R6 x sa sc aa ac)) (by decide) rfl Tryz.underlying23 siz25 zer25 (by decide) (by decide) (by kernel_rfl) ?_
 intro b1 w1 N1
 have F1 := N1.ge E
 have O1_bx := N1.lt Bx
 have O1_bo := N1.lt Bo
 replace Bx := N1.keep Bx
 replace Bo := N1.keep Bo
 replace h9 := StR.ext h9 N1.ext
 replace hX := ReIn.ext N1.ext x hX
 replace E := E.ext N1.ext
 have B1 := N1.blk
 refine qF bx 0 2 rfl Tryz.underlying25 rfl siz23 rfl ?_
 refine s_store (b := bx) (o := 2) (c' := #[(I6 k), (.slice none 0 0), (.slice (some ⟨b1, 0, none⟩) 1 1), (I6 mn), (I6 0), (.bool ng)]) (v := (.slice (some ⟨b1, 0, none⟩) 1 1)) rfl rfl rfl siz23 Bx (by simp) rfl ?_
 intro w2 S2
 replace h9 := StR.put h9 S2 (by omega)
 replace hX := ReIn.chg S2.chg (fun y hy hm => by have h8 : wo.heap.size ≤ y := hy; rcases hm with rfl; omega) x hX
 replace Bo := S2.keep (by omega) Bo
 replace B1 := S2.keep (by omega) B1
 replace E := S2.step E (by first | exact Or.inl (by omega) | assumption | exact Or.inr rfl | exact Or.inr (by assumption) | exact Or.inr (by simp) | exact Or.inr (by omega) | exact Or.inr (by dsimp only; omega))
 replace Bx := S2.blk
 refine WpL_nil (Wp_seq_region ?_)
 refine qM (P6 b 0) rfl ?_
 refine WpL_enter rfl rfl (by decide) (r_callF (vs := [(P6 b 0), (.string (ByteArray.mk #[41]))]) Tryz.func123 nm123 bd123 rfl) (sneed_c _ b r 41 h9) ?_
 rintro _ w19 ⟨rfl, h19, X19⟩
 replace Bx := X19.keep (fun hh => by omega) Bx
 replace Bo := X19.keep (fun hh => by omega) Bo
 replace B1 := X19.keep (fun hh => by omega) B1
 replace E := E.trans X19
 replace hX := ReIn.chg X19 (fun y hy hm => by have h8 : wo.heap.size ≤ y := hy; rcases hm with rfl; omega) x hX
 refine WpL_nil (Wp_seq_region ?_)
 refine qV (r_loadAgg (vs := [(I6 k), (.slice none 0 0), (.slice (some ⟨b1, 0, none⟩) 1 1), (I6 mn), (I6 0), (.bool ng)]) rfl agg25 siz25 rfl (Bx.cells rfl)) ?_
 refine s_storeAgg (b := bo) (o := 0) (c' := #[(I6 k), (.slice none 0 0), (.slice (some ⟨b1, 0, none⟩) 1 1), (I6 mn), (I6 0), (.bool ng)]) rfl rfl (by simp [Value.oneCell']) siz25 rfl Bo (by first | (simp; done) | exact Nat.le_of_ble_eq_true rfl) rfl ?_
 intro w3 S3
 replace hX := ReIn.chg S3.chg (fun y hy hm => by have h8 : wo.heap.size ≤ y := hy; rcases hm with rfl; omega) x hX
 replace h19 := StR.put h19 S3 (by omega)
 replace Bx := S3.keep (by omega) Bx
 replace B1 := S3.keep (by omega) B1
 replace E := S3.step E (by first | exact Or.inl (by omega) | assumption | exact Or.inr rfl | exact Or.inr (by assumption) | exact Or.inr (by simp) | exact Or.inr (by omega) | exact Or.inr (by dsimp only; omega))
 replace Bo := S3.blk
 refine WpL_nil (Wp_ret ?_)
 refine fin_agg Tryz.results133 (vs := [(.int .i64 k), (.slice none 0 0), (.slice (some ⟨b1, 0, none⟩) 1 1), (.int .i64 mn), (.int .i64 0), (.bool ng)]) (b := bo) rfl agg25 siz25 rfl (Bo.cells rfl) ?_
 exact ⟨⟨none, 0, _, 1, rfl, ReIn.of (set := []) (args := [x]) (SlIn.nil _ _ _ _ _) (by simp) (.inr ⟨_, 0, by omega, rfl, ResIn.one (B1.cells rfl) (ReIn.mono (fun y hy => by omega) x hX)⟩), h19⟩, E⟩
end Go.Proofs
namespace Go.Proofs
open Go Go.Eng Go.Sort Go.Lib
set_option linter.unusedSectionVars false
variable [Drw]
set_option maxRecDepth 100000
/-- A slice of one's own of expressions that lie in memory of one's own. -/
def OwnR (w : World) (base : Nat) (v : Value) (n : Nat) (ts : List Re) : Prop :=
 ∃ (rows : List (List Value)) (T : Nat → Prop), w.ownsRow base TRe 6 v n rows.flatten ∧ RowsIn T w ts rows ∧ (∀ y, T y → base ≤ y ∧ y < w.heap.size) ∧ (∀ k, v.ownBlock = some k → ¬ T k) ∧ ts.length = n
theorem OwnR.off {M : Nat → Prop} {w w' : World} {base n : Nat} {v : Value} {ts : List Re} (h : OwnR w base v n ts) (c : Chg M w w') (hm : ∀ y, M y → y < base) : OwnR w' base v n ts := by
 obtain ⟨rows, T, h1, h2, h3, h4, h5⟩ := h
 exact ⟨rows, T, own_chg h1 c (fun y hy hM => by have := (h1.lt y hy).1; have := hm y hM; omega), RowsIn.chg c (fun y hy hM => by have := (h3 y hy).1; have := hm y hM; omega) h2, fun y hy => ⟨(h3 y hy).1, Nat.lt_of_lt_of_le (h3 y hy).2 c.size⟩, h4, h5⟩
theorem OwnR.ext {w w' : World} {base n : Nat} {v : Value} {ts : List Re} (h : OwnR w base v n ts) (e : Ext w w') : OwnR w' base v n ts := h.off e fun _ f => f.elim
theorem OwnR.nil (w : World) (base : Nat) : OwnR w base (.slice none 0 0) 0 [] := ⟨[], fun _ => False, ⟨rfl, .inl ⟨rfl, rfl⟩⟩, rfl, fun _ h => h.elim, fun _ _ h => h, rfl⟩
theorem OwnR.one {w w' : World} {base b B : Nat} {x : Re} {u0 u1 u2 u3 u4 u5 : Value} (N : New w w' b #[u0, u1, u2, u3, u4, u5] TRe) (hB : base ≤ B) (hbb : base ≤ w.heap.size) (hx : ReIn (fun y => B ≤ y) w x [u0, u1, u2, u3, u4, u5]) : OwnR w' base (.slice (some ⟨b, 0, none⟩) 1 1) 1 [x] := by
 refine ⟨[[u0, u1, u2, u3, u4, u5]], fun y => B ≤ y ∧ y < w.heap.size, ⟨rfl, .inr ⟨b, 1, #[u0, u1, u2, u3, u4, u5], rfl, by rw [N.eq]; exact hbb, N.blk, Nat.le_refl _, by decide, rfl, rfl⟩⟩, RowsIn.single (ReIn.ext N.ext x (ReIn.lt x hx)), fun y hy => ⟨by omega, by have := N.ext.size; omega⟩, fun k hk hy => ?_, rfl⟩
 have h1 : b = k := by simpa [Value.ownBlock] using hk
 have := N.eq
 omega
theorem OwnR.push {w w' : World} {base n B : Nat} {v v' : Value} {ts : List Re} {rows : List (List Value)} {T : Nat → Prop} {x : Re} {vs : List Value} (hR : RowsIn T w ts rows) (hT : ∀ y, T y → base ≤ y ∧ y < w.heap.size) (hTn : ∀ k, v.ownBlock = some k → ¬ T k) (hn : ts.length = n) (hk : ∀ k, v.ownBlock = some k → k < B) (hB : base ≤ B) (hx : ReIn (fun y => B ≤ y) w x vs)
  (Ov : w'.ownsRow base TRe 6 v' (n + 1) (rows.flatten ++ vs)) (Cv : Chg (fun y => v.ownBlock = some y) w w') (Dv : ∀ k, v'.ownBlock = some k → v.ownBlock = some k ∨ w.heap.size ≤ k) : OwnR w' base v' (n + 1) (ts ++ [x]) := by
 refine ⟨rows ++ [vs], fun y => T y ∨ (B ≤ y ∧ y < w.heap.size), by simpa using Ov, RowsIn.append (RowsIn.single (ReIn.mono (fun y hy => .inr hy) x (ReIn.chg Cv (fun y hy hM => by have := hk y hM; omega) x (ReIn.lt x hx)))) (RowsIn.mono (fun y hy => .inl hy) (RowsIn.chg Cv (fun y hy hM => hTn y hM hy) hR)), fun y hy => ?_, fun k hkk hy => ?_, by simp [hn]⟩
 ·have := Cv.size
  rcases hy with h | h
  ·have := hT y h; omega
  ·omega
 ·rcases Dv k hkk with h | h
  ·rcases hy with h2 | h2
   ·exact hTn k h h2
   ·have := hk k h; omega
  ·rcases hy with h2 | h2
   ·have := (hT k h2).2; omega
   ·omega
theorem OwnR.lt {w : World} {base n : Nat} {v : Value} {ts : List Re} (h : OwnR w base v n ts) : ∀ k, v.ownBlock = some k → base ≤ k ∧ k < w.heap.size := by
 obtain ⟨rows, T, h1, _⟩ := h
 exact fun k hk => h1.lt k hk
/-- The list as arguments of a node. -/
theorem OwnR.args {w : World} {base n c : Nat} {a : Option Addr} {ts : List Re} (h : OwnR w base (.slice a n c) n ts) : (ts.length ≤ c ∧ c ≤ 9223372036854775807) ∧ (ts = [] ∨ ∃ g o, base ≤ g ∧ a = some ⟨g, o, none⟩ ∧ ResIn (fun y => base ≤ y) w g o ts) := by
  obtain ⟨rows, T, h1, h2, h3, h4, h5⟩ := h
  obtain ⟨h6, h7⟩ := own_res h1 h2 h5
  refine ⟨by rw [h5]; exact h6, h7.imp id fun ⟨g, hg, _, ha, hc⟩ => ⟨g, 0, hg, ha, ?_⟩⟩
  have key : ∀ (us : List Re) (o : Nat), (∀ i t, us[i]? = some t → ∃ vs, CellsAt w g (o + i * 6) vs ∧ ReIn T w t vs) → ResIn (fun y => base ≤ y) w g o us := by
    intro us
    induction us with
    | nil => intro o _; simp only [ResIn]
    | cons u us ih =>
      intro o hu
      simp only [ResIn]
      obtain ⟨vs, hv1, hv2⟩ := hu 0 u rfl
      refine ⟨⟨vs, by simpa using hv1, ReIn.mono (fun y hy => (h3 y hy).1) u hv2⟩, ih (o + 6) fun i t ht => ?_⟩
      obtain ⟨vs, hv1, hv2⟩ := hu (i + 1) t (by simpa using ht)
      exact ⟨vs, by rw [show o + 6 + i * 6 = o + (i + 1) * 6 from by omega]; exact hv1, hv2⟩
  exact key ts 0 hc
/-- What many makes of its parts. -/
def manyT (k : Int) (l : List Re) : Re := if l.length = 1 then l.headD (.mk 0 [] [] 0 0 false) else .mk k [] l 0 0 false
def moreP (part : Bys → Option (Re × Bys)) (sep : UInt8) : Nat → List Re → Bys → Option (List Re × Bys)
  | 0, _, _ => none
  | n + 1, l, s => if hasPrefix s [sep] = true then (match part (trimPrefix s [sep]) with | some (x, q) => moreP part sep n (l ++ [x]) q | none => none) else some (l, s)
def manyP (part : Bys → Option (Re × Bys)) (sep : UInt8) (k : Int) (s : Bys) : Option (Re × Bys) :=
  match part s with
  | some (x, q) => (match moreP part sep 1000 [x] q with | some (l, r) => some (manyT k l, r) | none => none)
  | none => none
theorem moreP_yes {part : Bys → Option (Re × Bys)} {sep : UInt8} {n : Nat} {l L : List Re} {s r : Bys} (h : moreP part sep n l s = some (L, r)) (hp : hasPrefix s [sep] = true) : ∃ m x q, n = m + 1 ∧ part (trimPrefix s [sep]) = some (x, q) ∧ moreP part sep m (l ++ [x]) q = some (L, r) := by
  cases n with
  | zero => cases h
  | succ m =>
    rw [moreP, if_pos hp] at h
    split at h
    · rename_i x q hq; exact ⟨m, x, q, rfl, hq, h⟩
    · cases h
theorem moreP_no {part : Bys → Option (Re × Bys)} {sep : UInt8} {n : Nat} {l L : List Re} {s r : Bys} (h : moreP part sep n l s = some (L, r)) (hp : hasPrefix s [sep] = false) : L = l ∧ r = s := by
  cases n with
  | zero => cases h
  | succ m => rw [moreP, if_neg (by rw [hp]; decide)] at h; cases h; exact ⟨rfl, rfl⟩
theorem manyP_some {part : Bys → Option (Re × Bys)} {sep : UInt8} {k : Int} {s r : Bys} {t : Re} (h : manyP part sep k s = some (t, r)) : ∃ x q L, part s = some (x, q) ∧ moreP part sep 1000 [x] q = some (L, r) ∧ t = manyT k L := by
 unfold manyP at h
 split at h
 ·rename_i x q hq
  split at h
  ·rename_i L r' hL; cases h; exact ⟨x, q, L, hq, hL, rfl⟩
  ·cases h
 ·cases h
theorem many_c (b : Nat) (part : Bys → Option (Re × Bys)) (fv : Value) (hP : ∀ (w : World) (s : Bys) (t : Re) (r : Bys), part s = some (t, r) → StR w b s → CallV Tryz.prog fv #[] w fun v w' => PR w.heap.size b t r v w' ∧ Chg (fun y => y = b) w w')
  (w0 : World) (k : Int) (sep : UInt8) (s r : Bys) (t : Re) (hs : manyP part sep k s = some (t, r)) (h : StR w0 b s) :
  Ret Tryz.prog 53 #[.pointer (some ⟨b, 0, none⟩), .int .i64 k, .string (bS [sep]), fv] w0 fun v w => PR w0.heap.size b t r v w ∧ Chg (fun y => y = b) w0 w := by
 obtain ⟨x0, q0, L, hp0, hm0, rfl⟩ := manyP_some hs
 have hlt := h.lt
 refine Ret_of Tryz.func53 rfl Tryz.ntmps53 (Nat.le_of_ble_eq_true rfl) ?_
 have E : Chg (fun y => y = b) w0 w0 := Chg.refl _ _
 refine Wp_seq_region ?_
 refine s_alloc (c := #[(I6 0), (.slice none 0 0), (.slice none 0 0), (I6 0), (I6 0), (.bool false)]) (by decide) zer25 rfl ?_
 intro bo wo No
 have Fo := No.ge E
 replace E := E.ext No.ext
 have Bo := No.blk
 refine WpL_nil (Wp_seq_region ?_)
 refine qM fv rfl ?_
 obtain ⟨n1, hn1⟩ : ∃ n1, n1 = wo.heap.size := ⟨_, rfl⟩
 have hbn : b < n1 ∧ bo < n1 := ⟨by have := No.ext.size; omega, by rw [hn1]; exact Bo.lt⟩
 refine WpL_callV (fv := fv) (vs := []) (by decide) rfl rfl (hP _ _ _ _ hp0 (h.ext No.ext)) ?_
 rintro _ w9 ⟨⟨sa, sc, aa, ac, rfl, hX, h9⟩, X9⟩
 replace Bo := X9.keep (fun hh => by omega) Bo
 replace E := E.trans X9
 refine s_buildSlice (ps := [(0, (.agg (R6 x0 sa sc aa ac)))]) (c := (R6 x0 sa sc aa ac)) (by decide) rfl Tryz.underlying23 siz25 zer25 (by decide) (by decide) (by kernel_rfl) ?_
 intro bq wq Nq
 have Fq := Nq.ge E
 have Oq_bo := Nq.lt Bo
 replace Bo := Nq.keep Bo
 replace h9 := StR.ext h9 Nq.ext
 replace E := E.ext Nq.ext
 have Bq := Nq.blk
 refine qA (.slice (some ⟨bq, 0, none⟩) 1 1) rfl ?_
 refine WpL_nil (Wp_seq (Wp_block ?_))
 have hO := OwnR.one (base := n1) (B := wo.heap.size) Nq (by omega) (by have := X9.size; omega) hX
 have hsz : n1 ≤ wq.heap.size := by have := X9.size; have := Nq.ext.size; omega
 refine Wp_loop (fun nn_ σ W1 => ∃ (l : List Re) (k2 : Nat) (q : Bys) (n : Nat) (la : Option Addr) (lc : Nat), (∃ jj_, σ = upds jj_ [(0, (P6 b 0)), (1, (I6 k)), (2, (.string (bS [sep]))), (3, fv), (8, (P6 bo 0)), (9, (.slice la k2 lc))]) ∧ Chg (fun y => y = b) w0 W1 ∧ Blk W1 bo #[(I6 0), (.slice none 0 0), (.slice none 0 0), (I6 0), (I6 0), (.bool false)] 25 ∧ (StR W1 b q) ∧ (OwnR W1 n1 (.slice la k2 lc) k2 l) ∧ (moreP part sep n l q = some (L, r)) ∧ (l.length = k2 ∧ 1 ≤ k2 ∧ k2 + n = 1001) ∧ (n1 ≤ W1.heap.size) ∧ nn_ = n + 0) (n := 1000 + 0) ?_ ?_
 ·exact ⟨[x0], 1, q0, 1000, some ⟨bq, 0, none⟩, 1, Fits.out ⟨rfl, rfl, rfl, rfl, rfl, rfl, trivial⟩, E, Bo, h9, hO, hm0, ⟨rfl, Nat.le_refl _, rfl⟩, hsz, rfl⟩
 ·clear E Bo
  rintro _ _ W1 ⟨l, k2, q, n, la, lc, ⟨j1, rfl⟩, E, Bo, h9, hO, hm, hk2, hsz, rfl⟩
  refine Wp_seq (Wp_seq_region ?_)
  refine qM (P6 b 0) rfl ?_
  refine qM (.string (bS [sep])) rfl ?_
  refine WpL_enter rfl rfl (by decide) (r_callF (vs := [(P6 b 0), (.string (bS [sep]))]) Tryz.func78 nm78 bd78 rfl) (stake_c _ b q [sep] h9) ?_
  rintro _ w19 ⟨rfl, h19, X19⟩
  replace Bo := X19.keep (fun hh => by omega) Bo
  replace E := E.trans X19
  replace hO := hO.off X19 (fun y hy => by omega)
  replace hsz := Nat.le_trans hsz X19.size
  refine WpL_nil ?_
  refine Wp_cond (b := hasPrefix q [sep]) rfl (fun hp => ?_) (fun hp => ?_)
  ·have khp := hp
   obtain ⟨m, x, q2, hnm, hpx, hmx⟩ := moreP_yes hm hp
   have hszc := hsz
   refine Wp_skip (thn_normal (Wp_block (Wp_region ?_)))
   refine qM (.slice la k2 lc) rfl ?_
   refine qM fv rfl ?_
   refine WpL_callV (fv := fv) (vs := []) (by decide) rfl rfl (hP _ _ _ _ hpx h19) ?_
   rintro _ w29 ⟨⟨xa, xc, ya, yc, rfl, hX2, h29⟩, X29⟩
   replace Bo := X29.keep (fun hh => by omega) Bo
   replace E := E.trans X29
   have hkO := hO.lt
   replace hO := hO.off X29 (fun y hy => by omega)
   replace hsz := Nat.le_trans hsz X29.size
   refine s_buildSlice (ps := [(0, (.agg (R6 x xa xc ya yc)))]) (c := (R6 x xa xc ya yc)) (by decide) rfl Tryz.underlying23 siz25 zer25 (by decide) (by decide) (by kernel_rfl) ?_
   intro bz wz Nz
   have Fz := Nz.ge E
   have Oz_bo := Nz.lt Bo
   replace Bo := Nz.keep Bo
   replace h29 := StR.ext h29 Nz.ext
   replace hO := OwnR.ext hO Nz.ext
   replace hX2 := ReIn.ext Nz.ext x hX2
   replace hsz := Nat.le_trans hsz Nz.ext.size
   replace E := E.ext Nz.ext
   have Bz := Nz.blk
   have hQ9 : True := trivial
   obtain ⟨rows, T, hOr, hR, hT, hTn, hln⟩ := hO
   refine s_append (base := n1) (n := k2) (m := 1) (xs := rows.flatten) (news := [(I6 x.kind), (.slice xa x.set.length xc), (.slice ya x.args.length yc), (I6 x.mn), (I6 x.mx), (.bool x.neg)]) (size := 6) (bytes := 80) (v := (.slice la k2 lc)) (by decide) Tryz.underlying23 siz25 byt25 zer25 rfl (by decide) rfl hOr rfl (rfl) (Bz.cells rfl) (by simp [Value.oneCell']) (by unfold maxLen; omega) (by omega) (hsz) ?_
   intro v9 w39 Ov9 Cv9 Dv9
   replace Bo := Cv9.keep (fun h => by have := (hOr.lt _ h).1; omega) Bo
   replace E := E.step Cv9 (fun x hx h => absurd (hOr.lt x h).1 (by omega))
   obtain ⟨la2, lc2, rfl⟩ := own_form Ov9
   refine qA (.slice la2 (k2 + 1) lc2) rfl ?_
   refine WpL_nil (inB_normal (thn_normal ?_))
   exact ⟨m + 0, by omega, l ++ [x], k2 + 1, q2, m, la2, lc2, Fits.out ⟨rfl, rfl, rfl, rfl, rfl, rfl, trivial⟩, E, Bo, h29.off Cv9 (fun y hy => by have := (hOr.lt y hy).1; omega), OwnR.push hR hT hTn hln (fun k hk => (hkO k hk).2) hszc hX2 Ov9 Cv9 Dv9, hmx, ⟨by simp; omega, by omega, by omega⟩, Nat.le_trans hsz Cv9.size, rfl⟩
  ·have khp := hp
   obtain ⟨rfl, rfl⟩ := moreP_no hm hp
   obtain ⟨rfl, hk4, hk5⟩ := hk2
   rw [trim_no hp] at h19
   obtain ⟨hlc, hargs⟩ := hO.args
   refine Wp_exit (thn_exit (thn_exit (inB_here (thn_normal (Wp_seq (Wp_seq_region ?_))))))
   refine qM (.slice la L.length lc) rfl ?_
   refine qV (r_lenSlice (ad := la) (n := L.length) (cap := lc) Tryz.underlying23 rfl) ?_
   refine qV (r_eql (k := .i64) (a := (L.length : Int)) (b := 1) rfl rfl) ?_
   refine WpL_nil ?_
   refine Wp_cond (b := decide (((L.length : Int) : Int) = 1)) rfl (fun h1 => ?_) (fun h1 => ?_)
   ·have kh1 := h1
    replace h1 := of_decide_eq_true h1
    obtain ⟨x, hxL⟩ : ∃ x, L = [x] := List.length_eq_one_iff.1 (by omega)
    obtain ⟨g, o, hg, rfl, hres⟩ := hargs.resolve_left (fun hh => by rw [hh] at hk4; simp at hk4)
    obtain ⟨us, hus, hxt⟩ := hres.get (i := 0) (t := x) (by rw [hxL]; rfl)
    obtain ⟨xsa, xsc, xaa, xac, rfl, hxt2⟩ := ReIn.form hxt
    have hmt : manyT k L = x := by unfold manyT; rw [if_pos (by rw [hxL]; rfl), hxL]; rfl
    refine Wp_seq_region ?_
    refine qM (.slice (some ⟨g, o, none⟩) L.length lc) rfl ?_
    refine qV (r_indexSlice (b := g) (o := o) (len := L.length) (cap := lc) (i := 0) (o' := o + 0 * 6) rfl rfl rfl Tryz.underlying23 siz25 (by omega) (by omega)) ?_
    refine qV (r_loadAgg (vs := [(I6 x.kind), (.slice xsa x.set.length xsc), (.slice xaa x.args.length xac), (I6 x.mn), (I6 x.mx), (.bool x.neg)]) rfl agg25 siz25 rfl (hus)) ?_
    refine s_storeAgg (b := bo) (o := 0) (c' := (R6 x xsa xsc xaa xac)) rfl rfl (by simp [Value.oneCell']) siz25 rfl Bo (by first | (simp; done) | exact Nat.le_of_ble_eq_true rfl) rfl ?_
    intro w4 S4
    replace h19 := StR.put h19 S4 (by omega)
    replace hxt := ReIn.chg S4.chg (fun y hy hm => by have h8 : n1 ≤ y := hy; rcases hm with rfl; omega) x hxt
    replace E := S4.step E (by first | exact Or.inl (by omega) | assumption | exact Or.inr rfl | exact Or.inr (by assumption) | exact Or.inr (by simp) | exact Or.inr (by omega) | exact Or.inr (by dsimp only; omega))
    replace Bo := S4.blk
    refine WpL_nil (Wp_ret (thn_ret ?_))
    refine fin_agg Tryz.results53 (vs := [(.int .i64 x.kind), (.slice xsa x.set.length xsc), (.slice xaa x.args.length xac), (.int .i64 x.mn), (.int .i64 x.mx), (.bool x.neg)]) (b := bo) rfl agg25 siz25 rfl (Bo.cells rfl) ?_
    exact ⟨by rw [hmt]; exact ⟨_, _, _, _, rfl, ReIn.mono (fun y hy => by have h8 : n1 ≤ y := hy; omega) x hxt, h19⟩, E⟩
   ·have kh1 := h1
    replace h1 := of_decide_eq_false h1
    refine Wp_skip (thn_normal (Wp_seq_region ?_))
    refine qM (I6 k) rfl ?_
    refine qM (.slice la L.length lc) rfl ?_
    refine qV (r_build (ps := [(0, (I6 k)), (2, (.slice la L.length lc))]) (v := (.agg #[(I6 k), (.slice none 0 0), (.slice la L.length lc), (I6 0), (I6 0), (.bool false)])) rfl (by kernel_rfl)) ?_
    refine s_storeAgg (b := bo) (o := 0) (c' := #[(I6 k), (.slice none 0 0), (.slice la L.length lc), (I6 0), (I6 0), (.bool false)]) rfl rfl (by simp [Value.oneCell']) siz25 rfl Bo (by first | (simp; done) | exact Nat.le_of_ble_eq_true rfl) rfl ?_
    intro w5 S5
    replace h19 := StR.put h19 S5 (by omega)
    replace hO := hO.off S5.chg (fun y hm => by rcases hm with rfl; omega)
    replace E := S5.step E (by first | exact Or.inl (by omega) | assumption | exact Or.inr rfl | exact Or.inr (by assumption) | exact Or.inr (by simp) | exact Or.inr (by omega) | exact Or.inr (by dsimp only; omega))
    replace Bo := S5.blk
    refine WpL_nil (Wp_ret ?_)
    refine fin_agg Tryz.results53 (vs := [(.int .i64 k), (.slice none 0 0), (.slice la L.length lc), (.int .i64 0), (.int .i64 0), (.bool false)]) (b := bo) rfl agg25 siz25 rfl (Bo.cells rfl) ?_
    exact ⟨by unfold manyT; rw [if_neg (by omega)]; exact ⟨none, 0, la, lc, rfl, ReIn.of (set := []) (SlIn.nil _ _ _ _ _) hO.args.1 (hO.args.2.imp id fun ⟨g, o, h1, h2, h3⟩ => ⟨g, o, by omega, h2, ResIn.mono (fun y hy => by have h8 : n1 ≤ y := hy; omega) _ h3⟩), h19⟩, E⟩
end Go.Proofs
namespace Go.Proofs
open Go Go.Eng Go.Sort Go.Lib
set_option linter.unusedSectionVars false
variable [Drw]
set_option maxRecDepth 100000
theorem and_c (b : Nat) (p : Bys → Option (Re × Bys)) (hp : RdOk b 79 p) : RdOk b 54 (manyP p 38 7) := by
 intro w0 s t r hs h
 have hlt := h.lt
 refine Ret_of Tryz.func54 rfl Tryz.ntmps54 (Nat.le_of_ble_eq_true rfl) ?_
 have E : Chg (fun y => y = b) w0 w0 := Chg.refl _ _
 refine Wp_seq_region ?_
 refine s_alloc (c := #[(I6 0), (.slice none 0 0), (.slice none 0 0), (I6 0), (I6 0), (.bool false)]) (by decide) zer25 rfl ?_
 intro bo wo No
 have Fo := No.ge E
 replace E := E.ext No.ext
 have Bo := No.blk
 refine WpL_nil (Wp_seq_region ?_)
 refine qM (P6 b 0) rfl ?_
 refine qM (P6 b 0) rfl ?_
 refine qV (r_makeFunc (vs := [(P6 b 0)]) (us := []) rfl rfl) ?_
 have hbo : b < bo := by have := No.eq; omega
 refine WpL_enter rfl rfl (by decide) (r_callF (vs := [(P6 b 0), (I6 7), (.string (ByteArray.mk #[38])), (.func (.func 79) #[(P6 b 0)] #[])]) Tryz.func53 nm53 bd53 rfl) (many_c b p (.func (.func 79) #[.pointer (some ⟨b, 0, none⟩)] #[]) (fun w s t r h1 h2 => CallV.mk (ws := #[.pointer (some ⟨b, 0, none⟩)]) Tryz.func79 nm79 bd79 rfl (hp w s t r h1 h2)) _ 7 38 s r t hs (h.ext No.ext)) ?_
 rintro _ w9 ⟨⟨sa, sc, aa, ac, rfl, hX, h9⟩, X9⟩
 replace Bo := X9.keep (fun hh => by omega) Bo
 replace E := E.trans X9
 refine s_storeAgg (b := bo) (o := 0) (c' := (R6 t sa sc aa ac)) rfl rfl (by simp [Value.oneCell']) siz25 rfl Bo (by first | (simp; done) | exact Nat.le_of_ble_eq_true rfl) rfl ?_
 intro w1 S1
 replace h9 := StR.put h9 S1 (by omega)
 replace hX := ReIn.chg S1.chg (fun y hy hm => by have h8 : wo.heap.size ≤ y := hy; have := No.size; have := No.eq; rcases hm with rfl; omega) t hX
 replace E := S1.step E (by first | exact Or.inl (by omega) | assumption | exact Or.inr rfl | exact Or.inr (by assumption) | exact Or.inr (by simp) | exact Or.inr (by omega) | exact Or.inr (by dsimp only; omega))
 replace Bo := S1.blk
 refine WpL_nil (Wp_ret ?_)
 refine fin_agg Tryz.results54 (vs := [(.int .i64 t.kind), (.slice sa t.set.length sc), (.slice aa t.args.length ac), (.int .i64 t.mn), (.int .i64 t.mx), (.bool t.neg)]) (b := bo) rfl agg25 siz25 rfl (Bo.cells rfl) ?_
 exact ⟨⟨_, _, _, _, rfl, ReIn.mono (fun y hy => by have h8 : wo.heap.size ≤ y := hy; have := No.size; omega) t hX, h9⟩, E⟩
theorem alt_c (b : Nat) (p : Bys → Option (Re × Bys)) (hp : RdOk b 54 p) : RdOk b 29 (manyP p 124 4) := by
 intro w0 s t r hs h
 have hlt := h.lt
 refine Ret_of Tryz.func29 rfl Tryz.ntmps29 (Nat.le_of_ble_eq_true rfl) ?_
 have E : Chg (fun y => y = b) w0 w0 := Chg.refl _ _
 refine Wp_seq_region ?_
 refine s_alloc (c := #[(I6 0), (.slice none 0 0), (.slice none 0 0), (I6 0), (I6 0), (.bool false)]) (by decide) zer25 rfl ?_
 intro bo wo No
 have Fo := No.ge E
 replace E := E.ext No.ext
 have Bo := No.blk
 refine WpL_nil (Wp_seq_region ?_)
 refine qM (P6 b 0) rfl ?_
 refine qM (P6 b 0) rfl ?_
 refine qV (r_makeFunc (vs := [(P6 b 0)]) (us := []) rfl rfl) ?_
 have hbo : b < bo := by have := No.eq; omega
 refine WpL_enter rfl rfl (by decide) (r_callF (vs := [(P6 b 0), (I6 4), (.string (ByteArray.mk #[124])), (.func (.func 54) #[(P6 b 0)] #[])]) Tryz.func53 nm53 bd53 rfl) (many_c b p (.func (.func 54) #[.pointer (some ⟨b, 0, none⟩)] #[]) (fun w s t r h1 h2 => CallV.mk (ws := #[.pointer (some ⟨b, 0, none⟩)]) Tryz.func54 nm54 bd54 rfl (hp w s t r h1 h2)) _ 4 124 s r t hs (h.ext No.ext)) ?_
 rintro _ w9 ⟨⟨sa, sc, aa, ac, rfl, hX, h9⟩, X9⟩
 replace Bo := X9.keep (fun hh => by omega) Bo
 replace E := E.trans X9
 refine s_storeAgg (b := bo) (o := 0) (c' := (R6 t sa sc aa ac)) rfl rfl (by simp [Value.oneCell']) siz25 rfl Bo (by first | (simp; done) | exact Nat.le_of_ble_eq_true rfl) rfl ?_
 intro w1 S1
 replace h9 := StR.put h9 S1 (by omega)
 replace hX := ReIn.chg S1.chg (fun y hy hm => by have h8 : wo.heap.size ≤ y := hy; have := No.size; have := No.eq; rcases hm with rfl; omega) t hX
 replace E := S1.step E (by first | exact Or.inl (by omega) | assumption | exact Or.inr rfl | exact Or.inr (by assumption) | exact Or.inr (by simp) | exact Or.inr (by omega) | exact Or.inr (by dsimp only; omega))
 replace Bo := S1.blk
 refine WpL_nil (Wp_ret ?_)
 refine fin_agg Tryz.results29 (vs := [(.int .i64 t.kind), (.slice sa t.set.length sc), (.slice aa t.args.length ac), (.int .i64 t.mn), (.int .i64 t.mx), (.bool t.neg)]) (b := bo) rfl agg25 siz25 rfl (Bo.cells rfl) ?_
 exact ⟨⟨_, _, _, _, rfl, ReIn.mono (fun y hy => by have h8 : wo.heap.size ≤ y := hy; have := No.size; omega) t hX, h9⟩, E⟩
def stopB (s : Bys) : Bool := decide (s = []) || hasPrefix s [124] || hasPrefix s [38] || hasPrefix s [41]
def itemsP (item : Bys → Option (Re × Bys)) : Nat → List Re → Bys → Option (List Re × Bys)
  | 0, _, _ => none
  | n + 1, l, s => if stopB s = true then some (l, s) else (match item s with | some (x, q) => itemsP item n (l ++ [x]) q | none => none)
def catT (l : List Re) : Re := if l.length = 0 then .mk 1 [] [] 0 0 false else manyT 3 l
def catP (item : Bys → Option (Re × Bys)) (s : Bys) : Option (Re × Bys) :=
  match itemsP item 1000 [] s with
  | some (l, r) => some (catT l, r)
  | none => none
theorem itemsP_yes {item : Bys → Option (Re × Bys)} {n : Nat} {l L : List Re} {s r : Bys} (h : itemsP item n l s = some (L, r)) (hp : stopB s = false) : ∃ m x q, n = m + 1 ∧ item s = some (x, q) ∧ itemsP item m (l ++ [x]) q = some (L, r) := by
  cases n with
  | zero => cases h
  | succ m =>
    rw [itemsP, if_neg (by rw [hp]; decide)] at h
    split at h
    · rename_i x q hq; exact ⟨m, x, q, rfl, hq, h⟩
    · cases h
theorem itemsP_no {item : Bys → Option (Re × Bys)} {n : Nat} {l L : List Re} {s r : Bys} (h : itemsP item n l s = some (L, r)) (hp : stopB s = true) : L = l ∧ r = s := by
  cases n with
  | zero => cases h
  | succ m => rw [itemsP, if_pos hp] at h; cases h; exact ⟨rfl, rfl⟩
theorem cat_c (b : Nat) (p : Bys → Option (Re × Bys)) (hp : RdOk b 101 p) : RdOk b 79 (catP p) := by
 intro w0 s t r hs h
 have hlt := h.lt
 obtain ⟨L, hm0, rfl⟩ : ∃ L, itemsP p 1000 [] s = some (L, r) ∧ t = catT L := by
  unfold catP at hs
  split at hs
  ·rename_i L r' hL; cases hs; exact ⟨L, hL, rfl⟩
  ·cases hs
 refine Ret_of Tryz.func79 rfl Tryz.ntmps79 (Nat.le_of_ble_eq_true rfl) ?_
 have E : Chg (fun y => y = b) w0 w0 := Chg.refl _ _
 refine Wp_seq_region ?_
 refine s_alloc (c := #[(I6 0), (.slice none 0 0), (.slice none 0 0), (I6 0), (I6 0), (.bool false)]) (by decide) zer25 rfl ?_
 intro bo wo No
 have Fo := No.ge E
 replace E := E.ext No.ext
 have Bo := No.blk
 refine WpL_nil (Wp_seq_region ?_)
 refine qA (.slice none 0 0) rfl ?_
 refine WpL_nil (Wp_seq (Wp_block ?_))
 obtain ⟨n1, hn1⟩ : ∃ n1, n1 = wo.heap.size := ⟨_, rfl⟩
 have hbn : b < n1 ∧ bo < n1 ∧ b < bo := ⟨by have := No.ext.size; omega, by rw [hn1]; exact Bo.lt, by have := No.eq; omega⟩
 refine Wp_loop (fun nn_ σ W1 => ∃ (l : List Re) (k2 : Nat) (q : Bys) (n : Nat) (la : Option Addr) (lc : Nat), (∃ jj_, σ = upds jj_ [(0, (P6 b 0)), (2, (P6 bo 0)), (3, (.slice la k2 lc))]) ∧ Chg (fun y => y = b) w0 W1 ∧ Blk W1 bo #[(I6 0), (.slice none 0 0), (.slice none 0 0), (I6 0), (I6 0), (.bool false)] 25 ∧ (StR W1 b q) ∧ (OwnR W1 n1 (.slice la k2 lc) k2 l) ∧ (itemsP p n l q = some (L, r)) ∧ (l.length = k2 ∧ k2 + n = 1000) ∧ (n1 ≤ W1.heap.size) ∧ nn_ = n + 0) (n := 1000 + 0) ?_ ?_
 ·exact ⟨[], 0, s, 1000, none, 0, Fits.out ⟨rfl, rfl, rfl, trivial⟩, E, Bo, h.ext No.ext, OwnR.nil _ _, hm0, ⟨rfl, rfl⟩, (by omega), rfl⟩
 ·clear E Bo
  rintro _ _ W1 ⟨l, k2, q, n, la, lc, ⟨j1, rfl⟩, E, Bo, h9, hO, hm, hk2, hsz, rfl⟩
  refine Wp_seq ?_
  refine Wp_cut (fun σ W2 => ∃ (e : Bool), (∃ jj_, σ = upds jj_ [(0, (P6 b 0)), (2, (P6 bo 0)), (3, (.slice la k2 lc)), (23, (.bool e))]) ∧ Chg (fun y => y = b) w0 W2 ∧ Blk W2 bo #[(I6 0), (.slice none 0 0), (.slice none 0 0), (I6 0), (I6 0), (.bool false)] 25 ∧ (e = !stopB q) ∧ (StR W2 b q) ∧ (OwnR W2 n1 (.slice la k2 lc) k2 l) ∧ (n1 ≤ W2.heap.size)) ?_ ?_
  ·skip
   have hb9 := h9.rd
   refine Wp_region ?_
   refine qM (P6 b 0) rfl ?_
   refine qV (r_nilCheck (a := ⟨b, 0, none⟩) rfl) ?_
   refine qF b 0 0 rfl Tryz.underlying57 rfl siz9 rfl ?_
   refine qV (r_load (v := (.string (bS q))) rfl flat9 (hb9.cell rfl)) ?_
   refine WpL_val (v := (.bool (decide (q ≠ [])))) rfl rfl (by decide) (r_neqS (l := q) (m := []) rfl rfl) ?_
   refine qM (.bool (decide (q ≠ []))) rfl ?_
   rcases Bool.eq_false_or_eq_true (decide (q ≠ [])) with hq | hq
   ·have khq := hq
    replace khq := of_decide_eq_true khq
    refine WpL_guard_yes (oj := _) rfl rfl (by decide) (congrArg Value.bool hq) ?_
    refine qM (P6 b 0) rfl ?_
    refine WpL_guard_yes (oj := _) rfl rfl (by decide) (congrArg Value.bool hq) ?_
    refine WpL_enter rfl rfl (by decide) (r_callF (vs := [(P6 b 0), (.string (ByteArray.mk #[124]))]) Tryz.func100 nm100 bd100 rfl) (is_c _ b q [124] h9.rd) ?_
    rintro _ w19 ⟨rfl, X19⟩
    replace Bo := X19.keep Bo
    replace h9 := StR.ext h9 X19
    replace hO := OwnR.ext hO X19
    replace hsz := Nat.le_trans hsz X19.size
    replace E := E.ext X19
    refine WpL_guard_yes (oj := _) rfl rfl (by decide) (congrArg Value.bool hq) ?_
    refine qV (r_not (b := hasPrefix q [124]) rfl) ?_
    refine qV (r_pick (b := decide (q ≠ [])) (v := (.bool (!(hasPrefix q [124])))) rfl (by rw [hq]; rfl)) ?_
    refine qM (.bool (!(hasPrefix q [124]))) rfl ?_
    rcases Bool.eq_false_or_eq_true (!(hasPrefix q [124])) with ha | ha
    ·have kha := ha
     refine WpL_guard_yes (oj := _) rfl rfl (by decide) (congrArg Value.bool ha) ?_
     refine qM (P6 b 0) rfl ?_
     refine WpL_guard_yes (oj := _) rfl rfl (by decide) (congrArg Value.bool ha) ?_
     refine WpL_enter rfl rfl (by decide) (r_callF (vs := [(P6 b 0), (.string (ByteArray.mk #[38]))]) Tryz.func100 nm100 bd100 rfl) (is_c _ b q [38] h9.rd) ?_
     rintro _ w29 ⟨rfl, X29⟩
     replace Bo := X29.keep Bo
     replace h9 := StR.ext h9 X29
     replace hO := OwnR.ext hO X29
     replace hsz := Nat.le_trans hsz X29.size
     replace E := E.ext X29
     refine WpL_guard_yes (oj := _) rfl rfl (by decide) (congrArg Value.bool ha) ?_
     refine qV (r_not (b := hasPrefix q [38]) rfl) ?_
     refine qV (r_pick (b := !(hasPrefix q [124])) (v := (.bool (!(hasPrefix q [38])))) rfl (by rw [ha]; rfl)) ?_
     refine qM (.bool (!(hasPrefix q [38]))) rfl ?_
     rcases Bool.eq_false_or_eq_true (!(hasPrefix q [38])) with hb | hb
     ·have khb := hb
      refine WpL_guard_yes (oj := _) rfl rfl (by decide) (congrArg Value.bool hb) ?_
      refine qM (P6 b 0) rfl ?_
      refine WpL_guard_yes (oj := _) rfl rfl (by decide) (congrArg Value.bool hb) ?_
      refine WpL_enter rfl rfl (by decide) (r_callF (vs := [(P6 b 0), (.string (ByteArray.mk #[41]))]) Tryz.func100 nm100 bd100 rfl) (is_c _ b q [41] h9.rd) ?_
      rintro _ w39 ⟨rfl, X39⟩
      replace Bo := X39.keep Bo
      replace h9 := StR.ext h9 X39
      replace hO := OwnR.ext hO X39
      replace hsz := Nat.le_trans hsz X39.size
      replace E := E.ext X39
      refine WpL_guard_yes (oj := _) rfl rfl (by decide) (congrArg Value.bool hb) ?_
      refine qV (r_not (b := hasPrefix q [41]) rfl) ?_
      refine qV (r_pick (b := !(hasPrefix q [38])) (v := (.bool (!(hasPrefix q [41])))) rfl (by rw [hb]; rfl)) ?_
      refine WpL_nil (thn_normal ?_)
      exact ⟨!hasPrefix q [41], Fits.out ⟨rfl, rfl, rfl, rfl, trivial⟩, E, Bo, (by unfold stopB; simp at hq ha hb; simp [hq, ha, hb]), h9, hO, hsz⟩
     ·have khb := hb
      refine WpL_guard_no (oj := _) rfl rfl (by decide) (v := .bool false) (congrArg Value.bool hb) (Or.inl rfl) ?_
      refine WpL_guard_no (oj := _) rfl rfl (by decide) (v := .bool false) (congrArg Value.bool hb) (Or.inl rfl) ?_
      refine WpL_guard_no (oj := _) rfl rfl (by decide) (v := .bool false) (congrArg Value.bool hb) (Or.inl rfl) ?_
      refine qV (r_pick (b := !(hasPrefix q [38])) (v := (.bool false)) rfl (by rw [hb]; rfl)) ?_
      refine WpL_nil (thn_normal ?_)
      exact ⟨false, Fits.out ⟨rfl, rfl, rfl, rfl, trivial⟩, E, Bo, (by unfold stopB; simp at hb; simp [hb]), h9, hO, hsz⟩
    ·have kha := ha
     refine WpL_guard_no (oj := _) rfl rfl (by decide) (v := .bool false) (congrArg Value.bool ha) (Or.inl rfl) ?_
     refine WpL_guard_no (oj := _) rfl rfl (by decide) (v := .bool false) (congrArg Value.bool ha) (Or.inl rfl) ?_
     refine WpL_guard_no (oj := _) rfl rfl (by decide) (v := .bool false) (congrArg Value.bool ha) (Or.inl rfl) ?_
     refine qV (r_pick (b := !(hasPrefix q [124])) (v := (.bool false)) rfl (by rw [ha]; rfl)) ?_
     refine qM (.bool false) rfl ?_
     refine WpL_guard_no (oj := _) rfl rfl (by decide) (v := .bool false) rfl (Or.inl rfl) ?_
     refine WpL_guard_no (oj := _) rfl rfl (by decide) (v := .bool false) rfl (Or.inl rfl) ?_
     refine WpL_guard_no (oj := _) rfl rfl (by decide) (v := .bool false) rfl (Or.inl rfl) ?_
     refine qV (r_pick (b := false) (v := (.bool false)) rfl rfl) ?_
     refine WpL_nil (thn_normal ?_)
     exact ⟨false, Fits.out ⟨rfl, rfl, rfl, rfl, trivial⟩, E, Bo, (by unfold stopB; simp at ha; simp [ha]), h9, hO, hsz⟩
   ·have khq := hq
    replace khq := of_decide_eq_false khq
    refine WpL_guard_no (oj := _) rfl rfl (by decide) (v := .bool false) (congrArg Value.bool hq) (Or.inl rfl) ?_
    refine WpL_guard_no (oj := _) rfl rfl (by decide) (v := .bool false) (congrArg Value.bool hq) (Or.inl rfl) ?_
    refine WpL_guard_no (oj := _) rfl rfl (by decide) (v := .bool false) (congrArg Value.bool hq) (Or.inl rfl) ?_
    refine qV (r_pick (b := decide (q ≠ [])) (v := (.bool false)) rfl (by rw [hq]; rfl)) ?_
    refine qM (.bool false) rfl ?_
    refine WpL_guard_no (oj := _) rfl rfl (by decide) (v := .bool false) rfl (Or.inl rfl) ?_
    refine WpL_guard_no (oj := _) rfl rfl (by decide) (v := .bool false) rfl (Or.inl rfl) ?_
    refine WpL_guard_no (oj := _) rfl rfl (by decide) (v := .bool false) rfl (Or.inl rfl) ?_
    refine qV (r_pick (b := false) (v := (.bool false)) rfl rfl) ?_
    refine qM (.bool false) rfl ?_
    refine WpL_guard_no (oj := _) rfl rfl (by decide) (v := .bool false) rfl (Or.inl rfl) ?_
    refine WpL_guard_no (oj := _) rfl rfl (by decide) (v := .bool false) rfl (Or.inl rfl) ?_
    refine WpL_guard_no (oj := _) rfl rfl (by decide) (v := .bool false) rfl (Or.inl rfl) ?_
    refine qV (r_pick (b := false) (v := (.bool false)) rfl rfl) ?_
    refine WpL_nil (thn_normal ?_)
    exact ⟨false, Fits.out ⟨rfl, rfl, rfl, rfl, trivial⟩, E, Bo, (by unfold stopB; simp at hq; simp [hq]), h9, hO, hsz⟩
  ·clear E Bo
   rintro _ W2 ⟨e, ⟨j2, rfl⟩, E, Bo, he, h9, hO, hsz⟩
   refine Wp_cond (b := e) rfl (fun hst => ?_) (fun hst => ?_)
   ·have khst := hst
    have hstop : stopB q = false := by rw [hst] at he; simpa using he.symm
    obtain ⟨m, x, q2, hnm, hpx, hmx⟩ := itemsP_yes hm hstop
    have hszc := hsz
    refine Wp_skip (thn_normal (Wp_block (Wp_region ?_)))
    refine qM (.slice la k2 lc) rfl ?_
    refine qM (P6 b 0) rfl ?_
    refine WpL_enter rfl rfl (by decide) (r_callF (vs := [(P6 b 0)]) Tryz.func101 nm101 bd101 rfl) (hp _ _ _ _ hpx h9) ?_
    rintro _ w49 ⟨⟨xa, xc, ya, yc, rfl, hX2, h29⟩, X49⟩
    replace Bo := X49.keep (fun hh => by omega) Bo
    replace E := E.trans X49
    have hkO := hO.lt
    replace hO := hO.off X49 (fun y hy => by omega)
    replace hsz := Nat.le_trans hsz X49.size
    refine s_buildSlice (ps := [(0, (.agg (R6 x xa xc ya yc)))]) (c := (R6 x xa xc ya yc)) (by decide) rfl Tryz.underlying23 siz25 zer25 (by decide) (by decide) (by kernel_rfl) ?_
    intro bz wz Nz
    have Fz := Nz.ge E
    have Oz_bo := Nz.lt Bo
    replace Bo := Nz.keep Bo
    replace h29 := StR.ext h29 Nz.ext
    replace hO := OwnR.ext hO Nz.ext
    replace hX2 := ReIn.ext Nz.ext x hX2
    replace hsz := Nat.le_trans hsz Nz.ext.size
    replace E := E.ext Nz.ext
    have Bz := Nz.blk
    have hQ9 : True := trivial
    obtain ⟨rows, T, hOr, hR, hT, hTn, hln⟩ := hO
    refine s_append (base := n1) (n := k2) (m := 1) (xs := rows.flatten) (news := [(I6 x.kind), (.slice xa x.set.length xc), (.slice ya x.args.length yc), (I6 x.mn), (I6 x.mx), (.bool x.neg)]) (size := 6) (bytes := 80) (v := (.slice la k2 lc)) (by decide) Tryz.underlying23 siz25 byt25 zer25 rfl (by decide) rfl hOr rfl (rfl) (Bz.cells rfl) (by simp [Value.oneCell']) (by unfold maxLen; omega) (by omega) (hsz) ?_
    intro v9 w59 Ov9 Cv9 Dv9
    replace Bo := Cv9.keep (fun h => by have := (hOr.lt _ h).1; omega) Bo
    replace E := E.step Cv9 (fun x hx h => absurd (hOr.lt x h).1 (by omega))
    obtain ⟨la2, lc2, rfl⟩ := own_form Ov9
    refine qA (.slice la2 (k2 + 1) lc2) rfl ?_
    refine WpL_nil (inB_normal (thn_normal ?_))
    exact ⟨m + 0, by omega, l ++ [x], k2 + 1, q2, m, la2, lc2, Fits.out ⟨rfl, rfl, rfl, trivial⟩, E, Bo, h29.off Cv9 (fun y hy => by have := (hOr.lt y hy).1; omega), OwnR.push hR hT hTn hln (fun k hk => (hkO k hk).2) hszc hX2 Ov9 Cv9 Dv9, hmx, ⟨by simp; omega, by omega⟩, Nat.le_trans hsz Cv9.size, rfl⟩
   ·have khst := hst
    have hstop : stopB q = true := by rw [hst] at he; simpa using he.symm
    obtain ⟨rfl, rfl⟩ := itemsP_no hm hstop
    obtain ⟨rfl, hk5⟩ := hk2
    refine Wp_exit (thn_exit (thn_exit (inB_here (thn_normal (Wp_seq (Wp_seq_region ?_))))))
    refine qM (.slice la L.length lc) rfl ?_
    refine qV (r_lenSlice (ad := la) (n := L.length) (cap := lc) Tryz.underlying23 rfl) ?_
    refine WpL_nil (Wp_block (Wp_seq_region ?_))
    refine qV (r_eql (k := .i64) (a := (L.length : Int)) (b := 0) rfl rfl) ?_
    refine qA (.bool (decide (((L.length : Int) : Int) = 0))) rfl ?_
    refine WpL_nil ?_
    refine Wp_cond (b := decide (((L.length : Int) : Int) = 0)) rfl (fun h0 => ?_) (fun h0 => ?_)
    ·have kh0 := h0
     replace h0 := of_decide_eq_true h0
     refine Wp_seq_region ?_
     refine qV (r_build (ps := [(0, (I6 1))]) (v := (.agg #[(I6 1), (.slice none 0 0), (.slice none 0 0), (I6 0), (I6 0), (.bool false)])) rfl (by kernel_rfl)) ?_
     refine s_storeAgg (b := bo) (o := 0) (c' := #[(I6 1), (.slice none 0 0), (.slice none 0 0), (I6 0), (I6 0), (.bool false)]) rfl rfl (by simp [Value.oneCell']) siz25 rfl Bo (by first | (simp; done) | exact Nat.le_of_ble_eq_true rfl) rfl ?_
     intro w8 S8
     replace h9 := StR.put h9 S8 (by omega)
     replace E := S8.step E (by first | exact Or.inl (by omega) | assumption | exact Or.inr rfl | exact Or.inr (by assumption) | exact Or.inr (by simp) | exact Or.inr (by omega) | exact Or.inr (by dsimp only; omega))
     replace Bo := S8.blk
     refine WpL_nil (Wp_ret (inB_ret (thn_ret ?_)))
     refine fin_agg Tryz.results79 (vs := [(.int .i64 1), (.slice none 0 0), (.slice none 0 0), (.int .i64 0), (.int .i64 0), (.bool false)]) (b := bo) rfl agg25 siz25 rfl (Bo.cells rfl) ?_
     exact ⟨by unfold catT; rw [if_pos (by omega)]; exact ⟨none, 0, none, 0, rfl, ReIn.of (set := []) (args := []) (SlIn.nil _ _ _ _ _) (by simp) (.inl rfl), h9⟩, E⟩
    ·have kh0 := h0
     replace h0 := of_decide_eq_false h0
     have hct : catT L = manyT 3 L := by unfold catT; rw [if_neg (by omega)]
     obtain ⟨hlc, hargs⟩ := hO.args
     refine Wp_seq_region ?_
     refine qV (r_eql (k := .i64) (a := (L.length : Int)) (b := 1) rfl rfl) ?_
     refine qA (.bool (decide (((L.length : Int) : Int) = 1))) rfl ?_
     refine WpL_nil ?_
     refine Wp_cond (b := decide (((L.length : Int) : Int) = 1)) rfl (fun h1 => ?_) (fun h1 => ?_)
     ·have kh1 := h1
      replace h1 := of_decide_eq_true h1
      obtain ⟨x, hxL⟩ : ∃ x, L = [x] := List.length_eq_one_iff.1 (by omega)
      obtain ⟨g, o, hg, rfl, hres⟩ := hargs.resolve_left (fun hh => by rw [hh] at h0; simp at h0)
      obtain ⟨us, hus, hxt⟩ := hres.get (i := 0) (t := x) (by rw [hxL]; rfl)
      obtain ⟨xsa, xsc, xaa, xac, rfl, hxt2⟩ := ReIn.form hxt
      have hmt : manyT 3 L = x := by unfold manyT; rw [if_pos (by rw [hxL]; rfl), hxL]; rfl
      refine Wp_seq_region ?_
      refine qM (.slice (some ⟨g, o, none⟩) L.length lc) rfl ?_
      refine qV (r_indexSlice (b := g) (o := o) (len := L.length) (cap := lc) (i := 0) (o' := o + 0 * 6) rfl rfl rfl Tryz.underlying23 siz25 (by omega) (by omega)) ?_
      refine qV (r_loadAgg (vs := [(I6 x.kind), (.slice xsa x.set.length xsc), (.slice xaa x.args.length xac), (I6 x.mn), (I6 x.mx), (.bool x.neg)]) rfl agg25 siz25 rfl (hus)) ?_
      refine s_storeAgg (b := bo) (o := 0) (c' := (R6 x xsa xsc xaa xac)) rfl rfl (by simp [Value.oneCell']) siz25 rfl Bo (by first | (simp; done) | exact Nat.le_of_ble_eq_true rfl) rfl ?_
      intro w10 S10
      replace h9 := StR.put h9 S10 (by omega)
      replace hxt := ReIn.chg S10.chg (fun y hy hm => by have h8 : n1 ≤ y := hy; rcases hm with rfl; omega) x hxt
      replace E := S10.step E (by first | exact Or.inl (by omega) | assumption | exact Or.inr rfl | exact Or.inr (by assumption) | exact Or.inr (by simp) | exact Or.inr (by omega) | exact Or.inr (by dsimp only; omega))
      replace Bo := S10.blk
      refine WpL_nil (Wp_ret (inB_ret (thn_ret ?_)))
      refine fin_agg Tryz.results79 (vs := [(.int .i64 x.kind), (.slice xsa x.set.length xsc), (.slice xaa x.args.length xac), (.int .i64 x.mn), (.int .i64 x.mx), (.bool x.neg)]) (b := bo) rfl agg25 siz25 rfl (Bo.cells rfl) ?_
      exact ⟨by rw [hct, hmt]; exact ⟨_, _, _, _, rfl, ReIn.mono (fun y hy => by have h8 : n1 ≤ y := hy; omega) x hxt, h9⟩, E⟩
     ·have kh1 := h1
      replace h1 := of_decide_eq_false h1
      refine Wp_skip (inB_normal (thn_normal (Wp_seq_region ?_)))
      refine qM (.slice la L.length lc) rfl ?_
      refine qV (r_build (ps := [(0, (I6 3)), (2, (.slice la L.length lc))]) (v := (.agg #[(I6 3), (.slice none 0 0), (.slice la L.length lc), (I6 0), (I6 0), (.bool false)])) rfl (by kernel_rfl)) ?_
      refine s_storeAgg (b := bo) (o := 0) (c' := #[(I6 3), (.slice none 0 0), (.slice la L.length lc), (I6 0), (I6 0), (.bool false)]) rfl rfl (by simp [Value.oneCell']) siz25 rfl Bo (by first | (simp; done) | exact Nat.le_of_ble_eq_true rfl) rfl ?_
      intro w11 S11
      replace h9 := StR.put h9 S11 (by omega)
      replace hO := hO.off S11.chg (fun y hm => by rcases hm with rfl; omega)
      replace E := S11.step E (by first | exact Or.inl (by omega) | assumption | exact Or.inr rfl | exact Or.inr (by assumption) | exact Or.inr (by simp) | exact Or.inr (by omega) | exact Or.inr (by dsimp only; omega))
      replace Bo := S11.blk
      refine WpL_nil (Wp_ret ?_)
      refine fin_agg Tryz.results79 (vs := [(.int .i64 3), (.slice none 0 0), (.slice la L.length lc), (.int .i64 0), (.int .i64 0), (.bool false)]) (b := bo) rfl agg25 siz25 rfl (Bo.cells rfl) ?_
      exact ⟨by rw [hct]; unfold manyT; rw [if_neg (by omega)]; exact ⟨none, 0, la, lc, rfl, ReIn.of (set := []) (SlIn.nil _ _ _ _ _) hO.args.1 (hO.args.2.imp id fun ⟨g, o, h1, h2, h3⟩ => ⟨g, o, by omega, h2, ResIn.mono (fun y hy => by have h8 : n1 ≤ y := hy; omega) _ h3⟩), h9⟩, E⟩
end Go.Proofs
namespace Go.Proofs
open Go Go.Eng Go.Sort Go.Lib
set_option linter.unusedSectionVars false
variable [Drw]
set_option maxRecDepth 100000
def digP : Bys → Option (Int × Bys)
  | d :: q => if 48 ≤ d.toNat ∧ d.toNat ≤ 57 then some (((d.toNat - 48 : Nat) : Int), q) else none
  | [] => none
theorem digP_some {s q : Bys} {a : Int} (h : digP s = some (a, q)) : ∃ d, s = d :: q ∧ (48 ≤ d.toNat ∧ d.toNat ≤ 57) ∧ a = ((d.toNat - 48 : Nat) : Int) := by
  cases s with
  | nil => cases h
  | cons d r =>
    rw [digP] at h
    split at h
    · rename_i hd; cases h; exact ⟨d, rfl, hd, rfl⟩
    · cases h
def endP (s : Bys) : Option Bys :=
  match s with
  | c :: r => if c = 125 then some r else none
  | [] => none
theorem endP_some {s r : Bys} (h : endP s = some r) : s = 125 :: r := by
  cases s with
  | nil => cases h
  | cons c q =>
    unfold endP at h
    simp only at h
    split at h
    · rename_i hc; cases h; rw [hc]
    · cases h
def bndP (s : Bys) : Option (Int × Int × Bys) :=
  match digP s with
  | some (a, q) => if hasPrefix q [44] = true then (match digP (trimPrefix q [44]) with | some (b, q2) => (endP q2).map fun r => (a, b, r) | none => none) else (endP q).map fun r => (a, a, r)
  | none => none
theorem bndP_some {s r : Bys} {a b : Int} (h : bndP s = some (a, b, r)) : ∃ q, digP s = some (a, q) ∧ ((hasPrefix q [44] = true ∧ digP (trimPrefix q [44]) = some (b, 125 :: r)) ∨ (hasPrefix q [44] = false ∧ b = a ∧ q = 125 :: r)) := by
  unfold bndP at h
  split at h
  · rename_i a' q hq
    split at h
    · rename_i hp
      split at h
      · rename_i b' q2 hb
        cases he : endP q2 with
        | none => rw [he] at h; cases h
        | some r' => rw [he] at h; cases h; exact ⟨q, hq, .inl ⟨hp, by rw [hb, endP_some he]⟩⟩
      · cases h
    · rename_i hp
      cases he : endP q with
      | none => rw [he] at h; cases h
      | some r' => rw [he] at h; cases h; exact ⟨q, hq, .inr ⟨by simpa using hp, rfl, endP_some he⟩⟩
  · cases h
def postP : Nat → Re → Bys → Option (Re × Bys)
  | 0, _, _ => none
  | n + 1, x, s =>
    if hasPrefix s [42] = true then postP n (.mk 5 [] [x] 0 0 false) (trimPrefix s [42])
    else if hasPrefix s [43] = true then none
    else if hasPrefix s [63] = true then postP n (.mk 6 [] [x] 0 1 false) (trimPrefix s [63])
    else if hasPrefix s [123] = true then (match bndP (trimPrefix s [123]) with | some (a, b, r) => postP n (.mk 6 [] [x] a b false) r | none => none)
    else some (x, s)
def itemP (atom : Bys → Option (Re × Bys)) : Nat → Bys → Option (Re × Bys)
  | 0, _ => none
  | n + 1, s =>
    if hasPrefix s [126] = true then (itemP atom n (trimPrefix s [126])).map fun p => (.mk 8 [] [p.1] 0 0 false, p.2)
    else (atom s).bind fun p => postP 1000 p.1 p.2
theorem item_c (b : Nat) (p : Bys → Option (Re × Bys)) (hp : RdOk b 120 p) : ∀ n, RdOk b 101 (itemP p n) := by
  intro n0
  induction n0 with
  | zero => intro w0 s t r hs; cases hs
  | succ n0 ih =>
  intro w0 s t r hs h
  have hlt := h.lt
  rw [itemP] at hs
  refine Ret_of Tryz.func101 rfl Tryz.ntmps101 (Nat.le_of_ble_eq_true rfl) ?_
  have E : Chg (fun y => y = b) w0 w0 := Chg.refl _ _
  refine Wp_seq_region ?_
  refine s_alloc (c := #[(I6 0), (.slice none 0 0), (.slice none 0 0), (I6 0), (I6 0), (.bool false)]) (by decide) zer25 rfl ?_
  intro bo wo No
  have Fo := No.ge E
  replace E := E.ext No.ext
  have Bo := No.blk
  refine WpL_nil (Wp_seq (Wp_seq_region ?_))
  refine qM (P6 b 0) rfl ?_
  obtain ⟨n1, hn1⟩ : ∃ n1, n1 = wo.heap.size := ⟨_, rfl⟩
  have hbn : b < n1 ∧ bo < n1 ∧ b < bo ∧ w0.heap.size ≤ n1 := ⟨by have := No.ext.size; omega, by rw [hn1]; exact Bo.lt, by have := No.eq; omega, by have := No.ext.size; omega⟩
  refine WpL_enter rfl rfl (by decide) (r_callF (vs := [(P6 b 0), (.string (ByteArray.mk #[126]))]) Tryz.func78 nm78 bd78 rfl) (stake_c _ b s [126] (h.ext No.ext)) ?_
  rintro _ w9 ⟨rfl, h9, X9⟩
  replace Bo := X9.keep (fun hh => by omega) Bo
  replace E := E.trans X9
  refine WpL_nil ?_
  refine Wp_cond (b := hasPrefix s [126]) rfl (fun ht => ?_) (fun ht => ?_)
  · have kht := ht
    rw [if_pos ht] at hs
    obtain ⟨⟨x, q⟩, hx, hxe⟩ := Option.map_eq_some_iff.1 hs
    cases hxe
    refine Wp_seq_region ?_
    refine qM (P6 b 0) rfl ?_
    refine WpL_enter rfl rfl (by decide) (r_callF (vs := [(P6 b 0)]) Tryz.func101 nm101 bd101 rfl) (ih _ _ _ _ hx h9) ?_
    rintro _ w19 ⟨⟨sa, sc, aa, ac, rfl, hX, h19⟩, X19⟩
    replace Bo := X19.keep (fun hh => by omega) Bo
    replace E := E.trans X19
    refine s_buildSlice (ps := [(0, (.agg (R6 x sa sc aa ac)))]) (c := (R6 x sa sc aa ac)) (by decide) rfl Tryz.underlying23 siz25 zer25 (by decide) (by decide) (by kernel_rfl) ?_
    intro bz wz Nz
    have Fz := Nz.ge E
    have Oz_bo := Nz.lt Bo
    replace Bo := Nz.keep Bo
    replace h19 := StR.ext h19 Nz.ext
    replace hX := ReIn.ext Nz.ext x hX
    replace E := E.ext Nz.ext
    have Bz := Nz.blk
    refine qV (r_build (ps := [(0, (I6 8)), (2, (.slice (some ⟨bz, 0, none⟩) 1 1))]) (v := (.agg #[(I6 8), (.slice none 0 0), (.slice (some ⟨bz, 0, none⟩) 1 1), (I6 0), (I6 0), (.bool false)])) rfl (by kernel_rfl)) ?_
    refine s_storeAgg (b := bo) (o := 0) (c' := #[(I6 8), (.slice none 0 0), (.slice (some ⟨bz, 0, none⟩) 1 1), (I6 0), (I6 0), (.bool false)]) rfl rfl (by simp [Value.oneCell']) siz25 rfl Bo (by first | (simp; done) | exact Nat.le_of_ble_eq_true rfl) rfl ?_
    intro w2 S2
    replace h19 := StR.put h19 S2 (by omega)
    replace hX := ReIn.chg S2.chg (fun y hy hm => by have h8 : w9.heap.size ≤ y := hy; have := X9.size; rcases hm with rfl; omega) x hX
    replace Bz := S2.keep (by omega) Bz
    replace E := S2.step E (by first | exact Or.inl (by omega) | assumption | exact Or.inr rfl | exact Or.inr (by assumption) | exact Or.inr (by simp) | exact Or.inr (by omega) | exact Or.inr (by dsimp only; omega))
    replace Bo := S2.blk
    refine WpL_nil (Wp_ret (thn_ret ?_))
    refine fin_agg Tryz.results101 (vs := [(.int .i64 8), (.slice none 0 0), (.slice (some ⟨bz, 0, none⟩) 1 1), (.int .i64 0), (.int .i64 0), (.bool false)]) (b := bo) rfl agg25 siz25 rfl (Bo.cells rfl) ?_
    exact ⟨⟨none, 0, _, 1, rfl, ReIn.of (set := []) (args := [x]) (SlIn.nil _ _ _ _ _) (by simp) (.inr ⟨_, 0, by have := X19.size; have := X9.size; have := Nz.eq; omega, rfl, ResIn.one (Bz.cells rfl) (ReIn.mono (fun y hy => by have h8 : w9.heap.size ≤ y := hy; have := X9.size; omega) x hX)⟩), h19⟩, E⟩
  · have kht := ht
    rw [if_neg (by rw [ht]; decide)] at hs
    rw [trim_no ht] at h9
    obtain ⟨⟨x0, q0⟩, ha, hpo⟩ := Option.bind_eq_some_iff.1 hs
    refine Wp_skip (thn_normal (Wp_seq_region ?_))
    refine qM (P6 b 0) rfl ?_
    refine WpL_enter rfl rfl (by decide) (r_callF (vs := [(P6 b 0)]) Tryz.func120 nm120 bd120 rfl) (hp _ _ _ _ ha h9) ?_
    rintro _ w19 ⟨⟨sa, sc, aa, ac, rfl, hX, h19⟩, X19⟩
    replace Bo := X19.keep (fun hh => by omega) Bo
    replace E := E.trans X19
    refine s_allocStore (v := (.agg (R6 x0 sa sc aa ac))) (c := (R6 x0 sa sc aa ac)) (n := 6) (by decide) zer25 rfl siz25 rfl rfl rfl (by simp [Value.oneCell']) ?_
    intro bx wx Nx
    have Fx := Nx.ge E
    have Ox_bo := Nx.lt Bo
    replace Bo := Nx.keep Bo
    replace h19 := StR.ext h19 Nx.ext
    replace E := E.ext Nx.ext
    have Bx := Nx.blk
    refine WpL_nil (Wp_block ?_)
    have hX1 : ReIn (fun y => n1 ≤ y ∧ y ≠ bx) wx x0 [.int .i64 x0.kind, .slice sa x0.set.length sc, .slice aa x0.args.length ac, .int .i64 x0.mn, .int .i64 x0.mx, .bool x0.neg] := ReIn.mono (fun y hy => by have h8 : w9.heap.size ≤ y := hy.1; have := X9.size; have := Nx.eq; exact ⟨by omega, by omega⟩) x0 (ReIn.ext Nx.ext x0 (ReIn.lt x0 hX))
    have hbx : n1 ≤ bx := by have := Nx.eq; have := X9.size; have := X19.size; omega
    refine Wp_loop (fun nn_ σ W3 => ∃ (x : Re) (q : Bys) (n : Nat) (sa aa : Option Addr) (sc ac : Nat), (∃ jj_, σ = upds jj_ [(0, (P6 b 0)), (2, (P6 bo 0)), (3, (P6 bx 0))]) ∧ Chg (fun y => y = b) w0 W3 ∧ Blk W3 bo #[(I6 0), (.slice none 0 0), (.slice none 0 0), (I6 0), (I6 0), (.bool false)] 25 ∧ Blk W3 bx (#[Value.int .i64 x.kind, .slice sa x.set.length sc, .slice aa x.args.length ac, .int .i64 x.mn, .int .i64 x.mx, .bool x.neg]) 25 ∧ (StR W3 b q) ∧ (ReIn (fun y => n1 ≤ y ∧ y ≠ bx) W3 x [.int .i64 x.kind, .slice sa x.set.length sc, .slice aa x.args.length ac, .int .i64 x.mn, .int .i64 x.mx, .bool x.neg]) ∧ (postP n x q = some (t, r)) ∧ nn_ = n + 1) (n := 1000 + 1) ?_ ?_
    · exact ⟨x0, q0, 1000, sa, aa, sc, ac, Fits.out ⟨rfl, rfl, rfl, trivial⟩, E, Bo, Bx, h19, hX1, hpo, rfl⟩
    · clear E Bo Bx
      rintro _ _ W3 ⟨x, q, n, sa, aa, sc, ac, ⟨j3, rfl⟩, E, Bo, Bx, h9, hX, hm, rfl⟩
      obtain ⟨m, hnm⟩ : ∃ m, n = m + 1 := by cases n with | zero => cases hm | succ m => exact ⟨m, rfl⟩
      rw [hnm, postP] at hm
      refine Wp_block (Wp_block (Wp_seq_region ?_))
      refine qM (P6 b 0) rfl ?_
      refine WpL_enter rfl rfl (by decide) (r_callF (vs := [(P6 b 0), (.string (ByteArray.mk #[42]))]) Tryz.func78 nm78 bd78 rfl) (stake_c _ b q [42] h9) ?_
      rintro _ w29 ⟨rfl, h29, X29⟩
      replace Bo := X29.keep (fun hh => by omega) Bo
      replace Bx := X29.keep (fun hh => by omega) Bx
      replace E := E.trans X29
      replace hX := ReIn.chg X29 (fun y hy hm => by have h8 := hy.1; omega) x hX
      have hWs := X29.size
      refine qA (.bool (hasPrefix q [42])) rfl ?_
      refine WpL_nil ?_
      refine Wp_cond (b := hasPrefix q [42]) rfl (fun h42 => ?_) (fun h42 => ?_)
      · have kh42 := h42
        rw [if_pos h42] at hm
        refine Wp_region ?_
        refine qV (r_loadAgg (vs := [(I6 x.kind), (.slice sa x.set.length sc), (.slice aa x.args.length ac), (I6 x.mn), (I6 x.mx), (.bool x.neg)]) rfl agg25 siz25 rfl (Bx.cells rfl)) ?_
        refine s_buildSlice (ps := [(0, (.agg (R6 x sa sc aa ac)))]) (c := (R6 x sa sc aa ac)) (by decide) rfl Tryz.underlying23 siz25 zer25 (by decide) (by decide) (by kernel_rfl) ?_
        intro bz wz Nz
        have Fz := Nz.ge E
        have Oz_bo := Nz.lt Bo
        have Oz_bx := Nz.lt Bx
        replace Bo := Nz.keep Bo
        replace Bx := Nz.keep Bx
        replace h29 := StR.ext h29 Nz.ext
        replace hX := ReIn.ext Nz.ext x hX
        replace E := E.ext Nz.ext
        have Bz := Nz.blk
        refine qV (r_build (ps := [(0, (I6 5)), (2, (.slice (some ⟨bz, 0, none⟩) 1 1))]) (v := (.agg #[(I6 5), (.slice none 0 0), (.slice (some ⟨bz, 0, none⟩) 1 1), (I6 0), (I6 0), (.bool false)])) rfl (by kernel_rfl)) ?_
        refine s_storeAgg (b := bx) (o := 0) (c' := #[(I6 5), (.slice none 0 0), (.slice (some ⟨bz, 0, none⟩) 1 1), (I6 0), (I6 0), (.bool false)]) rfl rfl (by simp [Value.oneCell']) siz25 rfl Bx (by first | (simp; done) | exact Nat.le_of_ble_eq_true rfl) rfl ?_
        intro w5 S5
        replace h29 := StR.put h29 S5 (by omega)
        replace hX := ReIn.chg S5.chg (fun y hy hm => hy.2 hm) x hX
        replace Bo := S5.keep (by omega) Bo
        replace Bz := S5.keep (by omega) Bz
        replace E := S5.step E (by first | exact Or.inl (by omega) | assumption | exact Or.inr rfl | exact Or.inr (by assumption) | exact Or.inr (by simp) | exact Or.inr (by omega) | exact Or.inr (by dsimp only; omega))
        replace Bx := S5.blk
        refine WpL_nil (inB_normal (inB_normal (thn_normal ?_)))
        exact ⟨m + 1, by omega, .mk 5 [] [x] 0 0 false, trimPrefix q [42], m, none, some ⟨bz, 0, none⟩, 0, 1, Fits.out ⟨rfl, rfl, rfl, trivial⟩, E, Bo, Bx, h29, ReIn.of (set := []) (args := [x]) (SlIn.nil _ _ _ _ _) (by simp) (.inr ⟨_, 0, ⟨by omega, by omega⟩, rfl, ResIn.one (Bz.cells rfl) hX⟩), hm, rfl⟩
      · have kh42 := h42
        rw [if_neg (by rw [h42]; decide)] at hm
        rw [trim_no h42] at h29
        refine Wp_seq_region ?_
        refine qM (P6 b 0) rfl ?_
        refine WpL_enter rfl rfl (by decide) (r_callF (vs := [(P6 b 0), (.string (ByteArray.mk #[43]))]) Tryz.func78 nm78 bd78 rfl) (stake_c _ b q [43] h29) ?_
        rintro _ w39 ⟨rfl, h39, X39⟩
        replace Bo := X39.keep (fun hh => by omega) Bo
        replace Bx := X39.keep (fun hh => by omega) Bx
        replace E := E.trans X39
        replace hX := ReIn.chg X39 (fun y hy hm => by have h8 := hy.1; omega) x hX
        refine qA (.bool (hasPrefix q [43])) rfl ?_
        refine WpL_nil ?_
        have hc6 : (hasPrefix q [43]) = false := by cases h43 : hasPrefix q [43] with | false => rfl | true => rw [if_pos h43] at hm; cases hm
        refine Wp_cond_false (congrArg Value.bool hc6) ?_
        refine Wp_seq_region ?_
        refine qM (P6 b 0) rfl ?_
        have h43 : hasPrefix q [43] = false := by cases h43 : hasPrefix q [43] with | false => rfl | true => rw [if_pos h43] at hm; cases hm
        rw [if_neg (by rw [h43]; decide)] at hm
        rw [trim_no h43] at h39
        refine WpL_enter rfl rfl (by decide) (r_callF (vs := [(P6 b 0), (.string (ByteArray.mk #[63]))]) Tryz.func78 nm78 bd78 rfl) (stake_c _ b q [63] h39) ?_
        rintro _ w49 ⟨rfl, h49, X49⟩
        replace Bo := X49.keep (fun hh => by omega) Bo
        replace Bx := X49.keep (fun hh => by omega) Bx
        replace E := E.trans X49
        replace hX := ReIn.chg X49 (fun y hy hm => by have h8 := hy.1; omega) x hX
        refine qA (.bool (hasPrefix q [63])) rfl ?_
        refine WpL_nil ?_
        refine Wp_cond (b := hasPrefix q [63]) rfl (fun h63 => ?_) (fun h63 => ?_)
        · have kh63 := h63
          rw [if_pos h63] at hm
          refine Wp_region ?_
          refine qV (r_loadAgg (vs := [(I6 x.kind), (.slice sa x.set.length sc), (.slice aa x.args.length ac), (I6 x.mn), (I6 x.mx), (.bool x.neg)]) rfl agg25 siz25 rfl (Bx.cells rfl)) ?_
          refine s_buildSlice (ps := [(0, (.agg (R6 x sa sc aa ac)))]) (c := (R6 x sa sc aa ac)) (by decide) rfl Tryz.underlying23 siz25 zer25 (by decide) (by decide) (by kernel_rfl) ?_
          intro bz wz Nz
          have Fz := Nz.ge E
          have Oz_bo := Nz.lt Bo
          have Oz_bx := Nz.lt Bx
          replace Bo := Nz.keep Bo
          replace Bx := Nz.keep Bx
          replace h49 := StR.ext h49 Nz.ext
          replace hX := ReIn.ext Nz.ext x hX
          replace E := E.ext Nz.ext
          have Bz := Nz.blk
          refine qV (r_build (ps := [(0, (I6 6)), (2, (.slice (some ⟨bz, 0, none⟩) 1 1)), (4, (I6 1))]) (v := (.agg #[(I6 6), (.slice none 0 0), (.slice (some ⟨bz, 0, none⟩) 1 1), (I6 0), (I6 1), (.bool false)])) rfl (by kernel_rfl)) ?_
          refine s_storeAgg (b := bx) (o := 0) (c' := #[(I6 6), (.slice none 0 0), (.slice (some ⟨bz, 0, none⟩) 1 1), (I6 0), (I6 1), (.bool false)]) rfl rfl (by simp [Value.oneCell']) siz25 rfl Bx (by first | (simp; done) | exact Nat.le_of_ble_eq_true rfl) rfl ?_
          intro w8 S8
          replace h49 := StR.put h49 S8 (by omega)
          replace hX := ReIn.chg S8.chg (fun y hy hm => hy.2 hm) x hX
          replace Bo := S8.keep (by omega) Bo
          replace Bz := S8.keep (by omega) Bz
          replace E := S8.step E (by first | exact Or.inl (by omega) | assumption | exact Or.inr rfl | exact Or.inr (by assumption) | exact Or.inr (by simp) | exact Or.inr (by omega) | exact Or.inr (by dsimp only; omega))
          replace Bx := S8.blk
          refine WpL_nil (inB_normal (inB_normal (thn_normal ?_)))
          exact ⟨m + 1, by omega, .mk 6 [] [x] 0 1 false, trimPrefix q [63], m, none, some ⟨bz, 0, none⟩, 0, 1, Fits.out ⟨rfl, rfl, rfl, trivial⟩, E, Bo, Bx, h49, ReIn.of (set := []) (args := [x]) (SlIn.nil _ _ _ _ _) (by simp) (.inr ⟨_, 0, ⟨by omega, by omega⟩, rfl, ResIn.one (Bz.cells rfl) hX⟩), hm, rfl⟩
        · have kh63 := h63
          rw [if_neg (by rw [h63]; decide)] at hm
          rw [trim_no h63] at h49
          refine Wp_seq_region ?_
          refine qM (P6 b 0) rfl ?_
          refine WpL_enter rfl rfl (by decide) (r_callF (vs := [(P6 b 0), (.string (ByteArray.mk #[123]))]) Tryz.func78 nm78 bd78 rfl) (stake_c _ b q [123] h49) ?_
          rintro _ w59 ⟨rfl, h59, X59⟩
          replace Bo := X59.keep (fun hh => by omega) Bo
          replace Bx := X59.keep (fun hh => by omega) Bx
          replace E := E.trans X59
          replace hX := ReIn.chg X59 (fun y hy hm => by have h8 := hy.1; omega) x hX
          refine qA (.bool (hasPrefix q [123])) rfl ?_
          refine WpL_nil ?_
          refine Wp_cond (b := hasPrefix q [123]) rfl (fun h123 => ?_) (fun h123 => ?_)
          · have kh123 := h123
            rw [if_pos h123] at hm
            obtain ⟨a, c, r2, hb, hm2⟩ : ∃ a c r2, bndP (trimPrefix q [123]) = some (a, c, r2) ∧ postP m (.mk 6 [] [x] a c false) r2 = some (t, r) := by split at hm; rename_i a c r2 hb; exact ⟨a, c, r2, hb, hm⟩; cases hm
            obtain ⟨q5, hd1, hor⟩ := bndP_some hb
            obtain ⟨d, hde, hdd, hda⟩ := digP_some hd1
            rw [hde] at h59
            refine Wp_seq_region ?_
            refine qM (P6 b 0) rfl ?_
            refine WpL_enter rfl rfl (by decide) (r_callF (vs := [(P6 b 0)]) Tryz.func122 nm122 bd122 rfl) (sdigit_c _ b d q5 h59 hdd) ?_
            rintro _ w69 ⟨rfl, h69, X69⟩
            replace Bo := X69.keep (fun hh => by omega) Bo
            replace Bx := X69.keep (fun hh => by omega) Bx
            replace E := E.trans X69
            replace hX := ReIn.chg X69 (fun y hy hm => by have h8 := hy.1; omega) x hX
            refine qA (I6 ((d.toNat - 48 : Nat) : Int)) rfl ?_
            refine WpL_nil (Wp_seq_region ?_)
            refine qM (I6 ((d.toNat - 48 : Nat) : Int)) rfl ?_
            refine qA (I6 ((d.toNat - 48 : Nat) : Int)) rfl ?_
            refine WpL_nil (Wp_seq (Wp_seq_region ?_))
            refine qM (P6 b 0) rfl ?_
            refine WpL_enter rfl rfl (by decide) (r_callF (vs := [(P6 b 0), (.string (ByteArray.mk #[44]))]) Tryz.func78 nm78 bd78 rfl) (stake_c _ b q5 [44] h69) ?_
            rintro _ w79 ⟨rfl, h79, X79⟩
            replace Bo := X79.keep (fun hh => by omega) Bo
            replace Bx := X79.keep (fun hh => by omega) Bx
            replace E := E.trans X79
            replace hX := ReIn.chg X79 (fun y hy hm => by have h8 := hy.1; omega) x hX
            refine WpL_nil ?_
            refine Wp_cond (b := hasPrefix q5 [44]) rfl (fun h44 => ?_) (fun h44 => ?_)
            · have kh44 := h44
              have hd2 := (hor.resolve_right (fun hh => by rw [hh.1] at h44; cases h44)).2
              obtain ⟨d2, hde2, hdd2, hdc⟩ := digP_some hd2
              rw [hde2] at h79
              rw [hda, hdc] at hm2
              refine Wp_region ?_
              refine qM (P6 b 0) rfl ?_
              refine WpL_enter rfl rfl (by decide) (r_callF (vs := [(P6 b 0)]) Tryz.func122 nm122 bd122 rfl) (sdigit_c _ b d2 (125 :: r2) h79 hdd2) ?_
              rintro _ w89 ⟨rfl, h89, X89⟩
              replace Bo := X89.keep (fun hh => by omega) Bo
              replace Bx := X89.keep (fun hh => by omega) Bx
              replace E := E.trans X89
              replace hX := ReIn.chg X89 (fun y hy hm => by have h8 := hy.1; omega) x hX
              refine qA (I6 ((d2.toNat - 48 : Nat) : Int)) rfl ?_
              refine WpL_nil (thn_normal (Wp_seq_region ?_))
              refine qM (P6 b 0) rfl ?_
              refine WpL_enter rfl rfl (by decide) (r_callF (vs := [(P6 b 0), (.string (ByteArray.mk #[125]))]) Tryz.func123 nm123 bd123 rfl) (sneed_c _ b r2 125 h89) ?_
              rintro _ w99 ⟨rfl, h99, X99⟩
              replace Bo := X99.keep (fun hh => by omega) Bo
              replace Bx := X99.keep (fun hh => by omega) Bx
              replace E := E.trans X99
              replace hX := ReIn.chg X99 (fun y hy hm => by have h8 := hy.1; omega) x hX
              refine WpL_nil (Wp_region ?_)
              refine qV (r_loadAgg (vs := [(I6 x.kind), (.slice sa x.set.length sc), (.slice aa x.args.length ac), (I6 x.mn), (I6 x.mx), (.bool x.neg)]) rfl agg25 siz25 rfl (Bx.cells rfl)) ?_
              refine s_buildSlice (ps := [(0, (.agg (R6 x sa sc aa ac)))]) (c := (R6 x sa sc aa ac)) (by decide) rfl Tryz.underlying23 siz25 zer25 (by decide) (by decide) (by kernel_rfl) ?_
              intro bz wz Nz
              have Fz := Nz.ge E
              have Oz_bo := Nz.lt Bo
              have Oz_bx := Nz.lt Bx
              replace Bo := Nz.keep Bo
              replace Bx := Nz.keep Bx
              replace h99 := StR.ext h99 Nz.ext
              replace hX := ReIn.ext Nz.ext x hX
              replace E := E.ext Nz.ext
              have Bz := Nz.blk
              refine qM (I6 ((d.toNat - 48 : Nat) : Int)) rfl ?_
              refine qM (I6 ((d2.toNat - 48 : Nat) : Int)) rfl ?_
              refine qV (r_build (ps := [(0, (I6 6)), (2, (.slice (some ⟨bz, 0, none⟩) 1 1)), (3, (I6 ((d.toNat - 48 : Nat) : Int))), (4, (I6 ((d2.toNat - 48 : Nat) : Int)))]) (v := (.agg #[(I6 6), (.slice none 0 0), (.slice (some ⟨bz, 0, none⟩) 1 1), (I6 ((d.toNat - 48 : Nat) : Int)), (I6 ((d2.toNat - 48 : Nat) : Int)), (.bool false)])) rfl (by kernel_rfl)) ?_
              refine s_storeAgg (b := bx) (o := 0) (c' := #[(I6 6), (.slice none 0 0), (.slice (some ⟨bz, 0, none⟩) 1 1), (I6 ((d.toNat - 48 : Nat) : Int)), (I6 ((d2.toNat - 48 : Nat) : Int)), (.bool false)]) rfl rfl (by simp [Value.oneCell']) siz25 rfl Bx (by first | (simp; done) | exact Nat.le_of_ble_eq_true rfl) rfl ?_
              intro w11 S11
              replace h99 := StR.put h99 S11 (by omega)
              replace hX := ReIn.chg S11.chg (fun y hy hm => hy.2 hm) x hX
              replace Bo := S11.keep (by omega) Bo
              replace Bz := S11.keep (by omega) Bz
              replace E := S11.step E (by first | exact Or.inl (by omega) | assumption | exact Or.inr rfl | exact Or.inr (by assumption) | exact Or.inr (by simp) | exact Or.inr (by omega) | exact Or.inr (by dsimp only; omega))
              replace Bx := S11.blk
              refine WpL_nil (inB_normal (inB_normal (thn_normal ?_)))
              exact ⟨m + 1, by omega, .mk 6 [] [x] ((d.toNat - 48 : Nat) : Int) ((d2.toNat - 48 : Nat) : Int) false, r2, m, none, some ⟨bz, 0, none⟩, 0, 1, Fits.out ⟨rfl, rfl, rfl, trivial⟩, E, Bo, Bx, h99, ReIn.of (set := []) (args := [x]) (SlIn.nil _ _ _ _ _) (by simp) (.inr ⟨_, 0, ⟨by omega, by omega⟩, rfl, ResIn.one (Bz.cells rfl) hX⟩), hm2, rfl⟩
            · have kh44 := h44
              obtain ⟨hn4, hca, hq5⟩ := hor.resolve_left (fun hh => by rw [hh.1] at h44; cases h44)
              rw [trim_no hn4, hq5] at h79
              rw [hca, hda] at hm2
              refine Wp_skip (thn_normal (Wp_seq_region ?_))
              refine qM (P6 b 0) rfl ?_
              refine WpL_enter rfl rfl (by decide) (r_callF (vs := [(P6 b 0), (.string (ByteArray.mk #[125]))]) Tryz.func123 nm123 bd123 rfl) (sneed_c _ b r2 125 h79) ?_
              rintro _ w99 ⟨rfl, h99, X99⟩
              replace Bo := X99.keep (fun hh => by omega) Bo
              replace Bx := X99.keep (fun hh => by omega) Bx
              replace E := E.trans X99
              replace hX := ReIn.chg X99 (fun y hy hm => by have h8 := hy.1; omega) x hX
              refine WpL_nil (Wp_region ?_)
              refine qV (r_loadAgg (vs := [(I6 x.kind), (.slice sa x.set.length sc), (.slice aa x.args.length ac), (I6 x.mn), (I6 x.mx), (.bool x.neg)]) rfl agg25 siz25 rfl (Bx.cells rfl)) ?_
              refine s_buildSlice (ps := [(0, (.agg (R6 x sa sc aa ac)))]) (c := (R6 x sa sc aa ac)) (by decide) rfl Tryz.underlying23 siz25 zer25 (by decide) (by decide) (by kernel_rfl) ?_
              intro bz wz Nz
              have Fz := Nz.ge E
              have Oz_bo := Nz.lt Bo
              have Oz_bx := Nz.lt Bx
              replace Bo := Nz.keep Bo
              replace Bx := Nz.keep Bx
              replace h99 := StR.ext h99 Nz.ext
              replace hX := ReIn.ext Nz.ext x hX
              replace E := E.ext Nz.ext
              have Bz := Nz.blk
              refine qM (I6 ((d.toNat - 48 : Nat) : Int)) rfl ?_
              refine qM (I6 ((d.toNat - 48 : Nat) : Int)) rfl ?_
              refine qV (r_build (ps := [(0, (I6 6)), (2, (.slice (some ⟨bz, 0, none⟩) 1 1)), (3, (I6 ((d.toNat - 48 : Nat) : Int))), (4, (I6 ((d.toNat - 48 : Nat) : Int)))]) (v := (.agg #[(I6 6), (.slice none 0 0), (.slice (some ⟨bz, 0, none⟩) 1 1), (I6 ((d.toNat - 48 : Nat) : Int)), (I6 ((d.toNat - 48 : Nat) : Int)), (.bool false)])) rfl (by kernel_rfl)) ?_
              refine s_storeAgg (b := bx) (o := 0) (c' := #[(I6 6), (.slice none 0 0), (.slice (some ⟨bz, 0, none⟩) 1 1), (I6 ((d.toNat - 48 : Nat) : Int)), (I6 ((d.toNat - 48 : Nat) : Int)), (.bool false)]) rfl rfl (by simp [Value.oneCell']) siz25 rfl Bx (by first | (simp; done) | exact Nat.le_of_ble_eq_true rfl) rfl ?_
              intro w12 S12
              replace h99 := StR.put h99 S12 (by omega)
              replace hX := ReIn.chg S12.chg (fun y hy hm => hy.2 hm) x hX
              replace Bo := S12.keep (by omega) Bo
              replace Bz := S12.keep (by omega) Bz
              replace E := S12.step E (by first | exact Or.inl (by omega) | assumption | exact Or.inr rfl | exact Or.inr (by assumption) | exact Or.inr (by simp) | exact Or.inr (by omega) | exact Or.inr (by dsimp only; omega))
              replace Bx := S12.blk
              refine WpL_nil (inB_normal (inB_normal (thn_normal ?_)))
              exact ⟨m + 1, by omega, .mk 6 [] [x] ((d.toNat - 48 : Nat) : Int) ((d.toNat - 48 : Nat) : Int) false, r2, m, none, some ⟨bz, 0, none⟩, 0, 1, Fits.out ⟨rfl, rfl, rfl, trivial⟩, E, Bo, Bx, h99, ReIn.of (set := []) (args := [x]) (SlIn.nil _ _ _ _ _) (by simp) (.inr ⟨_, 0, ⟨by omega, by omega⟩, rfl, ResIn.one (Bz.cells rfl) hX⟩), hm2, rfl⟩
          · have kh123 := h123
            rw [if_neg (by rw [h123]; decide)] at hm
            have hmt : x = t ∧ q = r := by cases hm; exact ⟨rfl, rfl⟩
            rw [trim_no h123] at h59
            refine Wp_seq_region ?_
            refine qV (r_loadAgg (vs := [(I6 x.kind), (.slice sa x.set.length sc), (.slice aa x.args.length ac), (I6 x.mn), (I6 x.mx), (.bool x.neg)]) rfl agg25 siz25 rfl (Bx.cells rfl)) ?_
            refine s_storeAgg (b := bo) (o := 0) (c' := (R6 x sa sc aa ac)) rfl rfl (by simp [Value.oneCell']) siz25 rfl Bo (by first | (simp; done) | exact Nat.le_of_ble_eq_true rfl) rfl ?_
            intro w13 S13
            replace h59 := StR.put h59 S13 (by omega)
            replace hX := ReIn.chg S13.chg (fun y hy hm => by have h8 := hy.1; rcases hm with rfl; omega) x hX
            replace Bx := S13.keep (by omega) Bx
            replace E := S13.step E (by first | exact Or.inl (by omega) | assumption | exact Or.inr rfl | exact Or.inr (by assumption) | exact Or.inr (by simp) | exact Or.inr (by omega) | exact Or.inr (by dsimp only; omega))
            replace Bo := S13.blk
            refine WpL_nil (Wp_ret (inB_ret (inB_ret (thn_ret (inB_ret ?_)))))
            refine fin_agg Tryz.results101 (vs := [(.int .i64 x.kind), (.slice sa x.set.length sc), (.slice aa x.args.length ac), (.int .i64 x.mn), (.int .i64 x.mx), (.bool x.neg)]) (b := bo) rfl agg25 siz25 rfl (Bo.cells rfl) ?_
            exact ⟨by rw [← hmt.1, ← hmt.2]; exact ⟨_, _, _, _, rfl, ReIn.mono (fun y hy => by have h8 := hy.1; omega) x hX, h59⟩, E⟩
end Go.Proofs
namespace Go.Eng
open Go
set_option linter.unusedSectionVars false
variable [Drw]
section
variable {P : Program} {N : Nat} {Q : Post} {σ : Env} {w : World} {K : Env → World → Prop} {ops : Array Oper} {rest : List Oper} {d : Nat} {ty : TypeId} {pos : String} {af : Array Edge} {t : TypeId} {x y : Operand} {dst : Option Tmp} {g : Option (Nat × Bool)}
theorem s_convB {s e : TypeId} {l : List UInt8} (hN : d < N) (hs : P.underlying s = some .string) (ht : P.underlying t = some (.slice e)) (he : P.underlying e = some (.int .u8)) (hx : ev σ x = .string (bS l))
  (k : ∀ b w' c, b = w.heap.size → Ext w w' → (∀ i u, l[i]? = some u → w'.cell? ⟨b, i, none⟩ = some (.int .u8 ((u.toNat : Nat) : Int))) → WpL P N ops K Q rest (upd σ d (.slice (some ⟨b, 0, none⟩) l.length c)) w') :
  WpL P N ops K Q (⟨some d, .convert s t x, ty, pos, af, none⟩ :: rest) σ w := by
 have hX : Ext w (Lib.bytesWorld w e (bS l)) := ⟨rfl, rfl, rfl, .of (Nat.le_succ _), by rw [Lib.bytesWorld_size]; omega, fun b hb _ => Lib.bytesWorld_at_old w e (bS l) b hb⟩
 refine WpL_val (v := .slice (some ⟨w.heap.size, 0, none⟩) l.length (grownCap w (bS l).size 0 e)) (w' := Lib.bytesWorld w e (bS l)) rfl rfl hN ?_ (k _ _ _ rfl hX fun i u hu => ?_)
 ·have h := Lib.run_convert_string_bytes (P := P) w s t e (bS l) hs ht he
  simp only [execOp, hx, Sem.run_bind, h, Result.andThen_ok, bS_size]
  rfl
 ·obtain ⟨hi, hu2⟩ := List.getElem?_eq_some_iff.1 hu
  rw [Lib.bytesWorld_cell w e (bS l) i (by rw [bS_size]; exact hi)]
  simp [bS, List.getD, hu]
theorem equalIn_nil {ms : Array (String × TypeId)} (d : Nat) (hu : P.underlying t = some (.interface ms)) : (Op.equalIn (d + 1) t .nilIface .nilIface).run P w = .ok true w := by
 simp only [Op.equalIn, Sem.run_bind, run_underlying hu, Result.andThen_ok]; rfl
theorem r_neqNI {t' : TypeId} {ms : Array (String × TypeId)} (hu : P.underlying t = some (.interface ms)) (hx : ev σ x = .nilIface) : (execOp (ev σ) ⟨dst, .binOp .neq t x (.const .nilIface) t', ty, pos, af, g⟩).run P w = .ok (.value (.bool false)) w := by
 have h := equalIn_nil (P := P) (w := w) 9999 hu
 have hy : ev σ (.const .nilIface) = .nilIface := rfl
 simp only [execOp, hx, hy, eqGuard, binOp, Op.equal, Op.maxDepth]; simp [h]
end
end Go.Eng
namespace Go.Proofs
open Go Go.Eng Go.Sort Go.Lib
set_option linter.unusedSectionVars false
variable [Drw]
set_option maxRecDepth 100000
def HxOk (d : UInt8) : Prop := (48 ≤ d.toNat ∧ d.toNat ≤ 57) ∨ (97 ≤ d.toNat ∧ d.toNat ≤ 102)
def hxV (d : UInt8) : Nat := if d.toNat ≤ 57 then d.toNat - 48 else d.toNat - 87
def hexV (l : Bys) : Nat := l.foldl (fun a d => a * 16 + hxV d) 0
theorem hxV_lt {d : UInt8} (h : HxOk d) : hxV d < 16 := by unfold hxV; rcases h with h | h <;> split <;> omega
theorem hexV_snoc (l : Bys) (d : UInt8) : hexV (l ++ [d]) = hexV l * 16 + hxV d := by unfold hexV; simp
theorem hexV_take {l : Bys} {i : Nat} {d : UInt8} (h : l[i]? = some d) : hexV (l.take (i + 1)) = hexV (l.take i) * 16 + hxV d := by
 rw [List.take_add_one, h]; exact hexV_snoc _ _
theorem hexV_lt : ∀ l : Bys, (∀ d ∈ l, HxOk d) → hexV l < 16 ^ l.length := by
  intro l h
  have key : ∀ i, i ≤ l.length → hexV (l.take i) < 16 ^ i := by
    intro i
    induction i with
    | zero => intro _; exact Nat.one_pos
    | succ i ih =>
      intro hi
      have h1 := ih (by omega)
      have h3 : l[i]? = some l[i] := List.getElem?_eq_getElem (by omega)
      have h2 := hxV_lt (h _ (List.mem_of_getElem? h3))
      rw [hexV_take h3, Nat.pow_succ]
      omega
  have h4 := key l.length (Nat.le_refl _)
  rwa [List.take_length] at h4
theorem hexV_small {l : Bys} (h : ∀ d ∈ l, HxOk d) (h6 : l.length ≤ 6) : hexV l < 16777216 :=
 Nat.lt_of_lt_of_le (hexV_lt l h) (Nat.pow_le_pow_right (by decide : 16 > 0) h6)
theorem or32 {P : Program} {w : World} (n : Nat) (h : 97 ≤ n ∧ n ≤ 102) : (Op.intBits .or .u8 ((n : Nat) : Int) 32).run P w = .ok (.int .u8 ((n : Nat) : Int)) w := by
 have : n = 97 ∨ n = 98 ∨ n = 99 ∨ n = 100 ∨ n = 101 ∨ n = 102 := by omega
 rcases this with rfl | rfl | rfl | rfl | rfl | rfl <;> rfl
theorem lower_c (w0 : World) (n : Nat) (h : 97 ≤ n ∧ n ≤ 102) : Ret Tryz.prog 196 #[.int .u8 ((n : Nat) : Int)] w0 fun r w => r = .int .u8 ((n : Nat) : Int) ∧ Ext w0 w := by
 refine Ret_of Tryz.func196 rfl Tryz.ntmps196 (Nat.le_of_ble_eq_true rfl) ?_
 have E : Chg none1 w0 w0 := Chg.refl _ _
 refine Wp_seq_region ?_
 refine qA (.int .u8 0) rfl ?_
 refine WpL_nil (Wp_seq_region ?_)
 refine qM (.int .u8 (n : Int)) rfl ?_
 refine qV (r_bits (k := .u8) (a := (n : Int)) (b := 32) (v := .int .u8 (n : Int)) rfl rfl (by simp) (or32 n h)) ?_
 refine qA (.int .u8 (n : Int)) rfl ?_
 refine WpL_nil (Wp_ret ?_)
 refine fin_tmp Tryz.results196 (v := (.int .u8 ((n : Nat) : Int))) rfl ?_
 exact ⟨rfl, E⟩
theorem puint_c (w0 : World) (l : Bys) (hl : ∀ d ∈ l, HxOk d) (h0 : l ≠ []) (h6 : l.length ≤ 6) : Ret Tryz.prog 182 #[.string (bS l), .int .i64 16, .int .i64 64] w0 fun r w => r = .tuple #[.int .u64 ((hexV l : Nat) : Int), .nilIface] ∧ Ext w0 w := by
 refine Ret_of Tryz.func182 rfl Tryz.ntmps182 (Nat.le_of_ble_eq_true rfl) ?_
 have E : Chg none1 w0 w0 := Chg.refl _ _
 refine Wp_seq_region ?_
 refine qA (.int .u64 0) rfl ?_
 refine qA .nilIface rfl ?_
 refine WpL_nil (Wp_seq (Wp_seq_region ?_))
 refine qM (.string (bS l)) rfl ?_
 refine WpL_val (v := (.bool false)) rfl rfl (by decide) ((r_eqlS (l := l) (m := []) rfl rfl).trans (by rw [decide_eq_false h0])) ?_
 refine WpL_nil ?_
 refine Wp_cond_false rfl ?_
 refine Wp_skip (thn_normal (Wp_seq_region ?_))
 refine qM (I6 16) rfl ?_
 refine qV (r_eql (k := .i64) (a := 16) (b := 0) rfl rfl) ?_
 refine qA (.bool false) rfl ?_
 refine WpL_nil (Wp_seq_region ?_)
 refine qM (.string (bS l)) rfl ?_
 refine qA (.string (bS l)) rfl ?_
 refine WpL_nil (Wp_seq (Wp_block (Wp_seq_region ?_)))
 refine qM (I6 16) rfl ?_
 refine qV (r_leq (k := .i64) (a := 2) (b := 16) rfl rfl) ?_
 refine qM (.bool true) rfl ?_
 refine WpL_guard_yes (oj := _) rfl rfl (by decide) rfl ?_
 refine qM (I6 16) rfl ?_
 refine WpL_guard_yes (oj := _) rfl rfl (by decide) rfl ?_
 refine qV (r_leq (k := .i64) (a := 16) (b := 36) rfl rfl) ?_
 refine qV (r_pick (b := true) (v := (.bool true)) rfl rfl) ?_
 refine qA (.bool true) rfl ?_
 refine WpL_nil ?_
 refine Wp_cond_true rfl ?_
 refine Wp_skip (inB_normal (thn_normal (Wp_seq (Wp_seq_region ?_))))
 refine qM (I6 64) rfl ?_
 refine qV (r_eql (k := .i64) (a := 64) (b := 0) rfl rfl) ?_
 refine WpL_nil ?_
 refine Wp_cond_false rfl ?_
 refine Wp_seq_region ?_
 refine qM (I6 64) rfl ?_
 refine qV (r_lss (k := .i64) (a := 64) (b := 0) rfl rfl) ?_
 refine qM (.bool false) rfl ?_
 refine WpL_guard_yes (oj := _) rfl rfl (by decide) rfl ?_
 refine qM (I6 64) rfl ?_
 refine WpL_guard_yes (oj := _) rfl rfl (by decide) rfl ?_
 refine qV (r_gtr (k := .i64) (a := 64) (b := 64) rfl rfl) ?_
 refine qV (r_pick (b := false) (v := (.bool false)) rfl rfl) ?_
 refine WpL_nil ?_
 refine Wp_cond_false rfl ?_
 refine Wp_skip (thn_normal (Wp_seq_region ?_))
 refine qA (.int .u64 0) rfl ?_
 refine WpL_nil (Wp_seq (Wp_seq_region ?_))
 refine qM (I6 16) rfl ?_
 refine WpL_nil (Wp_block (Wp_seq_region ?_))
 refine qV (r_eql (k := .i64) (a := 16) (b := 10) rfl rfl) ?_
 refine qA (.bool false) rfl ?_
 refine WpL_nil ?_
 refine Wp_cond_false rfl ?_
 refine Wp_seq_region ?_
 refine qV (r_eql (k := .i64) (a := 16) (b := 16) rfl rfl) ?_
 refine qA (.bool true) rfl ?_
 refine WpL_nil ?_
 refine Wp_cond_true rfl ?_
 refine Wp_region ?_
 refine qA (.int .u64 1152921504606846976) rfl ?_
 refine WpL_nil (inB_normal (thn_normal (Wp_seq_region ?_)))
 refine qM (I6 64) rfl ?_
 refine qV (r_convInt (k := .i64) (k' := .u64) (n := 64) (c := 64) ⟨_, Tryz.underlying3⟩ Tryz.underlying84 rfl (by decide)) ?_
 refine qV (r_shl (k := .u64) (a := 1) (b := 64) (c := 0) (k' := .u64) rfl rfl (by omega) (by decide)) ?_
 refine qV (r_sub (k := .u64) (a := 0) (b := 1) (c := 18446744073709551615) rfl rfl (by decide)) ?_
 refine qA (.int .u64 18446744073709551615) rfl ?_
 refine WpL_nil (Wp_seq_region ?_)
 refine qA (.bool false) rfl ?_
 refine WpL_nil (Wp_seq_region ?_)
 refine qA (.int .u64 0) rfl ?_
 refine WpL_nil (Wp_seq (Wp_seq_region ?_))
 refine qM (.string (bS l)) rfl ?_
 refine s_convB (l := l) (by decide) Tryz.underlying9 Tryz.underlying138 Tryz.underlying5 rfl ?_
 intro b1 w1 c1 hb1 X1 hc
 replace E := E.ext X1
 have E2 : Chg none1 w1 w1 := Chg.refl _ _
 refine qV (r_lenSlice (ad := some ⟨b1, 0, none⟩) (n := l.length) (cap := c1) Tryz.underlying138 rfl) ?_
 refine qM (I6 0) rfl ?_
 refine WpL_nil (Wp_block ?_)
 refine Wp_loop (fun nn_ σ W2 => ∃ (i : Nat), (∃ jj_, σ = upds jj_ [(1, (I6 16)), (8, (.bool false)), (9, (.string (bS l))), (10, (.int .u64 1152921504606846976)), (11, (.int .u64 18446744073709551615)), (99, (.slice (some ⟨b1, 0, none⟩) l.length c1)), (100, (I6 (l.length : Int))), (101, (I6 (i : Int))), (12, (.bool false)), (13, (.int .u64 ((hexV (l.take i) : Nat) : Int)))]) ∧ Chg none1 w0 W2 ∧ Chg none1 w1 W2 ∧ (i ≤ l.length) ∧ nn_ = l.length - i) (n := l.length - 0) ?_ ?_
 ·exact ⟨0, Fits.out ⟨rfl, rfl, rfl, rfl, rfl, rfl, rfl, rfl, rfl, rfl, trivial⟩, E, E2, Nat.zero_le _, rfl⟩
 ·clear E E2
  rintro _ _ W2 ⟨i, ⟨j2, rfl⟩, E, E2, hi, rfl⟩
  refine Wp_seq_region ?_
  refine qV (r_lss (k := .i64) (a := (i : Int)) (b := (l.length : Int)) rfl rfl) ?_
  refine WpL_nil (Wp_seq ?_)
  refine Wp_cond (b := decide (((i : Int) : Int) < (l.length : Int))) rfl (fun hlt => ?_) (fun hlt => ?_)
  ·have khlt := hlt
   replace hlt := of_decide_eq_true hlt
   have hlt2 : i < l.length := by omega
   obtain ⟨d, hd⟩ : ∃ d, l[i]? = some d := ⟨_, List.getElem?_eq_getElem hlt2⟩
   have hdo := hl d (List.mem_of_getElem? hd)
   have hsm := hexV_small (l := l.take i) (fun x hx => hl x (List.mem_of_mem_take hx)) (by rw [List.length_take]; omega)
   have htk := hexV_take hd
   have hv := hxV_lt hdo
   refine Wp_skip (thn_normal (Wp_seq (Wp_block (Wp_seq_region ?_))))
   refine qV (r_indexSlice (b := b1) (o := 0) (len := l.length) (cap := c1) (i := i) (o' := 0 + i) rfl rfl (by omega) Tryz.underlying138 siz5 (by omega) (by omega)) ?_
   refine qV (r_load (v := (.int .u8 (d.toNat : Int))) rfl flat5 (E2.cell (fun f => f) (by simpa using hc i d hd))) ?_
   refine qA (.int .u8 (d.toNat : Int)) rfl ?_
   refine WpL_nil (Wp_seq_region ?_)
   refine qA (.int .u8 0) rfl ?_
   refine WpL_nil (Wp_seq (Wp_block (Wp_seq_region ?_)))
   refine qM (.int .u8 (d.toNat : Int)) rfl ?_
   obtain ⟨e4, he4⟩ : ∃ e, (decide ((((d.toNat : Nat) : Int) : Int) = 95)) = e := ⟨_, rfl⟩
   refine qV ((r_eql (k := .u8) (a := (d.toNat : Int)) (b := 95) rfl rfl).trans (by rw [he4]; try rfl)) ?_
   refine qM (.bool e4) rfl ?_
   refine qG (.bool e4) (yU e4 (.bool false)) (by cases e4 <;> first | exact gA | exact gB | exact .inl ⟨rfl, r_move (v := (.bool false)) rfl⟩) ?_
   obtain ⟨e5, he5⟩ : ∃ e, (e4 && false) = e := ⟨_, rfl⟩
   refine qV (r_pick (b := e4) (v := .bool e5) rfl (by rw [← he5]; cases e4 <;> rfl)) ?_
   refine qA (.bool e5) rfl ?_
   refine WpL_nil ?_
   subst he5
   subst he4
   have hc6 : (((decide ((((d.toNat : Nat) : Int) : Int) = 95)) && false)) = false := by rw [Bool.and_false]
   refine Wp_cond_false (congrArg Value.bool hc6) ?_
   refine Wp_seq_region ?_
   refine qM (.int .u8 (d.toNat : Int)) rfl ?_
   obtain ⟨e7, he7⟩ : ∃ e, (decide ((48 : Int) ≤ ((d.toNat : Nat) : Int))) = e := ⟨_, rfl⟩
   refine qV ((r_leq (k := .u8) (a := 48) (b := (d.toNat : Int)) rfl rfl).trans (by rw [he7]; try rfl)) ?_
   refine qM (.bool e7) rfl ?_
   refine qG (.bool e7) (yU e7 (.int .u8 (d.toNat : Int))) (by cases e7 <;> first | exact gA | exact gB | exact .inl ⟨rfl, r_move (v := (.int .u8 (d.toNat : Int))) rfl⟩) ?_
   obtain ⟨e8, he8⟩ : ∃ e, (decide ((((d.toNat : Nat) : Int) : Int) ≤ 57)) = e := ⟨_, rfl⟩
   refine qG (.bool e7) (yU e7 (.bool e8)) (by cases e7 <;> first | exact gA | exact gB | exact .inl ⟨rfl, (r_leq (k := .u8) (a := (d.toNat : Int)) (b := 57) rfl rfl).trans (by rw [he8]; try rfl)⟩) ?_
   obtain ⟨e9, he9⟩ : ∃ e, (e7 && e8) = e := ⟨_, rfl⟩
   refine qV (r_pick (b := e7) (v := .bool e9) rfl (by rw [← he9]; cases e7 <;> rfl)) ?_
   refine qA (.bool e9) rfl ?_
   refine WpL_nil ?_
   subst he9
   subst he8
   subst he7
   refine Wp_cond (b := ((decide ((48 : Int) ≤ (d.toNat : Int))) && (decide (((d.toNat : Int) : Int) ≤ 57)))) rfl (fun h57 => ?_) (fun h57 => ?_)
   ·have kh57 := h57
    have h57b : d.toNat ≤ 57 := by simp only [Bool.and_eq_true, decide_eq_true_eq] at h57; omega
    have hvd : hxV d = d.toNat - 48 := by unfold hxV; rw [if_pos h57b]
    have hd48 : 48 ≤ d.toNat := by rcases hdo with hdo | hdo <;> omega
    refine Wp_region ?_
    refine qM (.int .u8 (d.toNat : Int)) rfl ?_
    refine qV (r_sub (k := .u8) (a := (d.toNat : Int)) (b := 48) (c := ((hxV d : Nat) : Int)) rfl rfl (by rw [wU8 (by omega)]; omega)) ?_
    refine qA (.int .u8 ((hxV d : Nat) : Int)) rfl ?_
    refine WpL_nil (inB_normal (thn_normal (Wp_seq (Wp_seq_region ?_))))
    refine qM (.int .u8 ((hxV d : Nat) : Int)) rfl ?_
    refine qM (I6 16) rfl ?_
    refine qV (r_convInt (k := .i64) (k' := .u8) (n := 16) (c := 16) ⟨_, Tryz.underlying3⟩ Tryz.underlying5 rfl (by decide)) ?_
    refine qV (r_geq (k := .u8) (a := ((hxV d : Nat) : Int)) (b := 16) rfl rfl) ?_
    refine WpL_nil ?_
    have hc11 : (decide ((16 : Int) ≤ ((hxV d : Nat) : Int))) = false := decide_eq_false (by omega)
    refine Wp_cond_false (congrArg Value.bool hc11) ?_
    refine Wp_skip (thn_normal (Wp_seq (Wp_seq_region ?_)))
    refine qM (.int .u64 ((hexV (l.take i) : Nat) : Int)) rfl ?_
    refine qM (.int .u64 1152921504606846976) rfl ?_
    refine qV (r_geq (k := .u64) (a := ((hexV (l.take i) : Nat) : Int)) (b := 1152921504606846976) rfl rfl) ?_
    refine WpL_nil ?_
    have hc12 : (decide ((1152921504606846976 : Int) ≤ ((hexV (l.take i) : Nat) : Int))) = false := decide_eq_false (by omega)
    refine Wp_cond_false (congrArg Value.bool hc12) ?_
    refine Wp_skip (thn_normal (Wp_seq_region ?_))
    refine qM (.int .u64 ((hexV (l.take i) : Nat) : Int)) rfl ?_
    refine qM (I6 16) rfl ?_
    refine qV (r_convInt (k := .i64) (k' := .u64) (n := 16) (c := 16) ⟨_, Tryz.underlying3⟩ Tryz.underlying113 rfl (by decide)) ?_
    refine qV (r_mul (k := .u64) (a := ((hexV (l.take i) : Nat) : Int)) (b := 16) (c := ((hexV (l.take i) : Nat) : Int) * 16) rfl rfl (wU64 (by omega))) ?_
    refine qA (.int .u64 (((hexV (l.take i) : Nat) : Int) * 16)) rfl ?_
    refine WpL_nil (Wp_seq_region ?_)
    refine qM (.int .u64 (((hexV (l.take i) : Nat) : Int) * 16)) rfl ?_
    refine qM (.int .u8 ((hxV d : Nat) : Int)) rfl ?_
    refine qV (r_convInt (k := .u8) (k' := .u64) (n := ((hxV d : Nat) : Int)) (c := ((hxV d : Nat) : Int)) ⟨_, Tryz.underlying5⟩ Tryz.underlying113 rfl (wU64 (by omega))) ?_
    refine qV (r_add (k := .u64) (a := ((hexV (l.take i) : Nat) : Int) * 16) (b := ((hxV d : Nat) : Int)) (c := ((hexV (l.take (i + 1)) : Nat) : Int)) rfl rfl (by rw [wU64 (by omega)]; omega)) ?_
    refine qA (.int .u64 ((hexV (l.take (i + 1)) : Nat) : Int)) rfl ?_
    refine WpL_nil (Wp_seq (Wp_seq_region ?_))
    refine qM (.int .u64 ((hexV (l.take (i + 1)) : Nat) : Int)) rfl ?_
    refine qM (.int .u64 (((hexV (l.take i) : Nat) : Int) * 16)) rfl ?_
    obtain ⟨e13, he13⟩ : ∃ e, (decide ((((hexV (l.take (i + 1)) : Nat) : Int) : Int) < ((hexV (l.take i) : Nat) : Int) * 16)) = e := ⟨_, rfl⟩
    refine qV ((r_lss (k := .u64) (a := ((hexV (l.take (i + 1)) : Nat) : Int)) (b := ((hexV (l.take i) : Nat) : Int) * 16) rfl rfl).trans (by rw [he13]; try rfl)) ?_
    refine qM (.bool e13) rfl ?_
    refine qG (.bool e13) (nU e13 (.int .u64 ((hexV (l.take (i + 1)) : Nat) : Int))) (by cases e13 <;> first | exact gA | exact gB | exact .inl ⟨rfl, r_move (v := (.int .u64 ((hexV (l.take (i + 1)) : Nat) : Int))) rfl⟩) ?_
    refine qG (.bool e13) (nU e13 (.int .u64 18446744073709551615)) (by cases e13 <;> first | exact gA | exact gB | exact .inl ⟨rfl, r_move (v := (.int .u64 18446744073709551615)) rfl⟩) ?_
    obtain ⟨e14, he14⟩ : ∃ e, (decide ((18446744073709551615 : Int) < ((hexV (l.take (i + 1)) : Nat) : Int))) = e := ⟨_, rfl⟩
    refine qG (.bool e13) (nU e13 (.bool e14)) (by cases e13 <;> first | exact gA | exact gB | exact .inl ⟨rfl, (r_gtr (k := .u64) (a := ((hexV (l.take (i + 1)) : Nat) : Int)) (b := 18446744073709551615) rfl rfl).trans (by rw [he14]; try rfl)⟩) ?_
    obtain ⟨e15, he15⟩ : ∃ e, (e13 || e14) = e := ⟨_, rfl⟩
    refine qV (r_pick (b := e13) (v := .bool e15) rfl (by rw [← he15]; cases e13 <;> rfl)) ?_
    refine WpL_nil ?_
    subst he15
    subst he14
    subst he13
    have hc16 : (((decide ((((hexV (l.take (i + 1)) : Nat) : Int) : Int) < ((hexV (l.take i) : Nat) : Int) * 16)) || (decide ((18446744073709551615 : Int) < ((hexV (l.take (i + 1)) : Nat) : Int))))) = false := by rw [decide_eq_false (by omega), decide_eq_false (by omega)]; rfl
    refine Wp_cond_false (congrArg Value.bool hc16) ?_
    refine Wp_skip (thn_normal (Wp_region ?_))
    refine qM (.int .u64 ((hexV (l.take (i + 1)) : Nat) : Int)) rfl ?_
    refine qA (.int .u64 ((hexV (l.take (i + 1)) : Nat) : Int)) rfl ?_
    refine WpL_nil (inB_normal (thn_normal (Wp_region ?_)))
    refine qV (r_add (k := .i64) (a := (i : Int)) (b := 1) (c := (i : Int) + 1) rfl rfl (wI64 (by omega))) ?_
    refine qM (I6 ((i : Int) + 1)) rfl ?_
    refine WpL_nil (thn_normal ?_)
    exact ⟨l.length - (i + 1), by omega, i + 1, Fits.out ⟨rfl, rfl, rfl, rfl, rfl, rfl, rfl, rfl, rfl, rfl, trivial⟩, E, E2, (by omega), rfl⟩
   ·have kh57 := h57
    have h57b : ¬ d.toNat ≤ 57 := fun hh => by rw [decide_eq_true (by rcases hdo with hdo | hdo <;> omega), decide_eq_true (by omega)] at h57; cases h57
    have hdl : 97 ≤ d.toNat ∧ d.toNat ≤ 102 := by rcases hdo with hdo | hdo <;> omega
    have hvd : hxV d = d.toNat - 87 := by unfold hxV; rw [if_neg h57b]
    refine Wp_seq_region ?_
    refine qM (.int .u8 (d.toNat : Int)) rfl ?_
    refine WpL_enter rfl rfl (by decide) (r_callF (vs := [(.int .u8 (d.toNat : Int))]) Tryz.func196 nm196 bd196 rfl) (lower_c _ _ hdl) ?_
    rintro _ w19 ⟨rfl, X19⟩
    replace E := E.ext X19
    replace E2 := E2.ext X19
    refine qV (r_leq (k := .u8) (a := 97) (b := (d.toNat : Int)) rfl rfl) ?_
    refine qM (.bool (decide ((97 : Int) ≤ (d.toNat : Int)))) rfl ?_
    have hg17 : (decide ((97 : Int) ≤ ((d.toNat : Nat) : Int))) = true := decide_eq_true (by omega)
    refine WpL_guard_yes (oj := _) rfl rfl (by decide) (congrArg Value.bool hg17) ?_
    refine qM (.int .u8 (d.toNat : Int)) rfl ?_
    refine WpL_guard_yes (oj := _) rfl rfl (by decide) (congrArg Value.bool hg17) ?_
    refine WpL_enter rfl rfl (by decide) (r_callF (vs := [(.int .u8 (d.toNat : Int))]) Tryz.func196 nm196 bd196 rfl) (lower_c _ _ hdl) ?_
    rintro _ w29 ⟨rfl, X29⟩
    replace E := E.ext X29
    replace E2 := E2.ext X29
    refine WpL_guard_yes (oj := _) rfl rfl (by decide) (congrArg Value.bool hg17) ?_
    refine qV (r_leq (k := .u8) (a := (d.toNat : Int)) (b := 122) rfl rfl) ?_
    refine qV (r_pick (b := decide ((97 : Int) ≤ (d.toNat : Int))) (v := (.bool (decide (((d.toNat : Int) : Int) ≤ 122)))) rfl (by rw [hg17]; rfl)) ?_
    refine qA (.bool (decide (((d.toNat : Int) : Int) ≤ 122))) rfl ?_
    refine WpL_nil ?_
    have hc18 : (decide ((((d.toNat : Nat) : Int) : Int) ≤ 122)) = true := decide_eq_true (by omega)
    refine Wp_cond_true (congrArg Value.bool hc18) ?_
    refine Wp_region ?_
    refine qM (.int .u8 (d.toNat : Int)) rfl ?_
    refine WpL_enter rfl rfl (by decide) (r_callF (vs := [(.int .u8 (d.toNat : Int))]) Tryz.func196 nm196 bd196 rfl) (lower_c _ _ hdl) ?_
    rintro _ w39 ⟨rfl, X39⟩
    replace E := E.ext X39
    replace E2 := E2.ext X39
    refine qV (r_sub (k := .u8) (a := (d.toNat : Int)) (b := 97) (c := (d.toNat : Int) - 97) rfl rfl (wU8 (by omega))) ?_
    refine qV (r_add (k := .u8) (a := (d.toNat : Int) - 97) (b := 10) (c := ((hxV d : Nat) : Int)) rfl rfl (by rw [wU8 (by omega)]; omega)) ?_
    refine qA (.int .u8 ((hxV d : Nat) : Int)) rfl ?_
    refine WpL_nil (inB_normal (thn_normal (Wp_seq (Wp_seq_region ?_))))
    refine qM (.int .u8 ((hxV d : Nat) : Int)) rfl ?_
    refine qM (I6 16) rfl ?_
    refine qV (r_convInt (k := .i64) (k' := .u8) (n := 16) (c := 16) ⟨_, Tryz.underlying3⟩ Tryz.underlying5 rfl (by decide)) ?_
    refine qV (r_geq (k := .u8) (a := ((hxV d : Nat) : Int)) (b := 16) rfl rfl) ?_
    refine WpL_nil ?_
    have hc19 : (decide ((16 : Int) ≤ ((hxV d : Nat) : Int))) = false := decide_eq_false (by omega)
    refine Wp_cond_false (congrArg Value.bool hc19) ?_
    refine Wp_skip (thn_normal (Wp_seq (Wp_seq_region ?_)))
    refine qM (.int .u64 ((hexV (l.take i) : Nat) : Int)) rfl ?_
    refine qM (.int .u64 1152921504606846976) rfl ?_
    refine qV (r_geq (k := .u64) (a := ((hexV (l.take i) : Nat) : Int)) (b := 1152921504606846976) rfl rfl) ?_
    refine WpL_nil ?_
    have hc20 : (decide ((1152921504606846976 : Int) ≤ ((hexV (l.take i) : Nat) : Int))) = false := decide_eq_false (by omega)
    refine Wp_cond_false (congrArg Value.bool hc20) ?_
    refine Wp_skip (thn_normal (Wp_seq_region ?_))
    refine qM (.int .u64 ((hexV (l.take i) : Nat) : Int)) rfl ?_
    refine qM (I6 16) rfl ?_
    refine qV (r_convInt (k := .i64) (k' := .u64) (n := 16) (c := 16) ⟨_, Tryz.underlying3⟩ Tryz.underlying113 rfl (by decide)) ?_
    refine qV (r_mul (k := .u64) (a := ((hexV (l.take i) : Nat) : Int)) (b := 16) (c := ((hexV (l.take i) : Nat) : Int) * 16) rfl rfl (wU64 (by omega))) ?_
    refine qA (.int .u64 (((hexV (l.take i) : Nat) : Int) * 16)) rfl ?_
    refine WpL_nil (Wp_seq_region ?_)
    refine qM (.int .u64 (((hexV (l.take i) : Nat) : Int) * 16)) rfl ?_
    refine qM (.int .u8 ((hxV d : Nat) : Int)) rfl ?_
    refine qV (r_convInt (k := .u8) (k' := .u64) (n := ((hxV d : Nat) : Int)) (c := ((hxV d : Nat) : Int)) ⟨_, Tryz.underlying5⟩ Tryz.underlying113 rfl (wU64 (by omega))) ?_
    refine qV (r_add (k := .u64) (a := ((hexV (l.take i) : Nat) : Int) * 16) (b := ((hxV d : Nat) : Int)) (c := ((hexV (l.take (i + 1)) : Nat) : Int)) rfl rfl (by rw [wU64 (by omega)]; omega)) ?_
    refine qA (.int .u64 ((hexV (l.take (i + 1)) : Nat) : Int)) rfl ?_
    refine WpL_nil (Wp_seq (Wp_seq_region ?_))
    refine qM (.int .u64 ((hexV (l.take (i + 1)) : Nat) : Int)) rfl ?_
    refine qM (.int .u64 (((hexV (l.take i) : Nat) : Int) * 16)) rfl ?_
    obtain ⟨e21, he21⟩ : ∃ e, (decide ((((hexV (l.take (i + 1)) : Nat) : Int) : Int) < ((hexV (l.take i) : Nat) : Int) * 16)) = e := ⟨_, rfl⟩
    refine qV ((r_lss (k := .u64) (a := ((hexV (l.take (i + 1)) : Nat) : Int)) (b := ((hexV (l.take i) : Nat) : Int) * 16) rfl rfl).trans (by rw [he21]; try rfl)) ?_
    refine qM (.bool e21) rfl ?_
    refine qG (.bool e21) (nU e21 (.int .u64 ((hexV (l.take (i + 1)) : Nat) : Int))) (by cases e21 <;> first | exact gA | exact gB | exact .inl ⟨rfl, r_move (v := (.int .u64 ((hexV (l.take (i + 1)) : Nat) : Int))) rfl⟩) ?_
    refine qG (.bool e21) (nU e21 (.int .u64 18446744073709551615)) (by cases e21 <;> first | exact gA | exact gB | exact .inl ⟨rfl, r_move (v := (.int .u64 18446744073709551615)) rfl⟩) ?_
    obtain ⟨e22, he22⟩ : ∃ e, (decide ((18446744073709551615 : Int) < ((hexV (l.take (i + 1)) : Nat) : Int))) = e := ⟨_, rfl⟩
    refine qG (.bool e21) (nU e21 (.bool e22)) (by cases e21 <;> first | exact gA | exact gB | exact .inl ⟨rfl, (r_gtr (k := .u64) (a := ((hexV (l.take (i + 1)) : Nat) : Int)) (b := 18446744073709551615) rfl rfl).trans (by rw [he22]; try rfl)⟩) ?_
    obtain ⟨e23, he23⟩ : ∃ e, (e21 || e22) = e := ⟨_, rfl⟩
    refine qV (r_pick (b := e21) (v := .bool e23) rfl (by rw [← he23]; cases e21 <;> rfl)) ?_
    refine WpL_nil ?_
    subst he23
    subst he22
    subst he21
    have hc24 : (((decide ((((hexV (l.take (i + 1)) : Nat) : Int) : Int) < ((hexV (l.take i) : Nat) : Int) * 16)) || (decide ((18446744073709551615 : Int) < ((hexV (l.take (i + 1)) : Nat) : Int))))) = false := by rw [decide_eq_false (by omega), decide_eq_false (by omega)]; rfl
    refine Wp_cond_false (congrArg Value.bool hc24) ?_
    refine Wp_skip (thn_normal (Wp_region ?_))
    refine qM (.int .u64 ((hexV (l.take (i + 1)) : Nat) : Int)) rfl ?_
    refine qA (.int .u64 ((hexV (l.take (i + 1)) : Nat) : Int)) rfl ?_
    refine WpL_nil (inB_normal (thn_normal (Wp_region ?_)))
    refine qV (r_add (k := .i64) (a := (i : Int)) (b := 1) (c := (i : Int) + 1) rfl rfl (wI64 (by omega))) ?_
    refine qM (I6 ((i : Int) + 1)) rfl ?_
    refine WpL_nil (thn_normal ?_)
    exact ⟨l.length - (i + 1), by omega, i + 1, Fits.out ⟨rfl, rfl, rfl, rfl, rfl, rfl, rfl, rfl, rfl, rfl, trivial⟩, E, E2, (by omega), rfl⟩
  ·have khlt := hlt
   replace hlt := of_decide_eq_false hlt
   have hie : i = l.length := by omega
   refine Wp_exit (thn_exit (thn_exit (inB_here (thn_normal (Wp_seq (Wp_seq_region ?_))))))
   refine qM (.bool false) rfl ?_
   refine qM (.bool false) rfl ?_
   refine WpL_guard_no (oj := _) rfl rfl (by decide) (v := .bool false) rfl (Or.inl rfl) ?_
   refine WpL_guard_no (oj := _) rfl rfl (by decide) (v := .bool false) rfl (Or.inl rfl) ?_
   refine WpL_guard_no (oj := _) rfl rfl (by decide) (v := .bool false) rfl (Or.inl rfl) ?_
   refine qV (r_pick (b := false) (v := (.bool false)) rfl rfl) ?_
   refine WpL_nil ?_
   refine Wp_cond_false rfl ?_
   refine Wp_skip (thn_normal (Wp_seq_region ?_))
   refine qM (.int .u64 ((hexV (l.take i) : Nat) : Int)) rfl ?_
   refine qA (.int .u64 ((hexV (l.take i) : Nat) : Int)) rfl ?_
   refine qA .nilIface rfl ?_
   refine WpL_nil (Wp_ret ?_)
   refine fin_tmp2 Tryz.results182 (v := (.int .u64 ((hexV (l.take i) : Nat) : Int))) (v' := .nilIface) rfl rfl ?_
   exact ⟨by rw [hie, List.take_length], E⟩
theorem ipint_c (w0 : World) (l : Bys) (hl : ∀ d ∈ l, HxOk d) (h0 : l ≠ []) (h6 : l.length ≤ 6) : Ret Tryz.prog 159 #[.string (bS l), .int .i64 16, .int .i64 64] w0 fun r w => r = .tuple #[.int .i64 ((hexV l : Nat) : Int), .nilIface] ∧ Ext w0 w := by
 have hsm := hexV_small hl h6
 obtain ⟨d, q, hdq⟩ : ∃ d q, l = d :: q := by cases l with | nil => exact absurd rfl h0 | cons d q => exact ⟨d, q, rfl⟩
 have hd := hl d (by rw [hdq]; exact List.mem_cons_self)
 refine Ret_of Tryz.func159 rfl Tryz.ntmps159 (Nat.le_of_ble_eq_true rfl) ?_
 have E : Chg none1 w0 w0 := Chg.refl _ _
 refine Wp_seq_region ?_
 refine qA (I6 0) rfl ?_
 refine qA .nilIface rfl ?_
 refine WpL_nil (Wp_seq (Wp_seq_region ?_))
 refine qM (.string (bS l)) rfl ?_
 refine WpL_val (v := (.bool false)) rfl rfl (by decide) ((r_eqlS (l := l) (m := []) rfl rfl).trans (by rw [decide_eq_false h0])) ?_
 refine WpL_nil ?_
 refine Wp_cond_false rfl ?_
 refine Wp_skip (thn_normal (Wp_seq_region ?_))
 refine qA (.bool false) rfl ?_
 refine WpL_nil (Wp_seq (Wp_seq_region ?_))
 refine qM (.string (bS l)) rfl ?_
 refine qV (r_indexStr (i := 0) (b := d) Tryz.underlying9 rfl rfl (by rw [hdq]; rfl) rfl) ?_
 refine WpL_nil (Wp_block (Wp_seq_region ?_))
 refine qV (r_eql (k := .u8) (a := (d.toNat : Int)) (b := 43) rfl rfl) ?_
 refine qA (.bool (decide (((d.toNat : Int) : Int) = 43))) rfl ?_
 refine WpL_nil ?_
 have hc1 : (decide ((((d.toNat : Nat) : Int) : Int) = 43)) = false := decide_eq_false (by rcases hd with hd | hd <;> omega)
 refine Wp_cond_false (congrArg Value.bool hc1) ?_
 refine Wp_seq_region ?_
 refine qV (r_eql (k := .u8) (a := (d.toNat : Int)) (b := 45) rfl rfl) ?_
 refine qA (.bool (decide (((d.toNat : Int) : Int) = 45))) rfl ?_
 refine WpL_nil ?_
 have hc2 : (decide ((((d.toNat : Nat) : Int) : Int) = 45)) = false := decide_eq_false (by rcases hd with hd | hd <;> omega)
 refine Wp_cond_false (congrArg Value.bool hc2) ?_
 refine Wp_skip (inB_normal (thn_normal (Wp_seq_region ?_)))
 refine qA (.int .u64 0) rfl ?_
 refine WpL_nil (Wp_seq_region ?_)
 refine qM (.string (bS l)) rfl ?_
 refine qM (I6 16) rfl ?_
 refine qM (I6 64) rfl ?_
 refine WpL_enter rfl rfl (by decide) (r_callF (vs := [(.string (bS l)), (I6 16), (I6 64)]) Tryz.func182 nm182 bd182 rfl) (puint_c _ l hl h0 h6) ?_
 rintro _ w9 ⟨rfl, X9⟩
 replace E := E.ext X9
 refine qM (.tuple #[(.int .u64 ((hexV l : Nat) : Int)), .nilIface]) rfl ?_
 refine qV (r_extract (vs := #[(.int .u64 ((hexV l : Nat) : Int)), .nilIface]) (v := (.int .u64 ((hexV l : Nat) : Int))) rfl rfl) ?_
 refine qV (r_extract (vs := #[(.int .u64 ((hexV l : Nat) : Int)), .nilIface]) (v := .nilIface) rfl rfl) ?_
 refine qA (.int .u64 ((hexV l : Nat) : Int)) rfl ?_
 refine qA .nilIface rfl ?_
 refine WpL_nil (Wp_seq (Wp_seq_region ?_))
 refine qM .nilIface rfl ?_
 refine WpL_val (v := (.bool false)) rfl rfl (by decide) (r_neqNI Tryz.underlying48 rfl) ?_
 refine qM (.bool false) rfl ?_
 refine WpL_guard_no (oj := _) rfl rfl (by decide) (v := .bool false) rfl (Or.inl rfl) ?_
 refine WpL_guard_no (oj := _) rfl rfl (by decide) (v := .bool false) rfl (Or.inl rfl) ?_
 refine WpL_guard_no (oj := _) rfl rfl (by decide) (v := .bool false) rfl (Or.inl rfl) ?_
 refine qV (r_pick (b := false) (v := (.bool false)) rfl rfl) ?_
 refine WpL_nil ?_
 refine Wp_cond_false rfl ?_
 refine Wp_skip (thn_normal (Wp_seq (Wp_seq_region ?_)))
 refine qM (I6 64) rfl ?_
 refine qV (r_eql (k := .i64) (a := 64) (b := 0) rfl rfl) ?_
 refine WpL_nil ?_
 refine Wp_cond_false rfl ?_
 refine Wp_skip (thn_normal (Wp_seq_region ?_))
 refine qM (I6 64) rfl ?_
 refine qV (r_sub (k := .i64) (a := 64) (b := 1) (c := 63) rfl rfl (by decide)) ?_
 refine qV (r_convInt (k := .i64) (k' := .u64) (n := 63) (c := 63) ⟨_, Tryz.underlying3⟩ Tryz.underlying84 rfl (wU64 (by omega))) ?_
 refine qV (r_shl (k := .u64) (a := 1) (b := 63) (c := 9223372036854775808) (k' := .u64) rfl rfl (by omega) (by decide)) ?_
 refine qA (.int .u64 9223372036854775808) rfl ?_
 refine WpL_nil (Wp_seq (Wp_seq_region ?_))
 refine qM (.bool false) rfl ?_
 refine qV (r_not (b := false) rfl) ?_
 refine qM (.bool true) rfl ?_
 refine WpL_guard_yes (oj := _) rfl rfl (by decide) rfl ?_
 refine qM (.int .u64 ((hexV l : Nat) : Int)) rfl ?_
 refine WpL_guard_yes (oj := _) rfl rfl (by decide) rfl ?_
 refine qM (.int .u64 9223372036854775808) rfl ?_
 refine WpL_guard_yes (oj := _) rfl rfl (by decide) rfl ?_
 obtain ⟨e3, he3⟩ : ∃ e, (decide ((9223372036854775808 : Int) ≤ ((hexV l : Nat) : Int))) = e := ⟨_, rfl⟩
 refine qV ((r_geq (k := .u64) (a := ((hexV l : Nat) : Int)) (b := 9223372036854775808) rfl rfl).trans (by rw [he3]; try rfl)) ?_
 refine qV (r_pick (b := true) (v := (.bool e3)) rfl rfl) ?_
 refine WpL_nil ?_
 subst he3
 have hc4 : ((decide ((9223372036854775808 : Int) ≤ ((hexV l : Nat) : Int)))) = false := decide_eq_false (by omega)
 refine Wp_cond_false (congrArg Value.bool hc4) ?_
 refine Wp_skip (thn_normal (Wp_seq (Wp_seq_region ?_)))
 refine qM (.bool false) rfl ?_
 refine qM (.bool false) rfl ?_
 refine WpL_guard_no (oj := _) rfl rfl (by decide) (v := .bool false) rfl (Or.inl rfl) ?_
 refine WpL_guard_no (oj := _) rfl rfl (by decide) (v := .bool false) rfl (Or.inl rfl) ?_
 refine WpL_guard_no (oj := _) rfl rfl (by decide) (v := .bool false) rfl (Or.inl rfl) ?_
 refine qV (r_pick (b := false) (v := (.bool false)) rfl rfl) ?_
 refine WpL_nil ?_
 refine Wp_cond_false rfl ?_
 refine Wp_skip (thn_normal (Wp_seq_region ?_))
 refine qM (.int .u64 ((hexV l : Nat) : Int)) rfl ?_
 refine qV (r_convInt (k := .u64) (k' := .i64) (n := ((hexV l : Nat) : Int)) (c := ((hexV l : Nat) : Int)) ⟨_, Tryz.underlying113⟩ Tryz.underlying2 rfl (wI64 (by omega))) ?_
 refine qA (I6 ((hexV l : Nat) : Int)) rfl ?_
 refine WpL_nil (Wp_seq (Wp_seq_region ?_))
 refine qM (.bool false) rfl ?_
 refine WpL_nil ?_
 refine Wp_cond_false rfl ?_
 refine Wp_skip (thn_normal (Wp_seq_region ?_))
 refine qM (I6 ((hexV l : Nat) : Int)) rfl ?_
 refine qA (I6 ((hexV l : Nat) : Int)) rfl ?_
 refine qA .nilIface rfl ?_
 refine WpL_nil (Wp_ret ?_)
 refine fin_tmp2 Tryz.results159 (v := (.int .i64 ((hexV l : Nat) : Int))) (v' := .nilIface) rfl rfl ?_
 exact ⟨rfl, E⟩
theorem spint_c (w0 : World) (l : Bys) (hl : ∀ d ∈ l, HxOk d) (h0 : l ≠ []) (h6 : l.length ≤ 6) : Ret Tryz.prog 146 #[.string (bS l), .int .i64 16, .int .i64 64] w0 fun r w => r = .tuple #[.int .i64 ((hexV l : Nat) : Int), .nilIface] ∧ Ext w0 w := by
 refine Ret_of Tryz.func146 rfl Tryz.ntmps146 (Nat.le_of_ble_eq_true rfl) ?_
 have E : Chg none1 w0 w0 := Chg.refl _ _
 refine Wp_seq_region ?_
 refine qA (I6 0) rfl ?_
 refine qA .nilIface rfl ?_
 refine WpL_nil (Wp_seq_region ?_)
 refine qM (.string (bS l)) rfl ?_
 refine qM (I6 16) rfl ?_
 refine qM (I6 64) rfl ?_
 refine WpL_enter rfl rfl (by decide) (r_callF (vs := [(.string (bS l)), (I6 16), (I6 64)]) Tryz.func159 nm159 bd159 rfl) (ipint_c _ l hl h0 h6) ?_
 rintro _ w9 ⟨rfl, X9⟩
 replace E := E.ext X9
 refine qM (.tuple #[(I6 ((hexV l : Nat) : Int)), .nilIface]) rfl ?_
 refine qV (r_extract (vs := #[(I6 ((hexV l : Nat) : Int)), .nilIface]) (v := (I6 ((hexV l : Nat) : Int))) rfl rfl) ?_
 refine qV (r_extract (vs := #[(I6 ((hexV l : Nat) : Int)), .nilIface]) (v := .nilIface) rfl rfl) ?_
 refine qA (I6 ((hexV l : Nat) : Int)) rfl ?_
 refine qA .nilIface rfl ?_
 refine WpL_nil (Wp_seq (Wp_seq_region ?_))
 refine qM .nilIface rfl ?_
 refine WpL_val (v := (.bool false)) rfl rfl (by decide) (r_neqNI Tryz.underlying48 rfl) ?_
 refine WpL_nil ?_
 refine Wp_cond_false rfl ?_
 refine Wp_skip (thn_normal (Wp_seq_region ?_))
 refine qM (I6 ((hexV l : Nat) : Int)) rfl ?_
 refine qA (I6 ((hexV l : Nat) : Int)) rfl ?_
 refine qA .nilIface rfl ?_
 refine WpL_nil (Wp_ret ?_)
 refine fin_tmp2 Tryz.results146 (v := (.int .i64 ((hexV l : Nat) : Int))) (v' := .nilIface) rfl rfl ?_
 exact ⟨rfl, E⟩
end Go.Proofs
namespace Go.Proofs
open Go Go.Eng Go.Sort Go.Lib
set_option linter.unusedSectionVars false
variable [Drw]
set_option maxRecDepth 100000
instance (d : UInt8) : Decidable (HxOk d) := by unfold HxOk; infer_instance
def hexSet : Bys := [48, 49, 50, 51, 52, 53, 54, 55, 56, 57, 97, 98, 99, 100, 101, 102]
theorem hexSet_has {d : UInt8} (h : HxOk d) : hexSet.contains d = true := by
 have key : ∀ n : Fin 256, ((48 ≤ n.val ∧ n.val ≤ 57) ∨ (97 ≤ n.val ∧ n.val ≤ 102)) → hexSet.contains (UInt8.ofNat n.val) = true := by decide
 have h1 := key ⟨d.toNat, d.toNat_lt⟩ h
 simpa using h1
theorem drop_all (p : UInt8 → Bool) : ∀ l : Bys, (∀ d ∈ l, p d = true) → l.dropWhile p = []
  | [], _ => rfl
  | d :: l, h => by rw [List.dropWhile_cons, if_pos (h d List.mem_cons_self)]; exact drop_all p l fun x hx => h x (List.mem_cons_of_mem _ hx)
theorem ext_alloc (w : World) (x : Obj) : Ext w (w.alloc x) :=
 ⟨rfl, rfl, rfl, .of (Nat.le_refl _), by show _ ≤ (w.heap.push x).size; simp, fun b hb _ => by show (w.heap.push x)[b]? = _; simp [Array.getElem?_push, Nat.ne_of_lt hb]⟩
theorem ext_drewN (w : World) (q : Nat) : Ext w (w.drewN q) := ⟨rfl, rfl, rfl, .of (Nat.le_add_right _ _), Nat.le_refl _, fun _ _ _ => rfl⟩
theorem trim_hex {l : Bys} (h : ∀ d ∈ l, HxOk d) : Lib.trimS l hexSet = [] := by
 have h1 : l.reverse.dropWhile (hexSet.contains ·) = [] := drop_all _ _ fun d hd => hexSet_has (h d (List.mem_reverse.1 hd))
 unfold Lib.trimS Lib.trimRightS Lib.trimLeftS
 rw [h1]; rfl
theorem trim_c (w0 : World) (l : Bys) (hl : ∀ d ∈ l, HxOk d) (h0 : l ≠ []) (h6 : l.length ≤ 6) : Ret Tryz.prog 145 #[.string (bS l), .string (bS hexSet)] w0 fun r w => r = .string (bS []) ∧ Ext w0 w := by
 have hlen : 0 < l.length := List.length_pos_iff.2 h0
 refine (Any.strings_Trim_set Tryz.trimS (fun w => by kernel_rfl) (by kernel_rfl) (bS l) (bS hexSet) w0 (by decide) (by rw [bS_size]; exact hlen) (by rw [bS_size]; omega) (by decide) (fun j b hb => (by decide : ∀ x ∈ hexSet, x.toNat < 128) b (List.mem_of_getElem? hb))).mono ?_
 rintro e w' ⟨rfl, q, rfl⟩
 refine ⟨_, rfl, ?_, ?_⟩
 ·rw [show (bS l).data.toList = l from rfl, show (bS hexSet).data.toList = hexSet from rfl, trim_hex hl]; rfl
 ·exact ((ext_alloc _ _).trans (ext_alloc _ _)).trans (ext_drewN _ q)
def numP : Bys → Option (Int × Bys)
  | c :: r => if c = 123 ∧ (1 ≤ indexByte r 125 ∧ indexByte r 125 ≤ 6 ∧ indexByte r 125 < ((r.length : Nat) : Int)) ∧ (∀ d ∈ r.take (indexByte r 125).toNat, HxOk d) ∧ hexV (r.take (indexByte r 125).toNat) ≤ 1114111 then some (((hexV (r.take (indexByte r 125).toNat) : Nat) : Int), r.drop ((indexByte r 125).toNat + 1)) else none
  | [] => none
theorem numP_some {s r : Bys} {c : Int} (h : numP s = some (c, r)) : ∃ q k, s = 123 :: q ∧ indexByte q 125 = ((k : Nat) : Int) ∧ 1 ≤ k ∧ k ≤ 6 ∧ k < q.length ∧ (∀ d ∈ q.take k, HxOk d) ∧ hexV (q.take k) ≤ 1114111 ∧ c = ((hexV (q.take k) : Nat) : Int) ∧ r = q.drop (k + 1) := by
  cases s with
  | nil => cases h
  | cons a q =>
    rw [numP] at h
    split at h
    · rename_i hh
      obtain ⟨rfl, ⟨h1, h2, h3⟩, h4, h5⟩ := hh
      cases h
      exact ⟨q, (indexByte q 125).toNat, rfl, by omega, by omega, by omega, by omega, h4, h5, rfl, rfl⟩
    · cases h
theorem number_c (w0 : World) (b : Nat) (s r : Bys) (c : Int) (hs : numP s = some (c, r)) (h : Rd w0 b s) : Ret Tryz.prog 140 #[.pointer (some ⟨b, 0, none⟩)] w0 fun v w => v = .int .i64 c ∧ Rd w b r ∧ Chg (fun y => y = b) w0 w := by
 obtain ⟨q, k, rfl, hk, hk1, hk6, hkl, hhx, hv, rfl, rfl⟩ := numP_some hs
 have hne : q.take k ≠ [] := by intro hh; have := congrArg List.length hh; rw [List.length_take, List.length_nil] at this; omega
 have hl6 : (q.take k).length ≤ 6 := by rw [List.length_take]; omega
 have hixb : ∀ w, Ret Tryz.prog 58 #[.string (bS q), .int .u8 125] w fun r w' => r = .int .i64 ((k : Nat) : Int) ∧ Ext w w' := fun w => (ixb_c w q 125).mono fun _ _ hh => ⟨hh.1.trans (by rw [show (125 : Int).toNat.toUInt8 = 125 from rfl, hk]), hh.2⟩
 refine Ret_of Tryz.func140 rfl Tryz.ntmps140 (Nat.le_of_ble_eq_true rfl) ?_
 have E : Chg (fun y => y = b) w0 w0 := Chg.refl _ _
 refine Wp_seq_region ?_
 refine qA (I6 0) rfl ?_
 refine WpL_nil (Wp_seq_region ?_)
 refine qM (P6 b 0) rfl ?_
 refine WpL_enter rfl rfl (by decide) (r_callF (vs := [(P6 b 0), (.string (ByteArray.mk #[123]))]) Tryz.func123 nm123 bd123 rfl) (rneed_c _ b (123 :: q) [123] h (pre_cons 123 q)) ?_
 rintro _ w9 ⟨rfl, h9, X9⟩
 replace E := E.trans X9
 rw [trim_cons] at h9
 refine WpL_nil (Wp_seq_region ?_)
 refine qM (P6 b 0) rfl ?_
 refine qV (r_nilCheck (a := ⟨b, 0, none⟩) rfl) ?_
 refine qF b 0 0 rfl Tryz.underlying57 rfl siz9 rfl ?_
 refine qV (r_load (v := (.string (bS q))) rfl flat9 (h9.cell rfl)) ?_
 refine WpL_enter rfl rfl (by decide) (r_callF (vs := [(.string (bS q)), (.int .u8 125)]) Tryz.func58 nm58 bd58 rfl) (hixb _) ?_
 rintro _ w19 ⟨rfl, X19⟩
 replace h9 := X19.keep h9
 replace E := E.ext X19
 refine qA (I6 (k : Int)) rfl ?_
 refine WpL_nil (Wp_seq (Wp_seq_region ?_))
 refine qM (I6 (k : Int)) rfl ?_
 refine qV (r_lss (k := .i64) (a := (k : Int)) (b := 1) rfl rfl) ?_
 refine qM (.bool (decide (((k : Int) : Int) < 1))) rfl ?_
 have hg1 : (decide ((((k : Nat) : Int) : Int) < 1)) = false := decide_eq_false (by omega)
 refine WpL_guard_yes (oj := _) rfl rfl (by decide) (congrArg Value.bool hg1) ?_
 refine qM (I6 (k : Int)) rfl ?_
 refine WpL_guard_yes (oj := _) rfl rfl (by decide) (congrArg Value.bool hg1) ?_
 refine qV (r_gtr (k := .i64) (a := (k : Int)) (b := 6) rfl rfl) ?_
 refine qV (r_pick (b := decide (((k : Int) : Int) < 1)) (v := (.bool (decide ((6 : Int) < (k : Int))))) rfl (by rw [hg1]; rfl)) ?_
 refine qM (.bool (decide ((6 : Int) < (k : Int)))) rfl ?_
 have hg2 : (decide ((6 : Int) < ((k : Nat) : Int))) = false := decide_eq_false (by omega)
 refine WpL_guard_yes (oj := _) rfl rfl (by decide) (congrArg Value.bool hg2) ?_
 refine qM (P6 b 0) rfl ?_
 refine WpL_guard_yes (oj := _) rfl rfl (by decide) (congrArg Value.bool hg2) ?_
 refine qV (r_nilCheck (a := ⟨b, 0, none⟩) rfl) ?_
 refine WpL_guard_yes (oj := _) rfl rfl (by decide) (congrArg Value.bool hg2) ?_
 refine qF b 0 0 rfl Tryz.underlying57 rfl siz9 rfl ?_
 refine WpL_guard_yes (oj := _) rfl rfl (by decide) (congrArg Value.bool hg2) ?_
 refine qV (r_load (v := (.string (bS q))) rfl flat9 (h9.cell rfl)) ?_
 refine WpL_guard_yes (oj := _) rfl rfl (by decide) (congrArg Value.bool hg2) ?_
 refine qM (I6 (k : Int)) rfl ?_
 refine WpL_guard_yes (oj := _) rfl rfl (by decide) (congrArg Value.bool hg2) ?_
 refine qV (r_sliceSHi (l := q) (hi := k) Tryz.underlying9 rfl rfl rfl (by omega) rfl) ?_
 refine WpL_guard_yes (oj := _) rfl rfl (by decide) (congrArg Value.bool hg2) ?_
 refine WpL_enter rfl rfl (by decide) (r_callF (vs := [(.string (bS (q.take k))), (.string (ByteArray.mk #[48, 49, 50, 51, 52, 53, 54, 55, 56, 57, 97, 98, 99, 100, 101, 102]))]) Tryz.func145 nm145 bd145 rfl) (trim_c _ (q.take k) hhx hne hl6) ?_
 rintro _ w29 ⟨rfl, X29⟩
 replace h9 := X29.keep h9
 replace E := E.ext X29
 refine WpL_guard_yes (oj := _) rfl rfl (by decide) (congrArg Value.bool hg2) ?_
 refine WpL_val (v := (.bool false)) rfl rfl (by decide) ((r_neqS (l := []) (m := []) rfl rfl).trans (by rfl)) ?_
 refine qV (r_pick (b := decide ((6 : Int) < (k : Int))) (v := (.bool false)) rfl (by rw [hg2]; rfl)) ?_
 refine WpL_nil ?_
 refine Wp_cond_false rfl ?_
 refine Wp_skip (thn_normal (Wp_seq_region ?_))
 refine qM (P6 b 0) rfl ?_
 refine qV (r_nilCheck (a := ⟨b, 0, none⟩) rfl) ?_
 refine qF b 0 0 rfl Tryz.underlying57 rfl siz9 rfl ?_
 refine qV (r_load (v := (.string (bS q))) rfl flat9 (h9.cell rfl)) ?_
 refine qM (I6 (k : Int)) rfl ?_
 refine qV (r_sliceSHi (l := q) (hi := k) Tryz.underlying9 rfl rfl rfl (by omega) rfl) ?_
 refine WpL_enter rfl rfl (by decide) (r_callF (vs := [(.string (bS (q.take k))), (I6 16), (I6 64)]) Tryz.func146 nm146 bd146 rfl) (spint_c _ (q.take k) hhx hne hl6) ?_
 rintro _ w39 ⟨rfl, X39⟩
 replace h9 := X39.keep h9
 replace E := E.ext X39
 refine qM (.tuple #[(I6 ((hexV (q.take k) : Nat) : Int)), .nilIface]) rfl ?_
 refine qV (r_extract (vs := #[(I6 ((hexV (q.take k) : Nat) : Int)), .nilIface]) (v := (I6 ((hexV (q.take k) : Nat) : Int))) rfl rfl) ?_
 refine qV (r_extract (vs := #[(I6 ((hexV (q.take k) : Nat) : Int)), .nilIface]) (v := .nilIface) rfl rfl) ?_
 refine qA (I6 ((hexV (q.take k) : Nat) : Int)) rfl ?_
 refine qA .nilIface rfl ?_
 refine WpL_nil (Wp_seq (Wp_seq_region ?_))
 refine qM (I6 ((hexV (q.take k) : Nat) : Int)) rfl ?_
 refine qV (r_gtr (k := .i64) (a := ((hexV (q.take k) : Nat) : Int)) (b := 1114111) rfl rfl) ?_
 refine WpL_nil ?_
 have hc3 : (decide ((1114111 : Int) < ((hexV (q.take k) : Nat) : Int))) = false := decide_eq_false (by omega)
 refine Wp_cond_false (congrArg Value.bool hc3) ?_
 refine Wp_skip (thn_normal (Wp_seq_region ?_))
 refine qM (P6 b 0) rfl ?_
 refine qM (P6 b 0) rfl ?_
 refine qV (r_nilCheck (a := ⟨b, 0, none⟩) rfl) ?_
 refine qF b 0 0 rfl Tryz.underlying57 rfl siz9 rfl ?_
 refine qV (r_load (v := (.string (bS q))) rfl flat9 (h9.cell rfl)) ?_
 refine qM (I6 (k : Int)) rfl ?_
 refine qV (r_add (k := .i64) (a := (k : Int)) (b := 1) (c := ((k + 1 : Nat) : Int)) rfl rfl (wI64 (by omega))) ?_
 refine qV (r_sliceSLo (l := q) (lo := k + 1) Tryz.underlying9 rfl rfl rfl (by omega) rfl) ?_
 refine qV (r_nilCheck (a := ⟨b, 0, none⟩) rfl) ?_
 refine qF b 0 0 rfl Tryz.underlying57 rfl siz9 rfl ?_
 refine s_store (b := b) (o := 0) (c' := #[(.string (bS (q.drop (k + 1)))), (.bool false)]) (v := (.string (bS (q.drop (k + 1))))) rfl rfl rfl siz9 h9 (by simp) rfl ?_
 intro w4 S4
 replace E := S4.step E (by first | exact Or.inl (by omega) | assumption | exact Or.inr rfl | exact Or.inr (by assumption) | exact Or.inr (by simp) | exact Or.inr (by omega) | exact Or.inr (by dsimp only; omega))
 replace h9 := S4.blk
 refine WpL_nil (Wp_seq_region ?_)
 refine qM (I6 ((hexV (q.take k) : Nat) : Int)) rfl ?_
 refine qA (I6 ((hexV (q.take k) : Nat) : Int)) rfl ?_
 refine WpL_nil (Wp_ret ?_)
 refine fin_tmp Tryz.results140 (v := (.int .i64 ((hexV (q.take k) : Nat) : Int))) rfl ?_
 exact ⟨rfl, h9, E⟩
def spc17 : Bys := [92, 124, 38, 126, 40, 41, 91, 93, 123, 125, 42, 43, 63, 46, 64, 94, 45]
/-- What stands behind a backslash. -/
def escP : Bys → Option (Int × Bys)
  | [] => none
  | d :: r => if 0 ≤ indexByte spc d then some (((d.toNat : Nat) : Int), r) else if d = 110 then some (10, r) else if d = 116 then some (9, r) else if d = 114 then some (13, r) else if d = 117 then numP r else none
/-- A rune of an expression. -/
def chP (s : Bys) : Option (Int × Bys) :=
 if s = [] then none
 else if (Lib.decodeGo (bS s)).1 = 92 then escP (s.drop 1)
 else if (Lib.decodeGo (bS s)).1 < 128 ∧ 0 ≤ indexByte spc17 (((Lib.decodeGo (bS s)).1 : Nat) : Int).toNat.toUInt8 then none
 else if (Lib.decodeGo (bS s)).1 ≤ 1114111 ∧ (Lib.decodeGo (bS s)).2 ≤ s.length then some ((((Lib.decodeGo (bS s)).1 : Nat) : Int), s.drop (Lib.decodeGo (bS s)).2) else none
theorem dec_c (w0 : World) (s : Bys) (hL : Lay w0) : Ret Tryz.prog 84 #[.string (bS s)] w0 fun r w => r = .tuple #[.int .i32 (((Lib.decodeGo (bS s)).1 : Nat) : Int), .int .i64 (((Lib.decodeGo (bS s)).2 : Nat) : Int)] ∧ Ext w0 w := by
 refine (Any.utf8_DecodeRuneInString Tryz.decS (bS s) w0 hL.u8).mono ?_
 rintro e w' ⟨rfl, hb⟩
 exact ⟨_, rfl, rfl, Ext.of_belowW hL.nd hb⟩
theorem conr_c (w0 : World) (l : Bys) (c : Nat) (h : c < 128) : Ret Tryz.prog 94 #[.string (bS l), .int .i32 ((c : Nat) : Int)] w0 fun r w => r = .bool (decide (0 ≤ indexByte l ((c : Nat) : Int).toNat.toUInt8)) ∧ Ext w0 w := by
 refine (Any.strings_ContainsRune_ascii Tryz.conS (bS l) c w0 (by omega) (by omega)).mono ?_
 rintro e w' ⟨rfl, rfl⟩
 exact ⟨_, rfl, rfl, Ext.refl _⟩
theorem toU8 (d : UInt8) : ((d.toNat : Nat) : Int).toNat.toUInt8 = d := by simp
theorem ixb2_c (w0 : World) (l : Bys) (d : UInt8) : Ret Tryz.prog 58 #[.string (bS l), .int .u8 ((d.toNat : Nat) : Int)] w0 fun r w => r = .int .i64 (indexByte l d) ∧ Ext w0 w := by
 have h := ixb_c w0 l ((d.toNat : Nat) : Int)
 rwa [toU8] at h
theorem toN_eq {d e : UInt8} (h : d.toNat = e.toNat) : d = e := UInt8.toNat_inj.1 h
theorem char_c (w0 : World) (b : Nat) (s r : Bys) (c : Int) (hs : chP s = some (c, r)) (h : Rd w0 b s) (hL : Lay w0) : Ret Tryz.prog 135 #[.pointer (some ⟨b, 0, none⟩)] w0 fun v w => v = .int .i64 c ∧ Rd w b r ∧ Chg (fun y => y = b) w0 w := by
 obtain ⟨n, hn⟩ : ∃ n, n = (Lib.decodeGo (bS s)).1 := ⟨_, rfl⟩
 obtain ⟨m, hm⟩ : ∃ m, m = (Lib.decodeGo (bS s)).2 := ⟨_, rfl⟩
 have hdec : ∀ w, Lay w → Ret Tryz.prog 84 #[.string (bS s)] w fun r w' => r = .tuple #[.int .i32 ((n : Nat) : Int), .int .i64 ((m : Nat) : Int)] ∧ Ext w w' := fun w hw => by rw [hn, hm]; exact dec_c w s hw
 unfold chP at hs
 rw [← hn, ← hm] at hs
 have hne : s ≠ [] := by intro hh; rw [if_pos hh] at hs; cases hs
 rw [if_neg hne] at hs
 obtain ⟨s0, q, hsq⟩ : ∃ d q, s = d :: q := by cases s with | nil => exact absurd rfl hne | cons d q => exact ⟨d, q, rfl⟩
 refine Ret_of Tryz.func135 rfl Tryz.ntmps135 (Nat.le_of_ble_eq_true rfl) ?_
 have E : Chg (fun y => y = b) w0 w0 := Chg.refl _ _
 refine Wp_seq_region ?_
 refine qA (I6 0) rfl ?_
 refine WpL_nil (Wp_seq (Wp_seq_region ?_))
 refine qM (P6 b 0) rfl ?_
 refine qV (r_nilCheck (a := ⟨b, 0, none⟩) rfl) ?_
 refine qF b 0 0 rfl Tryz.underlying57 rfl siz9 rfl ?_
 refine qV (r_load (v := (.string (bS s))) rfl flat9 (h.cell rfl)) ?_
 refine WpL_val (v := (.bool false)) rfl rfl (by decide) ((r_eqlS (l := s) (m := []) rfl rfl).trans (by rw [decide_eq_false hne])) ?_
 refine WpL_nil ?_
 refine Wp_cond_false rfl ?_
 refine Wp_skip (thn_normal (Wp_seq_region ?_))
 refine qM (P6 b 0) rfl ?_
 refine qV (r_nilCheck (a := ⟨b, 0, none⟩) rfl) ?_
 refine qF b 0 0 rfl Tryz.underlying57 rfl siz9 rfl ?_
 refine qV (r_load (v := (.string (bS s))) rfl flat9 (h.cell rfl)) ?_
 refine WpL_enter rfl rfl (by decide) (r_callF (vs := [(.string (bS s))]) Tryz.func84 nm84 bd84 rfl) (hdec _ hL) ?_
 rintro _ w9 ⟨rfl, X9⟩
 replace h := X9.keep h
 replace E := E.ext X9
 refine qM (.tuple #[(.int .i32 (n : Int)), (I6 (m : Int))]) rfl ?_
 refine qV (r_extract (vs := #[(.int .i32 (n : Int)), (I6 (m : Int))]) (v := (.int .i32 (n : Int))) rfl rfl) ?_
 refine qV (r_extract (vs := #[(.int .i32 (n : Int)), (I6 (m : Int))]) (v := (I6 (m : Int))) rfl rfl) ?_
 refine qA (.int .i32 (n : Int)) rfl ?_
 refine qA (I6 (m : Int)) rfl ?_
 refine WpL_nil (Wp_seq (Wp_seq_region ?_))
 refine qM (.int .i32 (n : Int)) rfl ?_
 refine qV (r_neq (k := .i32) (a := (n : Int)) (b := 92) rfl rfl) ?_
 refine WpL_nil ?_
 refine Wp_cond (b := decide (((n : Int) : Int) ≠ 92)) rfl (fun hn92 => ?_) (fun hn92 => ?_)
 ·have khn92 := hn92
  replace hn92 := of_decide_eq_true hn92
  rw [if_neg (by omega)] at hs
  refine Wp_seq (Wp_seq_region ?_)
  refine qM (.int .i32 (n : Int)) rfl ?_
  refine qV (r_lss (k := .i32) (a := (n : Int)) (b := 128) rfl rfl) ?_
  refine qM (.bool (decide (((n : Int) : Int) < 128))) rfl ?_
  rcases Bool.eq_false_or_eq_true (decide ((((n : Nat) : Int) : Int) < 128)) with hn128 | hn128
  ·have khn128 := hn128
   replace khn128 := of_decide_eq_true khn128
   refine WpL_guard_yes (oj := _) rfl rfl (by decide) (congrArg Value.bool hn128) ?_
   refine qM (.int .i32 (n : Int)) rfl ?_
   refine WpL_guard_yes (oj := _) rfl rfl (by decide) (congrArg Value.bool hn128) ?_
   refine WpL_enter rfl rfl (by decide) (r_callF (vs := [(.string (ByteArray.mk #[92, 124, 38, 126, 40, 41, 91, 93, 123, 125, 42, 43, 63, 46, 64, 94, 45])), (.int .i32 (n : Int))]) Tryz.func94 nm94 bd94 rfl) (conr_c _ spc17 n (by omega)) ?_
   rintro _ w19 ⟨rfl, X19⟩
   replace h := X19.keep h
   replace E := E.ext X19
   refine qV (r_pick (b := decide (((n : Int) : Int) < 128)) (v := (.bool (decide (0 ≤ indexByte spc17 (n : Int).toNat.toUInt8)))) rfl (by rw [hn128]; rfl)) ?_
   refine WpL_nil ?_
   have hc3 : (decide (0 ≤ indexByte spc17 ((n : Nat) : Int).toNat.toUInt8)) = false := by cases hh : decide (0 ≤ indexByte spc17 ((n : Nat) : Int).toNat.toUInt8) with | false => rfl | true => rw [if_pos ⟨by omega, of_decide_eq_true hh⟩] at hs; cases hs
   refine Wp_cond_false (congrArg Value.bool hc3) ?_
   refine Wp_skip (thn_normal (Wp_seq_region ?_))
   refine qM (P6 b 0) rfl ?_
   refine qM (P6 b 0) rfl ?_
   refine qV (r_nilCheck (a := ⟨b, 0, none⟩) rfl) ?_
   refine qF b 0 0 rfl Tryz.underlying57 rfl siz9 rfl ?_
   refine qV (r_load (v := (.string (bS s))) rfl flat9 (h.cell rfl)) ?_
   refine qM (I6 (m : Int)) rfl ?_
   have hfin : m ≤ s.length ∧ c = ((n : Nat) : Int) ∧ r = s.drop m := by split at hs; cases hs; split at hs; (rename_i hh; cases hs; exact ⟨hh.2, rfl, rfl⟩); cases hs
   refine qV (r_sliceSLo (l := s) (lo := m) Tryz.underlying9 rfl rfl rfl hfin.1 rfl) ?_
   refine qV (r_nilCheck (a := ⟨b, 0, none⟩) rfl) ?_
   refine qF b 0 0 rfl Tryz.underlying57 rfl siz9 rfl ?_
   refine s_store (b := b) (o := 0) (c' := #[(.string (bS (s.drop m))), (.bool false)]) (v := (.string (bS (s.drop m)))) rfl rfl rfl siz9 h (by simp) rfl ?_
   intro w4 S4
   replace E := S4.step E (by first | exact Or.inl (by omega) | assumption | exact Or.inr rfl | exact Or.inr (by assumption) | exact Or.inr (by simp) | exact Or.inr (by omega) | exact Or.inr (by dsimp only; omega))
   replace h := S4.blk
   refine WpL_nil (Wp_seq_region ?_)
   refine qM (.int .i32 (n : Int)) rfl ?_
   refine qV (r_convInt (k := .i32) (k' := .i64) (n := (n : Int)) (c := (n : Int)) ⟨_, Tryz.underlying21⟩ Tryz.underlying3 rfl (wI64 (by omega))) ?_
   refine qA (I6 (n : Int)) rfl ?_
   refine WpL_nil (Wp_ret (thn_ret ?_))
   refine fin_tmp Tryz.results135 (v := (.int .i64 ((n : Nat) : Int))) rfl ?_
   exact ⟨by rw [hfin.2.1], by rw [hfin.2.2]; exact h, E⟩
  ·have khn128 := hn128
   replace khn128 := of_decide_eq_false khn128
   have hfin : m ≤ s.length ∧ c = ((n : Nat) : Int) ∧ r = s.drop m ∧ n ≤ 1114111 := by split at hs; cases hs; split at hs; (rename_i hh; cases hs; exact ⟨hh.2, rfl, rfl, hh.1⟩); cases hs
   refine WpL_guard_no (oj := _) rfl rfl (by decide) (v := .bool false) (congrArg Value.bool hn128) (Or.inl rfl) ?_
   refine WpL_guard_no (oj := _) rfl rfl (by decide) (v := .bool false) (congrArg Value.bool hn128) (Or.inl rfl) ?_
   refine qV (r_pick (b := decide (((n : Int) : Int) < 128)) (v := (.bool false)) rfl (by rw [hn128]; rfl)) ?_
   refine WpL_nil ?_
   refine Wp_cond_false rfl ?_
   refine Wp_skip (thn_normal (Wp_seq_region ?_))
   refine qM (P6 b 0) rfl ?_
   refine qM (P6 b 0) rfl ?_
   refine qV (r_nilCheck (a := ⟨b, 0, none⟩) rfl) ?_
   refine qF b 0 0 rfl Tryz.underlying57 rfl siz9 rfl ?_
   refine qV (r_load (v := (.string (bS s))) rfl flat9 (h.cell rfl)) ?_
   refine qM (I6 (m : Int)) rfl ?_
   refine qV (r_sliceSLo (l := s) (lo := m) Tryz.underlying9 rfl rfl rfl hfin.1 rfl) ?_
   refine qV (r_nilCheck (a := ⟨b, 0, none⟩) rfl) ?_
   refine qF b 0 0 rfl Tryz.underlying57 rfl siz9 rfl ?_
   refine s_store (b := b) (o := 0) (c' := #[(.string (bS (s.drop m))), (.bool false)]) (v := (.string (bS (s.drop m)))) rfl rfl rfl siz9 h (by simp) rfl ?_
   intro w5 S5
   replace E := S5.step E (by first | exact Or.inl (by omega) | assumption | exact Or.inr rfl | exact Or.inr (by assumption) | exact Or.inr (by simp) | exact Or.inr (by omega) | exact Or.inr (by dsimp only; omega))
   replace h := S5.blk
   refine WpL_nil (Wp_seq_region ?_)
   refine qM (.int .i32 (n : Int)) rfl ?_
   refine qV (r_convInt (k := .i32) (k' := .i64) (n := (n : Int)) (c := (n : Int)) ⟨_, Tryz.underlying21⟩ Tryz.underlying3 rfl (wI64 (by omega))) ?_
   refine qA (I6 (n : Int)) rfl ?_
   refine WpL_nil (Wp_ret (thn_ret ?_))
   refine fin_tmp Tryz.results135 (v := (.int .i64 ((n : Nat) : Int))) rfl ?_
   exact ⟨by rw [hfin.2.1], by rw [hfin.2.2.1]; exact h, E⟩
 ·have khn92 := hn92
  replace hn92 := of_decide_eq_false hn92
  rw [if_pos (by omega), hsq] at hs
  replace hs : escP q = some (c, r) := hs
  refine Wp_skip (thn_normal (Wp_seq_region ?_))
  refine qM (P6 b 0) rfl ?_
  refine qM (P6 b 0) rfl ?_
  refine qV (r_nilCheck (a := ⟨b, 0, none⟩) rfl) ?_
  refine qF b 0 0 rfl Tryz.underlying57 rfl siz9 rfl ?_
  refine qV (r_load (v := (.string (bS s))) rfl flat9 (h.cell rfl)) ?_
  refine qV (r_sliceSLo (l := s) (lo := 1) Tryz.underlying9 rfl rfl rfl (by rw [hsq]; simp) (by rw [hsq])) ?_
  obtain ⟨d, q2, hq⟩ : ∃ d q2, q = d :: q2 := by cases q with | nil => cases hs | cons d q2 => exact ⟨d, q2, rfl⟩
  rw [hq, escP] at hs
  have hd256 := d.toNat_lt
  refine qV (r_nilCheck (a := ⟨b, 0, none⟩) rfl) ?_
  refine qF b 0 0 rfl Tryz.underlying57 rfl siz9 rfl ?_
  refine s_store (b := b) (o := 0) (c' := #[(.string (bS q)), (.bool false)]) (v := (.string (bS q))) rfl rfl rfl siz9 h (by simp) rfl ?_
  intro w6 S6
  replace E := S6.step E (by first | exact Or.inl (by omega) | assumption | exact Or.inr rfl | exact Or.inr (by assumption) | exact Or.inr (by simp) | exact Or.inr (by omega) | exact Or.inr (by dsimp only; omega))
  replace h := S6.blk
  refine WpL_nil (Wp_seq (Wp_seq_region ?_))
  refine qM (P6 b 0) rfl ?_
  refine qV (r_nilCheck (a := ⟨b, 0, none⟩) rfl) ?_
  refine qF b 0 0 rfl Tryz.underlying57 rfl siz9 rfl ?_
  refine qV (r_load (v := (.string (bS q))) rfl flat9 (h.cell rfl)) ?_
  refine WpL_val (v := (.bool false)) rfl rfl (by decide) ((r_eqlS (l := q) (m := []) rfl rfl).trans (by rw [hq]; rfl)) ?_
  refine WpL_nil ?_
  refine Wp_cond_false rfl ?_
  refine Wp_skip (thn_normal (Wp_seq_region ?_))
  refine qM (P6 b 0) rfl ?_
  refine qV (r_nilCheck (a := ⟨b, 0, none⟩) rfl) ?_
  refine qF b 0 0 rfl Tryz.underlying57 rfl siz9 rfl ?_
  refine qV (r_load (v := (.string (bS q))) rfl flat9 (h.cell rfl)) ?_
  refine qV (r_indexStr (i := 0) (b := d) Tryz.underlying9 rfl rfl (by rw [hq]; rfl) rfl) ?_
  refine qA (.int .u8 (d.toNat : Int)) rfl ?_
  refine WpL_nil (Wp_seq_region ?_)
  refine qM (P6 b 0) rfl ?_
  refine qM (P6 b 0) rfl ?_
  refine qV (r_nilCheck (a := ⟨b, 0, none⟩) rfl) ?_
  refine qF b 0 0 rfl Tryz.underlying57 rfl siz9 rfl ?_
  refine qV (r_load (v := (.string (bS q))) rfl flat9 (h.cell rfl)) ?_
  refine qV (r_sliceSLo (l := q) (lo := 1) Tryz.underlying9 rfl rfl rfl (by rw [hq]; simp) (by rw [hq])) ?_
  refine qV (r_nilCheck (a := ⟨b, 0, none⟩) rfl) ?_
  refine qF b 0 0 rfl Tryz.underlying57 rfl siz9 rfl ?_
  refine s_store (b := b) (o := 0) (c' := #[(.string (bS q2)), (.bool false)]) (v := (.string (bS q2))) rfl rfl rfl siz9 h (by simp) rfl ?_
  intro w7 S7
  replace E := S7.step E (by first | exact Or.inl (by omega) | assumption | exact Or.inr rfl | exact Or.inr (by assumption) | exact Or.inr (by simp) | exact Or.inr (by omega) | exact Or.inr (by dsimp only; omega))
  replace h := S7.blk
  refine WpL_nil (Wp_seq (Wp_block (Wp_seq_region ?_)))
  refine qM (.int .u8 (d.toNat : Int)) rfl ?_
  refine WpL_enter rfl rfl (by decide) (r_callF (vs := [(.string (ByteArray.mk #[92, 124, 38, 126, 40, 41, 91, 93, 123, 125, 42, 43, 63, 46, 64, 94, 45, 35, 61, 33])), (.int .u8 (d.toNat : Int))]) Tryz.func58 nm58 bd58 rfl) (ixb2_c _ spc d) ?_
  rintro _ w29 ⟨rfl, X29⟩
  replace h := X29.keep h
  replace E := E.ext X29
  refine qV (r_geq (k := .i64) (a := indexByte spc d) (b := 0) rfl rfl) ?_
  refine qA (.bool (decide ((0 : Int) ≤ indexByte spc d))) rfl ?_
  refine WpL_nil ?_
  refine Wp_cond (b := decide ((0 : Int) ≤ indexByte spc d)) rfl (fun hsp => ?_) (fun hsp => ?_)
  ·have khsp := hsp
   replace hsp := of_decide_eq_true hsp
   rw [if_pos (by omega)] at hs
   refine Wp_seq_region ?_
   refine qM (.int .u8 (d.toNat : Int)) rfl ?_
   refine qV (r_convInt (k := .u8) (k' := .i64) (n := (d.toNat : Int)) (c := (d.toNat : Int)) ⟨_, Tryz.underlying5⟩ Tryz.underlying3 rfl (wI64 (by omega))) ?_
   refine qA (I6 (d.toNat : Int)) rfl ?_
   refine WpL_nil (Wp_ret (inB_ret (thn_ret ?_)))
   refine fin_tmp Tryz.results135 (v := (.int .i64 ((d.toNat : Nat) : Int))) rfl ?_
   exact ⟨by cases hs; rfl, by cases hs; exact h, E⟩
  ·have khsp := hsp
   replace hsp := of_decide_eq_false hsp
   rw [if_neg (by omega)] at hs
   refine Wp_seq_region ?_
   refine qM (.int .u8 (d.toNat : Int)) rfl ?_
   refine qV (r_eql (k := .u8) (a := (d.toNat : Int)) (b := 110) rfl rfl) ?_
   refine qA (.bool (decide (((d.toNat : Int) : Int) = 110))) rfl ?_
   refine WpL_nil ?_
   refine Wp_cond (b := decide (((d.toNat : Int) : Int) = 110)) rfl (fun h110 => ?_) (fun h110 => ?_)
   ·have kh110 := h110
    replace h110 := of_decide_eq_true h110
    rw [if_pos (toN_eq (by rw [show (110 : UInt8).toNat = 110 from rfl]; omega))] at hs
    refine Wp_seq_region ?_
    refine qA (I6 10) rfl ?_
    refine WpL_nil (Wp_ret (inB_ret (thn_ret ?_)))
    refine fin_tmp Tryz.results135 (v := (.int .i64 10)) rfl ?_
    exact ⟨by cases hs; rfl, by cases hs; exact h, E⟩
   ·have kh110 := h110
    replace h110 := of_decide_eq_false h110
    rw [if_neg (fun hh => h110 (by rw [hh]; rfl))] at hs
    refine Wp_seq_region ?_
    refine qM (.int .u8 (d.toNat : Int)) rfl ?_
    refine qV (r_eql (k := .u8) (a := (d.toNat : Int)) (b := 116) rfl rfl) ?_
    refine qA (.bool (decide (((d.toNat : Int) : Int) = 116))) rfl ?_
    refine WpL_nil ?_
    refine Wp_cond (b := decide (((d.toNat : Int) : Int) = 116)) rfl (fun h116 => ?_) (fun h116 => ?_)
    ·have kh116 := h116
     replace h116 := of_decide_eq_true h116
     rw [if_pos (toN_eq (by rw [show (116 : UInt8).toNat = 116 from rfl]; omega))] at hs
     refine Wp_seq_region ?_
     refine qA (I6 9) rfl ?_
     refine WpL_nil (Wp_ret (inB_ret (thn_ret ?_)))
     refine fin_tmp Tryz.results135 (v := (.int .i64 9)) rfl ?_
     exact ⟨by cases hs; rfl, by cases hs; exact h, E⟩
    ·have kh116 := h116
     replace h116 := of_decide_eq_false h116
     rw [if_neg (fun hh => h116 (by rw [hh]; rfl))] at hs
     refine Wp_seq_region ?_
     refine qM (.int .u8 (d.toNat : Int)) rfl ?_
     refine qV (r_eql (k := .u8) (a := (d.toNat : Int)) (b := 114) rfl rfl) ?_
     refine qA (.bool (decide (((d.toNat : Int) : Int) = 114))) rfl ?_
     refine WpL_nil ?_
     refine Wp_cond (b := decide (((d.toNat : Int) : Int) = 114)) rfl (fun h114 => ?_) (fun h114 => ?_)
     ·have kh114 := h114
      replace h114 := of_decide_eq_true h114
      rw [if_pos (toN_eq (by rw [show (114 : UInt8).toNat = 114 from rfl]; omega))] at hs
      refine Wp_seq_region ?_
      refine qA (I6 13) rfl ?_
      refine WpL_nil (Wp_ret (inB_ret (thn_ret ?_)))
      refine fin_tmp Tryz.results135 (v := (.int .i64 13)) rfl ?_
      exact ⟨by cases hs; rfl, by cases hs; exact h, E⟩
     ·have kh114 := h114
      replace h114 := of_decide_eq_false h114
      rw [if_neg (fun hh => h114 (by rw [hh]; rfl))] at hs
      have h117 : d = 117 := by split at hs; assumption; cases hs
      rw [if_pos h117] at hs
      have h117b : d.toNat = 117 := by rw [h117]; rfl
      refine Wp_seq_region ?_
      refine qM (.int .u8 (d.toNat : Int)) rfl ?_
      refine qV (r_eql (k := .u8) (a := (d.toNat : Int)) (b := 117) rfl rfl) ?_
      refine qA (.bool (decide (((d.toNat : Int) : Int) = 117))) rfl ?_
      refine WpL_nil ?_
      have hc12 : (decide ((((d.toNat : Nat) : Int) : Int) = 117)) = true := decide_eq_true (by omega)
      refine Wp_cond_true (congrArg Value.bool hc12) ?_
      refine Wp_seq_region ?_
      refine qM (P6 b 0) rfl ?_
      refine WpL_enter rfl rfl (by decide) (r_callF (vs := [(P6 b 0)]) Tryz.func140 nm140 bd140 rfl) (number_c _ b q2 r c hs h) ?_
      rintro _ w39 ⟨rfl, h39, X39⟩
      replace E := E.trans X39
      refine qA (I6 c) rfl ?_
      refine WpL_nil (Wp_ret (inB_ret (thn_ret ?_)))
      refine fin_tmp Tryz.results135 (v := (.int .i64 c)) rfl ?_
      exact ⟨rfl, h39, E⟩
theorem schar_c (w0 : World) (b : Nat) (s r : Bys) (c : Int) (hs : chP s = some (c, r)) (h : StR w0 b s) : Ret Tryz.prog 135 #[.pointer (some ⟨b, 0, none⟩)] w0 fun v w => v = .int .i64 c ∧ StR w b r ∧ Chg (fun y => y = b) w0 w :=
 (char_c w0 b s r c hs h.rd h.lay).mono fun _ _ ⟨h1, h2, h3⟩ => ⟨h1, h.to h3 h2, h3⟩
end Go.Proofs
