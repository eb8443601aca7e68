/- Contracts and plain lemmas, part 4. -/
import Derived.Shelf.SlSortCmp.WholeK
import Derived.Shelf.Strconv.Itoa3
import Derived.Shelf.Sort.Plain
import Derived.Shelf.Small.Strs
import Derived.Shelf.Strings.Prefix
import Derived.Shelf.Small.Wraps
import Derived.Shelf.Strings.OnBuilder
import Derived.Shelf.Unicode.DecodeAny
import Derived.Shelf.Unicode.ValidAny
import Derived.Shelf.Strings.Runes
import Derived.Shelf.Strings.SlTrimAscii
import Derived.Shelf.Spec.TrailingZeros
import Derived.Test.YtgelnfllojinbaaGreatDoorProg
import Derived.Tactics
import Derived.Deep.Quiet
import Derived.Laws.AppendOwn
import Derived.KernelRfl
import Derived.Laws.Entries
import Derived.Laws.Build
import Derived.Below
import Derived.RowKit3
import Derived.StillTail
import Derived.Sort.Grow
import Derived.Deep.Draws
import Derived.Lib.AppendIntMem
import Derived.Laws.Externs
import Derived.Test.YtgelnfllojinbaaGreatDoorChecked
import Derived.Laws.StructEq
import Derived.Lib.IndexLaws
import Derived.MapKept
import Derived.Laws.BytesArg
import Derived.Lib.ConvBytes
import Derived.Defers
import Derived.Recover
import Derived.Lib.TrimUEq
import Derived.Lib.TrimAscii
import Derived.Lib.MapLaws
import Derived.OpenShut
import Derived.ChangeSlices
import Derived.Test.YtgelnfllojinbaaGreatDoorRows
import Derived.Test.YtgelnfllojinbaaGreatDoorZr3
namespace Go.Proofs
open Go Go.Eng Go.Sort Go.Lib
set_option linter.unusedSectionVars false
variable [Drw]
set_option maxRecDepth 100000
/-- One span of a set. -/
def spP (s : Bys) : Option (Sp × Bys) :=
  match chP s with
  | some (lo, q) => if hasPrefix q [45] = true then (match chP (trimPrefix q [45]) with | some (hi, r) => if hi < lo then none else some ((lo, hi), r) | none => none) else some ((lo, lo), q)
  | none => none
theorem spP_some {s r : Bys} {p : Sp} (h : spP s = some (p, r)) : ∃ q, chP s = some (p.1, q) ∧ ((hasPrefix q [45] = true ∧ chP (trimPrefix q [45]) = some (p.2, r) ∧ p.1 ≤ p.2) ∨ (hasPrefix q [45] = false ∧ p.2 = p.1 ∧ r = q)) := by
 unfold spP at h
 split at h
 ·rename_i lo q hq
  split at h
  ·rename_i hp
   split at h
   ·rename_i hi r' hr
    split at h
    ·cases h
    ·rename_i hlt; cases h; exact ⟨q, hq, .inl ⟨hp, hr, by simp only; omega⟩⟩
   ·cases h
  ·rename_i hp; cases h; exact ⟨_, hq, .inr ⟨by simpa using hp, rfl, rfl⟩⟩
 ·cases h
/-- The spans up to the bracket. -/
def itmsP : Nat → List Sp → Bys → Option (List Sp × Bys)
  | 0, _, _ => none
  | n + 1, l, s => if l.length ≠ 0 ∧ hasPrefix s [93] = true then some (l, trimPrefix s [93]) else (match spP s with | some (p, r) => itmsP n (l ++ [p]) r | none => none)
theorem itmsP_go {n : Nat} {l L : List Sp} {s r : Bys} (h : itmsP n l s = some (L, r)) (hp : ¬ (l.length ≠ 0 ∧ hasPrefix s [93] = true)) : ∃ m p q, n = m + 1 ∧ spP s = some (p, q) ∧ itmsP m (l ++ [p]) q = some (L, r) := by
  cases n with
  | zero => cases h
  | succ m =>
    rw [itmsP, if_neg hp] at h
    split at h
    · rename_i p q hq; exact ⟨m, p, q, rfl, hq, h⟩
    · cases h
theorem itmsP_end {n : Nat} {l L : List Sp} {s r : Bys} (h : itmsP n l s = some (L, r)) (hp : l.length ≠ 0 ∧ hasPrefix s [93] = true) : L = l ∧ r = trimPrefix s [93] := by
  cases n with
  | zero => cases h
  | succ m => rw [itmsP, if_pos hp] at h; cases h; exact ⟨rfl, rfl⟩
def vSpB (s : Sp) : Bool := decide (0 ≤ s.1) && decide (s.1 ≤ s.2) && decide (s.2 ≤ 1114111)
theorem vSpB_iff (s : Sp) : vSpB s = true ↔ vSp s := by unfold vSpB vSp; simp [and_assoc]
/-- A set in brackets. -/
def setP (s : Bys) : Option (Re × Bys) :=
  if hasPrefix s [94] = true then none
  else match itmsP 5000 [] s with
    | some (l, r) => if l.Pairwise (fun a b => a.1 ≤ b.1) ∧ l.all vSpB = true ∧ (joinF l).length ≤ 16 then some (.mk 2 (joinF l) [] 0 0 false, r) else none
    | none => none
theorem setP_some {s r : Bys} {t : Re} (h : setP s = some (t, r)) : hasPrefix s [94] = false ∧ ∃ l, itmsP 5000 [] s = some (l, r) ∧ (joinF l).length ≤ 16 ∧ (∀ x ∈ l, vSp x) ∧ l.Pairwise (fun a b => a.1 ≤ b.1) ∧ t = .mk 2 (joinF l) [] 0 0 false := by
 unfold setP at h
 split at h
 ·cases h
 ·rename_i hp
  split at h
  ·rename_i l r' hl
   split at h
   ·rename_i hc
    cases h
    exact ⟨by simpa using hp, l, hl, hc.2.2, fun x hx => (vSpB_iff x).1 (List.all_eq_true.1 hc.2.1 x hx), hc.1, rfl⟩
   ·cases h
  ·cases h
theorem set_c (b : Nat) : RdOk b 132 setP := by
 intro w0 s t r hs h
 obtain ⟨h94, L, hm0, hL16, hv, hpw, rfl⟩ := setP_some hs
 have hja := joinF_all hv hpw
 have hlt := h.lt
 refine Ret_of Tryz.func132 rfl Tryz.ntmps132 (Nat.le_of_ble_eq_true rfl) ?_
 have E : Chg (fun y => y = b) w0 w0 := Chg.refl _ _
 refine Wp_seq_region ?_
 refine s_alloc (c := #[(I6 0), (.slice none 0 0), (.slice none 0 0), (I6 0), (I6 0), (.bool false)]) (by decide) zer25 rfl ?_
 intro bo wo No
 have Fo := No.ge E
 replace E := E.ext No.ext
 have Bo := No.blk
 refine WpL_nil (Wp_seq_region ?_)
 refine qM (P6 b 0) rfl ?_
 obtain ⟨n1, hn1⟩ : ∃ n1, n1 = wo.heap.size := ⟨_, rfl⟩
 have hbn : b < n1 ∧ bo < n1 := ⟨by have := No.ext.size; omega, by rw [hn1]; exact Bo.lt⟩
 refine WpL_enter rfl rfl (by decide) (r_callF (vs := [(P6 b 0), (.string (ByteArray.mk #[94]))]) Tryz.func78 nm78 bd78 rfl) (stake_c _ b s [94] (h.ext No.ext)) ?_
 rintro _ w9 ⟨rfl, h9, X9⟩
 replace Bo := X9.keep (fun hh => by omega) Bo
 replace E := E.trans X9
 rw [trim_no h94] at h9
 have hsz : n1 ≤ w9.heap.size := by have := X9.size; omega
 refine qA (.bool (hasPrefix s [94])) rfl ?_
 refine WpL_nil (Wp_seq_region ?_)
 refine qA (.slice none 0 0) rfl ?_
 refine WpL_nil (Wp_seq (Wp_block ?_))
 refine Wp_loop (fun nn_ σ W1 => ∃ (l : List Sp) (k2 : Nat) (q : Bys) (n : Nat) (la : Option Addr) (lc : Nat), (∃ jj_, σ = upds jj_ [(0, (P6 b 0)), (2, (P6 bo 0)), (3, (.bool (hasPrefix s [94]))), (4, (.slice la k2 lc))]) ∧ Chg (fun y => y = b) w0 W1 ∧ Blk W1 bo #[(I6 0), (.slice none 0 0), (.slice none 0 0), (I6 0), (I6 0), (.bool false)] 25 ∧ (StR W1 b q) ∧ (W1.ownsRow n1 TSp 2 (.slice la k2 lc) k2 (l.map spanV).flatten) ∧ (itmsP n l q = some (L, r)) ∧ (l.length = k2 ∧ k2 + n = 5000) ∧ (n1 ≤ W1.heap.size) ∧ nn_ = n + 0) (n := 5000 + 0) ?_ ?_
 ·exact ⟨[], 0, s, 5000, none, 0, Fits.out ⟨rfl, rfl, rfl, rfl, trivial⟩, E, Bo, h9, World.ownsRow_nil _ _ _ _, hm0, ⟨rfl, rfl⟩, hsz, rfl⟩
 ·clear E Bo
  rintro _ _ W1 ⟨l, k2, q, n, la, lc, ⟨j1, rfl⟩, E, Bo, h9, hO, hm, hk2, hsz, rfl⟩
  refine Wp_seq (Wp_seq_region ?_)
  refine qM (.slice la k2 lc) rfl ?_
  refine qV (r_lenSlice (ad := la) (n := k2) (cap := lc) Tryz.underlying22 rfl) ?_
  refine qV (r_eql (k := .i64) (a := (k2 : Int)) (b := 0) rfl rfl) ?_
  refine qM (.bool (decide (((k2 : Int) : Int) = 0))) rfl ?_
  rcases Bool.eq_false_or_eq_true (decide ((((k2 : Nat) : Int) : Int) = 0)) with hk0 | hk0
  ·have khk0 := hk0
   replace khk0 := of_decide_eq_true khk0
   have hnp : ¬ (l.length ≠ 0 ∧ hasPrefix q [93] = true) := fun hh => hh.1 (by omega)
   obtain ⟨m2, p, q2, hnm, hsp, hmx⟩ := itmsP_go hm hnp
   obtain ⟨q3, hch, hor⟩ := spP_some hsp
   refine WpL_guard_no (oj := _) rfl rfl (by decide) (v := .bool true) (congrArg Value.bool hk0) (Or.inl rfl) ?_
   refine WpL_guard_no (oj := _) rfl rfl (by decide) (v := .bool true) (congrArg Value.bool hk0) (Or.inl rfl) ?_
   refine WpL_guard_no (oj := _) rfl rfl (by decide) (v := .bool true) (congrArg Value.bool hk0) (Or.inl rfl) ?_
   refine qV (r_pick (b := decide (((k2 : Int) : Int) = 0)) (v := (.bool true)) rfl (by rw [hk0]; rfl)) ?_
   refine WpL_nil ?_
   refine Wp_cond_true rfl ?_
   refine Wp_skip (thn_normal (Wp_block (Wp_seq_region ?_)))
   refine qM (P6 b 0) rfl ?_
   refine WpL_enter rfl rfl (by decide) (r_callF (vs := [(P6 b 0)]) Tryz.func135 nm135 bd135 rfl) (schar_c _ b _ q3 p.1 hch h9) ?_
   rintro _ w29 ⟨rfl, h29, X29⟩
   replace Bo := X29.keep (fun hh => by omega) Bo
   replace E := E.trans X29
   replace hO := own_chg hO X29 (fun y hy hM => by have := (hO.lt y hy).1; omega)
   replace hsz := Nat.le_trans hsz X29.size
   have hkO := hO.lt
   have hsz2 := hsz
   refine qV (r_build (ps := [(0, (I6 p.1))]) (v := (.agg #[(I6 p.1), (I6 0)])) rfl (by kernel_rfl)) ?_
   refine s_allocStore (v := (.agg #[(I6 p.1), (I6 0)])) (c := #[(I6 p.1), (I6 0)]) (n := 2) (by decide) zer62 rfl siz62 rfl rfl rfl (by simp [Value.oneCell']) ?_
   intro bz wz Nz
   have Fz := Nz.ge E
   have Oz_bo := Nz.lt Bo
   replace Bo := Nz.keep Bo
   replace h29 := StR.ext h29 Nz.ext
   replace hO := own_ext hO Nz.ext
   replace hsz := Nat.le_trans hsz Nz.ext.size
   replace E := E.ext Nz.ext
   have Bz := Nz.blk
   refine WpL_nil (Wp_seq_region ?_)
   refine qF bz 0 0 rfl Tryz.underlying62 rfl siz3 rfl ?_
   refine qV (r_load (v := (I6 p.1)) rfl flat3 (Bz.cell rfl)) ?_
   refine qF bz 0 1 rfl Tryz.underlying62 rfl siz3 rfl ?_
   refine s_store (b := bz) (o := 1) (c' := #[(I6 p.1), (I6 p.1)]) (v := (I6 p.1)) rfl rfl rfl siz3 Bz (by simp) rfl ?_
   intro w3 S3
   replace h29 := StR.put h29 S3 (by omega)
   replace hO := own_chg hO S3.chg (fun y hy hM => by have := (hkO y hy).2; have := Nz.eq; omega)
   replace hsz := Nat.le_trans hsz S3.chg.size
   replace Bo := S3.keep (by omega) Bo
   replace E := S3.step E (by first | exact Or.inl (by omega) | assumption | exact Or.inr rfl | exact Or.inr (by assumption) | exact Or.inr (by simp) | exact Or.inr (by omega) | exact Or.inr (by dsimp only; omega))
   replace Bz := S3.blk
   refine WpL_nil (Wp_seq (Wp_seq_region ?_))
   refine qM (P6 b 0) rfl ?_
   refine WpL_enter rfl rfl (by decide) (r_callF (vs := [(P6 b 0), (.string (ByteArray.mk #[45]))]) Tryz.func78 nm78 bd78 rfl) (stake_c _ b q3 [45] h29) ?_
   rintro _ w39 ⟨rfl, h39, X39⟩
   replace Bo := X39.keep (fun hh => by omega) Bo
   replace Bz := X39.keep (fun hh => by omega) Bz
   replace E := E.trans X39
   replace hO := own_chg hO X39 (fun y hy hM => by have := (hO.lt y hy).1; omega)
   replace hsz := Nat.le_trans hsz X39.size
   refine WpL_nil ?_
   refine Wp_cond (b := hasPrefix q3 [45]) rfl (fun hq45 => ?_) (fun hq45 => ?_)
   ·have khq45 := hq45
    obtain ⟨_, hch2, hle⟩ := hor.resolve_right (fun hh => by rw [hh.1] at hq45; cases hq45)
    refine Wp_region ?_
    refine qM (P6 b 0) rfl ?_
    refine WpL_enter rfl rfl (by decide) (r_callF (vs := [(P6 b 0)]) Tryz.func135 nm135 bd135 rfl) (schar_c _ b _ q2 p.2 hch2 h39) ?_
    rintro _ w49 ⟨rfl, h49, X49⟩
    replace Bo := X49.keep (fun hh => by omega) Bo
    replace Bz := X49.keep (fun hh => by omega) Bz
    replace E := E.trans X49
    replace hO := own_chg hO X49 (fun y hy hM => by have := (hO.lt y hy).1; omega)
    replace hsz := Nat.le_trans hsz X49.size
    refine qF bz 0 1 rfl Tryz.underlying62 rfl siz3 rfl ?_
    refine s_store (b := bz) (o := 1) (c' := #[(I6 p.1), (I6 p.2)]) (v := (I6 p.2)) rfl rfl rfl siz3 Bz (by simp) rfl ?_
    intro w5 S5
    replace h49 := StR.put h49 S5 (by omega)
    replace hO := own_chg hO S5.chg (fun y hy hM => by have := (hkO y hy).2; have := Nz.eq; omega)
    replace hsz := Nat.le_trans hsz S5.chg.size
    replace Bo := S5.keep (by omega) Bo
    replace E := S5.step E (by first | exact Or.inl (by omega) | assumption | exact Or.inr rfl | exact Or.inr (by assumption) | exact Or.inr (by simp) | exact Or.inr (by omega) | exact Or.inr (by dsimp only; omega))
    replace Bz := S5.blk
    refine WpL_nil (thn_normal (Wp_seq (Wp_seq_region ?_)))
    refine qF bz 0 1 rfl Tryz.underlying62 rfl siz3 rfl ?_
    refine qV (r_load (v := (I6 p.2)) rfl flat3 (Bz.cell rfl)) ?_
    refine qF bz 0 0 rfl Tryz.underlying62 rfl siz3 rfl ?_
    refine qV (r_load (v := (I6 p.1)) rfl flat3 (Bz.cell rfl)) ?_
    refine qV (r_lss (k := .i64) (a := p.2) (b := p.1) rfl rfl) ?_
    refine WpL_nil ?_
    have hc6 : (decide ((p.2 : Int) < p.1)) = false := decide_eq_false (by omega)
    refine Wp_cond_false (congrArg Value.bool hc6) ?_
    refine Wp_skip (thn_normal (Wp_region ?_))
    refine qM (.slice la k2 lc) rfl ?_
    refine qV (r_loadAgg (vs := [(I6 p.1), (I6 p.2)]) rfl agg62 siz62 rfl (Bz.cells rfl)) ?_
    refine s_buildSlice (ps := [(0, (.agg #[(I6 p.1), (I6 p.2)]))]) (c := #[(I6 p.1), (I6 p.2)]) (by decide) rfl Tryz.underlying22 siz62 zer62 (by decide) (by decide) (by kernel_rfl) ?_
    intro b7 w7 N7
    have F7 := N7.ge E
    have O7_bo := N7.lt Bo
    have O7_bz := N7.lt Bz
    replace Bo := N7.keep Bo
    replace Bz := N7.keep Bz
    replace h49 := StR.ext h49 N7.ext
    replace hO := own_ext hO N7.ext
    replace hsz := Nat.le_trans hsz N7.ext.size
    replace E := E.ext N7.ext
    have B7 := N7.blk
    have hQ9 : True := trivial
    refine s_append (base := n1) (n := k2) (m := 1) (xs := (l.map spanV).flatten) (news := [(I6 p.1), (I6 p.2)]) (size := 2) (bytes := 16) (v := (.slice la k2 lc)) (by decide) Tryz.underlying22 siz62 byt62 zer62 rfl (by decide) rfl hO rfl (rfl) (B7.cells rfl) (by simp [Value.oneCell']) (by unfold maxLen; omega) (by omega) (hsz) ?_
    intro v9 w59 Ov9 Cv9 Dv9
    replace Bo := Cv9.keep (fun h => by have := (hO.lt _ h).1; omega) Bo
    replace Bz := Cv9.keep (fun h => by have := (hkO _ h).2; have := Nz.eq; omega) Bz
    replace E := E.step Cv9 (fun x hx h => absurd (hO.lt x h).1 (by omega))
    obtain ⟨la2, lc2, rfl⟩ := own_form Ov9
    refine qA (.slice la2 (k2 + 1) lc2) rfl ?_
    refine WpL_nil (inB_normal (thn_normal ?_))
    exact ⟨m2 + 0, by omega, l ++ [p], k2 + 1, q2, m2, la2, lc2, Fits.out ⟨rfl, rfl, rfl, rfl, trivial⟩, E, Bo, h49.off Cv9 (fun y hy => by have := (hO.lt y hy).1; omega), (by simpa [spanV] using Ov9), hmx, ⟨by simp; omega, by omega⟩, Nat.le_trans hsz Cv9.size, rfl⟩
   ·have khq45 := hq45
    obtain ⟨_, hpe, hqe⟩ := hor.resolve_left (fun hh => by rw [hh.1] at hq45; cases hq45)
    rw [trim_no hq45, ← hqe] at h39
    refine Wp_skip (thn_normal (Wp_seq (Wp_seq_region ?_)))
    refine qF bz 0 1 rfl Tryz.underlying62 rfl siz3 rfl ?_
    refine qV (r_load (v := (I6 p.1)) rfl flat3 (Bz.cell rfl)) ?_
    refine qF bz 0 0 rfl Tryz.underlying62 rfl siz3 rfl ?_
    refine qV (r_load (v := (I6 p.1)) rfl flat3 (Bz.cell rfl)) ?_
    refine qV (r_lss (k := .i64) (a := p.1) (b := p.1) rfl rfl) ?_
    refine WpL_nil ?_
    have hc8 : (decide ((p.1 : Int) < p.1)) = false := decide_eq_false (by omega)
    refine Wp_cond_false (congrArg Value.bool hc8) ?_
    refine Wp_skip (thn_normal (Wp_region ?_))
    refine qM (.slice la k2 lc) rfl ?_
    refine qV (r_loadAgg (vs := [(I6 p.1), (I6 p.1)]) rfl agg62 siz62 rfl (Bz.cells rfl)) ?_
    refine s_buildSlice (ps := [(0, (.agg #[(I6 p.1), (I6 p.1)]))]) (c := #[(I6 p.1), (I6 p.1)]) (by decide) rfl Tryz.underlying22 siz62 zer62 (by decide) (by decide) (by kernel_rfl) ?_
    intro be we Ne
    have Fe := Ne.ge E
    have Oe_bo := Ne.lt Bo
    have Oe_bz := Ne.lt Bz
    replace Bo := Ne.keep Bo
    replace Bz := Ne.keep Bz
    replace h39 := StR.ext h39 Ne.ext
    replace hO := own_ext hO Ne.ext
    replace hsz := Nat.le_trans hsz Ne.ext.size
    replace E := E.ext Ne.ext
    have Be := Ne.blk
    have hQ9 : True := trivial
    refine s_append (base := n1) (n := k2) (m := 1) (xs := (l.map spanV).flatten) (news := [(I6 p.1), (I6 p.1)]) (size := 2) (bytes := 16) (v := (.slice la k2 lc)) (by decide) Tryz.underlying22 siz62 byt62 zer62 rfl (by decide) rfl hO rfl (rfl) (Be.cells rfl) (by simp [Value.oneCell']) (by unfold maxLen; omega) (by omega) (hsz) ?_
    intro v9 w59 Ov9 Cv9 Dv9
    replace Bo := Cv9.keep (fun h => by have := (hO.lt _ h).1; omega) Bo
    replace Bz := Cv9.keep (fun h => by have := (hkO _ h).2; have := Nz.eq; omega) Bz
    replace E := E.step Cv9 (fun x hx h => absurd (hO.lt x h).1 (by omega))
    obtain ⟨la2, lc2, rfl⟩ := own_form Ov9
    refine qA (.slice la2 (k2 + 1) lc2) rfl ?_
    refine WpL_nil (inB_normal (thn_normal ?_))
    exact ⟨m2 + 0, by omega, l ++ [p], k2 + 1, q2, m2, la2, lc2, Fits.out ⟨rfl, rfl, rfl, rfl, trivial⟩, E, Bo, h39.off Cv9 (fun y hy => by have := (hO.lt y hy).1; omega), (by simpa [spanV, hpe] using Ov9), hmx, ⟨by simp; omega, by omega⟩, Nat.le_trans hsz Cv9.size, rfl⟩
  ·have khk0 := hk0
   replace khk0 := of_decide_eq_false khk0
   refine WpL_guard_yes (oj := _) rfl rfl (by decide) (congrArg Value.bool hk0) ?_
   refine qM (P6 b 0) rfl ?_
   refine WpL_guard_yes (oj := _) rfl rfl (by decide) (congrArg Value.bool hk0) ?_
   refine WpL_enter rfl rfl (by decide) (r_callF (vs := [(P6 b 0), (.string (ByteArray.mk #[93]))]) Tryz.func78 nm78 bd78 rfl) (stake_c _ b q [93] h9) ?_
   rintro _ w19 ⟨rfl, h19, X19⟩
   replace Bo := X19.keep (fun hh => by omega) Bo
   replace E := E.trans X19
   replace hO := own_chg hO X19 (fun y hy hM => by have := (hO.lt y hy).1; omega)
   replace hsz := Nat.le_trans hsz X19.size
   refine WpL_guard_yes (oj := _) rfl rfl (by decide) (congrArg Value.bool hk0) ?_
   refine qV (r_not (b := hasPrefix q [93]) rfl) ?_
   refine qV (r_pick (b := decide (((k2 : Int) : Int) = 0)) (v := (.bool (!(hasPrefix q [93])))) rfl (by rw [hk0]; rfl)) ?_
   refine WpL_nil ?_
   refine Wp_cond (b := !(hasPrefix q [93])) rfl (fun hq93 => ?_) (fun hq93 => ?_)
   ·have khq93 := hq93
    replace hq93 := by simpa using hq93
    have hnp : ¬ (l.length ≠ 0 ∧ hasPrefix q [93] = true) := fun hh => by rw [hh.2] at hq93; cases hq93
    rw [trim_no (by simpa using hq93)] at h19
    obtain ⟨m2, p, q2, hnm, hsp, hmx⟩ := itmsP_go hm hnp
    obtain ⟨q3, hch, hor⟩ := spP_some hsp
    refine Wp_skip (thn_normal (Wp_block (Wp_seq_region ?_)))
    refine qM (P6 b 0) rfl ?_
    refine WpL_enter rfl rfl (by decide) (r_callF (vs := [(P6 b 0)]) Tryz.func135 nm135 bd135 rfl) (schar_c _ b _ q3 p.1 hch h19) ?_
    rintro _ w29 ⟨rfl, h29, X29⟩
    replace Bo := X29.keep (fun hh => by omega) Bo
    replace E := E.trans X29
    replace hO := own_chg hO X29 (fun y hy hM => by have := (hO.lt y hy).1; omega)
    replace hsz := Nat.le_trans hsz X29.size
    have hkO := hO.lt
    have hsz2 := hsz
    refine qV (r_build (ps := [(0, (I6 p.1))]) (v := (.agg #[(I6 p.1), (I6 0)])) rfl (by kernel_rfl)) ?_
    refine s_allocStore (v := (.agg #[(I6 p.1), (I6 0)])) (c := #[(I6 p.1), (I6 0)]) (n := 2) (by decide) zer62 rfl siz62 rfl rfl rfl (by simp [Value.oneCell']) ?_
    intro bz wz Nz
    have Fz := Nz.ge E
    have Oz_bo := Nz.lt Bo
    replace Bo := Nz.keep Bo
    replace h29 := StR.ext h29 Nz.ext
    replace hO := own_ext hO Nz.ext
    replace hsz := Nat.le_trans hsz Nz.ext.size
    replace E := E.ext Nz.ext
    have Bz := Nz.blk
    refine WpL_nil (Wp_seq_region ?_)
    refine qF bz 0 0 rfl Tryz.underlying62 rfl siz3 rfl ?_
    refine qV (r_load (v := (I6 p.1)) rfl flat3 (Bz.cell rfl)) ?_
    refine qF bz 0 1 rfl Tryz.underlying62 rfl siz3 rfl ?_
    refine s_store (b := bz) (o := 1) (c' := #[(I6 p.1), (I6 p.1)]) (v := (I6 p.1)) rfl rfl rfl siz3 Bz (by simp) rfl ?_
    intro w10 S10
    replace h29 := StR.put h29 S10 (by omega)
    replace hO := own_chg hO S10.chg (fun y hy hM => by have := (hkO y hy).2; have := Nz.eq; omega)
    replace hsz := Nat.le_trans hsz S10.chg.size
    replace Bo := S10.keep (by omega) Bo
    replace E := S10.step E (by first | exact Or.inl (by omega) | assumption | exact Or.inr rfl | exact Or.inr (by assumption) | exact Or.inr (by simp) | exact Or.inr (by omega) | exact Or.inr (by dsimp only; omega))
    replace Bz := S10.blk
    refine WpL_nil (Wp_seq (Wp_seq_region ?_))
    refine qM (P6 b 0) rfl ?_
    refine WpL_enter rfl rfl (by decide) (r_callF (vs := [(P6 b 0), (.string (ByteArray.mk #[45]))]) Tryz.func78 nm78 bd78 rfl) (stake_c _ b q3 [45] h29) ?_
    rintro _ w39 ⟨rfl, h39, X39⟩
    replace Bo := X39.keep (fun hh => by omega) Bo
    replace Bz := X39.keep (fun hh => by omega) Bz
    replace E := E.trans X39
    replace hO := own_chg hO X39 (fun y hy hM => by have := (hO.lt y hy).1; omega)
    replace hsz := Nat.le_trans hsz X39.size
    refine WpL_nil ?_
    refine Wp_cond (b := hasPrefix q3 [45]) rfl (fun hq45 => ?_) (fun hq45 => ?_)
    ·have khq45 := hq45
     obtain ⟨_, hch2, hle⟩ := hor.resolve_right (fun hh => by rw [hh.1] at hq45; cases hq45)
     refine Wp_region ?_
     refine qM (P6 b 0) rfl ?_
     refine WpL_enter rfl rfl (by decide) (r_callF (vs := [(P6 b 0)]) Tryz.func135 nm135 bd135 rfl) (schar_c _ b _ q2 p.2 hch2 h39) ?_
     rintro _ w49 ⟨rfl, h49, X49⟩
     replace Bo := X49.keep (fun hh => by omega) Bo
     replace Bz := X49.keep (fun hh => by omega) Bz
     replace E := E.trans X49
     replace hO := own_chg hO X49 (fun y hy hM => by have := (hO.lt y hy).1; omega)
     replace hsz := Nat.le_trans hsz X49.size
     refine qF bz 0 1 rfl Tryz.underlying62 rfl siz3 rfl ?_
     refine s_store (b := bz) (o := 1) (c' := #[(I6 p.1), (I6 p.2)]) (v := (I6 p.2)) rfl rfl rfl siz3 Bz (by simp) rfl ?_
     intro w12 S12
     replace h49 := StR.put h49 S12 (by omega)
     replace hO := own_chg hO S12.chg (fun y hy hM => by have := (hkO y hy).2; have := Nz.eq; omega)
     replace hsz := Nat.le_trans hsz S12.chg.size
     replace Bo := S12.keep (by omega) Bo
     replace E := S12.step E (by first | exact Or.inl (by omega) | assumption | exact Or.inr rfl | exact Or.inr (by assumption) | exact Or.inr (by simp) | exact Or.inr (by omega) | exact Or.inr (by dsimp only; omega))
     replace Bz := S12.blk
     refine WpL_nil (thn_normal (Wp_seq (Wp_seq_region ?_)))
     refine qF bz 0 1 rfl Tryz.underlying62 rfl siz3 rfl ?_
     refine qV (r_load (v := (I6 p.2)) rfl flat3 (Bz.cell rfl)) ?_
     refine qF bz 0 0 rfl Tryz.underlying62 rfl siz3 rfl ?_
     refine qV (r_load (v := (I6 p.1)) rfl flat3 (Bz.cell rfl)) ?_
     refine qV (r_lss (k := .i64) (a := p.2) (b := p.1) rfl rfl) ?_
     refine WpL_nil ?_
     have hc13 : (decide ((p.2 : Int) < p.1)) = false := decide_eq_false (by omega)
     refine Wp_cond_false (congrArg Value.bool hc13) ?_
     refine Wp_skip (thn_normal (Wp_region ?_))
     refine qM (.slice la k2 lc) rfl ?_
     refine qV (r_loadAgg (vs := [(I6 p.1), (I6 p.2)]) rfl agg62 siz62 rfl (Bz.cells rfl)) ?_
     refine s_buildSlice (ps := [(0, (.agg #[(I6 p.1), (I6 p.2)]))]) (c := #[(I6 p.1), (I6 p.2)]) (by decide) rfl Tryz.underlying22 siz62 zer62 (by decide) (by decide) (by kernel_rfl) ?_
     intro b14 w14 N14
     have F14 := N14.ge E
     have O14_bo := N14.lt Bo
     have O14_bz := N14.lt Bz
     replace Bo := N14.keep Bo
     replace Bz := N14.keep Bz
     replace h49 := StR.ext h49 N14.ext
     replace hO := own_ext hO N14.ext
     replace hsz := Nat.le_trans hsz N14.ext.size
     replace E := E.ext N14.ext
     have B14 := N14.blk
     have hQ9 : True := trivial
     refine s_append (base := n1) (n := k2) (m := 1) (xs := (l.map spanV).flatten) (news := [(I6 p.1), (I6 p.2)]) (size := 2) (bytes := 16) (v := (.slice la k2 lc)) (by decide) Tryz.underlying22 siz62 byt62 zer62 rfl (by decide) rfl hO rfl (rfl) (B14.cells rfl) (by simp [Value.oneCell']) (by unfold maxLen; omega) (by omega) (hsz) ?_
     intro v9 w59 Ov9 Cv9 Dv9
     replace Bo := Cv9.keep (fun h => by have := (hO.lt _ h).1; omega) Bo
     replace Bz := Cv9.keep (fun h => by have := (hkO _ h).2; have := Nz.eq; omega) Bz
     replace E := E.step Cv9 (fun x hx h => absurd (hO.lt x h).1 (by omega))
     obtain ⟨la2, lc2, rfl⟩ := own_form Ov9
     refine qA (.slice la2 (k2 + 1) lc2) rfl ?_
     refine WpL_nil (inB_normal (thn_normal ?_))
     exact ⟨m2 + 0, by omega, l ++ [p], k2 + 1, q2, m2, la2, lc2, Fits.out ⟨rfl, rfl, rfl, rfl, trivial⟩, E, Bo, h49.off Cv9 (fun y hy => by have := (hO.lt y hy).1; omega), (by simpa [spanV] using Ov9), hmx, ⟨by simp; omega, by omega⟩, Nat.le_trans hsz Cv9.size, rfl⟩
    ·have khq45 := hq45
     obtain ⟨_, hpe, hqe⟩ := hor.resolve_left (fun hh => by rw [hh.1] at hq45; cases hq45)
     rw [trim_no hq45, ← hqe] at h39
     refine Wp_skip (thn_normal (Wp_seq (Wp_seq_region ?_)))
     refine qF bz 0 1 rfl Tryz.underlying62 rfl siz3 rfl ?_
     refine qV (r_load (v := (I6 p.1)) rfl flat3 (Bz.cell rfl)) ?_
     refine qF bz 0 0 rfl Tryz.underlying62 rfl siz3 rfl ?_
     refine qV (r_load (v := (I6 p.1)) rfl flat3 (Bz.cell rfl)) ?_
     refine qV (r_lss (k := .i64) (a := p.1) (b := p.1) rfl rfl) ?_
     refine WpL_nil ?_
     have hc15 : (decide ((p.1 : Int) < p.1)) = false := decide_eq_false (by omega)
     refine Wp_cond_false (congrArg Value.bool hc15) ?_
     refine Wp_skip (thn_normal (Wp_region ?_))
     refine qM (.slice la k2 lc) rfl ?_
     refine qV (r_loadAgg (vs := [(I6 p.1), (I6 p.1)]) rfl agg62 siz62 rfl (Bz.cells rfl)) ?_
     refine s_buildSlice (ps := [(0, (.agg #[(I6 p.1), (I6 p.1)]))]) (c := #[(I6 p.1), (I6 p.1)]) (by decide) rfl Tryz.underlying22 siz62 zer62 (by decide) (by decide) (by kernel_rfl) ?_
     intro be we Ne
     have Fe := Ne.ge E
     have Oe_bo := Ne.lt Bo
     have Oe_bz := Ne.lt Bz
     replace Bo := Ne.keep Bo
     replace Bz := Ne.keep Bz
     replace h39 := StR.ext h39 Ne.ext
     replace hO := own_ext hO Ne.ext
     replace hsz := Nat.le_trans hsz Ne.ext.size
     replace E := E.ext Ne.ext
     have Be := Ne.blk
     have hQ9 : True := trivial
     refine s_append (base := n1) (n := k2) (m := 1) (xs := (l.map spanV).flatten) (news := [(I6 p.1), (I6 p.1)]) (size := 2) (bytes := 16) (v := (.slice la k2 lc)) (by decide) Tryz.underlying22 siz62 byt62 zer62 rfl (by decide) rfl hO rfl (rfl) (Be.cells rfl) (by simp [Value.oneCell']) (by unfold maxLen; omega) (by omega) (hsz) ?_
     intro v9 w59 Ov9 Cv9 Dv9
     replace Bo := Cv9.keep (fun h => by have := (hO.lt _ h).1; omega) Bo
     replace Bz := Cv9.keep (fun h => by have := (hkO _ h).2; have := Nz.eq; omega) Bz
     replace E := E.step Cv9 (fun x hx h => absurd (hO.lt x h).1 (by omega))
     obtain ⟨la2, lc2, rfl⟩ := own_form Ov9
     refine qA (.slice la2 (k2 + 1) lc2) rfl ?_
     refine WpL_nil (inB_normal (thn_normal ?_))
     exact ⟨m2 + 0, by omega, l ++ [p], k2 + 1, q2, m2, la2, lc2, Fits.out ⟨rfl, rfl, rfl, rfl, trivial⟩, E, Bo, h39.off Cv9 (fun y hy => by have := (hO.lt y hy).1; omega), (by simpa [spanV, hpe] using Ov9), hmx, ⟨by simp; omega, by omega⟩, Nat.le_trans hsz Cv9.size, rfl⟩
   ·have khq93 := hq93
    replace hq93 := by simpa using hq93
    obtain ⟨rfl, rfl⟩ := itmsP_end hm ⟨by omega, by simpa using hq93⟩
    obtain ⟨hk4, hk5⟩ := hk2
    subst hk4
    have h16d : decide ((16 : Int) < (((joinF L).length : Nat) : Int)) = false := decide_eq_false (by omega)
    refine Wp_exit (thn_exit (thn_exit (inB_here (thn_normal (Wp_seq_region ?_)))))
    refine qM (.slice la L.length lc) rfl ?_
    refine WpL_enter rfl rfl (by decide) (r_callF (vs := [(.slice la L.length lc)]) Tryz.func138 nm138 bd138 rfl) (join_c _ _ L (OwnS.at ⟨⟨_, _, rfl⟩, hO⟩) (by omega) hv) ?_
    rintro _ w69 ⟨⟨out, hj, ⟨⟨ja, jc, rfl⟩, O69⟩⟩, X69⟩
    replace Bo := X69.keep Bo
    replace E := E.ext X69
    have hout : out = joinF L := canon_ext (hj.all hv).1 hja.1 (fun r _ _ => by rw [(hj.all hv).2.1 r, hja.2.1 r])
    subst hout
    have hSI := own_sin ⟨⟨_, _, rfl⟩, O69⟩
    have h69 := h19.ext X69
    have hrd := h69.rd
    refine qA (.slice ja ((joinF L).length) jc) rfl ?_
    refine WpL_nil (Wp_seq_region ?_)
    refine qM (.slice ja ((joinF L).length) jc) rfl ?_
    refine qV (r_lenSlice (ad := ja) (n := (joinF L).length) (cap := jc) Tryz.underlying22 rfl) ?_
    refine qV (r_gtr (k := .i64) (a := (((joinF L).length : Nat) : Int)) (b := 16) rfl rfl) ?_
    refine qA (.bool (decide ((16 : Int) < (((joinF L).length : Nat) : Int)))) rfl ?_
    refine WpL_nil (Wp_seq (Wp_seq_region ?_))
    refine qM (.bool (hasPrefix s [94])) rfl ?_
    refine WpL_nil ?_
    have hc16 : (hasPrefix s [94]) = false := h94
    refine Wp_cond_false (congrArg Value.bool hc16) ?_
    refine Wp_skip (thn_normal (Wp_seq_region ?_))
    refine qM (P6 b 0) rfl ?_
    refine qM (P6 b 0) rfl ?_
    refine qV (r_nilCheck (a := ⟨b, 0, none⟩) rfl) ?_
    refine qF b 0 1 rfl Tryz.underlying57 rfl siz4 rfl ?_
    refine qV (r_load (v := (.bool false)) rfl flat4 (hrd.cell rfl)) ?_
    refine qM (.bool false) rfl ?_
    refine WpL_guard_yes (oj := _) rfl rfl (by decide) rfl ?_
    obtain ⟨e17, he17⟩ : ∃ e, (decide ((16 : Int) < (((joinF L).length : Nat) : Int))) = e := ⟨_, rfl⟩
    refine qV (r_move (v := .bool e17) (congrArg Value.bool he17)) ?_
    refine qV (r_pick (b := false) (v := (.bool e17)) rfl rfl) ?_
    refine qV (r_nilCheck (a := ⟨b, 0, none⟩) rfl) ?_
    refine qF b 0 1 rfl Tryz.underlying57 rfl siz4 rfl ?_
    refine s_store (b := b) (o := 1) (c' := #[(.string (bS (trimPrefix q [93]))), (.bool e17)]) (v := (.bool e17)) rfl rfl rfl siz4 hrd (by simp) rfl ?_
    intro w18 S18
    replace hSI := SlIn.chg hSI S18.chg (fun y hy hm => by omega)
    replace Bo := S18.keep (by omega) Bo
    replace E := S18.step E (by first | exact Or.inl (by omega) | assumption | exact Or.inr rfl | exact Or.inr (by assumption) | exact Or.inr (by simp) | exact Or.inr (by omega) | exact Or.inr (by dsimp only; omega))
    replace hrd := S18.blk
    refine WpL_nil ?_
    subst he17
    refine Wp_seq_region ?_
    refine qM (.slice ja ((joinF L).length) jc) rfl ?_
    refine qV (r_build (ps := [(0, (I6 2)), (1, (.slice ja ((joinF L).length) jc))]) (v := (.agg #[(I6 2), (.slice ja ((joinF L).length) jc), (.slice none 0 0), (I6 0), (I6 0), (.bool false)])) rfl (by kernel_rfl)) ?_
    refine s_storeAgg (b := bo) (o := 0) (c' := #[(I6 2), (.slice ja ((joinF L).length) jc), (.slice none 0 0), (I6 0), (I6 0), (.bool false)]) rfl rfl (by simp [Value.oneCell']) siz25 rfl Bo (by first | (simp; done) | exact Nat.le_of_ble_eq_true rfl) rfl ?_
    intro w19 S19
    replace hSI := SlIn.chg hSI S19.chg (fun y hy hm => by omega)
    replace hrd := S19.keep (by omega) hrd
    replace E := S19.step E (by first | exact Or.inl (by omega) | assumption | exact Or.inr rfl | exact Or.inr (by assumption) | exact Or.inr (by simp) | exact Or.inr (by omega) | exact Or.inr (by dsimp only; omega))
    replace Bo := S19.blk
    refine WpL_nil (Wp_ret ?_)
    refine fin_agg Tryz.results132 (vs := [(.int .i64 2), (.slice ja ((joinF L).length) jc), (.slice none 0 0), (.int .i64 0), (.int .i64 0), (.bool false)]) (b := bo) rfl agg25 siz25 rfl (Bo.cells rfl) ?_
    exact ⟨⟨ja, jc, none, 0, rfl, ReIn.of (set := joinF L) (args := []) (hSI.mono (fun y hy => by have := X69.size; omega)) (by simp) (.inl rfl), h.to E (by rw [h16d] at hrd; exact hrd)⟩, E⟩
end Go.Proofs
namespace Go.Proofs
open Go Go.Eng Go.Sort Go.Lib
set_option linter.unusedSectionVars false
variable [Drw]
set_option maxRecDepth 100000
def atomP (alt : Bys → Option (Re × Bys)) (s : Bys) : Option (Re × Bys) :=
 if hasPrefix s [46] = true then some (.mk 2 [(0, 1114111)] [] 0 0 false, trimPrefix s [46])
 else if hasPrefix s [64] = true then some (.mk 0 [] [] 0 0 false, trimPrefix s [64])
 else if hasPrefix s [91] = true then setP (trimPrefix s [91])
 else if hasPrefix s [40, 35] = true then (digP (trimPrefix s [40, 35])).bind fun d => (clP alt d.2).map fun p => (.mk 9 [] [p.1] d.1 0 false, p.2)
 else if hasPrefix s [40, 61] = true then (clP alt (trimPrefix s [40, 61])).map fun p => (.mk 10 [] [p.1] 0 0 false, p.2)
 else if hasPrefix s [40, 33] = true then (clP alt (trimPrefix s [40, 33])).map fun p => (.mk 10 [] [p.1] 0 0 true, p.2)
 else if hasPrefix s [40] = true then clP alt (trimPrefix s [40])
 else (chP s).map fun p => (runT1 p.1, p.2)
theorem rone2_c (w0 : World) (c : Int) : Ret Tryz.prog 134 #[.int .i64 c] w0 fun r w => (∃ sa sc aa ac, r = .agg #[.int .i64 2, .slice sa 1 sc, .slice aa 0 ac, .int .i64 0, .int .i64 0, .bool false] ∧ ReIn (fun y => w0.heap.size ≤ y) w (runT1 c) [.int .i64 2, .slice sa 1 sc, .slice aa 0 ac, .int .i64 0, .int .i64 0, .bool false]) ∧ Ext w0 w := by
 refine (rone_c w0 c).mono ?_
 rintro r w ⟨⟨vs, rfl, h⟩, E⟩
 obtain ⟨sa, sc, aa, ac, rfl, _⟩ := ReIn.form h
 exact ⟨⟨sa, sc, aa, ac, rfl, h⟩, E⟩
set_option maxHeartbeats 1000000 in
theorem atom_c (b : Nat) (alt : Bys → Option (Re × Bys)) (hA : RdOk b 29 alt) : RdOk b 120 (atomP alt) := by
 intro w0 s t r hs h
 have hlt := h.lt
 rw [atomP] at hs
 refine Ret_of Tryz.func120 rfl Tryz.ntmps120 (Nat.le_of_ble_eq_true rfl) ?_
 have E : Chg (fun y => y = b) w0 w0 := Chg.refl _ _
 refine Wp_seq_region ?_
 refine s_alloc (c := #[(I6 0), (.slice none 0 0), (.slice none 0 0), (I6 0), (I6 0), (.bool false)]) (by decide) zer25 rfl ?_
 intro bo wo No
 have Fo := No.ge E
 replace E := E.ext No.ext
 have Bo := No.blk
 refine WpL_nil (Wp_seq (Wp_block (Wp_seq_region ?_)))
 refine qM (P6 b 0) rfl ?_
 have hbo : b < bo ∧ bo < wo.heap.size ∧ w0.heap.size ≤ bo := ⟨by have := No.eq; omega, Bo.lt, by have := No.eq; omega⟩
 refine WpL_enter rfl rfl (by decide) (r_callF (vs := [(P6 b 0), (.string (ByteArray.mk #[46]))]) Tryz.func78 nm78 bd78 rfl) (stake_c _ b s [46] (h.ext No.ext)) ?_
 rintro _ w19 ⟨rfl, h19, X19⟩
 replace Bo := X19.keep (fun hh => by omega) Bo
 replace E := E.trans X19
 refine qA (.bool (hasPrefix s [46])) rfl ?_
 refine WpL_nil ?_
 refine Wp_cond (b := hasPrefix s [46]) rfl (fun hp1 => ?_) (fun hp1 => ?_)
 ·have khp1 := hp1
  rw [if_pos hp1] at hs
  refine Wp_seq_region ?_
  refine qV (r_build (ps := [(0, (I6 0)), (1, (I6 1114111))]) (v := (.agg #[(I6 0), (I6 1114111)])) rfl (by kernel_rfl)) ?_
  refine s_buildSlice (ps := [(0, (.agg #[(I6 0), (I6 1114111)]))]) (c := #[(I6 0), (I6 1114111)]) (by decide) rfl Tryz.underlying22 siz62 zer62 (by decide) (by decide) (by kernel_rfl) ?_
  intro bz wz Nz
  have Fz := Nz.ge E
  have Oz_bo := Nz.lt Bo
  replace Bo := Nz.keep Bo
  replace h19 := StR.ext h19 Nz.ext
  replace E := E.ext Nz.ext
  have Bz := Nz.blk
  refine qV (r_build (ps := [(0, (I6 2)), (1, (.slice (some ⟨bz, 0, none⟩) 1 1))]) (v := (.agg #[(I6 2), (.slice (some ⟨bz, 0, none⟩) 1 1), (.slice none 0 0), (I6 0), (I6 0), (.bool false)])) rfl (by kernel_rfl)) ?_
  refine s_storeAgg (b := bo) (o := 0) (c' := #[(I6 2), (.slice (some ⟨bz, 0, none⟩) 1 1), (.slice none 0 0), (I6 0), (I6 0), (.bool false)]) rfl rfl (by simp [Value.oneCell']) siz25 rfl Bo (by first | (simp; done) | exact Nat.le_of_ble_eq_true rfl) rfl ?_
  intro w2 S2
  replace h19 := StR.put h19 S2 (by omega)
  replace Bz := S2.keep (by omega) Bz
  replace E := S2.step E (by first | exact Or.inl (by omega) | assumption | exact Or.inr rfl | exact Or.inr (by assumption) | exact Or.inr (by simp) | exact Or.inr (by omega) | exact Or.inr (by dsimp only; omega))
  replace Bo := S2.blk
  refine WpL_nil (Wp_ret (inB_ret (thn_ret ?_)))
  refine fin_agg Tryz.results120 (vs := [(.int .i64 2), (.slice (some ⟨bz, 0, none⟩) 1 1), (.slice none 0 0), (.int .i64 0), (.int .i64 0), (.bool false)]) (b := bo) rfl agg25 siz25 rfl (Bo.cells rfl) ?_
  exact ⟨by cases hs; exact ⟨_, _, none, 0, rfl, ReIn.of (set := [(0, 1114111)]) (args := []) ⟨_, _, rfl, by simp, Nat.le_refl 1, .inr ⟨_, 0, by have := Nz.eq; have := X19.size; omega, rfl, one_row Bz⟩⟩ (by simp) (.inl rfl), h19⟩, E⟩
 ·have khp1 := hp1
  replace hp1 := (Bool.not_eq_true _).mp (by simpa using hp1)
  rw [if_neg (by rw [hp1]; decide)] at hs
  rw [trim_no hp1] at h19
  refine Wp_seq_region ?_
  refine qM (P6 b 0) rfl ?_
  refine WpL_enter rfl rfl (by decide) (r_callF (vs := [(P6 b 0), (.string (ByteArray.mk #[64]))]) Tryz.func78 nm78 bd78 rfl) (stake_c _ b s [64] h19) ?_
  rintro _ w29 ⟨rfl, h29, X29⟩
  replace Bo := X29.keep (fun hh => by omega) Bo
  replace E := E.trans X29
  refine qA (.bool (hasPrefix s [64])) rfl ?_
  refine WpL_nil ?_
  refine Wp_cond (b := hasPrefix s [64]) rfl (fun hp2 => ?_) (fun hp2 => ?_)
  ·have khp2 := hp2
   rw [if_pos hp2] at hs
   refine Wp_seq_region ?_
   refine qV (r_build (ps := [(0, (I6 0))]) (v := (.agg #[(I6 0), (.slice none 0 0), (.slice none 0 0), (I6 0), (I6 0), (.bool false)])) rfl (by kernel_rfl)) ?_
   refine s_storeAgg (b := bo) (o := 0) (c' := #[(I6 0), (.slice none 0 0), (.slice none 0 0), (I6 0), (I6 0), (.bool false)]) rfl rfl (by simp [Value.oneCell']) siz25 rfl Bo (by first | (simp; done) | exact Nat.le_of_ble_eq_true rfl) rfl ?_
   intro w4 S4
   replace h29 := StR.put h29 S4 (by omega)
   replace E := S4.step E (by first | exact Or.inl (by omega) | assumption | exact Or.inr rfl | exact Or.inr (by assumption) | exact Or.inr (by simp) | exact Or.inr (by omega) | exact Or.inr (by dsimp only; omega))
   replace Bo := S4.blk
   refine WpL_nil (Wp_ret (inB_ret (thn_ret ?_)))
   refine fin_agg Tryz.results120 (vs := [(.int .i64 0), (.slice none 0 0), (.slice none 0 0), (.int .i64 0), (.int .i64 0), (.bool false)]) (b := bo) rfl agg25 siz25 rfl (Bo.cells rfl) ?_
   exact ⟨by cases hs; exact ⟨none, 0, none, 0, rfl, ReIn.of (set := []) (args := []) (SlIn.nil _ _ _ _ _) (by simp) (.inl rfl), h29⟩, E⟩
  ·have khp2 := hp2
   replace hp2 := (Bool.not_eq_true _).mp (by simpa using hp2)
   rw [if_neg (by rw [hp2]; decide)] at hs
   rw [trim_no hp2] at h29
   refine Wp_seq_region ?_
   refine qM (P6 b 0) rfl ?_
   refine WpL_enter rfl rfl (by decide) (r_callF (vs := [(P6 b 0), (.string (ByteArray.mk #[91]))]) Tryz.func78 nm78 bd78 rfl) (stake_c _ b s [91] h29) ?_
   rintro _ w39 ⟨rfl, h39, X39⟩
   replace Bo := X39.keep (fun hh => by omega) Bo
   replace E := E.trans X39
   refine qA (.bool (hasPrefix s [91])) rfl ?_
   refine WpL_nil ?_
   refine Wp_cond (b := hasPrefix s [91]) rfl (fun hp3 => ?_) (fun hp3 => ?_)
   ·have khp3 := hp3
    rw [if_pos hp3] at hs
    refine Wp_seq_region ?_
    refine qM (P6 b 0) rfl ?_
    refine WpL_enter rfl rfl (by decide) (r_callF (vs := [(P6 b 0)]) Tryz.func132 nm132 bd132 rfl) (set_c b _ _ _ _ hs h39) ?_
    rintro _ w49 ⟨⟨sa, sc, aa, ac, rfl, hX, h49⟩, X49⟩
    replace Bo := X49.keep (fun hh => by omega) Bo
    replace E := E.trans X49
    have hsz3 : bo < w39.heap.size := by have := X19.size; have := X29.size; have := X39.size; omega
    refine s_storeAgg (b := bo) (o := 0) (c' := (R6 t sa sc aa ac)) rfl rfl (by simp [Value.oneCell']) siz25 rfl Bo (by first | (simp; done) | exact Nat.le_of_ble_eq_true rfl) rfl ?_
    intro w6 S6
    replace h49 := StR.put h49 S6 (by omega)
    replace hX := ReIn.chg S6.chg (fun y hy hm => by have h8 : w39.heap.size ≤ y := hy; rcases hm with rfl; omega) t hX
    replace E := S6.step E (by first | exact Or.inl (by omega) | assumption | exact Or.inr rfl | exact Or.inr (by assumption) | exact Or.inr (by simp) | exact Or.inr (by omega) | exact Or.inr (by dsimp only; omega))
    replace Bo := S6.blk
    refine WpL_nil (Wp_ret (inB_ret (thn_ret ?_)))
    refine fin_agg Tryz.results120 (vs := [(.int .i64 t.kind), (.slice sa t.set.length sc), (.slice aa t.args.length ac), (.int .i64 t.mn), (.int .i64 t.mx), (.bool t.neg)]) (b := bo) rfl agg25 siz25 rfl (Bo.cells rfl) ?_
    exact ⟨⟨sa, sc, aa, ac, rfl, ReIn.mono (fun y hy => by have h8 : w39.heap.size ≤ y := hy; omega) t hX, h49⟩, E⟩
   ·have khp3 := hp3
    replace hp3 := (Bool.not_eq_true _).mp (by simpa using hp3)
    rw [if_neg (by rw [hp3]; decide)] at hs
    rw [trim_no hp3] at h39
    refine Wp_seq_region ?_
    refine qM (P6 b 0) rfl ?_
    refine WpL_enter rfl rfl (by decide) (r_callF (vs := [(P6 b 0), (.string (ByteArray.mk #[40, 35]))]) Tryz.func78 nm78 bd78 rfl) (stake_c _ b s [40, 35] h39) ?_
    rintro _ w49 ⟨rfl, h49, X49⟩
    replace Bo := X49.keep (fun hh => by omega) Bo
    replace E := E.trans X49
    refine qA (.bool (hasPrefix s [40, 35])) rfl ?_
    refine WpL_nil ?_
    refine Wp_cond (b := hasPrefix s [40, 35]) rfl (fun hp4 => ?_) (fun hp4 => ?_)
    ·have khp4 := hp4
     rw [if_pos hp4] at hs
     obtain ⟨⟨d0, q⟩, hdg, hs2⟩ := Option.bind_eq_some_iff.1 hs
     obtain ⟨⟨x, r2⟩, hcl, hxe⟩ := Option.map_eq_some_iff.1 hs2
     obtain ⟨d, hde, hdd, hda⟩ := digP_some hdg
     rw [hde] at h49
     refine Wp_seq_region ?_
     refine qM (P6 b 0) rfl ?_
     refine WpL_enter rfl rfl (by decide) (r_callF (vs := [(P6 b 0)]) Tryz.func122 nm122 bd122 rfl) (sdigit_c _ b d q h49 hdd) ?_
     rintro _ w59 ⟨rfl, h59, X59⟩
     replace Bo := X59.keep (fun hh => by omega) Bo
     replace E := E.trans X59
     refine qA (I6 ((d.toNat - 48 : Nat) : Int)) rfl ?_
     refine WpL_nil (Wp_seq_region ?_)
     refine qM (P6 b 0) rfl ?_
     refine qM (I6 ((d.toNat - 48 : Nat) : Int)) rfl ?_
     refine qV (r_build (ps := [(0, (I6 9)), (3, (I6 ((d.toNat - 48 : Nat) : Int)))]) (v := (.agg #[(I6 9), (.slice none 0 0), (.slice none 0 0), (I6 ((d.toNat - 48 : Nat) : Int)), (I6 0), (.bool false)])) rfl (by kernel_rfl)) ?_
     refine WpL_enter rfl rfl (by decide) (r_callF (vs := [(P6 b 0), (.agg #[(I6 9), (.slice none 0 0), (.slice none 0 0), (I6 ((d.toNat - 48 : Nat) : Int)), (I6 0), (.bool false)])]) Tryz.func133 nm133 bd133 rfl) (closed_c b alt hA _ _ _ _ 9 (((d.toNat - 48 : Nat) : Int)) false hcl h59) ?_
     rintro _ w69 ⟨⟨sa, sc, aa, ac, rfl, hX, h69⟩, X69⟩
     replace Bo := X69.keep (fun hh => by omega) Bo
     replace E := E.trans X69
     have hszc : bo < w59.heap.size := by have := X19.size; have := X29.size; have := X39.size; have := X49.size; have := X59.size; omega
     refine s_storeAgg (b := bo) (o := 0) (c' := #[(I6 9), (.slice sa 0 sc), (.slice aa 1 ac), (I6 ((d.toNat - 48 : Nat) : Int)), (I6 0), (.bool false)]) rfl rfl (by simp [Value.oneCell']) siz25 rfl Bo (by first | (simp; done) | exact Nat.le_of_ble_eq_true rfl) rfl ?_
     intro w8 S8
     replace h69 := StR.put h69 S8 (by omega)
     replace hX := ReIn.chg S8.chg (fun y hy hm => by have h8 : w59.heap.size ≤ y := hy; rcases hm with rfl; omega) _ hX
     replace E := S8.step E (by first | exact Or.inl (by omega) | assumption | exact Or.inr rfl | exact Or.inr (by assumption) | exact Or.inr (by simp) | exact Or.inr (by omega) | exact Or.inr (by dsimp only; omega))
     replace Bo := S8.blk
     refine WpL_nil (Wp_ret (inB_ret (thn_ret ?_)))
     refine fin_agg Tryz.results120 (vs := [(.int .i64 9), (.slice sa 0 sc), (.slice aa 1 ac), (.int .i64 ((d.toNat - 48 : Nat) : Int)), (.int .i64 0), (.bool false)]) (b := bo) rfl agg25 siz25 rfl (Bo.cells rfl) ?_
     exact ⟨by cases hxe; rw [hda]; exact ⟨sa, sc, aa, ac, rfl, ReIn.mono (fun y hy => by have h8 : w59.heap.size ≤ y := hy; omega) _ hX, h69⟩, E⟩
    ·have khp4 := hp4
     replace hp4 := (Bool.not_eq_true _).mp (by simpa using hp4)
     rw [if_neg (by rw [hp4]; decide)] at hs
     rw [trim_no hp4] at h49
     refine Wp_seq_region ?_
     refine qM (P6 b 0) rfl ?_
     refine WpL_enter rfl rfl (by decide) (r_callF (vs := [(P6 b 0), (.string (ByteArray.mk #[40, 61]))]) Tryz.func78 nm78 bd78 rfl) (stake_c _ b s [40, 61] h49) ?_
     rintro _ w59 ⟨rfl, h59, X59⟩
     replace Bo := X59.keep (fun hh => by omega) Bo
     replace E := E.trans X59
     refine qA (.bool (hasPrefix s [40, 61])) rfl ?_
     refine WpL_nil ?_
     refine Wp_cond (b := hasPrefix s [40, 61]) rfl (fun hp5 => ?_) (fun hp5 => ?_)
     ·have khp5 := hp5
      rw [if_pos hp5] at hs
      obtain ⟨⟨x, r2⟩, hcl, hxe⟩ := Option.map_eq_some_iff.1 hs
      refine Wp_seq_region ?_
      refine qM (P6 b 0) rfl ?_
      refine qV (r_build (ps := [(0, (I6 10))]) (v := (.agg #[(I6 10), (.slice none 0 0), (.slice none 0 0), (I6 0), (I6 0), (.bool false)])) rfl (by kernel_rfl)) ?_
      refine WpL_enter rfl rfl (by decide) (r_callF (vs := [(P6 b 0), (.agg #[(I6 10), (.slice none 0 0), (.slice none 0 0), (I6 0), (I6 0), (.bool false)])]) Tryz.func133 nm133 bd133 rfl) (closed_c b alt hA _ _ _ _ 10 (0) false hcl h59) ?_
      rintro _ w69 ⟨⟨sa, sc, aa, ac, rfl, hX, h69⟩, X69⟩
      replace Bo := X69.keep (fun hh => by omega) Bo
      replace E := E.trans X69
      have hszc : bo < w59.heap.size := by have := X19.size; have := X29.size; have := X39.size; have := X49.size; have := X59.size; omega
      refine s_storeAgg (b := bo) (o := 0) (c' := #[(I6 10), (.slice sa 0 sc), (.slice aa 1 ac), (I6 0), (I6 0), (.bool false)]) rfl rfl (by simp [Value.oneCell']) siz25 rfl Bo (by first | (simp; done) | exact Nat.le_of_ble_eq_true rfl) rfl ?_
      intro w10 S10
      replace h69 := StR.put h69 S10 (by omega)
      replace hX := ReIn.chg S10.chg (fun y hy hm => by have h8 : w59.heap.size ≤ y := hy; rcases hm with rfl; omega) _ hX
      replace E := S10.step E (by first | exact Or.inl (by omega) | assumption | exact Or.inr rfl | exact Or.inr (by assumption) | exact Or.inr (by simp) | exact Or.inr (by omega) | exact Or.inr (by dsimp only; omega))
      replace Bo := S10.blk
      refine WpL_nil (Wp_ret (inB_ret (thn_ret ?_)))
      refine fin_agg Tryz.results120 (vs := [(.int .i64 10), (.slice sa 0 sc), (.slice aa 1 ac), (.int .i64 0), (.int .i64 0), (.bool false)]) (b := bo) rfl agg25 siz25 rfl (Bo.cells rfl) ?_
      exact ⟨by cases hxe; exact ⟨sa, sc, aa, ac, rfl, ReIn.mono (fun y hy => by have h8 : w59.heap.size ≤ y := hy; omega) _ hX, h69⟩, E⟩
     ·have khp5 := hp5
      replace hp5 := (Bool.not_eq_true _).mp (by simpa using hp5)
      rw [if_neg (by rw [hp5]; decide)] at hs
      rw [trim_no hp5] at h59
      refine Wp_seq_region ?_
      refine qM (P6 b 0) rfl ?_
      refine WpL_enter rfl rfl (by decide) (r_callF (vs := [(P6 b 0), (.string (ByteArray.mk #[40, 33]))]) Tryz.func78 nm78 bd78 rfl) (stake_c _ b s [40, 33] h59) ?_
      rintro _ w69 ⟨rfl, h69, X69⟩
      replace Bo := X69.keep (fun hh => by omega) Bo
      replace E := E.trans X69
      refine qA (.bool (hasPrefix s [40, 33])) rfl ?_
      refine WpL_nil ?_
      refine Wp_cond (b := hasPrefix s [40, 33]) rfl (fun hp6 => ?_) (fun hp6 => ?_)
      ·have khp6 := hp6
       rw [if_pos hp6] at hs
       obtain ⟨⟨x, r2⟩, hcl, hxe⟩ := Option.map_eq_some_iff.1 hs
       refine Wp_seq_region ?_
       refine qM (P6 b 0) rfl ?_
       refine qV (r_build (ps := [(0, (I6 10)), (5, (.bool true))]) (v := (.agg #[(I6 10), (.slice none 0 0), (.slice none 0 0), (I6 0), (I6 0), (.bool true)])) rfl (by kernel_rfl)) ?_
       refine WpL_enter rfl rfl (by decide) (r_callF (vs := [(P6 b 0), (.agg #[(I6 10), (.slice none 0 0), (.slice none 0 0), (I6 0), (I6 0), (.bool true)])]) Tryz.func133 nm133 bd133 rfl) (closed_c b alt hA _ _ _ _ 10 (0) true hcl h69) ?_
       rintro _ w79 ⟨⟨sa, sc, aa, ac, rfl, hX, h79⟩, X79⟩
       replace Bo := X79.keep (fun hh => by omega) Bo
       replace E := E.trans X79
       have hszc : bo < w69.heap.size := by have := X19.size; have := X29.size; have := X39.size; have := X49.size; have := X59.size; have := X69.size; omega
       refine s_storeAgg (b := bo) (o := 0) (c' := #[(I6 10), (.slice sa 0 sc), (.slice aa 1 ac), (I6 0), (I6 0), (.bool true)]) rfl rfl (by simp [Value.oneCell']) siz25 rfl Bo (by first | (simp; done) | exact Nat.le_of_ble_eq_true rfl) rfl ?_
       intro w12 S12
       replace h79 := StR.put h79 S12 (by omega)
       replace hX := ReIn.chg S12.chg (fun y hy hm => by have h8 : w69.heap.size ≤ y := hy; rcases hm with rfl; omega) _ hX
       replace E := S12.step E (by first | exact Or.inl (by omega) | assumption | exact Or.inr rfl | exact Or.inr (by assumption) | exact Or.inr (by simp) | exact Or.inr (by omega) | exact Or.inr (by dsimp only; omega))
       replace Bo := S12.blk
       refine WpL_nil (Wp_ret (inB_ret (thn_ret ?_)))
       refine fin_agg Tryz.results120 (vs := [(.int .i64 10), (.slice sa 0 sc), (.slice aa 1 ac), (.int .i64 0), (.int .i64 0), (.bool true)]) (b := bo) rfl agg25 siz25 rfl (Bo.cells rfl) ?_
       exact ⟨by cases hxe; exact ⟨sa, sc, aa, ac, rfl, ReIn.mono (fun y hy => by have h8 : w69.heap.size ≤ y := hy; omega) _ hX, h79⟩, E⟩
      ·have khp6 := hp6
       replace hp6 := (Bool.not_eq_true _).mp (by simpa using hp6)
       rw [if_neg (by rw [hp6]; decide)] at hs
       rw [trim_no hp6] at h69
       refine Wp_seq_region ?_
       refine qM (P6 b 0) rfl ?_
       refine WpL_enter rfl rfl (by decide) (r_callF (vs := [(P6 b 0), (.string (ByteArray.mk #[40]))]) Tryz.func78 nm78 bd78 rfl) (stake_c _ b s [40] h69) ?_
       rintro _ w79 ⟨rfl, h79, X79⟩
       replace Bo := X79.keep (fun hh => by omega) Bo
       replace E := E.trans X79
       refine qA (.bool (hasPrefix s [40])) rfl ?_
       refine WpL_nil ?_
       refine Wp_cond (b := hasPrefix s [40]) rfl (fun hp7 => ?_) (fun hp7 => ?_)
       ·have khp7 := hp7
        rw [if_pos hp7] at hs
        have hal := clP_some hs
        refine Wp_seq_region ?_
        refine qM (P6 b 0) rfl ?_
        refine WpL_enter rfl rfl (by decide) (r_callF (vs := [(P6 b 0)]) Tryz.func29 nm29 bd29 rfl) (hA _ _ _ _ hal h79) ?_
        rintro _ w89 ⟨⟨sa, sc, aa, ac, rfl, hX, h89⟩, X89⟩
        replace Bo := X89.keep (fun hh => by omega) Bo
        replace E := E.trans X89
        have hsz7 : bo < w79.heap.size := by have := X19.size; have := X29.size; have := X39.size; have := X49.size; have := X59.size; have := X69.size; have := X79.size; omega
        replace hX := ReIn.lt t hX
        have hsz8 := X89.size
        refine s_allocStore (v := (.agg (R6 t sa sc aa ac))) (c := (R6 t sa sc aa ac)) (n := 6) (by decide) zer25 rfl siz25 rfl rfl rfl (by simp [Value.oneCell']) ?_
        intro bz wz Nz
        have Fz := Nz.ge E
        have Oz_bo := Nz.lt Bo
        replace Bo := Nz.keep Bo
        replace h89 := StR.ext h89 Nz.ext
        replace hX := ReIn.ext Nz.ext t hX
        replace E := E.ext Nz.ext
        have Bz := Nz.blk
        refine WpL_nil (Wp_seq_region ?_)
        refine qM (P6 b 0) rfl ?_
        refine WpL_enter rfl rfl (by decide) (r_callF (vs := [(P6 b 0), (.string (ByteArray.mk #[41]))]) Tryz.func123 nm123 bd123 rfl) (sneed_c _ b r 41 h89) ?_
        rintro _ w99 ⟨rfl, h99, X99⟩
        replace Bo := X99.keep (fun hh => by omega) Bo
        replace Bz := X99.keep (fun hh => by omega) Bz
        replace E := E.trans X99
        replace hX := ReIn.chg X99 (fun y hy hm => by have h8 : w79.heap.size ≤ y ∧ y < w89.heap.size := hy; rcases hm with rfl; omega) t hX
        refine WpL_nil (Wp_seq_region ?_)
        refine qV (r_loadAgg (vs := [(I6 t.kind), (.slice sa t.set.length sc), (.slice aa t.args.length ac), (I6 t.mn), (I6 t.mx), (.bool t.neg)]) rfl agg25 siz25 rfl (Bz.cells rfl)) ?_
        refine s_storeAgg (b := bo) (o := 0) (c' := (R6 t sa sc aa ac)) rfl rfl (by simp [Value.oneCell']) siz25 rfl Bo (by first | (simp; done) | exact Nat.le_of_ble_eq_true rfl) rfl ?_
        intro w14 S14
        replace hX := ReIn.chg S14.chg (fun y hy hm => by have h8 : w79.heap.size ≤ y ∧ y < w89.heap.size := hy; have := Nz.eq; rcases hm with rfl; omega) t hX
        replace h99 := StR.put h99 S14 (by omega)
        replace Bz := S14.keep (by omega) Bz
        replace E := S14.step E (by first | exact Or.inl (by omega) | assumption | exact Or.inr rfl | exact Or.inr (by assumption) | exact Or.inr (by simp) | exact Or.inr (by omega) | exact Or.inr (by dsimp only; omega))
        replace Bo := S14.blk
        refine WpL_nil (Wp_ret (inB_ret (thn_ret ?_)))
        refine fin_agg Tryz.results120 (vs := [(.int .i64 t.kind), (.slice sa t.set.length sc), (.slice aa t.args.length ac), (.int .i64 t.mn), (.int .i64 t.mx), (.bool t.neg)]) (b := bo) rfl agg25 siz25 rfl (Bo.cells rfl) ?_
        exact ⟨⟨sa, sc, aa, ac, rfl, ReIn.mono (fun y hy => by have h8 : w79.heap.size ≤ y ∧ y < w89.heap.size := hy; omega) t hX, h99⟩, E⟩
       ·have khp7 := hp7
        replace hp7 := (Bool.not_eq_true _).mp (by simpa using hp7)
        rw [if_neg (by rw [hp7]; decide)] at hs
        rw [trim_no hp7] at h79
        obtain ⟨⟨c, q⟩, hch, hce⟩ := Option.map_eq_some_iff.1 hs
        refine Wp_skip (inB_normal (thn_normal (Wp_seq_region ?_)))
        refine qM (P6 b 0) rfl ?_
        refine WpL_enter rfl rfl (by decide) (r_callF (vs := [(P6 b 0)]) Tryz.func135 nm135 bd135 rfl) (schar_c _ b _ q c hch h79) ?_
        rintro _ w89 ⟨rfl, h89, X89⟩
        replace Bo := X89.keep (fun hh => by omega) Bo
        replace E := E.trans X89
        refine WpL_enter rfl rfl (by decide) (r_callF (vs := [(I6 c)]) Tryz.func134 nm134 bd134 rfl) (rone2_c _ c) ?_
        rintro _ w99 ⟨⟨sa, sc, aa, ac, rfl, hX⟩, X99⟩
        replace Bo := X99.keep Bo
        replace E := E.ext X99
        have h99 := h89.ext X99
        have hsz8 : bo < w89.heap.size := by have := X19.size; have := X29.size; have := X39.size; have := X49.size; have := X59.size; have := X69.size; have := X79.size; have := X89.size; omega
        refine s_storeAgg (b := bo) (o := 0) (c' := #[(I6 2), (.slice sa 1 sc), (.slice aa 0 ac), (I6 0), (I6 0), (.bool false)]) rfl rfl (by simp [Value.oneCell']) siz25 rfl Bo (by first | (simp; done) | exact Nat.le_of_ble_eq_true rfl) rfl ?_
        intro w15 S15
        replace h99 := StR.put h99 S15 (by omega)
        replace hX := ReIn.chg S15.chg (fun y hy hm => by have h8 : w89.heap.size ≤ y := hy; rcases hm with rfl; omega) _ hX
        replace E := S15.step E (by first | exact Or.inl (by omega) | assumption | exact Or.inr rfl | exact Or.inr (by assumption) | exact Or.inr (by simp) | exact Or.inr (by omega) | exact Or.inr (by dsimp only; omega))
        replace Bo := S15.blk
        refine WpL_nil (Wp_ret ?_)
        refine fin_agg Tryz.results120 (vs := [(.int .i64 2), (.slice sa 1 sc), (.slice aa 0 ac), (.int .i64 0), (.int .i64 0), (.bool false)]) (b := bo) rfl agg25 siz25 rfl (Bo.cells rfl) ?_
        exact ⟨by cases hce; exact ⟨sa, sc, aa, ac, rfl, ReIn.mono (fun y hy => by have h8 : w89.heap.size ≤ y := hy; omega) _ hX, h99⟩, E⟩
end Go.Proofs
namespace Go.Eng
open Go
set_option linter.unusedSectionVars false
variable [Drw]
/-- Where the body ends with the deferred call d still to be made. -/
def finD (P : Program) (fn : Func) (R : Ending → World → Prop) (d : Deferred) : Post
  | .normal, σ, w | .ret, σ, w => ∀ a : Act, env a = σ → Leaves P fn a.tmps R [d] .returning w
  | .panic ch, σ, w => ∀ a : Act, env a = σ → Leaves P fn a.tmps R [d] (.panicking ch) w
  | _, _, _ => False
def WpA (P : Program) (N : Nat) (c : Code) (Q : Exit → Act → World → Prop) (σ : Env) (w : World) : Prop := ∀ a, Ok [] N a → env a = σ → c.wp P Q a w
def WpLA (P : Program) (N : Nat) (ops : Array Oper) (Q : Exit → Act → World → Prop) (l : List Oper) (σ : Env) (w : World) : Prop := ∀ a, Ok [] N a → env a = σ → wpList P ops Q l a w
section
variable {P : Program} {N : Nat} {QA : Exit → Act → World → Prop} {σ : Env} {w : World} {ops : Array Oper} {rest : List Oper} {y : Code}
theorem CallsA_of {f : FuncId} {fn : Func} {c : Code} {args : Array Value} {R : Ending → World → Prop}
  (hf : P.funcs[f]? = some fn) (hb : fn.body = some c) (hn : fn.ntmps = N) (hsz : args.size ≤ N)
  (h : WpA P N c (bodyPostD P fn R) (fun t => args.getD t undef) w) : Calls P f args w R := by
 refine calls_of_wp_defers hf hb (h _ ⟨?_, rfl⟩ ?_)
 ·simp [hn]; omega
 ·funext t
  simp only [env, Array.getD_eq_getD_getElem?, Array.getElem?_append]
  split
  ·rfl
  ·rename_i hlt
   rw [Array.getElem?_replicate, Array.getElem?_eq_none (xs := args) (by omega)]
   split <;> rfl
theorem WpA_seq_region {id : Nat} {l : List Oper} (h : WpL P N l.toArray (WpA P N y QA) (fun _ _ _ => False) l σ w) : WpA P N (.seq (.region id l.toArray false) y) QA σ w := fun a ha he => by
 refine wp_seq (Code.wp_mono ?_ (wp_region_lit (h [] a ha he)))
 rintro e a' w' ⟨o, q⟩
 cases e <;> first | exact q a' o rfl | exact (show False from q).elim
theorem WpA_seq_regionD {id : Nat} {l : List Oper} (h : WpLA P N l.toArray (Exit.then (y.wp P QA) QA) l σ w) : WpA P N (.seq (.region id l.toArray false) y) QA σ w := fun a ha he => wp_seq (wp_region_lit (h a ha he))
theorem WpLA_val {o : Oper} (hg : o.guard = none) {d : Nat} (hd : o.dst = some d) (hN : d < N) {v : Value} {w' : World}
  (hr : (execOp (ev σ) o).run P w = .ok (.value v) w') (k : WpLA P N ops QA rest (upd σ d v) w') : WpLA P N ops QA (o :: rest) σ w := by
 intro a ha he
 refine wpList_plain hg fun K' hK => ?_
 unfold Oper.wp
 rw [eval_env, he, hr]
 simp only [Oper.upon, hd]
 exact hK _ _ (k _ (ha.put _ _) (by rw [env_put ha hN, he]))
theorem WpLA_defer {fn : Func} {R : Ending → World → Prop} {o : Oper} {d : Deferred} (hg : o.guard = none) (hd : o.dst = none)
  (hr : (execOp (ev σ) o).run P w = .ok (.defer d) w) (k : Wp P N y (finD P fn R d) σ w) : WpLA P N ops (Exit.then (y.wp P (bodyPostD P fn R)) (bodyPostD P fn R)) [o] σ w := by
 intro a ha he
 refine wpList_plain hg fun K' hK => ?_
 unfold Oper.wp
 rw [eval_env, he, hr]
 simp only [Oper.upon, hd]
 refine hK _ _ ?_
 have hd0 := ha.defers
 have h1 := k [d] { a with defers := d :: a.defers } ⟨ha.size, by simp [hd0]⟩ (by rw [← he]; rfl)
 show y.wp P (bodyPostD P fn R) { a with defers := d :: a.defers } w
 refine Code.wp_mono ?_ h1
 rintro e a' w' ⟨o', q⟩
 have ho := o'.defers
 cases e <;> simp only [finD] at q <;> simp only [bodyPostD]
 ·rw [ho]; exact q a' rfl
 ·rw [ho]; exact q a' rfl
 ·rw [ho]; exact q a' rfl
theorem r_defer {ty : TypeId} {pos : String} {af : Array Edge} {g : Option (Nat × Bool)} {x : Operand} {ts : Array TypeId} {f : FuncId} {cap : Array Value} (hx : ev σ x = .func (.func f) #[] cap) : (execOp (ev σ) ⟨none, .defer ⟨.value x, #[], ts⟩, ty, pos, af, g⟩).run P w = .ok (.defer { target := .fn (.func f) cap, args := #[] }) w := by
 simp [execOp, resolve, hx, Deferred.ofValue]
theorem leaves_end {fn : Func} {tmps : Array Value} {R : Ending → World → Prop} {d : Deferred} {f : FuncId} {cap : Array Value} {u : FrameMode} {X : World → Prop} (hd : d = { target := .fn (.func f) cap, args := #[] }) (hu : u ≠ .run)
  (hi : (callFunc f cap).run P w = .ok (.enter f cap) w) (hc : CallsD P f cap u w fun e u' w' => (∃ r, e = .returned r) ∧ settle u' = .returning ∧ X w') (hX : ∀ w', X w' → ∃ v, (results fn tmps).run P w' = .ok v w' ∧ R (.returned v) w') : Leaves P fn tmps R [d] u w := by
 subst hd
 refine leaves_cons (f := f) (args := cap) hu (by simpa [invoke] using hi) (hc.mono ?_)
 rintro e u' w' ⟨⟨r, rfl⟩, h1, h2⟩
 simp only
 rw [h1]
 exact hX w' h2
end
theorem r_recover {P : Program} {w : World} {ρ : Operand → Value} {dst : Option Tmp} {ty : TypeId} {pos : String} {af : Array Edge} {g : Option (Nat × Bool)} {ts : Array TypeId} : (execOp ρ ⟨dst, .call ⟨.builtin .recover, #[], ts⟩, ty, pos, af, g⟩).run P w = .ok .recover w := by
 simp [execOp, resolve, invoke, builtin]
theorem res_agg_cell {P : Program} {fn : Func} {a0 a1 t u b b1 n : Nat} (hr : fn.results = #[.cell a0 t, .cell a1 u]) {σ : Env} {w : World} {vs : List Value} {v' : Value} (hv : σ a0 = .pointer (some ⟨b, 0, none⟩)) (hv1 : σ a1 = .pointer (some ⟨b1, 0, none⟩)) (hf : aggB P t = true) (hs : Siz P t n) (hn : vs.length = n) (hc : CellsAt w b 0 vs) (hf1 : flatB P u = true) (hc1 : w.cell? ⟨b1, 0, none⟩ = some v') {a : Act} (ha : env a = σ) : (results fn a.tmps).run P w = .ok (.tuple #[.agg vs.toArray, v']) w := by
 subst ha
 have h0 : a.tmps.getD a0 undef = .pointer (some ⟨b, 0, none⟩) := hv
 have h1 : a.tmps.getD a1 undef = .pointer (some ⟨b1, 0, none⟩) := hv1
 simp only [Array.getD_eq_getD_getElem?] at h0 h1
 have h2 := run_loadVar (P := P) (w := w) hf hs hn hc
 have h3 : (loadVar u ⟨b1, 0, none⟩).run P w = .ok v' w := by simp [loadVar, flatB.run hf1, hc1]
 simp [results, hr, h0, h1, asAddr, h2, h3]
theorem letsOut_mono {Q Q' : Exit → Act → World → Prop} (hq : ∀ e a w, Q e a w → Q' e a w) (h : LetsOut Q) : LetsOut Q' := by
 obtain ⟨a, w, h⟩ := h; exact ⟨a, w, hq _ _ _ h⟩
theorem oper_mono {P : Program} {o : Oper} {a : Act} {w : World} {K K' : Act → World → Prop} {Q Q' : Exit → Act → World → Prop} (h : ∀ a w, K a w → K' a w) (hq : ∀ e a w, Q e a w → Q' e a w)
    (hh : o.wp P a w K Q) : o.wp P a w K' Q' := by
  unfold Oper.wp at *
  generalize (execOp a.eval o).run P w = r at *
  cases r with
  | ok n w' =>
    cases n <;> simp only [Oper.upon] at hh ⊢ <;>
      first
        | exact h _ _ hh
        | exact Calls.mono hh (fun e w'' he => by cases e <;> first | exact h _ _ he | exact letsOut_mono hq he | exact hq _ _ _ he)
        | exact Rows.mono hh (fun _ _ he => h _ _ he)
  | halt x w' => cases x <;> simp only [Oper.upon] at hh ⊢ <;> first | exact hq _ _ _ hh | exact hh
theorem wpList_monoQ {P : Program} {ops : Array Oper} {Q Q' : Exit → Act → World → Prop} (hq : ∀ e a w, Q e a w → Q' e a w) : ∀ (l : List Oper) (a : Act) (w : World), wpList P ops Q l a w → wpList P ops Q' l a w := by
  intro l
  induction l with
  | nil => intro a w h; exact hq _ _ _ h
  | cons o l ih =>
    intro a w h
    unfold wpList at h ⊢
    by_cases hw : Region.wanted o (yielded ops a.tmps) = true
    · rw [if_pos hw] at h ⊢
      rcases h with h | h
      · exact .inl (oper_mono (fun a w h => ih a w h) hq h)
      · exact .inr ⟨h.1, letsOut_mono hq h.2⟩
    · rw [if_neg hw] at h ⊢
      exact ih _ _ h
theorem wpS_of_list {P : Program} {ops : Array Oper} {Q : Exit → Act → List Frame → World → Prop} {cs : List Frame} (hL : ∀ (a : Act) (w : World), ¬ Q .outgrown a cs w) : ∀ (l : List Oper) (k : Nat) (a : Act) (w : World), (∀ j, l[j]? = ops[k + j]?) → wpList P ops (fun e a w => Q e a cs w) l a w → wpOpsS P ops Q (List.range' k l.length) a cs w := by
  intro l
  induction l with
  | nil => intro k a w _ h; exact h
  | cons o l ih =>
    intro k a w hj h
    have h0 : ops[k]? = some o := by simpa using (hj 0).symm
    have hj' : ∀ j, l[j]? = ops[k + 1 + j]? := fun j => by have := hj (j + 1); simpa [Nat.add_assoc, Nat.add_comm 1 j] using this
    rw [List.length_cons, List.range'_succ]
    unfold wpList at h
    unfold wpOpsS
    simp only [h0]
    by_cases hw : Region.wanted o (yielded ops a.tmps) = true
    · rw [if_pos hw] at h ⊢
      rcases h with h | ⟨_, a1, w1, h⟩
      · have h2 := oper_mono (K' := fun a' w' => wpOpsS P ops Q (List.range' (k + 1) l.length) a' cs w') (fun a w h => ih (k + 1) a w hj' h) (fun _ _ _ h => h) h
        unfold Oper.wp at h2
        split
        · rename_i heq
          rw [heq] at h2
          exact (show False from h2).elim
        · exact h2
      · exact absurd h (hL a1 w1)
    · rw [if_neg hw] at h ⊢
      exact ih (k + 1) _ _ hj' h
theorem CallsD_recover {P : Program} {N : Nat} {f : FuncId} {fn : Func} {id d0 : Nat} {o0 : Oper} {rest : List Oper} {y : Code} {args : Array Value} {u u' : FrameMode} {w : World} {v : Value} {R : Value → World → Prop}
    (hf : P.funcs[f]? = some fn) (hb : fn.body = some (.seq (.region id (o0 :: rest).toArray false) y)) (hn : fn.ntmps = N) (hsz : args.size ≤ N) (hg : o0.guard = none) (hd : o0.dst = some d0) (hN : d0 < N)
    (hop : ∀ (ρ : Operand → Value) (w : World), (execOp ρ o0).run P w = .ok .recover w)
    (hu : (u = .returning ∧ v = .nilIface ∧ u' = u) ∨ ∃ older, u = .panicking ({ v := v, recovered := false } :: older) ∧ u' = .panicking ({ v := v, recovered := true } :: older))
    (h : WpL P N (o0 :: rest).toArray (Wp P N y (fin P fn R)) (fin P fn R) rest (upd (fun t => args.getD t undef) d0 v) w) : CallsD P f args u w fun e u1 w' => (∃ r, e = .returned r ∧ R r w') ∧ u1 = u' := by
  refine callsD_of_wpS hf hb fun c₀ cs hu0 => ?_
  apply wpS_seq
  apply wpS_region
  have hsz2 : (o0 :: rest).toArray.size = rest.length + 1 := by simp
  rw [hsz2, List.range_eq_range', List.range'_succ]
  obtain ⟨a0, ha0⟩ : ∃ a0 : Act, a0 = { tmps := args ++ Array.replicate (fn.ntmps - args.size) undef, defers := [] } := ⟨_, rfl⟩
  rw [← ha0]
  have hok : Ok [] N a0 := ⟨by rw [ha0]; simp [hn]; omega, by rw [ha0]⟩
  have henv : env a0 = fun t => args.getD t undef := by
    rw [ha0]
    funext t
    simp only [env, Array.getD_eq_getD_getElem?, Array.getElem?_append]
    split
    · rfl
    · rename_i hlt
      rw [Array.getElem?_replicate, Array.getElem?_eq_none (xs := args) (by omega)]
      split <;> rfl
  have h1 := h [] (a0.put (some d0) v) (hok.put _ _) (by rw [env_put hok hN, henv])
  have hrec : (match recoverD (c₀ :: cs) with | some (v, cs') => some (v, cs') | none => some (Value.nilIface, c₀ :: cs)) = some (v, { c₀ with mode := u' } :: cs) := by
    rcases hu with ⟨rfl, rfl, rfl⟩ | ⟨older, rfl, rfl⟩
    · have : ({ c₀ with mode := FrameMode.returning } : Frame) = c₀ := by cases c₀; simp at hu0; subst hu0; rfl
      simp [recoverD, hu0, this]
    · simp [recoverD, hu0]
  have h2 : wpOpsS P (o0 :: rest).toArray (Exit.thenS (y.wpS P (bodyPostS P fn c₀ cs fun e u1 w' => (∃ r, e = .returned r ∧ R r w') ∧ u1 = u')) (bodyPostS P fn c₀ cs fun e u1 w' => (∃ r, e = .returned r ∧ R r w') ∧ u1 = u')) (List.range' (0 + 1) rest.length) (a0.put (some d0) v) ({ c₀ with mode := u' } :: cs) w := by
    refine wpS_of_list ?_ rest (0 + 1) _ _ (fun j => by simp [Nat.add_comm]) (wpList_monoQ ?_ rest _ _ h1)
    · rintro a w1 ⟨u9, ⟨r, h9, _⟩, _⟩; cases h9
    · rintro e a w1 ⟨o, q⟩
      cases e <;> simp only [thn] at q <;> simp only [Exit.thenS]
      · refine wpS_of_wp (Code.wp_mono ?_ (q [] a o rfl))
        rintro e a w1 ⟨o, q⟩
        cases e <;> simp only [fin] at q <;> simp only [bodyPostS]
        · obtain ⟨v9, hv, r⟩ := q; exact ⟨o.defers, u', rfl, v9, hv a rfl, ⟨v9, rfl, r⟩, rfl⟩
        · obtain ⟨v9, hv, r⟩ := q; exact ⟨o.defers, u', rfl, v9, hv a rfl, ⟨v9, rfl, r⟩, rfl⟩
      all_goals simp only [fin] at q
      · obtain ⟨v9, hv, r⟩ := q; exact ⟨o.defers, u', rfl, v9, hv a rfl, ⟨v9, rfl, r⟩, rfl⟩
  unfold wpOpsS
  have h0 : (o0 :: rest).toArray[0]? = some o0 := by simp
  have hw : Region.wanted o0 (yielded (o0 :: rest).toArray a0.tmps) = true := by simp [Region.wanted, hg]
  simp only [h0, hop]
  rw [if_pos hw, hd]
  cases hr : recoverD (c₀ :: cs) with
  | none => rw [hr] at hrec; simp only [Option.some.injEq, Prod.mk.injEq] at hrec; rw [← hrec.1, ← hrec.2] at h2; exact h2
  | some p => rw [hr] at hrec; obtain ⟨p1, p2⟩ := p; simp only [Option.some.injEq, Prod.mk.injEq] at hrec; rw [← hrec.1, ← hrec.2] at h2; exact h2
end Go.Eng
namespace Go.Eng
open Go
set_option linter.unusedSectionVars false
variable [Drw]
section
variable {P : Program} {N : Nat} {σ : Env} {w : World} {y : Code}
/-- Where the body ends with no deferred call. -/
def finE (P : Program) (fn : Func) (R : Ending → World → Prop) : Post
  | .ret, σ, w => ∀ a : Act, env a = σ → Leaves P fn a.tmps R [] .returning w
  | _, _, _ => False
theorem WpA_assoc {QA : Exit → Act → World → Prop} {x : Code} (h : WpA P N x (Exit.then (y.wp P QA) QA) σ w) : WpA P N (.seq x y) QA σ w := fun a ha he => wp_seq (h a ha he)
theorem WpA_cond {fn : Func} {R : Ending → World → Prop} {x : Operand} {c1 : Code} {b : Bool} (hx : ev σ x = .bool b) (ht : b = true → Wp P N c1 (finE P fn R) σ w) (hf : b = false → WpA P N y (bodyPostD P fn R) σ w) : WpA P N (.cond x c1 .skip) (Exit.then (y.wp P (bodyPostD P fn R)) (bodyPostD P fn R)) σ w := by
 intro a ha he
 refine wp_cond_split (t := b) (by rw [eval_env, he]; exact hx) (fun h => ?_) (fun h => wp_skip (hf h a ha he))
 refine Code.wp_mono ?_ (ht h [] a ha he)
 rintro e a' w' ⟨o', q⟩
 have ho := o'.defers
 cases e <;> simp only [finE] at q
 show Leaves P fn a'.tmps R a'.defers .returning w'
 rw [ho]
 exact q a' rfl
end
end Go.Eng
namespace Go.Proofs
open Go Go.Eng Go.Sort
set_option linter.unusedSectionVars false
variable [Drw]
set_option maxRecDepth 100000
mutual
theorem okv_sets : ∀ (t : Re), okRe t → setsOk t
  | .mk k set args mn mx ng, h => by
    have h1 := okRe_node h
    have h2 := okRe_form h
    have h3 := okRe_args h
    simp only [setsOk]
    refine ⟨?_, okvs_sets args h3⟩
    obtain ⟨ha, hb, hf⟩ := h2
    by_cases hk : k = 2
    · unfold nodeE at h1
      simp only [Re.kind] at ha hb
      rw [if_neg (by simp only [Re.kind]; omega), if_neg (by simp [hf]), if_pos (by simp only [Re.kind]; exact hk)] at h1
      split at h1
      · omega
      · rename_i hc
        simp only [Re.set] at hc
        unfold checkE at hc
        split at hc
        · omega
        · omega
    · simp only [formB, Bool.and_eq_true, Bool.or_eq_true, decide_eq_true_eq, Re.kind, Re.set] at hf
      have := hf.1.1.1.2.resolve_left (by simp [hk])
      simp at this
      rw [this]; simp
theorem okvs_sets : ∀ (ts : List Re), okRes ts → setsOks ts
  | [], _ => by simp only [setsOks]
  | t :: ts, h => by simp only [okRes] at h; simp only [setsOks]; exact ⟨okv_sets t h.1, okvs_sets ts h.2⟩
end
mutual
theorem tree_rein {S Z : Nat → Prop} {w : World} (hZ : ∀ x, Z x → S x) : ∀ (t : Re) {vs : List Value} {L : Nat → Prop}, Tree Z w t vs L → (∀ x, L x → S x) → ReIn S w t vs
  | .mk k set args mn mx ng, vs, L, h, hL => by
    simp only [Tree] at h
    obtain ⟨sa, sc, aa, ac, hv, hs, hn, ha⟩ := h
    simp only [ReIn]
    refine ⟨sa, sc, aa, ac, hv, hs.mono hZ, hn, ?_⟩
    rcases ha with h | ⟨b, rows, rest, L', h1, h2, h3, h4, h5, h6⟩
    · exact .inl h
    · refine .inr ⟨b, 0, hL b h1, h2, resin_of fun i t ht => ?_⟩
      obtain ⟨us, h7, h8⟩ := trees_rein hZ args h5 (fun x hx => hL x (h6 x hx).1) i t ht
      exact ⟨us, by rw [Nat.zero_add]; exact rows_at h3 h4 h7, h8⟩
theorem trees_rein {S Z : Nat → Prop} {w : World} (hZ : ∀ x, Z x → S x) : ∀ (ts : List Re) {rows : List (List Value)} {L : Nat → Prop}, Trees Z w ts rows L → (∀ x, L x → S x) → ∀ (i : Nat) (t : Re), ts[i]? = some t → ∃ vs, rows[i]? = some vs ∧ ReIn S w t vs
  | [], _, _, _, _, i, t, h => by simp at h
  | u :: ts, rows, L, h, hL, i, t, ht => by
    simp only [Trees] at h
    obtain ⟨vs, rs, L1, L2, rfl, h1, h2, h3, h4⟩ := h
    cases i with
    | zero => simp at ht; subst ht; exact ⟨vs, rfl, tree_rein hZ u h1 fun x hx => hL x (h3 x hx).1⟩
    | succ i =>
      obtain ⟨us, h5, h6⟩ := trees_rein hZ ts h2 (fun x hx => hL x (h4 x hx)) i t (by simpa using ht)
      exact ⟨us, by simpa using h5, h6⟩
end
end Go.Proofs
namespace Go.Eng
open Go
set_option linter.unusedSectionVars false
variable [Drw]
theorem r_assertNilI {P : Program} {σ : Env} {w : World} {dst : Option Tmp} {ty : TypeId} {pos : String} {af : Array Edge} {g : Option (Nat × Bool)} {x : Operand} {t s : TypeId} {ms : Array (String × TypeId)} (hu : P.underlying t = some (.interface ms)) (hz : Zer P t .nilIface) (hx : ev σ x = .nilIface) : (execOp (ev σ) ⟨dst, .typeAssert x s t true, ty, pos, af, g⟩).run P w = .ok (.value (.tuple #[.nilIface, .bool false])) w := by
 have h := hz.run w
 simp [execOp, hx, Instr.typeAssert, run_underlying hu, h]
end Go.Eng
namespace Go.Proofs
open Go Go.Eng Go.Sort Go.Lib
set_option linter.unusedSectionVars false
variable [Drw]
set_option maxRecDepth 100000
/-- The parser, by depth of parentheses. -/
def pAlt : Nat → Bys → Option (Re × Bys)
  | 0 => fun _ => none
  | n + 1 => manyP (manyP (catP (itemP (atomP (pAlt n)) 1000)) 38 7) 124 4
theorem palt_c (b : Nat) : ∀ n, RdOk b 29 (pAlt n)
  | 0 => fun _ _ _ _ h => by cases h
  | n + 1 => alt_c b _ (and_c b _ (cat_c b _ (item_c b _ (atom_c b _ (palt_c b n)) 1000)))
theorem read1_idle (w0 : World) (b1 b2 : Nat) : CallsD Tryz.prog 27 #[.pointer (some ⟨b1, 0, none⟩), .pointer (some ⟨b2, 0, none⟩)] .returning w0 fun e u1 w' => (∃ r, e = .returned r ∧ Ext w0 w') ∧ u1 = .returning := by
 refine CallsD_recover (v := .nilIface) Tryz.func27 rfl Tryz.ntmps27 (Nat.le_of_ble_eq_true rfl) rfl rfl (by decide) (fun _ _ => r_recover) (.inl ⟨rfl, rfl, rfl⟩) ?_
 have E : Chg none1 w0 w0 := Chg.refl _ _
 refine qV (r_assertNilI Tryz.underlying48 zer48 rfl) ?_
 refine qM (.tuple #[.nilIface, (.bool false)]) rfl ?_
 refine qV (r_extract (vs := #[.nilIface, (.bool false)]) (v := .nilIface) rfl rfl) ?_
 refine qV (r_extract (vs := #[.nilIface, (.bool false)]) (v := (.bool false)) rfl rfl) ?_
 refine qA .nilIface rfl ?_
 refine qA (.bool false) rfl ?_
 refine WpL_nil (Wp_seq_region ?_)
 refine qM (.bool false) rfl ?_
 refine WpL_nil ?_
 refine Wp_cond_false rfl ?_
 refine Wp_skip ?_
 refine fin_none Tryz.results27 ?_
 exact E
theorem hi_read1 (w : World) (cap : Array Value) : (callFunc 27 cap).run Tryz.prog w = .ok (.enter 27 cap) w := run_callF Tryz.func27 nm27 bd27
theorem val_c (w0 : World) (s : Bys) (hl : s.length ≤ 4000) (hL : Lay w0) : Ret Tryz.prog 26 #[.string (bS s)] w0 fun r w => r = .bool (Lib.validD s) ∧ Ext w0 w := by
 refine (Any.utf8_ValidString Tryz.valS (bS s) w0 (by rw [bS_size]; omega) hL.u8).mono ?_
 rintro e w' ⟨rfl, hb⟩
 exact ⟨_, rfl, rfl, Ext.of_belowW hL.nd hb⟩
theorem Lay.six {w : World} (h : Lay w) : 6 < w.heap.size := by
 have h1 := h.tz 0 (by decide)
 apply Classical.byContradiction
 intro h2
 rw [World.cell?, Array.getElem?_eq_none (by show w.heap.size ≤ 6; omega)] at h1
 cases h1
theorem rcopy_c (w0 : World) (t : Re) (vs : List Value) (hsz : t.size ≤ 1000000) (hok : okRe t) (ht : ReAt w0 t vs) : Ret Tryz.prog 31 #[.agg vs.toArray] w0 fun r w => (∃ sa sc aa ac, r = .agg #[.int .i64 t.kind, .slice sa t.set.length sc, .slice aa t.args.length ac, .int .i64 t.mn, .int .i64 t.mx, .bool t.neg] ∧ ReIn (fun y => w0.heap.size ≤ y) w t [.int .i64 t.kind, .slice sa t.set.length sc, .slice aa t.args.length ac, .int .i64 t.mn, .int .i64 t.mx, .bool t.neg]) ∧ Ext w0 w := by
 refine (copy_c _ t w0 vs (Nat.le_refl _) hsz (okv_sets t hok) ht).mono ?_
 rintro r w ⟨⟨us, Z, L, rfl, hT, _, hnew⟩, X⟩
 have hR := tree_rein (S := fun y => w0.heap.size ≤ y) (fun x hx => (hnew x (.inl hx)).1) t hT fun x hx => (hnew x (.inr hx)).1
 obtain ⟨sa, sc, aa, ac, rfl, _⟩ := hR.form
 exact ⟨⟨sa, sc, aa, ac, rfl, hR⟩, X⟩
def ReadR (m : Nat) (t : Re) (r : Value) (w : World) : Prop := ∃ sa sc aa ac, r = .tuple #[.agg #[.int .i64 t.kind, .slice sa t.set.length sc, .slice aa t.args.length ac, .int .i64 t.mn, .int .i64 t.mx, .bool t.neg], .int .i64 0] ∧ ReIn (fun y => m ≤ y) w t [.int .i64 t.kind, .slice sa t.set.length sc, .slice aa t.args.length ac, .int .i64 t.mn, .int .i64 t.mx, .bool t.neg]
set_option maxHeartbeats 1000000 in
theorem read_c (w0 : World) (s : Bys) (n : Nat) (t : Re) (hs : pAlt n s = some (t, [])) (hlen : s.length ≤ 4000) (hv : Lib.validD s = true) (hf : fitsE t 40 = 0) (hL : Lay w0) :
  Ret Tryz.prog 12 #[.string (bS s)] w0 fun r w => ReadR w0.heap.size t r w ∧ Ext w0 w := by
 obtain ⟨hok, hsz⟩ := (fitsE_zero (t := t) (most := 40) (by decide) (by decide)).1 hf
 have h6 := hL.six
 refine CallsA_of Tryz.func12 rfl Tryz.ntmps12 (Nat.le_of_ble_eq_true rfl) ?_
 have E : Chg none1 w0 w0 := Chg.refl _ _
 refine WpA_seq_region ?_
 refine s_alloc (c := #[(I6 0), (.slice none 0 0), (.slice none 0 0), (I6 0), (I6 0), (.bool false)]) (by decide) zer25 rfl ?_
 intro br wr Nr
 have Fr := Nr.ge E
 replace E := E.ext Nr.ext
 have Br := Nr.blk
 refine s_alloc (c := #[(I6 0)]) (by decide) zer26 rfl ?_
 intro be we Ne
 have Fe := Ne.ge E
 have Oe_br := Ne.lt Br
 replace Br := Ne.keep Br
 replace E := E.ext Ne.ext
 have Be := Ne.blk
 refine WpL_nil (WpA_assoc (WpA_seq_region ?_))
 refine qM (.string (bS s)) rfl ?_
 refine qV ((r_lenString Tryz.underlying9 rfl).trans (by rw [bS_size])) ?_
 refine qV (r_gtr (k := .i64) (a := (s.length : Int)) (b := 4000) rfl rfl) ?_
 refine WpL_nil ?_
 refine WpA_cond (b := decide ((4000 : Int) < (s.length : Int))) rfl (fun h4 => ?_) (fun h4 => ?_)
 ·have kh4 := h4
  replace h4 := of_decide_eq_true h4
  refine Wp_seq_region ?_
  refine qV (r_build (ps := []) (v := (.agg #[(I6 0), (.slice none 0 0), (.slice none 0 0), (I6 0), (I6 0), (.bool false)])) rfl (by kernel_rfl)) ?_
  refine s_storeAgg (b := br) (o := 0) (c' := #[(I6 0), (.slice none 0 0), (.slice none 0 0), (I6 0), (I6 0), (.bool false)]) rfl rfl (by simp [Value.oneCell']) siz25 rfl Br (by first | (simp; done) | exact Nat.le_of_ble_eq_true rfl) rfl ?_
  intro w1 S1
  replace Be := S1.keep (by omega) Be
  replace E := S1.step E (by first | exact Or.inl (by omega) | assumption | exact Or.inr rfl | exact Or.inr (by assumption) | exact Or.inr (by simp) | exact Or.inr (by omega) | exact Or.inr (by dsimp only; omega))
  replace Br := S1.blk
  refine s_store (b := be) (o := 0) (c' := #[(I6 2)]) (v := (I6 2)) rfl rfl rfl siz26 Be (by simp) rfl ?_
  intro w2 S2
  replace Br := S2.keep (by omega) Br
  replace E := S2.step E (by first | exact Or.inl (by omega) | assumption | exact Or.inr rfl | exact Or.inr (by assumption) | exact Or.inr (by simp) | exact Or.inr (by omega) | exact Or.inr (by dsimp only; omega))
  replace Be := S2.blk
  refine WpL_nil (Wp_ret ?_)
  exact absurd h4 (by omega)
 ·have kh4 := h4
  replace h4 := of_decide_eq_false h4
  refine WpA_assoc (WpA_seq_region ?_)
  refine qM (.string (bS s)) rfl ?_
  refine WpL_enter rfl rfl (by decide) (r_callF (vs := [(.string (bS s))]) Tryz.func26 nm26 bd26 rfl) (val_c _ s hlen (hL.ext E)) ?_
  rintro _ w9 ⟨rfl, X9⟩
  replace Br := X9.keep Br
  replace Be := X9.keep Be
  replace E := E.ext X9
  refine qV (r_not (b := Lib.validD s) rfl) ?_
  refine WpL_nil ?_
  refine WpA_cond (b := !(Lib.validD s)) rfl (fun h5 => ?_) (fun h5 => ?_)
  ·have kh5 := h5
   refine Wp_seq_region ?_
   refine qV (r_build (ps := []) (v := (.agg #[(I6 0), (.slice none 0 0), (.slice none 0 0), (I6 0), (I6 0), (.bool false)])) rfl (by kernel_rfl)) ?_
   refine s_storeAgg (b := br) (o := 0) (c' := #[(I6 0), (.slice none 0 0), (.slice none 0 0), (I6 0), (I6 0), (.bool false)]) rfl rfl (by simp [Value.oneCell']) siz25 rfl Br (by first | (simp; done) | exact Nat.le_of_ble_eq_true rfl) rfl ?_
   intro w3 S3
   replace Be := S3.keep (by omega) Be
   replace E := S3.step E (by first | exact Or.inl (by omega) | assumption | exact Or.inr rfl | exact Or.inr (by assumption) | exact Or.inr (by simp) | exact Or.inr (by omega) | exact Or.inr (by dsimp only; omega))
   replace Br := S3.blk
   refine s_store (b := be) (o := 0) (c' := #[(I6 4)]) (v := (I6 4)) rfl rfl rfl siz26 Be (by simp) rfl ?_
   intro w4 S4
   replace Br := S4.keep (by omega) Br
   replace E := S4.step E (by first | exact Or.inl (by omega) | assumption | exact Or.inr rfl | exact Or.inr (by assumption) | exact Or.inr (by simp) | exact Or.inr (by omega) | exact Or.inr (by dsimp only; omega))
   replace Be := S4.blk
   refine WpL_nil (Wp_ret ?_)
   exact absurd h5 (by rw [hv]; decide)
  ·have kh5 := h5
   refine WpA_seq_regionD ?_
   refine WpLA_val rfl rfl (by decide) (r_makeFunc (vs := []) (us := [(P6 br 0), (P6 be 0)]) rfl rfl) ?_
   refine WpLA_defer rfl rfl (r_defer rfl) ?_
   refine Wp_seq_region ?_
   refine qM (.string (bS s)) rfl ?_
   refine qV (r_build (ps := [(0, (.string (bS s)))]) (v := (.agg #[(.string (bS s)), (.bool false)])) rfl (by kernel_rfl)) ?_
   refine s_box (v := (.agg #[(.string (bS s)), (.bool false)])) (c := #[(.string (bS s)), (.bool false)]) (by decide) rfl rfl ?_
   intro bd wd Nd
   have Fd := Nd.ge E
   have Od_br := Nd.lt Br
   have Od_be := Nd.lt Be
   replace Br := Nd.keep Br
   replace Be := Nd.keep Be
   replace E := E.ext Nd.ext
   have Bd := Nd.blk
   refine qA (P6 bd 0) rfl ?_
   refine WpL_nil (Wp_seq_region ?_)
   refine qM (P6 bd 0) rfl ?_
   have hlt : br < bd ∧ be < bd ∧ w0.heap.size ≤ br ∧ w0.heap.size ≤ be ∧ br ≠ be ∧ 6 < bd := ⟨by have := Nd.eq; have := Br.lt; have := Be.lt; omega, by omega, by omega, by omega, by omega, by omega⟩
   have hst : StR (wd) bd s := ⟨hL.ext E, Bd, hlt.2.2.2.2.2⟩
   refine WpL_enter rfl rfl (by decide) (r_callF (vs := [(P6 bd 0)]) Tryz.func29 nm29 bd29 rfl) (palt_c bd n _ s t [] hs hst) ?_
   rintro _ w19 ⟨⟨sa, sc, aa, ac, rfl, hX, h19⟩, X19⟩
   replace Br := X19.keep ((fun hh => by omega)) Br
   replace Be := X19.keep ((fun hh => by omega)) Be
   replace E := E.step X19 ((fun y hy hh => by omega))
   have hat := ReIn.at t hX
   have hrd := h19.rd
   have hbd := h19.lt
   refine s_allocStore (v := (.agg (R6 t sa sc aa ac))) (c := (R6 t sa sc aa ac)) (n := 6) (by decide) zer25 rfl siz25 rfl rfl rfl (by simp [Value.oneCell']) ?_
   intro bx wx Nx
   have Fx := Nx.ge E
   have Ox_br := Nx.lt Br
   have Ox_be := Nx.lt Be
   have Ox_bd := Nx.lt hrd
   replace Br := Nx.keep Br
   replace Be := Nx.keep Be
   replace hrd := Nx.keep hrd
   replace hat := ReAt.ext Nx.ext t hat
   replace E := E.ext Nx.ext
   have Bx := Nx.blk
   refine WpL_nil (Wp_seq (Wp_seq_region ?_))
   refine qM (P6 bd 0) rfl ?_
   refine qV (r_nilCheck (a := ⟨bd, 0, none⟩) rfl) ?_
   refine qF bd 0 0 rfl Tryz.underlying57 rfl siz9 rfl ?_
   refine qV (r_load (v := (.string (bS []))) rfl flat9 (hrd.cell rfl)) ?_
   refine WpL_val (v := (.bool false)) rfl rfl (by decide) ((r_neqS (l := []) (m := []) rfl rfl).trans (by rfl)) ?_
   refine WpL_nil ?_
   refine Wp_cond_false rfl ?_
   refine Wp_skip (thn_normal (Wp_seq (Wp_seq_region ?_)))
   refine qM (P6 bd 0) rfl ?_
   refine qV (r_nilCheck (a := ⟨bd, 0, none⟩) rfl) ?_
   refine qF bd 0 1 rfl Tryz.underlying57 rfl siz4 rfl ?_
   refine qV (r_load (v := (.bool false)) rfl flat4 (hrd.cell rfl)) ?_
   refine WpL_nil ?_
   refine Wp_cond_false rfl ?_
   refine Wp_skip (thn_normal (Wp_seq (Wp_seq_region ?_)))
   refine qV (r_loadAgg (vs := [(I6 t.kind), (.slice sa t.set.length sc), (.slice aa t.args.length ac), (I6 t.mn), (I6 t.mx), (.bool t.neg)]) rfl agg25 siz25 rfl (Bx.cells rfl)) ?_
   refine WpL_enter rfl rfl (by decide) (r_callF (vs := [(.agg (R6 t sa sc aa ac))]) Tryz.func17 nm17 bd17 rfl) (check_c _ t _ hat) ?_
   rintro _ w29 ⟨rfl, X29⟩
   replace Br := X29.keep Br
   replace Be := X29.keep Be
   replace hrd := X29.keep hrd
   replace Bx := X29.keep Bx
   replace hat := ReAt.ext X29 t hat
   replace E := E.ext X29
   refine qA (I6 (fitsE t 40)) rfl ?_
   refine WpL_nil (Wp_seq_region ?_)
   refine qM (I6 (fitsE t 40)) rfl ?_
   refine qV (r_neq (k := .i64) (a := fitsE t 40) (b := 0) rfl rfl) ?_
   refine WpL_nil ?_
   have hc5 : (decide ((fitsE t 40 : Int) ≠ 0)) = false := decide_eq_false (by omega)
   refine Wp_cond_false (congrArg Value.bool hc5) ?_
   refine Wp_skip (thn_normal (Wp_seq_region ?_))
   refine qV (r_loadAgg (vs := [(I6 t.kind), (.slice sa t.set.length sc), (.slice aa t.args.length ac), (I6 t.mn), (I6 t.mx), (.bool t.neg)]) rfl agg25 siz25 rfl (Bx.cells rfl)) ?_
   refine WpL_enter rfl rfl (by decide) (r_callF (vs := [(.agg (R6 t sa sc aa ac))]) Tryz.func31 nm31 bd31 rfl) (rcopy_c _ t _ (by omega) hok hat) ?_
   rintro _ w39 ⟨⟨ka, kc, la, lc, rfl, hR⟩, X39⟩
   replace Br := X39.keep Br
   replace Be := X39.keep Be
   replace hrd := X39.keep hrd
   replace Bx := X39.keep Bx
   replace hat := ReAt.ext X39 t hat
   replace E := E.ext X39
   have hsz9 : bd < w29.heap.size := by have := X29.size; have := Nx.size; omega
   refine s_storeAgg (b := br) (o := 0) (c' := (R6 t ka kc la lc)) rfl rfl (by simp [Value.oneCell']) siz25 rfl Br (by first | (simp; done) | exact Nat.le_of_ble_eq_true rfl) rfl ?_
   intro w6 S6
   replace hR := ReIn.chg S6.chg (fun y hy hm => by have h8 : w29.heap.size ≤ y := hy; rcases hm with rfl; omega) t hR
   replace Be := S6.keep (by omega) Be
   replace hrd := S6.keep (by omega) hrd
   replace Bx := S6.keep (by omega) Bx
   replace E := S6.step E (by first | exact Or.inl (by omega) | assumption | exact Or.inr rfl | exact Or.inr (by assumption) | exact Or.inr (by simp) | exact Or.inr (by omega) | exact Or.inr (by dsimp only; omega))
   replace Br := S6.blk
   refine s_store (b := be) (o := 0) (c' := #[(I6 0)]) (v := (I6 0)) rfl rfl rfl siz26 Be (by simp) rfl ?_
   intro w7 S7
   replace hR := ReIn.chg S7.chg (fun y hy hm => by have h8 : w29.heap.size ≤ y := hy; rcases hm with rfl; omega) t hR
   replace Br := S7.keep (by omega) Br
   replace hrd := S7.keep (by omega) hrd
   replace Bx := S7.keep (by omega) Bx
   replace E := S7.step E (by first | exact Or.inl (by omega) | assumption | exact Or.inr rfl | exact Or.inr (by assumption) | exact Or.inr (by simp) | exact Or.inr (by omega) | exact Or.inr (by dsimp only; omega))
   replace Be := S7.blk
   refine WpL_nil (Wp_ret ?_)
   exact fun a ha => leaves_end (X := Ext _) rfl (by intro h; cases h) (hi_read1 _ _) ((read1_idle _ br be).mono fun e9 u9 w9 h9 => by obtain ⟨⟨r9, h1, h2⟩, h3⟩ := h9; exact ⟨⟨r9, h1⟩, by rw [h3]; rfl, h2⟩) (fun w9 h9 => ⟨_, res_agg_cell (vs := [.int .i64 t.kind, .slice ka t.set.length kc, .slice la t.args.length lc, .int .i64 t.mn, .int .i64 t.mx, .bool t.neg]) Tryz.results12 rfl rfl agg25 siz25 rfl ((Ext.keep h9 Br).cells rfl) flat26 ((Ext.keep h9 Be).cell rfl) ha, _, rfl, ⟨ka, kc, la, lc, rfl, ReIn.mono (fun y hy => by have h8 : w29.heap.size ≤ y := hy; omega) t (ReIn.ext h9 t hR)⟩, E.ext h9⟩)
end Go.Proofs
namespace Go.Proofs
open Go Go.Eng Go.Sort Go.Lib
set_option linter.unusedSectionVars false
variable [Drw]
set_option maxRecDepth 100000
/-- A rune that is no surrogate. -/
def scR (n : Nat) : Prop := n < 55296 ∨ (57344 ≤ n ∧ n ≤ 1114111)
theorem toN8 {m : Nat} (h : m < 256) : (UInt8.ofNat m).toNat = m := by simp; omega
theorem uE_all {n : Nat} (h : scR n) : uE (n : Int) =
  if n < 128 then [UInt8.ofNat n] else if n < 2048 then [UInt8.ofNat (192 + n / 64), UInt8.ofNat (128 + n % 64)]
  else if n < 65536 then [UInt8.ofNat (224 + n / 4096), UInt8.ofNat (128 + n / 64 % 64), UInt8.ofNat (128 + n % 64)]
  else [UInt8.ofNat (240 + n / 262144), UInt8.ofNat (128 + n / 4096 % 64), UInt8.ofNat (128 + n / 64 % 64), UInt8.ofNat (128 + n % 64)] := by
 have hv : Utf8.valid (n : Int) = true := by unfold scR at h; simp [Utf8.valid]; omega
 unfold uE Utf8.encode
 simp only [hv, if_true, Int.toNat_natCast]
 repeat' split
 all_goals rfl
theorem dec_uE {n : Nat} (h : scR n) (r : Bys) : Lib.decodeL (uE (n : Int) ++ r) = (n, (uE (n : Int)).length) := by
 have h' := h
 unfold scR at h
 rw [Lib.decodeL_N, uE_all h']
 by_cases h1 : n < 128
 ·rw [if_pos h1]
  simp only [List.cons_append, List.nil_append, List.getD_cons_zero, toN8 (show n < 256 by omega)]
  unfold Lib.decodeN
  rw [if_pos h1]; rfl
 rw [if_neg h1]
 by_cases h2 : n < 2048
 ·rw [if_pos h2]
  simp only [List.cons_append, List.nil_append, List.getD_cons_zero, List.getD_cons_succ, List.length_cons, toN8 (show 192 + n / 64 < 256 by omega), toN8 (show 128 + n % 64 < 256 by omega)]
  unfold Lib.decodeN
  rw [if_neg (by omega), if_pos (by omega), if_pos (by omega)]
  exact Prod.ext (by simp only; omega) rfl
 rw [if_neg h2]
 by_cases h3 : n < 65536
 ·rw [if_pos h3]
  simp only [List.cons_append, List.nil_append, List.getD_cons_zero, List.getD_cons_succ, List.length_cons, toN8 (show 224 + n / 4096 < 256 by omega), toN8 (show 128 + n / 64 % 64 < 256 by omega), toN8 (show 128 + n % 64 < 256 by omega)]
  unfold Lib.decodeN
  rw [if_neg (by omega), if_neg (by omega), if_pos (by omega), if_pos (by omega)]
  exact Prod.ext (by simp only; omega) rfl
 ·rw [if_neg h3]
  simp only [List.cons_append, List.nil_append, List.getD_cons_zero, List.getD_cons_succ, List.length_cons, toN8 (show 240 + n / 262144 < 256 by omega), toN8 (show 128 + n / 4096 % 64 < 256 by omega), toN8 (show 128 + n / 64 % 64 < 256 by omega), toN8 (show 128 + n % 64 < 256 by omega)]
  unfold Lib.decodeN
  rw [if_neg (by omega), if_neg (by omega), if_neg (by omega), if_pos (by omega), if_pos (by omega)]
  exact Prod.ext (by simp only; omega) rfl
theorem decGo_L {l : Bys} (h : l ≠ []) : Lib.decodeGo (bS l) = Lib.decodeL l := by
 unfold Lib.decodeGo
 rw [if_neg (by rw [bS_size]; intro hh; exact h (List.eq_nil_of_length_eq_zero hh))]
 rfl
theorem uE_ne {n : Nat} (h : scR n) : uE (n : Int) ≠ [] := by rw [uE_all h]; (repeat' split) <;> simp
/-- Hexadecimal digits. -/
theorem hxD_ok {n : Nat} (h : n < 16) : HxOk (hxD n) ∧ hxV (hxD n) = n := by
 have : ∀ k : Fin 16, HxOk (hxD k.val) ∧ hxV (hxD k.val) = k.val := by decide
 exact this ⟨n, h⟩
theorem hxN_ok : ∀ (k n : Nat), n < 16 ^ k → (∀ d ∈ hxN n, HxOk d) ∧ hexV (hxN n) = n
  | 0, n, h => by
    have : n = 0 := by simpa using h
    subst this
    rw [hxN, dif_pos (by decide)]
    exact ⟨fun d hd => by rw [List.mem_singleton] at hd; subst hd; exact (hxD_ok (by decide)).1, by decide⟩
  | k + 1, n, h => by
    rw [hxN]
    split
    · rename_i h16
      refine ⟨fun d hd => by rw [List.mem_singleton] at hd; subst hd; exact (hxD_ok h16).1, ?_⟩
      have := hexV_snoc [] (hxD n)
      rw [List.nil_append] at this
      rw [this, (hxD_ok h16).2]
      show 0 * 16 + n = n
      omega
    · have h1 : n / 16 < 16 ^ k := by rw [Nat.pow_succ] at h; omega
      obtain ⟨h2, h3⟩ := hxN_ok k (n / 16) h1
      have h4 := hxD_ok (n := n % 16) (by omega)
      refine ⟨fun d hd => ?_, ?_⟩
      · rcases List.mem_append.1 hd with hd | hd
        · exact h2 d hd
        · rw [List.mem_singleton] at hd; subst hd; exact h4.1
      · rw [hexV_snoc, h3, h4.2]; omega
theorem ixb_app {c : UInt8} : ∀ (l r : Bys), c ∉ l → indexByte (l ++ c :: r) c = ((l.length : Nat) : Int)
  | [], r, _ => by rw [List.nil_append, indexByte]; simp
  | b :: l, r, h => by
    have h1 := ixb_app l r (fun hh => h (List.mem_cons_of_mem _ hh))
    have h2 : (b == c) = false := by rw [beq_eq_false_iff_ne]; exact fun hh => h (by rw [hh]; exact List.mem_cons_self)
    rw [List.cons_append, indexByte, h2, h1]
    have h3 : ((((l.length : Nat) : Int)) == -1) = false := by rw [beq_eq_false_iff_ne]; omega
    rw [h3]
    simp only [Bool.false_eq_true, if_false, List.length_cons]
    omega
theorem numP_hx {n : Nat} (h : n ≤ 1114111) (r : Bys) : numP (123 :: (hxN n ++ 125 :: r)) = some ((n : Int), r) := by
 obtain ⟨h1, h2⟩ := hxN_ok 6 n (by omega)
 have hl := hxN_len 5 n (by omega)
 have hp := hxN_pos n
 have hno : (125 : UInt8) ∉ hxN n := fun hh => by have := h1 _ hh; revert this; decide
 have hi := ixb_app (hxN n) r hno
 rw [numP, hi]
 have ht : (hxN n ++ 125 :: r).take ((((hxN n).length : Nat) : Int)).toNat = hxN n := by simp
 have hd : (hxN n ++ 125 :: r).drop (((((hxN n).length : Nat) : Int)).toNat + 1) = r := by
  rw [Int.toNat_natCast, ← List.drop_drop, List.drop_append_of_le_length (Nat.le_refl _), List.drop_length]; rfl
 rw [ht, hd, h2, if_pos ⟨rfl, ⟨by omega, by omega, by simp; omega⟩, h1, h⟩]
theorem chP_bs {q r : Bys} {c : Int} (h : escP q = some (c, r)) : chP (92 :: q) = some (c, r) := by
 unfold chP
 rw [decGo_L (List.cons_ne_nil _ _), Lib.decodeL_ascii 92 q (by decide), if_neg (List.cons_ne_nil _ _), if_pos (by rfl)]
 exact h
theorem escC_nat (n : Nat) : escC (n : Int) = if mkB (n : Int) = true then 92 :: uE (n : Int) else if n = 10 then [92, 110] else if n = 9 then [92, 116] else if n = 13 then [92, 114]
  else if n < 32 ∨ (127 ≤ n ∧ n ≤ 160) ∨ (55296 ≤ n ∧ n ≤ 57343) then [92, 117, 123] ++ hxN n ++ [125] else uE (n : Int) := by
 unfold escC
 have e1 : ((n : Int) = 10) = (n = 10) := propext (by omega)
 have e2 : ((n : Int) = 9) = (n = 9) := propext (by omega)
 have e3 : ((n : Int) = 13) = (n = 13) := propext (by omega)
 have e4 : ((n : Int) < 32 ∨ (127 ≤ (n : Int) ∧ (n : Int) ≤ 160) ∨ (55296 ≤ (n : Int) ∧ (n : Int) ≤ 57343)) = (n < 32 ∨ (127 ≤ n ∧ n ≤ 160) ∨ (55296 ≤ n ∧ n ≤ 57343)) := propext (by omega)
 simp only [e1, e2, e3, e4, Int.toNat_natCast]
theorem mkB_nat {n : Nat} : mkB (n : Int) = true ↔ n < 128 ∧ 0 ≤ indexByte spc (UInt8.ofNat n) := by
 unfold mkB
 rw [Bool.and_eq_true, decide_eq_true_eq, decide_eq_true_eq, Int.toNat_natCast]
 exact ⟨fun h => ⟨by omega, h.2⟩, fun h => ⟨by omega, h.2⟩⟩
theorem uE_low {n : Nat} (h : n < 128) : uE (n : Int) = [UInt8.ofNat n] := by rw [uE_all (.inl (by omega)), if_pos h]
theorem spc_sub : ∀ k : Fin 128, 0 ≤ indexByte spc17 (UInt8.ofNat k.val) → 0 ≤ indexByte spc (UInt8.ofNat k.val) := by decide
theorem chP_esc {n : Nat} (h : n ≤ 1114111) (r : Bys) : chP (escC (n : Int) ++ r) = some ((n : Int), r) := by
 rw [escC_nat]
 by_cases hm : mkB (n : Int) = true
 ·obtain ⟨h1, h2⟩ := mkB_nat.1 hm
  rw [if_pos hm, uE_low h1]
  refine chP_bs (q := UInt8.ofNat n :: r) ?_
  rw [escP, if_pos h2, toN8 (by omega)]
 rw [if_neg hm]
 by_cases h10 : n = 10
 ·rw [if_pos h10, h10]; exact chP_bs (q := 110 :: r) (by rw [escP, if_neg (by decide), if_pos rfl]; rfl)
 rw [if_neg h10]
 by_cases h9 : n = 9
 ·rw [if_pos h9, h9]; exact chP_bs (q := 116 :: r) (by rw [escP, if_neg (by decide), if_neg (by decide), if_pos rfl]; rfl)
 rw [if_neg h9]
 by_cases h13 : n = 13
 ·rw [if_pos h13, h13]; exact chP_bs (q := 114 :: r) (by rw [escP, if_neg (by decide), if_neg (by decide), if_neg (by decide), if_pos rfl]; rfl)
 rw [if_neg h13]
 by_cases hx : n < 32 ∨ (127 ≤ n ∧ n ≤ 160) ∨ (55296 ≤ n ∧ n ≤ 57343)
 ·rw [if_pos hx]
  have e : [92, 117, 123] ++ hxN n ++ [125] ++ r = 92 :: 117 :: 123 :: (hxN n ++ 125 :: r) := by simp
  rw [e]
  refine chP_bs ?_
  rw [escP, if_neg (by decide), if_neg (by decide), if_neg (by decide), if_neg (by decide), if_pos rfl]
  exact numP_hx h r
 rw [if_neg hx]
 have hsc : scR n := by unfold scR; omega
 have hne : uE (n : Int) ++ r ≠ [] := by intro hh; exact uE_ne hsc (List.append_eq_nil_iff.1 hh).1
 unfold chP
 rw [decGo_L hne, dec_uE hsc, if_neg hne, if_neg ?_, if_neg ?_, if_pos ⟨h, by simp⟩]
 ·simp
 ·rintro ⟨h1, h2⟩
  rw [Int.toNat_natCast] at h2
  exact hm (mkB_nat.2 ⟨h1, spc_sub ⟨n, h1⟩ h2⟩)
 ·intro h1
  simp only at h1
  exact hm (mkB_nat.2 ⟨by omega, by rw [h1]; decide⟩)
theorem spc_no : ∀ k : Fin 256, ¬ 0 ≤ indexByte spc (UInt8.ofNat k.val) → UInt8.ofNat k.val ∉ spc := by decide
theorem escC_first {n : Nat} (h : n ≤ 1114111) : ∃ b q, escC (n : Int) = b :: q ∧ (b = 92 ∨ b ∉ spc) := by
 rw [escC_nat]
 by_cases hm : mkB (n : Int) = true
 ·rw [if_pos hm]; exact ⟨_, _, rfl, .inl rfl⟩
 rw [if_neg hm]
 repeat' split
 ·exact ⟨_, _, rfl, .inl rfl⟩
 ·exact ⟨_, _, rfl, .inl rfl⟩
 ·exact ⟨_, _, rfl, .inl rfl⟩
 ·exact ⟨_, _, rfl, .inl rfl⟩
 ·rename_i hx
  have hsc : scR n := by unfold scR; omega
  rw [uE_all hsc]
  have big : ∀ m, 128 ≤ m → m < 256 → UInt8.ofNat m ∉ spc := fun m h1 h2 hh => by
   have : ∀ x ∈ spc, x.toNat < 128 := by decide
   have := this _ hh
   rw [toN8 h2] at this
   omega
  by_cases h1 : n < 128
  ·rw [if_pos h1]
   exact ⟨_, _, rfl, .inr (spc_no ⟨n, by omega⟩ fun hh => hm (mkB_nat.2 ⟨h1, hh⟩))⟩
  rw [if_neg h1]
  repeat' split
  ·exact ⟨_, _, rfl, .inr (big _ (by omega) (by omega))⟩
  ·exact ⟨_, _, rfl, .inr (big _ (by omega) (by omega))⟩
  ·exact ⟨_, _, rfl, .inr (big _ (by omega) (by omega))⟩
def VOk (l : Bys) : Prop := ∀ k, l.length ≤ k → Lib.validGoD k l = true
def VPre (p : Bys) : Prop := ∀ r, VOk r → VOk (p ++ r)
theorem VOk.nil : VOk [] := fun k _ => by cases k <;> rfl
theorem VPre.nil : VPre [] := fun _ h => h
theorem VPre.app {p q : Bys} (h1 : VPre p) (h2 : VPre q) : VPre (p ++ q) := fun r hr => by rw [List.append_assoc]; exact h1 _ (h2 _ hr)
theorem VOk.step {p r : Bys} {n : Nat} (hp : p ≠ []) (hd : Lib.decodeL (p ++ r) = (n, p.length)) (hn : n ≠ 65533 ∨ p.length ≠ 1) (h : VOk r) : VOk (p ++ r) := by
 intro k hk
 have hpl : 0 < p.length := List.length_pos_iff.2 hp
 obtain ⟨k', rfl⟩ : ∃ k', k = k' + 1 := ⟨k - 1, by rw [List.length_append] at hk; omega⟩
 rw [Lib.validGoD, if_neg (fun hh => hp (List.append_eq_nil_iff.1 hh).1), hd, if_neg (by simp only; omega)]
 rw [List.drop_left]
 exact h k' (by rw [List.length_append] at hk; omega)
theorem VPre.one {b : UInt8} (h : b.toNat < 128) : VPre [b] := fun r hr => VOk.step (p := [b]) (by simp) (Lib.decodeL_ascii b r h) (.inl (by omega)) hr
theorem VPre.low : ∀ {l : Bys}, (∀ b ∈ l, b.toNat < 128) → VPre l
  | [], _ => VPre.nil
  | b :: l, h => VPre.app (p := [b]) (VPre.one (h b List.mem_cons_self)) (VPre.low fun x hx => h x (List.mem_cons_of_mem _ hx))
theorem VPre.uE {n : Nat} (h : scR n) : VPre (uE (n : Int)) := fun r hr => by
 refine VOk.step (uE_ne h) (dec_uE h r) ?_ hr
 by_cases h1 : n = 65533
 ·right; subst h1; decide
 ·exact .inl h1
theorem VPre.esc {n : Nat} (h : n ≤ 1114111) : VPre (escC (n : Int)) := by
 rw [escC_nat]
 by_cases hm : mkB (n : Int) = true
 ·rw [if_pos hm]; exact VPre.app (p := [92]) (VPre.one (by decide)) (VPre.uE (.inl (by have := (mkB_nat.1 hm).1; omega)))
 rw [if_neg hm]
 repeat' split
 ·exact VPre.low (by decide)
 ·exact VPre.low (by decide)
 ·exact VPre.low (by decide)
 ·refine VPre.low fun b hb => ?_
  rw [List.mem_append, List.mem_append] at hb
  rcases hb with (hb | hb) | hb
  ·exact (by decide : ∀ b ∈ ([92, 117, 123] : Bys), b.toNat < 128) b hb
  ·have := (hxN_ok 6 n (by omega)).1 b hb; unfold HxOk at this; omega
  ·exact (by decide : ∀ b ∈ ([125] : Bys), b.toNat < 128) b hb
 ·rename_i hx; exact VPre.uE (by unfold scR; omega)
end Go.Proofs
namespace Go.Proofs
open Go Go.Eng Go.Sort Go.Lib
set_option linter.unusedSectionVars false
variable [Drw]
set_option maxRecDepth 100000
/-- The spans as they are read, ahead of the join. -/
def rawS (s : Sp) : List Sp := if s.1 = s.2 then [s] else if s.1 + 1 = s.2 then [(s.1, s.1), (s.2, s.2)] else [s]
def rawL : List Sp → List Sp
  | [] => []
  | s :: l => rawS s ++ rawL l
theorem rawS_mem {s x : Sp} (h : vSp s) (hx : x ∈ rawS s) : vSp x ∧ s.1 ≤ x.1 ∧ x.2 ≤ s.2 := by
 unfold rawS at hx
 unfold vSp at h ⊢
 split at hx
 ·rw [List.mem_singleton] at hx; subst hx; omega
 ·split at hx
  ·rw [List.mem_cons, List.mem_singleton] at hx
   rcases hx with rfl | rfl <;> (simp only; omega)
  ·rw [List.mem_singleton] at hx; subst hx; omega
theorem rawS_in {s : Sp} (h : vSp s) (r : Int) : inS (rawS s) r = inS [s] r := by
 unfold rawS
 unfold vSp at h
 split
 ·rfl
 ·split
  ·rw [Bool.eq_iff_iff]
   simp only [inS_cons, inS_nil, Bool.or_false, Bool.or_eq_true, Bool.and_eq_true, decide_eq_true_eq]
   omega
  ·rfl
theorem rawS_len (s : Sp) : 1 ≤ (rawS s).length ∧ (rawS s).length ≤ 2 := by unfold rawS; (repeat' split) <;> simp
theorem rawS_pw {s : Sp} (h : vSp s) : (rawS s).Pairwise (fun a b => a.1 ≤ b.1) := by
 unfold rawS
 unfold vSp at h
 (repeat' split) <;> simp
 omega
theorem rawL_mem : ∀ {l : List Sp} {x : Sp}, (∀ s ∈ l, vSp s) → x ∈ rawL l → vSp x ∧ ∃ s ∈ l, s.1 ≤ x.1 ∧ x.2 ≤ s.2
  | [], x, _, hx => by cases hx
  | s :: l, x, h, hx => by
    rcases List.mem_append.1 hx with hx | hx
    · obtain ⟨h1, h2⟩ := rawS_mem (h s List.mem_cons_self) hx
      exact ⟨h1, s, List.mem_cons_self, h2⟩
    · obtain ⟨h1, t, h2, h3⟩ := rawL_mem (fun t ht => h t (List.mem_cons_of_mem _ ht)) hx
      exact ⟨h1, t, List.mem_cons_of_mem _ h2, h3⟩
theorem rawL_in : ∀ {l : List Sp}, (∀ s ∈ l, vSp s) → ∀ r, inS (rawL l) r = inS l r
  | [], _, _ => rfl
  | s :: l, h, r => by
    rw [rawL, inS_append, rawS_in (h s List.mem_cons_self), rawL_in (fun t ht => h t (List.mem_cons_of_mem _ ht)), inS_cons, inS_cons, inS_nil, Bool.or_false]
theorem rawL_len : ∀ l : List Sp, (rawL l).length ≤ 2 * l.length
  | [] => Nat.le_refl _
  | s :: l => by have := rawL_len l; have := (rawS_len s).2; rw [rawL, List.length_append, List.length_cons]; omega
theorem rawL_pw : ∀ {l : List Sp}, Canon l → (rawL l).Pairwise (fun a b => a.1 ≤ b.1)
  | [], _ => List.Pairwise.nil
  | s :: l, h => by
    rw [rawL, List.pairwise_append]
    refine ⟨rawS_pw h.head, rawL_pw h.tail, fun a ha b hb => ?_⟩
    obtain ⟨h1, h2, h3⟩ := rawS_mem h.head ha
    obtain ⟨h4, t, h5, h6, h7⟩ := rawL_mem h.tail.ok hb
    have := h.far t h5
    unfold vSp at h1
    omega
theorem rawL_join {l : List Sp} (h : Canon l) : joinF (rawL l) = l := by
 have h1 := joinF_all (fun s hs => (rawL_mem h.ok hs).1) (rawL_pw h)
 exact canon_ext h1.1 h (fun r _ _ => by rw [h1.2.1 r, rawL_in h.ok])
/-- The first byte of what follows. -/
def ND (q : Bys) : Prop := hasPrefix q [45] = false
theorem nd_cons {b : UInt8} {q : Bys} (h : b ≠ 45) : ND (b :: q) := pre_ne h
theorem esc_pre {c : Int} (h0 : 0 ≤ c) (h1 : c ≤ 1114111) (x : UInt8) (hx : x ∈ spc) (h92 : x ≠ 92) (q : Bys) : hasPrefix (escC c ++ q) [x] = false := by
 obtain ⟨n, rfl⟩ := Int.eq_ofNat_of_zero_le h0
 obtain ⟨b, r, h, hb⟩ := escC_first (n := n) (by omega)
 rw [h]
 refine pre_ne ?_
 rcases hb with rfl | hb
 ·exact fun hh => h92 hh.symm
 ·exact fun hh => hb (by rw [hh]; exact hx)
theorem chP_int {c : Int} (h0 : 0 ≤ c) (h1 : c ≤ 1114111) (r : Bys) : chP (escC c ++ r) = some (c, r) := by
 obtain ⟨n, rfl⟩ := Int.eq_ofNat_of_zero_le h0
 exact chP_esc (n := n) (by omega) r
theorem itms_one {n : Nat} {l : List Sp} {c : Int} (h0 : 0 ≤ c) (h1 : c ≤ 1114111) {q : Bys} (hq : ND q) : itmsP (n + 1) l (escC c ++ q) = itmsP n (l ++ [(c, c)]) q := by
 have h2 := esc_pre h0 h1 93 (by decide) (by decide) q
 rw [itmsP, if_neg (by rw [h2]; simp)]
 unfold ND at hq
 rw [spP, chP_int h0 h1]
 simp only [hq, Bool.false_eq_true, if_false]
theorem itms_dash {n : Nat} {l : List Sp} {a b : Int} (h0 : 0 ≤ a) (h1 : a ≤ b) (h2 : b ≤ 1114111) (q : Bys) : itmsP (n + 1) l (escC a ++ (45 :: (escC b ++ q))) = itmsP n (l ++ [(a, b)]) q := by
 have h3 := esc_pre h0 (by omega) 93 (by decide) (by decide) (45 :: (escC b ++ q))
 rw [itmsP, if_neg (by rw [h3]; simp), spP, chP_int h0 (by omega)]
 simp only [pre_cons, if_true, trim_cons, chP_int (show 0 ≤ b by omega) h2]
 rw [if_neg (by omega)]
theorem itms_sp {n : Nat} {l : List Sp} {s : Sp} (h : vSp s) {q : Bys} (hq : ND q) : itmsP (n + (rawS s).length) l (spT s ++ q) = itmsP n (l ++ rawS s) q := by
 obtain ⟨a, b⟩ := s
 unfold vSp at h
 simp only at h
 unfold spT rawS
 simp only
 by_cases h1 : a = b
 ·rw [if_pos h1, if_neg (by omega), if_neg (by omega), List.append_nil, List.append_nil]
  subst h1
  exact itms_one h.1 (by omega) hq
 rw [if_neg h1]
 by_cases h2 : a + 1 = b
 ·rw [if_pos h2, if_neg (by omega), if_pos (by omega), List.append_nil, List.append_assoc]
  show itmsP (n + 1 + 1) l _ = _
  rw [itms_one h.1 (by omega) (esc_pre (by omega) h.2.2 45 (by decide) (by decide) q), itms_one (by omega) h.2.2 hq]
  simp
 ·rw [if_neg h2, if_pos (by omega), if_pos (by omega)]
  have e : escC a ++ [45] ++ escC b ++ q = escC a ++ (45 :: (escC b ++ q)) := by simp
  rw [e]
  exact itms_dash h.1 h.2.1 h.2.2 q
theorem spT_nd {s : Sp} (h : vSp s) (q : Bys) : ND (spT s ++ q) := by
 unfold vSp at h
 unfold spT
 rw [List.append_assoc, List.append_assoc]
 exact esc_pre h.1 (by omega) 45 (by decide) (by decide) _
theorem itms_sps : ∀ {l2 : List Sp} {n : Nat} {l : List Sp} {q : Bys}, (∀ s ∈ l2, vSp s) → ND q → itmsP (n + (rawL l2).length) l (spsT l2 ++ q) = itmsP n (l ++ rawL l2) q
  | [], n, l, q, _, _ => by simp [rawL, spsT]
  | s :: l2, n, l, q, h, hq => by
    have h2 : ∀ t ∈ l2, vSp t := fun t ht => h t (List.mem_cons_of_mem _ ht)
    have hq2 : ND (spsT l2 ++ q) := by
      cases l2 with
      | nil => exact hq
      | cons t l3 => rw [spsT, List.append_assoc]; exact spT_nd (h2 t List.mem_cons_self) _
    rw [rawL, List.length_append, spsT, List.append_assoc, show n + ((rawS s).length + (rawL l2).length) = n + (rawL l2).length + (rawS s).length by omega, itms_sp (h s List.mem_cons_self) hq2, itms_sps h2 hq, List.append_assoc]
theorem setP_T {l : List Sp} (h : Canon l) (h0 : l ≠ []) (h16 : l.length ≤ 16) (r : Bys) : setP (spsT l ++ 93 :: r) = some (.mk 2 l [] 0 0 false, r) := by
  have hl := rawL_len l
  have hne : (rawL l).length ≠ 0 := by
    cases l with
    | nil => exact absurd rfl h0
    | cons s l => have := (rawS_len s).1; rw [rawL, List.length_append]; omega
  have h94 : hasPrefix (spsT l ++ 93 :: r) [94] = false := by
    cases l with
    | nil => exact absurd rfl h0
    | cons s l =>
      have hv := h.head
      unfold vSp at hv
      rw [spsT, spT, List.append_assoc, List.append_assoc, List.append_assoc]
      exact esc_pre hv.1 (by omega) 94 (by decide) (by decide) _
  have key : itmsP 5000 [] (spsT l ++ 93 :: r) = some (rawL l, r) := by
    have := itms_sps (l2 := l) (n := 5000 - (rawL l).length) (l := []) (q := 93 :: r) h.ok (nd_cons (by decide))
    rw [Nat.sub_add_cancel (by omega)] at this
    rw [this, List.nil_append]
    obtain ⟨m, hm⟩ : ∃ m, 5000 - (rawL l).length = m + 1 := ⟨4999 - (rawL l).length, by omega⟩
    rw [hm, itmsP, if_pos ⟨hne, pre_cons 93 r⟩, trim_cons]
  unfold setP
  rw [if_neg (by rw [h94]; decide), key]
  simp only
  rw [if_pos ⟨rawL_pw h, List.all_eq_true.2 fun x hx => (vSpB_iff x).2 (rawL_mem h.ok hx).1, by rw [rawL_join h]; exact h16⟩, rawL_join h]
theorem VPre.escI {c : Int} (h0 : 0 ≤ c) (h1 : c ≤ 1114111) : VPre (escC c) := by
 obtain ⟨n, rfl⟩ := Int.eq_ofNat_of_zero_le h0
 exact VPre.esc (n := n) (by omega)
theorem VPre.sp {s : Sp} (h : vSp s) : VPre (spT s) := by
 unfold vSp at h
 unfold spT
 refine VPre.app (VPre.app (VPre.escI h.1 (by omega)) ?_) ?_
 ·split
  ·exact VPre.low (by decide)
  ·exact VPre.nil
 ·split
  ·exact VPre.escI (by omega) h.2.2
  ·exact VPre.nil
theorem VPre.sps : ∀ {l : List Sp}, (∀ s ∈ l, vSp s) → VPre (spsT l)
  | [], _ => VPre.nil
  | s :: l, h => VPre.app (VPre.sp (h s List.mem_cons_self)) (VPre.sps fun t ht => h t (List.mem_cons_of_mem _ ht))
end Go.Proofs
namespace Go.Proofs
open Go Go.Eng Go.Sort Go.Lib
set_option linter.unusedSectionVars false
variable [Drw]
set_option maxRecDepth 100000
theorem txtA0 (t : Re) : txtA 0 t = txt t := by unfold txtA; rw [decide_eq_false (by omega)]; rfl
theorem txtA_par {a : Nat} {t : Re} (h : lvl t.kind < a) : txtA a t = [40] ++ txt t ++ [41] := by unfold txtA; rw [decide_eq_true h]; rfl
theorem txtA_no {a : Nat} {t : Re} (h : a ≤ lvl t.kind) : txtA a t = txt t := by unfold txtA; rw [decide_eq_false (by omega)]; rfl
theorem txt_0 {t : Re} (h : t.kind = 0) : txt t = [64] := by rw [txt_eq, if_pos h]
theorem txt_1 {t : Re} (h : t.kind = 1) : txt t = [40, 41] := by rw [txt_eq, if_neg (by omega), if_pos h]
theorem txt_2 {t : Re} (h : t.kind = 2) : txt t = setT t.set := by rw [txt_eq, if_neg (by omega), if_neg (by omega), if_pos h]
theorem txt_m {t : Re} (h : t.kind = 3 ∨ t.kind = 4 ∨ t.kind = 7) : txt t = join (t.args.map (txtA (lvl t.kind + 1))) (sepT t.kind) := by rw [txt_eq, if_neg (by omega), if_neg (by omega), if_neg (by omega), if_pos h]
theorem txt_5 {t x : Re} (h : t.kind = 5) (hx : t.args = [x]) : txt t = txtA 4 x ++ [42] := by rw [txt_eq, if_neg (by omega), if_neg (by omega), if_neg (by omega), if_neg (by omega), if_pos h, txts_one hx]
theorem txt_6 {t x : Re} (h : t.kind = 6) (hx : t.args = [x]) : txt t = txtA 4 x ++ bndT t.mn t.mx := by rw [txt_eq, if_neg (by omega), if_neg (by omega), if_neg (by omega), if_neg (by omega), if_neg (by omega), if_pos h, txts_one hx]
theorem txt_8 {t x : Re} (h : t.kind = 8) (hx : t.args = [x]) : txt t = [126] ++ txtA 3 x := by rw [txt_eq, if_neg (by omega), if_neg (by omega), if_neg (by omega), if_neg (by omega), if_neg (by omega), if_neg (by omega), if_pos h, txts_one hx]
theorem txt_9 {t x : Re} (h : t.kind = 9) (hx : t.args = [x]) : txt t = [40, 35] ++ itoa t.mn ++ txt x ++ [41] := by rw [txt_eq, if_neg (by omega), if_neg (by omega), if_neg (by omega), if_neg (by omega), if_neg (by omega), if_neg (by omega), if_neg (by omega), if_pos h, txts_one hx, txtA0]
theorem txt_10 {t x : Re} (h : t.kind = 10) (hx : t.args = [x]) : txt t = if t.neg then [40, 33] ++ txt x ++ [41] else [40, 61] ++ txt x ++ [41] := by rw [txt_eq, if_neg (by omega), if_neg (by omega), if_neg (by omega), if_neg (by omega), if_neg (by omega), if_neg (by omega), if_neg (by omega), if_neg (by omega), txts_one hx, txtA0]
theorem re_one {t : Re} (h : t.args.length = 1) : ∃ x, t.args = [x] := List.length_eq_one_iff.1 h
structure Shape (t : Re) : Prop where
 s2 : t.kind ≠ 2 → t.set = []
 mn : t.kind ≠ 6 → t.kind ≠ 9 → t.mn = 0
 mx : t.kind ≠ 6 → t.mx = 0
 ng : t.kind ≠ 10 → t.neg = false
 no : t.kind = 0 ∨ t.kind = 1 ∨ t.kind = 2 → t.args = []
theorem re_shape {t : Re} (h : okRe t) : Shape t := by
 have h1 := (okRe_form h).2.2
 unfold formB okB at h1
 simp only [Bool.and_eq_true, Bool.or_eq_true, decide_eq_true_eq, Bool.not_eq_true'] at h1
 obtain ⟨⟨⟨⟨h1, h2⟩, h3⟩, h4⟩, h5⟩ := h1
 refine ⟨fun hk => ?_, fun ha hb => ?_, fun hk => h4.resolve_left hk, fun hk => h5.resolve_left hk, fun hk => ?_⟩
 ·have := h2.resolve_left hk
  exact List.eq_nil_of_length_eq_zero (by omega)
 ·rcases h3 with (h3 | h3) | h3
  ·exact absurd h3 ha
  ·exact absurd h3 hb
  ·exact h3
 ·rw [if_neg (by omega), if_neg (by omega), decide_eq_true_eq] at h1
  exact List.eq_nil_of_length_eq_zero (by omega)
theorem set_canon {t : Re} (h : okRe t) (hk : t.kind = 2) : Canon t.set ∧ t.set.length ≤ 16 ∧ t.set ≠ [] := by
 have h1 := okRe_node h
 have hn := node_inv h1
 have h2 : checkE t.set = 0 := by
  unfold nodeE at h1
  rw [if_neg (by omega), if_neg (by rw [(okRe_form h).2.2]; decide), if_pos hk] at h1
  split at h1
  ·rename_i h3; exact absurd h1 h3
  ·rename_i h3; exact Classical.not_not.1 h3
 unfold checkE at h2
 split at h2
 ·cases h2
 ·exact ⟨(checkL_canon _ none h2).1, by omega, hn.sett hk⟩
def Fst (L s : Bys) : Prop := ∃ b q, s = b :: q ∧ b ∉ L
def LA : Bys := [42, 43, 63, 123, 124, 38, 41, 35, 61, 33]
theorem Fst.app {L s : Bys} (h : Fst L s) (r : Bys) : Fst L (s ++ r) := by obtain ⟨b, q, rfl, hb⟩ := h; exact ⟨b, q ++ r, rfl, hb⟩
theorem Fst.pre {L s : Bys} (h : Fst L s) {x : UInt8} (hx : x ∈ L) : hasPrefix s [x] = false := by obtain ⟨b, q, rfl, hb⟩ := h; exact pre_ne fun hh => hb (by rw [hh]; exact hx)
theorem Fst.ne {L s : Bys} (h : Fst L s) : s ≠ [] := by obtain ⟨b, q, rfl, hb⟩ := h; exact List.cons_ne_nil _ _
theorem Fst.sub {L M s : Bys} (h : Fst L s) (hs : ∀ x ∈ M, x ∈ L) : Fst M s := by obtain ⟨b, q, rfl, hb⟩ := h; exact ⟨b, q, rfl, fun hh => hb (hs b hh)⟩
theorem fst_esc {c : Int} (h0 : 0 ≤ c) (h1 : c ≤ 1114111) : Fst (126 :: LA) (escC c) := by
 obtain ⟨n, rfl⟩ := Int.eq_ofNat_of_zero_le h0
 obtain ⟨b, q, h, hb⟩ := escC_first (n := n) (by omega)
 refine ⟨b, q, h, fun hh => ?_⟩
 rcases hb with rfl | hb
 ·revert hh; decide
 ·exact hb ((by decide : ∀ x ∈ (126 :: LA : Bys), x ∈ spc) b hh)
theorem fst_set {l : List Sp} (h : Canon l) (h0 : l ≠ []) : Fst (126 :: LA) (setT l) := by
  unfold setT
  split
  · cases l with
    | nil => exact absurd rfl h0
    | cons s l => have := h.head; unfold vSp at this; exact fst_esc this.1 (by simp; omega)
  · split
    · exact ⟨46, _, rfl, by decide⟩
    · exact ⟨91, _, rfl, by decide⟩
theorem lvl_le (k : Int) : lvl k ≤ 4 := by unfold lvl; (repeat' split) <;> omega
theorem fst_parA {a : Nat} {x : Re} (h : Fst LA (txt x)) : Fst LA (txtA a x) := by
 by_cases h1 : lvl x.kind < a
 ·rw [txtA_par h1]; exact ⟨40, _, rfl, by decide⟩
 ·rw [txtA_no (by omega)]; exact h
theorem fst_par4 {x : Re} (h : lvl x.kind = 4 → Fst (126 :: LA) (txt x)) : Fst (126 :: LA) (txtA 4 x) := by
 by_cases h1 : lvl x.kind < 4
 ·rw [txtA_par h1]; exact ⟨40, _, rfl, by decide⟩
 ·rw [txtA_no (by omega)]; exact h (by have := lvl_le x.kind; omega)
theorem lvl4 {k : Int} (h : k ≠ 3 ∧ k ≠ 4 ∧ k ≠ 7 ∧ k ≠ 8) : lvl k = 4 := by unfold lvl; rw [if_neg (by omega), if_neg (by omega), if_neg (by omega), if_neg (by omega)]
theorem lvl_ne {k : Int} (h : lvl k = 4) : k ≠ 3 ∧ k ≠ 4 ∧ k ≠ 7 ∧ k ≠ 8 := by
 unfold lvl at h
 refine ⟨fun hh => ?_, fun hh => ?_, fun hh => ?_, fun hh => ?_⟩ <;> (subst hh; revert h; decide)
theorem okRe_mem {t x : Re} (h : okRe t) (hx : x ∈ t.args) : okRe x ∧ x.size < t.size := by
 obtain ⟨i, hi⟩ := List.getElem?_of_mem hx
 exact ⟨okRe_arg h hi, by have := Re.size_arg hi; omega⟩
theorem fst_txt : ∀ (n : Nat) (t : Re), t.size ≤ n → okRe t → Fst LA (txt t) ∧ (lvl t.kind = 4 → Fst (126 :: LA) (txt t)) := by
  intro n
  induction n with
  | zero => intro t h; have := t.size_pos; omega
  | succ n ih =>
  intro t hn hok
  have hN := node_inv (okRe_node hok)
  have ha : ∀ x ∈ t.args, Fst LA (txt x) ∧ (lvl x.kind = 4 → Fst (126 :: LA) (txt x)) := fun x hx => ih x (by have := (okRe_mem hok hx).2; omega) (okRe_mem hok hx).1
  have both : Fst (126 :: LA) (txt t) → Fst LA (txt t) ∧ (lvl t.kind = 4 → Fst (126 :: LA) (txt t)) := fun h => ⟨h.sub fun x hx => List.mem_cons_of_mem _ hx, fun _ => h⟩
  have hk := hN.k
  by_cases h0 : t.kind = 0
  · exact both (by rw [txt_0 h0]; exact ⟨64, [], rfl, by decide⟩)
  by_cases h1 : t.kind = 1
  · exact both (by rw [txt_1 h1]; exact ⟨40, _, rfl, by decide⟩)
  by_cases h2 : t.kind = 2
  · obtain ⟨h3, h4, h5⟩ := set_canon hok h2
    exact both (by rw [txt_2 h2]; exact fst_set h3 h5)
  by_cases hm : t.kind = 3 ∨ t.kind = 4 ∨ t.kind = 7
  · have h2a := hN.two hm
    refine ⟨?_, fun h => by have := lvl_ne h; omega⟩
    rw [txt_m hm]
    cases hargs : t.args with
    | nil => rw [hargs] at h2a; simp at h2a
    | cons x r =>
      rw [List.map_cons, join_cons]
      exact (fst_parA (ha x (by rw [hargs]; exact List.mem_cons_self)).1).app _
  obtain ⟨x, hx⟩ := re_one (hN.one (by omega))
  have hxa := ha x (by rw [hx]; exact List.mem_singleton.2 rfl)
  by_cases h5 : t.kind = 5
  · exact both (by rw [txt_5 h5 hx]; exact (fst_par4 hxa.2).app _)
  by_cases h6 : t.kind = 6
  · exact both (by rw [txt_6 h6 hx]; exact (fst_par4 hxa.2).app _)
  by_cases h8 : t.kind = 8
  · refine ⟨by rw [txt_8 h8 hx]; exact ⟨126, _, rfl, by decide⟩, fun h => by have := lvl_ne h; omega⟩
  by_cases h9 : t.kind = 9
  · exact both (by rw [txt_9 h9 hx]; exact ⟨40, _, rfl, by decide⟩)
  · refine both ?_
    rw [txt_10 (by omega) hx]
    split
    · exact ⟨40, _, rfl, by decide⟩
    · exact ⟨40, _, rfl, by decide⟩
theorem fst_ok {t : Re} (h : okRe t) : Fst LA (txt t) := (fst_txt _ t (Nat.le_refl _) h).1
end Go.Proofs
namespace Go.Proofs
open Go Go.Eng Go.Sort Go.Lib
set_option linter.unusedSectionVars false
variable [Drw]
set_option maxRecDepth 100000
abbrev AT (d : Nat) := atomP (pAlt d)
abbrev CA (d : Nat) := catP (itemP (AT d) 1000)
abbrev AN (d : Nat) := manyP (CA d) 38 7
theorem pAlt_succ (d : Nat) : pAlt (d + 1) = manyP (AN d) 124 4 := rfl
/-- What may follow an item; a list of items; a part of an and; of an alternative. -/
def NP (q : Bys) : Prop := hasPrefix q [42] = false ∧ hasPrefix q [43] = false ∧ hasPrefix q [63] = false ∧ hasPrefix q [123] = false
def SC (q : Bys) : Prop := stopB q = true ∧ NP q
def SA (q : Bys) : Prop := SC q ∧ hasPrefix q [38] = false
def SO (q : Bys) : Prop := SA q ∧ hasPrefix q [124] = false
theorem Fst.np {s : Bys} (h : Fst LA s) : NP s := ⟨h.pre (by decide), h.pre (by decide), h.pre (by decide), h.pre (by decide)⟩
theorem Fst.go {s : Bys} (h : Fst LA s) : stopB s = false := by
 unfold stopB
 rw [decide_eq_false h.ne, h.pre (x := 124) (by decide), h.pre (x := 38) (by decide), h.pre (x := 41) (by decide)]; rfl
theorem np_cons {b : UInt8} (q : Bys) (h : b ∉ ([42, 43, 63, 123] : Bys)) : NP (b :: q) := by
 simp only [List.mem_cons, List.not_mem_nil, or_false, not_or] at h
 exact ⟨pre_ne h.1, pre_ne h.2.1, pre_ne h.2.2.1, pre_ne h.2.2.2⟩
theorem sc_and (q : Bys) : SC (38 :: q) := ⟨by unfold stopB; rw [pre_cons]; simp, np_cons q (by decide)⟩
theorem sa_alt (q : Bys) : SA (124 :: q) := ⟨⟨by unfold stopB; rw [pre_cons]; simp, np_cons q (by decide)⟩, pre_ne (by decide)⟩
theorem so_par (q : Bys) : SO (41 :: q) := ⟨⟨⟨by unfold stopB; rw [pre_cons 41]; simp, np_cons q (by decide)⟩, pre_ne (by decide)⟩, pre_ne (by decide)⟩
theorem so_nil : SO [] := ⟨⟨⟨rfl, rfl, rfl, rfl, rfl⟩, rfl⟩, rfl⟩
theorem post_end {m : Nat} {x : Re} {q : Bys} (h : NP q) : postP (m + 1) x q = some (x, q) := by
 rw [postP, if_neg (by rw [h.1]; decide), if_neg (by rw [h.2.1]; decide), if_neg (by rw [h.2.2.1]; decide), if_neg (by rw [h.2.2.2]; decide)]
/-- A list of one part. -/
theorem many_single {part : Bys → Option (Re × Bys)} {sep : UInt8} {k : Int} {s q : Bys} {x : Re} (h : part s = some (x, q)) (hq : hasPrefix q [sep] = false) : manyP part sep k s = some (x, q) := by
 unfold manyP
 rw [h]
 simp only
 rw [show (1000 : Nat) = 999 + 1 from rfl, moreP, if_neg (by rw [hq]; decide)]
 rfl
theorem more_list {part : Bys → Option (Re × Bys)} {sep : UInt8} {T : Re → Bys} {q : Bys} (hq : hasPrefix q [sep] = false) : ∀ (ys l : List Re) (n : Nat), ys.length < n →
    (∀ y ∈ ys, ∀ r, (r = q ∨ ∃ r', r = sep :: r') → part (T y ++ r) = some (y, r)) → moreP part sep n l (joinTail [sep] (ys.map T) ++ q) = some (l ++ ys, q)
  | [], l, n, hn, _ => by
    obtain ⟨m, rfl⟩ : ∃ m, n = m + 1 := ⟨n - 1, by simp at hn; omega⟩
    rw [moreP, show joinTail [sep] (([] : List Re).map T) ++ q = q from rfl, if_neg (by rw [hq]; decide), List.append_nil]
  | y :: ys, l, n, hn, h => by
    obtain ⟨m, rfl⟩ : ∃ m, n = m + 1 := ⟨n - 1, by simp at hn; omega⟩
    have e : joinTail [sep] ((y :: ys).map T) ++ q = sep :: (T y ++ (joinTail [sep] (ys.map T) ++ q)) := by simp [joinTail]
    have hp : part (T y ++ (joinTail [sep] (ys.map T) ++ q)) = some (y, joinTail [sep] (ys.map T) ++ q) := by
      refine h y List.mem_cons_self _ ?_
      cases ys with
      | nil => exact .inl rfl
      | cons z zs => exact .inr ⟨T z ++ (joinTail [sep] (zs.map T) ++ q), by simp [joinTail]⟩
    rw [moreP, e, if_pos (pre_cons sep _), trim_cons, hp]
    simp only
    rw [more_list hq ys (l ++ [y]) m (by simp at hn; omega) (fun z hz => h z (List.mem_cons_of_mem _ hz))]
    simp
theorem many_list {part : Bys → Option (Re × Bys)} {sep : UInt8} {T : Re → Bys} {k : Int} {q : Bys} {xs : List Re} (hq : hasPrefix q [sep] = false) (h0 : xs ≠ []) (hl : xs.length ≤ 900)
    (h : ∀ y ∈ xs, ∀ r, (r = q ∨ ∃ r', r = sep :: r') → part (T y ++ r) = some (y, r)) : manyP part sep k (join (xs.map T) [sep] ++ q) = some (manyT k xs, q) := by
  cases xs with
  | nil => exact absurd rfl h0
  | cons x ys =>
    rw [List.map_cons, join_cons, List.append_assoc]
    have hp : part (T x ++ (joinTail [sep] (ys.map T) ++ q)) = some (x, joinTail [sep] (ys.map T) ++ q) := by
      refine h x List.mem_cons_self _ ?_
      cases ys with
      | nil => exact .inl rfl
      | cons z zs => exact .inr ⟨T z ++ (joinTail [sep] (zs.map T) ++ q), by simp [joinTail]⟩
    unfold manyP
    rw [hp]
    simp only
    rw [more_list hq ys [x] 1000 (by simp at hl; omega) (fun z hz => h z (List.mem_cons_of_mem _ hz))]
    rfl
theorem items_list {item : Bys → Option (Re × Bys)} {T : Re → Bys} {q : Bys} (hq : SC q) : ∀ (ys l : List Re) (n : Nat), ys.length < n → (∀ y ∈ ys, Fst LA (T y) ∧ ∀ r, NP r → item (T y ++ r) = some (y, r)) → itemsP item n l ((ys.map T).flatten ++ q) = some (l ++ ys, q)
  | [], l, n, hn, _ => by
    obtain ⟨m, rfl⟩ : ∃ m, n = m + 1 := ⟨n - 1, by simp at hn; omega⟩
    rw [itemsP, show (([] : List Re).map T).flatten ++ q = q from rfl, if_pos hq.1, List.append_nil]
  | y :: ys, l, n, hn, h => by
    obtain ⟨m, rfl⟩ : ∃ m, n = m + 1 := ⟨n - 1, by simp at hn; omega⟩
    obtain ⟨h1, h2⟩ := h y List.mem_cons_self
    have e : (((y :: ys).map T).flatten ++ q) = T y ++ ((ys.map T).flatten ++ q) := by simp
    have hnp : NP ((ys.map T).flatten ++ q) := by
      cases ys with
      | nil => exact hq.2
      | cons z zs =>
        have := (h z (List.mem_cons_of_mem _ List.mem_cons_self)).1
        rw [List.map_cons, List.flatten_cons, List.append_assoc]
        exact (this.app _).np
    rw [itemsP, e, if_neg (by rw [(h1.app _).go]; decide), h2 _ hnp]
    simp only
    rw [items_list hq ys (l ++ [y]) m (by simp at hn; omega) (fun z hz => h z (List.mem_cons_of_mem _ hz))]
    simp
theorem cat_single {d : Nat} {s q : Bys} {x : Re} (hs : Fst LA s) (h : itemP (AT d) 1000 s = some (x, q)) (hq : SC q) : CA d s = some (x, q) := by
 unfold CA catP
 rw [show (1000 : Nat) = 998 + 1 + 1 from rfl, itemsP, if_neg (by rw [hs.go]; decide), h]
 simp only
 rw [itemsP, if_pos hq.1]
 rfl
theorem item_of4 {d j k : Nat} {s q : Bys} {x : Re} (hs : hasPrefix s [126] = false) (hj : j ≤ 900) (h : ∀ m, ((AT d) s).bind (fun p => postP (m + j) p.1 p.2) = postP m x q) (hq : NP q) : itemP (AT d) (k + 1) s = some (x, q) := by
 rw [itemP, if_neg (by rw [hs]; decide)]
 have h1 := h (1000 - j)
 rw [Nat.sub_add_cancel (by omega)] at h1
 rw [h1]
 obtain ⟨m, hm⟩ : ∃ m, 1000 - j = m + 1 := ⟨999 - j, by omega⟩
 rw [hm, post_end hq]
theorem pre2 (a b : UInt8) (c : UInt8) (q : Bys) : hasPrefix (a :: c :: q) [a, b] = (b == c) := by unfold hasPrefix; simp [List.isPrefixOf]
theorem pre2_cons (a b : UInt8) (q : Bys) : hasPrefix (a :: b :: q) [a, b] = true := by rw [pre2]; simp
theorem pre2_no {a b c : UInt8} {q : Bys} (h : c ≠ a) : hasPrefix (c :: q) [a, b] = false := by unfold hasPrefix; simp [List.isPrefixOf, Ne.symm h]
theorem trim2 (a b : UInt8) (q : Bys) : trimPrefix (a :: b :: q) [a, b] = q := by unfold trimPrefix; rw [if_pos (pre2_cons a b q)]; rfl
theorem clP_of {p : Bys → Option (Re × Bys)} {s q : Bys} {x : Re} (h : p s = some (x, 41 :: q)) : clP p s = some (x, q) := by unfold clP; rw [h]; simp
theorem at_par {d : Nat} {t : Re} (ht : ∀ q, pAlt d (txt t ++ 41 :: q) = some (t, 41 :: q)) (hf : Fst LA (txt t)) (q : Bys) : AT d ([40] ++ txt t ++ [41] ++ q) = some (t, q) := by
 have e : [40] ++ txt t ++ [41] ++ q = 40 :: (txt t ++ 41 :: q) := by simp
 obtain ⟨b, r, hb, hn⟩ := hf
 have h2 : ∀ x, x ∈ LA → hasPrefix (40 :: (txt t ++ 41 :: q)) [40, x] = false := fun x hx => by
  rw [hb, List.cons_append, pre2, beq_eq_false_iff_ne]
  exact fun hh => hn (by rw [← hh]; exact hx)
 rw [e]
 unfold AT atomP
 rw [if_neg (by rw [pre_ne (by decide)]; decide), if_neg (by rw [pre_ne (by decide)]; decide), if_neg (by rw [pre_ne (by decide)]; decide), if_neg (by rw [h2 35 (by decide)]; decide), if_neg (by rw [h2 61 (by decide)]; decide), if_neg (by rw [h2 33 (by decide)]; decide), if_pos (pre_cons _ _), trim_cons, clP_of (ht q)]
theorem at_0 (d : Nat) (q : Bys) : AT d (64 :: q) = some (.mk 0 [] [] 0 0 false, q) := by
 unfold AT atomP
 rw [if_neg (by rw [pre_ne (by decide)]; decide), if_pos (pre_cons _ _), trim_cons]
theorem palt_empty (d : Nat) (q : Bys) : pAlt (d + 1) (41 :: q) = some (.mk 1 [] [] 0 0 false, 41 :: q) := by
 have h : CA d (41 :: q) = some (.mk 1 [] [] 0 0 false, 41 :: q) := by
  unfold CA catP
  rw [show (1000 : Nat) = 999 + 1 from rfl, itemsP, if_pos (so_par q).1.1.1]
  rfl
 exact many_single (many_single h (so_par q).1.2) (so_par q).2
theorem at_1 (d : Nat) (q : Bys) : AT (d + 1) (40 :: 41 :: q) = some (.mk 1 [] [] 0 0 false, q) := by
 unfold AT atomP
 rw [if_neg (by rw [pre_ne (by decide)]; decide), if_neg (by rw [pre_ne (by decide)]; decide), if_neg (by rw [pre_ne (by decide)]; decide), if_neg (by rw [pre2]; decide), if_neg (by rw [pre2]; decide), if_neg (by rw [pre2]; decide), if_pos (pre_cons _ _), trim_cons, clP_of (palt_empty d q)]
theorem at_ch {d : Nat} {c : Int} (h0 : 0 ≤ c) (h1 : c ≤ 1114111) (q : Bys) : AT d (escC c ++ q) = some (runT1 c, q) := by
 have h40 := esc_pre h0 h1 40 (by decide) (by decide) q
 have h2 : ∀ x, hasPrefix (escC c ++ q) [40, x] = false := fun x => by
  obtain ⟨b, r, hb, hn⟩ := (fst_esc h0 h1).app q
  rw [hb] at h40 ⊢
  refine pre2_no fun hh => ?_
  rw [hh, pre_cons] at h40
  cases h40
 unfold AT atomP
 rw [if_neg (by rw [esc_pre h0 h1 46 (by decide) (by decide) q]; decide), if_neg (by rw [esc_pre h0 h1 64 (by decide) (by decide) q]; decide), if_neg (by rw [esc_pre h0 h1 91 (by decide) (by decide) q]; decide), if_neg (by rw [h2]; decide), if_neg (by rw [h2]; decide), if_neg (by rw [h2]; decide), if_neg (by rw [h40]; decide), chP_int h0 h1]
 rfl
theorem at_set {d : Nat} {l : List Sp} (h : Canon l) (h0 : l ≠ []) (h16 : l.length ≤ 16) (q : Bys) : AT d (setT l ++ q) = some (.mk 2 l [] 0 0 false, q) := by
 unfold setT
 split
 ·rename_i h1
  obtain ⟨s, rfl⟩ := List.length_eq_one_iff.1 h1.1
  have hv := h.head
  unfold vSp at hv
  have he : s.1 = s.2 := h1.2
  have e2 : ([s].getD 0 (0, 0)).1 = s.1 := rfl
  rw [e2, at_ch hv.1 (by omega)]
  unfold runT1
  rw [show ((s.1, s.1) : Sp) = s from Prod.ext rfl he]
 ·split
  ·rename_i h1
   rw [h1]
   unfold AT atomP
   rw [if_pos (show hasPrefix ([46] ++ q) [46] = true from pre_cons 46 q), show trimPrefix ([46] ++ q) [46] = q from trim_cons 46 q]
  ·have e : [91] ++ spsT l ++ [93] ++ q = 91 :: (spsT l ++ 93 :: q) := by simp
   rw [e]
   unfold AT atomP
   rw [if_neg (by rw [pre_ne (by decide)]; decide), if_neg (by rw [pre_ne (by decide)]; decide), if_pos (pre_cons _ _), trim_cons, setP_T h h0 h16]
end Go.Proofs
namespace Go.Proofs
open Go Go.Eng Go.Sort Go.Lib
set_option linter.unusedSectionVars false
variable [Drw]
set_option maxRecDepth 100000
theorem itoa_dig {a : Int} (h0 : 0 ≤ a) (h9 : a ≤ 9) : itoa a = [UInt8.ofNat (48 + a.toNat)] := by
 unfold itoa
 rw [if_neg (by omega), decDigits, dif_pos (by omega)]
theorem digP_itoa {a : Int} (h0 : 0 ≤ a) (h9 : a ≤ 9) (r : Bys) : digP (itoa a ++ r) = some (a, r) := by
 rw [itoa_dig h0 h9, List.singleton_append, digP, toN8 (by omega), if_pos (by omega)]
 exact congrArg some (Prod.ext (by simp only; omega) rfl)
theorem post_bnd {a b : Int} (h0 : 0 ≤ a) (h1 : a ≤ b) (h8 : b ≤ 8) {m : Nat} {x : Re} (q : Bys) : postP (m + 1) x (bndT a b ++ q) = postP m (.mk 6 [] [x] a b false) q := by
 unfold bndT
 split
 ·rename_i h
  rw [h.1, h.2]
  show postP (m + 1) x (63 :: q) = _
  rw [postP, if_neg (by rw [pre_ne (by decide)]; decide), if_neg (by rw [pre_ne (by decide)]; decide), if_pos (pre_cons _ _), trim_cons]
 ·split
  ·rename_i h2
   subst h2
   have e : [123] ++ itoa a ++ [125] ++ q = 123 :: (itoa a ++ 125 :: q) := by simp
   rw [e, postP, if_neg (by rw [pre_ne (by decide)]; decide), if_neg (by rw [pre_ne (by decide)]; decide), if_neg (by rw [pre_ne (by decide)]; decide), if_pos (pre_cons _ _), trim_cons]
   have hb : bndP (itoa a ++ 125 :: q) = some (a, a, q) := by
    unfold bndP
    rw [digP_itoa h0 (by omega)]
    simp only
    rw [if_neg (by rw [pre_ne (by decide)]; decide)]
    rfl
   rw [hb]
  ·have e : [123] ++ itoa a ++ [44] ++ itoa b ++ [125] ++ q = 123 :: (itoa a ++ 44 :: (itoa b ++ 125 :: q)) := by simp
   rw [e, postP, if_neg (by rw [pre_ne (by decide)]; decide), if_neg (by rw [pre_ne (by decide)]; decide), if_neg (by rw [pre_ne (by decide)]; decide), if_pos (pre_cons _ _), trim_cons]
   have hb : bndP (itoa a ++ 44 :: (itoa b ++ 125 :: q)) = some (a, b, q) := by
    unfold bndP
    rw [digP_itoa h0 (by omega)]
    simp only
    rw [if_pos (pre_cons _ _), trim_cons, digP_itoa (by omega) (by omega)]
    rfl
   rw [hb]
/-- An expression is read, also in parentheses where it needs them. -/
structure Bd (d : Nat) (x : Re) : Prop where
 b4 : ∃ j, j ≤ x.size ∧ ∀ q m, ((AT d) (txtA 4 x ++ q)).bind (fun p => postP (m + j) p.1 p.2) = postP m x q
 b3 : ∀ k, x.size ≤ k → ∀ q, NP q → itemP (AT d) k (txtA 3 x ++ q) = some (x, q)
 b2 : ∀ q, SC q → CA d (txtA 2 x ++ q) = some (x, q)
 b1 : ∀ q, SA q → AN d (txtA 1 x ++ q) = some (x, q)
/-- The same without parentheses. -/
structure Un (d : Nat) (x : Re) : Prop where
 u4 : lvl x.kind = 4 → ∃ j, j ≤ x.size ∧ ∀ q m, ((AT d) (txt x ++ q)).bind (fun p => postP (m + j) p.1 p.2) = postP m x q
 u3 : 3 ≤ lvl x.kind → ∀ k, x.size ≤ k → ∀ q, NP q → itemP (AT d) k (txt x ++ q) = some (x, q)
 u2 : 2 ≤ lvl x.kind → ∀ q, SC q → CA d (txt x ++ q) = some (x, q)
 u1 : 1 ≤ lvl x.kind → ∀ q, SA q → AN d (txt x ++ q) = some (x, q)
 u0 : ∀ q, SO q → pAlt (d + 1) (txt x ++ q) = some (x, q)
theorem bd_of {d : Nat} {t : Re} (hok : okRe t) (hs : t.size ≤ 900) (h : Un d t) (ht : ∀ q, pAlt d (txt t ++ 41 :: q) = some (t, 41 :: q)) : Bd d t := by
 have hf := fst_ok hok
 have hpos := t.size_pos
 have hap : ∀ q, AT d ([40] ++ txt t ++ [41] ++ q) = some (t, q) := at_par ht hf
 have hfp : ∀ q, Fst LA ([40] ++ txt t ++ [41] ++ q) := fun q => ⟨40, _, rfl, by decide⟩
 have hitem : ∀ k q, NP q → itemP (AT d) (k + 1) ([40] ++ txt t ++ [41] ++ q) = some (t, q) := fun k q hq =>
  item_of4 (j := 0) (pre_ne (by decide)) (by omega) (fun m => by rw [hap q]; rfl) hq
 have hll := lvl_le t.kind
 refine ⟨?_, fun k hk q hq => ?_, fun q hq => ?_, fun q hq => ?_⟩
 ·by_cases h4 : lvl t.kind < 4
  ·rw [txtA_par h4]
   exact ⟨0, Nat.zero_le _, fun q m => by rw [hap q]; rfl⟩
  ·rw [txtA_no (by omega)]; exact h.u4 (by omega)
 ·by_cases h3 : lvl t.kind < 3
  ·rw [txtA_par h3]
   obtain ⟨k', rfl⟩ : ∃ k', k = k' + 1 := ⟨k - 1, by omega⟩
   exact hitem k' q hq
  ·rw [txtA_no (by omega)]; exact h.u3 (by omega) k hk q hq
 ·by_cases h2 : lvl t.kind < 2
  ·rw [txtA_par h2]; exact cat_single (hfp q) (hitem 999 q hq.2) hq
  ·rw [txtA_no (by omega)]; exact h.u2 (by omega) q hq
 ·by_cases h1 : lvl t.kind < 1
  ·rw [txtA_par h1]; exact many_single (cat_single (hfp q) (hitem 999 q hq.1.2) hq.1) hq.2
  ·rw [txtA_no (by omega)]; exact h.u1 (by omega) q hq
theorem re_eta (t : Re) : t = .mk t.kind t.set t.args t.mn t.mx t.neg := by cases t; rfl
set_option maxHeartbeats 1000000 in
theorem un_of {d : Nat} {t : Re} (hok : okRe t) (hs : t.size ≤ 900) (hB : ∀ x ∈ t.args, Bd (d + 1) x ∧ ∀ q, pAlt (d + 1) (txt x ++ 41 :: q) = some (x, 41 :: q)) : Un (d + 1) t := by
  have hN := node_inv (okRe_node hok)
  have hS := re_shape hok
  have hk := hN.k
  have hpos := t.size_pos
  have hf := fst_txt _ t (Nat.le_refl _) hok
  have hargs : ∀ x ∈ t.args, x.size < t.size ∧ Fst LA (txt x) := fun x hx => ⟨(okRe_mem hok hx).2, fst_ok (okRe_mem hok hx).1⟩
  have u4 : lvl t.kind = 4 → ∃ j, j ≤ t.size ∧ ∀ q m, ((AT (d + 1)) (txt t ++ q)).bind (fun p => postP (m + j) p.1 p.2) = postP m t q := by
    intro hl
    have hne := lvl_ne hl
    by_cases h0 : t.kind = 0
    · have ht : t = .mk 0 [] [] 0 0 false := by rw [re_eta t, h0, hS.s2 (by omega), hS.no (by omega), hS.mn (by omega) (by omega), hS.mx (by omega), hS.ng (by omega)]
      exact ⟨0, Nat.zero_le _, fun q m => by rw [txt_0 h0, List.singleton_append, at_0, ht]; rfl⟩
    by_cases h1 : t.kind = 1
    · have ht : t = .mk 1 [] [] 0 0 false := by rw [re_eta t, h1, hS.s2 (by omega), hS.no (by omega), hS.mn (by omega) (by omega), hS.mx (by omega), hS.ng (by omega)]
      exact ⟨0, Nat.zero_le _, fun q m => by rw [txt_1 h1, List.cons_append, List.singleton_append, at_1, ht]; rfl⟩
    by_cases h2 : t.kind = 2
    · have ht : t = .mk 2 t.set [] 0 0 false := by
        conv => lhs; rw [re_eta t, h2, hS.no (by omega), hS.mn (by omega) (by omega), hS.mx (by omega), hS.ng (by omega)]
      obtain ⟨h3, h4, h5⟩ := set_canon hok h2
      exact ⟨0, Nat.zero_le _, fun q m => by rw [txt_2 h2, at_set h3 h5 h4, ← ht]; rfl⟩
    obtain ⟨x, hx⟩ := re_one (hN.one (by omega))
    have hxm : x ∈ t.args := by rw [hx]; exact List.mem_singleton.2 rfl
    obtain ⟨hBx, hHx⟩ := hB x hxm
    have hxs := (hargs x hxm).1
    obtain ⟨j, hj, h4⟩ := hBx.b4
    by_cases h5 : t.kind = 5
    · have ht : t = .mk 5 [] [x] 0 0 false := by rw [re_eta t, h5, hx, hS.s2 (by omega), hS.mn (by omega) (by omega), hS.mx (by omega), hS.ng (by omega)]
      refine ⟨j + 1, by omega, fun q m => ?_⟩
      rw [txt_5 h5 hx, List.append_assoc, show m + (j + 1) = m + 1 + j by omega, h4, ht]
      show postP (m + 1) x (42 :: q) = _
      rw [postP, if_pos (pre_cons _ _), trim_cons]
    by_cases h6 : t.kind = 6
    · have ht : t = .mk 6 [] [x] t.mn t.mx false := by
        conv => lhs; rw [re_eta t, h6, hx, hS.s2 (by omega), hS.ng (by omega)]
      have hr := hN.rep h6
      refine ⟨j + 1, by omega, fun q m => ?_⟩
      rw [txt_6 h6 hx, List.append_assoc, show m + (j + 1) = m + 1 + j by omega, h4, post_bnd hr.1 hr.2.1 hr.2.2, ← ht]
    by_cases h9 : t.kind = 9
    · have ht : t = .mk 9 [] [x] t.mn 0 false := by
        conv => lhs; rw [re_eta t, h9, hx, hS.s2 (by omega), hS.mx (by omega), hS.ng (by omega)]
      have hg := hN.grp h9
      refine ⟨0, Nat.zero_le _, fun q m => ?_⟩
      have e : [40, 35] ++ itoa t.mn ++ txt x ++ [41] ++ q = 40 :: 35 :: (itoa t.mn ++ (txt x ++ 41 :: q)) := by simp
      have ha : AT (d + 1) (40 :: 35 :: (itoa t.mn ++ (txt x ++ 41 :: q))) = some (.mk 9 [] [x] t.mn 0 false, q) := by
        unfold AT atomP
        rw [if_neg (by rw [pre_ne (by decide)]; decide), if_neg (by rw [pre_ne (by decide)]; decide), if_neg (by rw [pre_ne (by decide)]; decide), if_pos (pre2_cons _ _ _), trim2, digP_itoa hg.1 hg.2]
        simp only [Option.bind_some]
        rw [clP_of (hHx q)]; rfl
      rw [txt_9 h9 hx, e, ha, ← ht]; rfl
    · have h10 : t.kind = 10 := by omega
      have ht : t = .mk 10 [] [x] 0 0 t.neg := by
        conv => lhs; rw [re_eta t, h10, hx, hS.s2 (by omega), hS.mn (by omega) (by omega), hS.mx (by omega)]
      refine ⟨0, Nat.zero_le _, fun q m => ?_⟩
      rw [txt_10 h10 hx]
      cases hng : t.neg with
      | true =>
        have e : [40, 33] ++ txt x ++ [41] ++ q = 40 :: 33 :: (txt x ++ 41 :: q) := by simp
        have ha : AT (d + 1) (40 :: 33 :: (txt x ++ 41 :: q)) = some (.mk 10 [] [x] 0 0 true, q) := by
          unfold AT atomP
          rw [if_neg (by rw [pre_ne (by decide)]; decide), if_neg (by rw [pre_ne (by decide)]; decide), if_neg (by rw [pre_ne (by decide)]; decide), if_neg (by rw [pre2]; decide), if_neg (by rw [pre2]; decide), if_pos (pre2_cons _ _ _), trim2, clP_of (hHx q)]; rfl
        rw [if_pos rfl, e, ha, ← hng, ← ht]; rfl
      | false =>
        have e : [40, 61] ++ txt x ++ [41] ++ q = 40 :: 61 :: (txt x ++ 41 :: q) := by simp
        have ha : AT (d + 1) (40 :: 61 :: (txt x ++ 41 :: q)) = some (.mk 10 [] [x] 0 0 false, q) := by
          unfold AT atomP
          rw [if_neg (by rw [pre_ne (by decide)]; decide), if_neg (by rw [pre_ne (by decide)]; decide), if_neg (by rw [pre_ne (by decide)]; decide), if_neg (by rw [pre2]; decide), if_pos (pre2_cons _ _ _), trim2, clP_of (hHx q)]; rfl
        rw [if_neg (by decide), e, ha, ← hng, ← ht]; rfl
  have u3 : 3 ≤ lvl t.kind → ∀ k, t.size ≤ k → ∀ q, NP q → itemP (AT (d + 1)) k (txt t ++ q) = some (t, q) := by
    intro hl k hk2 q hq
    obtain ⟨k', rfl⟩ : ∃ k', k = k' + 1 := ⟨k - 1, by omega⟩
    by_cases h8 : t.kind = 8
    · obtain ⟨x, hx⟩ := re_one (hN.one (by omega))
      have hxm : x ∈ t.args := by rw [hx]; exact List.mem_singleton.2 rfl
      have hxs := (hargs x hxm).1
      have ht : t = .mk 8 [] [x] 0 0 false := by rw [re_eta t, h8, hx, hS.s2 (by omega), hS.mn (by omega) (by omega), hS.mx (by omega), hS.ng (by omega)]
      rw [txt_8 h8 hx]
      show itemP _ (k' + 1) (126 :: (txtA 3 x ++ q)) = _
      rw [itemP, if_pos (pre_cons _ _), trim_cons, (hB x hxm).1.b3 k' (by omega) q hq, ht]; rfl
    · have hl4 : lvl t.kind = 4 := lvl4 ⟨fun h => by rw [h] at hl; revert hl; decide, fun h => by rw [h] at hl; revert hl; decide, fun h => by rw [h] at hl; revert hl; decide, h8⟩
      obtain ⟨j, hj, h4⟩ := u4 hl4
      exact item_of4 (((hf.2 hl4).app q).pre (by decide)) (by omega) (h4 q) hq
  have u2 : 2 ≤ lvl t.kind → ∀ q, SC q → CA (d + 1) (txt t ++ q) = some (t, q) := by
    intro hl q hq
    by_cases h3 : t.kind = 3
    · have h2a := hN.two (.inl h3)
      have ht : t = .mk 3 [] t.args 0 0 false := by
        conv => lhs; rw [re_eta t, h3, hS.s2 (by omega), hS.mn (by omega) (by omega), hS.mx (by omega), hS.ng (by omega)]
      have hla := len_lt_size t
      have e : txt t = (t.args.map (txtA 3)).flatten := by
        rw [txt_m (.inl h3), h3]
        show join (t.args.map (txtA 3)) [] = _
        cases t.args with
        | nil => rfl
        | cons x r => rw [List.map_cons, join_cons, List.flatten_cons]; simp [joinTail, Function.comp_def]
      unfold CA catP
      rw [e, items_list hq t.args [] 1000 (by omega) (fun y hy => ⟨fst_parA (hargs y hy).2, fun r hr => (hB y hy).1.b3 1000 (by have := (hargs y hy).1; omega) r hr⟩)]
      simp only [List.nil_append]
      unfold catT manyT
      rw [if_neg (by omega), if_neg (by omega), ← ht]
    · have h3l : 3 ≤ lvl t.kind := by
        unfold lvl at hl ⊢
        rw [if_neg (fun h => by rw [if_pos h] at hl; omega), if_neg (fun h => by rw [if_neg (by omega), if_pos h] at hl; omega), if_neg h3]
        split <;> omega
      exact cat_single (hf.1.app q) (u3 h3l 1000 (by omega) q hq.2) hq
  have u1 : 1 ≤ lvl t.kind → ∀ q, SA q → AN (d + 1) (txt t ++ q) = some (t, q) := by
    intro hl q hq
    by_cases h7 : t.kind = 7
    · have h2a := hN.two (.inr (.inr h7))
      have ht : t = .mk 7 [] t.args 0 0 false := by
        conv => lhs; rw [re_eta t, h7, hS.s2 (by omega), hS.mn (by omega) (by omega), hS.mx (by omega), hS.ng (by omega)]
      have hla := len_lt_size t
      have e : txt t = join (t.args.map (txtA 2)) [38] := by rw [txt_m (.inr (.inr h7)), h7]; rfl
      unfold AN
      rw [e, many_list hq.2 (fun h => by rw [h] at h2a; simp at h2a) (by omega) (fun y hy r hr => (hB y hy).1.b2 r (by rcases hr with rfl | ⟨r', rfl⟩; exact hq.1; exact sc_and r'))]
      unfold manyT
      rw [if_neg (by omega), ← ht]
    · have h2l : 2 ≤ lvl t.kind := by
        unfold lvl at hl ⊢
        rw [if_neg (fun h => by rw [if_pos h] at hl; omega), if_neg h7]
        (repeat' split) <;> omega
      exact many_single (u2 h2l q hq.1) hq.2
  refine ⟨u4, u3, u2, u1, fun q hq => ?_⟩
  by_cases h4 : t.kind = 4
  · have h2a := hN.two (.inr (.inl h4))
    have ht : t = .mk 4 [] t.args 0 0 false := by
      conv => lhs; rw [re_eta t, h4, hS.s2 (by omega), hS.mn (by omega) (by omega), hS.mx (by omega), hS.ng (by omega)]
    have hla := len_lt_size t
    have e : txt t = join (t.args.map (txtA 1)) [124] := by rw [txt_m (.inr (.inl h4)), h4]; rfl
    rw [pAlt_succ, e, many_list hq.2 (fun h => by rw [h] at h2a; simp at h2a) (by omega) (fun y hy r hr => (hB y hy).1.b1 r (by rcases hr with rfl | ⟨r', rfl⟩; exact hq.1; exact sa_alt r'))]
    unfold manyT
    rw [if_neg (by omega), ← ht]
  · have h1l : 1 ≤ lvl t.kind := by
      unfold lvl
      rw [if_neg h4]
      (repeat' split) <;> omega
    exact many_single (u1 h1l q hq.1) hq.2
theorem un_all : ∀ (n d : Nat), n ≤ d → n ≤ 900 → ∀ t : Re, okRe t → t.size ≤ n → Un d t := by
  intro n
  induction n with
  | zero => intro d _ _ t _ h; have := t.size_pos; omega
  | succ n ih =>
  intro d hd hn t hok hs
  obtain ⟨d', rfl⟩ : ∃ d', d = d' + 1 := ⟨d - 1, by omega⟩
  refine un_of hok (by omega) fun x hx => ?_
  obtain ⟨hxo, hxs⟩ := okRe_mem hok hx
  have h1 := ih (d' + 1) (by omega) (by omega) x hxo (by omega)
  have h2 : ∀ q, pAlt (d' + 1) (txt x ++ 41 :: q) = some (x, 41 :: q) := fun q => (ih d' (by omega) (by omega) x hxo (by omega)).u0 _ (so_par q)
  exact ⟨bd_of hxo (by omega) h1 h2, h2⟩
/-- What is printed is read back. -/
theorem read_back {t : Re} (hok : okRe t) (hs : t.size ≤ 900) : pAlt 901 (txt t) = some (t, []) := by
 have h := (un_all 900 900 (Nat.le_refl _) (Nat.le_refl _) t hok hs).u0 [] so_nil
 rwa [List.append_nil] at h
theorem vpre_set {l : List Sp} (h : Canon l) (h0 : l ≠ []) : VPre (setT l) := by
  unfold setT
  split
  · cases l with
    | nil => exact absurd rfl h0
    | cons s l => have := h.head; unfold vSp at this; exact VPre.escI this.1 (by simp; omega)
  · split
    · exact VPre.low (by decide)
    · exact VPre.app (VPre.app (VPre.low (by decide)) (VPre.sps h.ok)) (VPre.low (by decide))
theorem vpre_par {a : Nat} {x : Re} (h : VPre (txt x)) : VPre (txtA a x) := by
 by_cases h1 : lvl x.kind < a
 ·rw [txtA_par h1]; exact VPre.app (VPre.app (VPre.low (by decide)) h) (VPre.low (by decide))
 ·rw [txtA_no (by omega)]; exact h
theorem vpre_itoa {a : Int} (h0 : 0 ≤ a) (h9 : a ≤ 9) : VPre (itoa a) := by
 rw [itoa_dig h0 h9]
 exact VPre.one (by rw [toN8 (by omega)]; omega)
theorem vpre_join {sep : Bys} (hs : VPre sep) : ∀ {xs : List Bys}, (∀ x ∈ xs, VPre x) → VPre (joinTail sep xs)
  | [], _ => VPre.nil
  | x :: xs, h => by
    have e : joinTail sep (x :: xs) = (sep ++ x) ++ joinTail sep xs := by simp [joinTail]
    rw [e]
    exact VPre.app (VPre.app hs (h x List.mem_cons_self)) (vpre_join hs fun y hy => h y (List.mem_cons_of_mem _ hy))
theorem vpre_txt : ∀ (n : Nat) (t : Re), t.size ≤ n → okRe t → VPre (txt t) := by
  intro n
  induction n with
  | zero => intro t h; have := t.size_pos; omega
  | succ n ih =>
  intro t hn hok
  have hN := node_inv (okRe_node hok)
  have ha : ∀ x ∈ t.args, VPre (txt x) := fun x hx => ih x (by have := (okRe_mem hok hx).2; omega) (okRe_mem hok hx).1
  have hk := hN.k
  by_cases h0 : t.kind = 0
  · rw [txt_0 h0]; exact VPre.low (by decide)
  by_cases h1 : t.kind = 1
  · rw [txt_1 h1]; exact VPre.low (by decide)
  by_cases h2 : t.kind = 2
  · obtain ⟨h3, h4, h5⟩ := set_canon hok h2
    rw [txt_2 h2]; exact vpre_set h3 h5
  by_cases hm : t.kind = 3 ∨ t.kind = 4 ∨ t.kind = 7
  · rw [txt_m hm]
    have hsep : VPre (sepT t.kind) := by unfold sepT; (repeat' split) <;> exact VPre.low (by decide)
    have hall : ∀ y ∈ t.args.map (txtA (lvl t.kind + 1)), VPre y := fun y hy => by
      obtain ⟨x, hx, rfl⟩ := List.mem_map.1 hy
      exact vpre_par (ha x hx)
    cases hl : t.args.map (txtA (lvl t.kind + 1)) with
    | nil => exact VPre.nil
    | cons x r =>
      rw [hl] at hall
      rw [join_cons]
      exact VPre.app (hall x List.mem_cons_self) (vpre_join hsep fun y hy => hall y (List.mem_cons_of_mem _ hy))
  obtain ⟨x, hx⟩ := re_one (hN.one (by omega))
  have hxa := ha x (by rw [hx]; exact List.mem_singleton.2 rfl)
  by_cases h5 : t.kind = 5
  · rw [txt_5 h5 hx]; exact VPre.app (vpre_par hxa) (VPre.low (by decide))
  by_cases h6 : t.kind = 6
  · have hr := hN.rep h6
    rw [txt_6 h6 hx]
    refine VPre.app (vpre_par hxa) ?_
    unfold bndT
    split
    · exact VPre.low (by decide)
    · split
      · exact VPre.app (VPre.app (VPre.low (by decide)) (vpre_itoa hr.1 (by omega))) (VPre.low (by decide))
      · exact VPre.app (VPre.app (VPre.app (VPre.app (VPre.low (by decide)) (vpre_itoa hr.1 (by omega))) (VPre.low (by decide))) (vpre_itoa (by omega) (by omega))) (VPre.low (by decide))
  by_cases h8 : t.kind = 8
  · rw [txt_8 h8 hx]; exact VPre.app (VPre.low (by decide)) (vpre_par hxa)
  by_cases h9 : t.kind = 9
  · have hg := hN.grp h9
    rw [txt_9 h9 hx]; exact VPre.app (VPre.app (VPre.app (VPre.low (by decide)) (vpre_itoa hg.1 hg.2)) hxa) (VPre.low (by decide))
  · rw [txt_10 (by omega) hx]
    split
    · exact VPre.app (VPre.app (VPre.low (by decide)) hxa) (VPre.low (by decide))
    · exact VPre.app (VPre.app (VPre.low (by decide)) hxa) (VPre.low (by decide))
theorem valid_txt {t : Re} (hok : okRe t) : Lib.validD (txt t) = true := by
 have h := vpre_txt _ t (Nat.le_refl _) hok [] VOk.nil
 rw [List.append_nil] at h
 exact h _ (Nat.le_refl _)
end Go.Proofs
namespace Go.Proofs
open Go Go.Eng Go.Sort Go.Lib
set_option linter.unusedSectionVars false
variable [Drw]
set_option maxRecDepth 100000
theorem args_extE {w w' : World} {aa : Option Addr} {ts : List Re} (h : ts = [] ∨ ∃ b o, aa = some ⟨b, o, none⟩ ∧ ResAt w b o ts) (e : Ext w w') : ts = [] ∨ ∃ b o, aa = some ⟨b, o, none⟩ ∧ ResAt w' b o ts :=
 h.imp id fun ⟨b, o, h1, h2⟩ => ⟨b, o, h1, ResAt.ext e _ h2⟩
theorem txtA_lt {a : Nat} {t : Re} (h : lvl t.kind < a) : txtA a t = [40] ++ txt t ++ [41] := by unfold txtA parT; rw [if_pos (by simpa using h)]
theorem txtA_ge {a : Nat} {t : Re} (h : ¬ lvl t.kind < a) : txtA a t = txt t := by unfold txtA parT; rw [if_neg (by simpa using h)]
theorem txtA_len {a : Nat} {t : Re} (h : okRe t) : (txtA a t).length + 2 ≤ 400 * t.size := by
 have := txt_len h
 have h2 := parT_len (decide (lvl t.kind < a)) (txt t)
 unfold txtA; omega
theorem size_one {t x : Re} (h : t.args = [x]) : t.size = x.size + 1 := by rw [Re.size_eq, h]; simp [Re.sizes]
theorem join_small {a : Nat} {t : Re} {s : Bys} (h : okRe t) (hs : s.length ≤ 1) : (join (t.args.map (txtA a)) s).length ≤ 400 * t.size := by
 have h1 := join_len (t.args.map (txtA a)) s hs
 have h2 := txts_len (a := a) (okRe_args h)
 rw [txts_map] at h2
 rw [List.length_map] at h1
 have := t.size_eq
 omega
theorem args_small (t : Re) : t.args.length ≤ t.size := by
  have h : ∀ ts : List Re, ts.length ≤ Re.sizes ts := by
    intro ts
    induction ts with
    | nil => exact Nat.zero_le _
    | cons x r ih => have := x.size_pos; simp [Re.sizes]; omega
  have := h t.args
  rw [t.size_eq]; omega
theorem text_body (t : Re) (hok : okRe t) (hsz : t.size ≤ 100000) (ih : ∀ x ∈ t.args, ∀ a, a ≤ 4 → TextOk a x) (a : Nat) (ha : a ≤ 4) (h0 : lvl t.kind < a → TextOk 0 t) : TextOk a t := by
 intro w0 vs hL ht
 have ht0 := ht
 obtain ⟨sa, sc, aa, ac, rfl, hset, hlen, hargs⟩ := ht.form
 have hmm := okRe_mm hok
 have hkk := okRe_form hok
 have htl := txt_len hok
 have has := args_small t
 refine Ret_of Tryz.func18 rfl Tryz.ntmps18 (Nat.le_of_ble_eq_true rfl) ?_
 have E : Chg none1 w0 w0 := Chg.refl _ _
 refine Wp_seq_region ?_
 refine s_box (v := (.agg (R6 t sa sc aa ac))) (c := (R6 t sa sc aa ac)) (by decide) rfl rfl ?_
 intro br wr Nr
 have Fr := Nr.ge E
 replace E := E.ext Nr.ext
 have Br := Nr.blk
 refine qA (.string (ByteArray.mk #[])) rfl ?_
 refine WpL_nil (Wp_seq (Wp_seq_region ?_))
 refine qV (r_loadAgg (vs := [(I6 t.kind), (.slice sa t.set.length sc), (.slice aa t.args.length ac), (I6 t.mn), (I6 t.mx), (.bool t.neg)]) rfl agg25 siz25 rfl (Br.cells rfl)) ?_
 refine WpL_enter rfl rfl (by decide) (r_callF (vs := [(.agg (R6 t sa sc aa ac))]) Tryz.func40 nm40 bd40 rfl) (lvl_c _ t sa aa sc ac) ?_
 rintro _ w9 ⟨rfl, X9⟩
 replace Br := X9.keep Br
 replace E := E.ext X9
 refine qM (I6 (a : Int)) rfl ?_
 refine qV (r_lss (k := .i64) (a := ((lvl t.kind : Nat) : Int)) (b := (a : Int)) rfl rfl) ?_
 refine WpL_nil ?_
 refine Wp_cond (b := decide ((((lvl t.kind : Nat) : Int) : Int) < (a : Int))) rfl (fun hlv => ?_) (fun hlv => ?_)
 ·have khlv := hlv
  replace hlv := of_decide_eq_true hlv
  have hlv2 : lvl t.kind < a := by omega
  refine Wp_seq_region ?_
  refine qV (r_loadAgg (vs := [(I6 t.kind), (.slice sa t.set.length sc), (.slice aa t.args.length ac), (I6 t.mn), (I6 t.mx), (.bool t.neg)]) rfl agg25 siz25 rfl (Br.cells rfl)) ?_
  refine WpL_enter rfl rfl (by decide) (r_callF (vs := [(.agg (R6 t sa sc aa ac)), (I6 0)]) Tryz.func18 nm18 bd18 rfl) (h0 hlv2 _ _ (hL.ext E) (ReAt.ext E t ht0)) ?_
  rintro _ w19 ⟨rfl, X19⟩
  replace Br := X19.keep Br
  replace E := E.ext X19
  have h00 : txtA 0 t = txt t := txtA_ge (by omega)
  refine qV (r_bSAdd (l := [40]) (m := txtA 0 t) rfl rfl rfl (by rw [h00]; simp only [List.length_append, List.length_cons, List.length_nil]; omega)) ?_
  refine qV (r_bSAdd (l := [40] ++ txtA 0 t) (m := [41]) rfl rfl rfl (by rw [h00]; simp only [List.length_append, List.length_cons, List.length_nil]; omega)) ?_
  refine qA (.string (bS ([40] ++ txtA 0 t ++ [41]))) rfl ?_
  refine WpL_nil (Wp_ret (thn_ret ?_))
  refine fin_tmp Tryz.results18 (v := (.string (bS ([40] ++ txtA 0 t ++ [41])))) rfl ?_
  exact ⟨by rw [h00, txtA_lt hlv2], E⟩
 ·have khlv := hlv
  replace hlv := of_decide_eq_false hlv
  have hge : txtA a t = txt t := txtA_ge (by omega)
  have heq := txt_eq t
  refine Wp_skip (thn_normal (Wp_seq (Wp_seq_region ?_)))
  refine qF br 0 0 rfl Tryz.underlying25 rfl siz3 rfl ?_
  refine qV (r_load (v := (I6 t.kind)) rfl flat3 (Br.cell rfl)) ?_
  refine WpL_nil (Wp_block (Wp_seq_region ?_))
  refine qV (r_eql (k := .i64) (a := t.kind) (b := 0) rfl rfl) ?_
  refine qA (.bool (decide ((t.kind : Int) = 0))) rfl ?_
  refine WpL_nil ?_
  refine Wp_cond (b := decide ((t.kind : Int) = 0)) rfl (fun k0 => ?_) (fun k0 => ?_)
  ·have kk0 := k0
   replace k0 := of_decide_eq_true k0
   refine Wp_seq_region ?_
   refine qA (.string (ByteArray.mk #[64])) rfl ?_
   refine WpL_nil (Wp_ret (inB_ret (thn_ret ?_)))
   refine fin_tmp Tryz.results18 (v := (.string (ByteArray.mk #[64]))) rfl ?_
   exact ⟨by rw [hge, heq, if_pos k0]; rfl, E⟩
  ·have kk0 := k0
   replace k0 := of_decide_eq_false k0
   rw [if_neg k0] at heq
   refine Wp_seq_region ?_
   refine qV (r_eql (k := .i64) (a := t.kind) (b := 1) rfl rfl) ?_
   refine qA (.bool (decide ((t.kind : Int) = 1))) rfl ?_
   refine WpL_nil ?_
   refine Wp_cond (b := decide ((t.kind : Int) = 1)) rfl (fun k1 => ?_) (fun k1 => ?_)
   ·have kk1 := k1
    replace k1 := of_decide_eq_true k1
    refine Wp_seq_region ?_
    refine qA (.string (ByteArray.mk #[40, 41])) rfl ?_
    refine WpL_nil (Wp_ret (inB_ret (thn_ret ?_)))
    refine fin_tmp Tryz.results18 (v := (.string (ByteArray.mk #[40, 41]))) rfl ?_
    exact ⟨by rw [hge, heq, if_pos k1]; rfl, E⟩
   ·have kk1 := k1
    replace k1 := of_decide_eq_false k1
    rw [if_neg k1] at heq
    refine Wp_seq_region ?_
    refine qV (r_eql (k := .i64) (a := t.kind) (b := 2) rfl rfl) ?_
    refine qA (.bool (decide ((t.kind : Int) = 2))) rfl ?_
    refine WpL_nil ?_
    refine Wp_cond (b := decide ((t.kind : Int) = 2)) rfl (fun k2 => ?_) (fun k2 => ?_)
    ·have kk2 := k2
     replace k2 := of_decide_eq_true k2
     refine Wp_seq_region ?_
     refine qF br 0 1 rfl Tryz.underlying25 rfl siz22 rfl ?_
     refine qV (r_load (v := (.slice sa t.set.length sc)) rfl flat22 (Br.cell rfl)) ?_
     refine WpL_enter rfl rfl (by decide) (r_callF (vs := [(.slice sa t.set.length sc)]) Tryz.func41 nm41 bd41 rfl) (rset_c _ .nilIface sa sc t.set (hset.ext E) (by omega) hmm.2.2.2 (hL.tz.ext E)) ?_
     rintro _ w19 ⟨rfl, X19⟩
     replace Br := X19.keep Br
     replace E := E.ext X19
     refine qA (.string (bS (setT t.set))) rfl ?_
     refine WpL_nil (Wp_ret (inB_ret (thn_ret ?_)))
     refine fin_tmp Tryz.results18 (v := (.string (bS (setT t.set)))) rfl ?_
     exact ⟨by rw [hge, heq, if_pos k2], E⟩
    ·have kk2 := k2
     replace k2 := of_decide_eq_false k2
     rw [if_neg k2] at heq
     refine Wp_seq_region ?_
     refine qV (r_eql (k := .i64) (a := t.kind) (b := 3) rfl rfl) ?_
     refine qA (.bool (decide ((t.kind : Int) = 3))) rfl ?_
     refine WpL_nil ?_
     refine Wp_cond (b := decide ((t.kind : Int) = 3)) rfl (fun k3 => ?_) (fun k3 => ?_)
     ·have kk3 := k3
      replace k3 := of_decide_eq_true k3
      refine Wp_seq_region ?_
      refine qF br 0 2 rfl Tryz.underlying25 rfl siz23 rfl ?_
      refine qV (r_load (v := (.slice aa t.args.length ac)) rfl flat23 (Br.cell rfl)) ?_
      refine WpL_enter rfl rfl (by decide) (r_callF (vs := [(.slice aa t.args.length ac), (.string (ByteArray.mk #[])), (I6 3)]) Tryz.func42 nm42 bd42 rfl) (joined_c _ (hL.ext E) t.args aa ac 3 [] (args_extE hargs E) (by omega) (by have := join_small (a := 3) (s := []) hok (by decide); omega) (fun x hx => ih x hx 3 (by decide))) ?_
      rintro _ w19 ⟨rfl, X19⟩
      replace Br := X19.keep Br
      replace E := E.ext X19
      refine qA (.string (bS (join (t.args.map (txtA 3)) []))) rfl ?_
      refine WpL_nil (Wp_ret (inB_ret (thn_ret ?_)))
      refine fin_tmp Tryz.results18 (v := (.string (bS (join (t.args.map (txtA 3)) [])))) rfl ?_
      exact ⟨by rw [hge, heq, if_pos (by omega), k3]; rfl, E⟩
     ·have kk3 := k3
      replace k3 := of_decide_eq_false k3
      refine Wp_seq_region ?_
      refine qV (r_eql (k := .i64) (a := t.kind) (b := 4) rfl rfl) ?_
      refine qA (.bool (decide ((t.kind : Int) = 4))) rfl ?_
      refine WpL_nil ?_
      refine Wp_cond (b := decide ((t.kind : Int) = 4)) rfl (fun k4 => ?_) (fun k4 => ?_)
      ·have kk4 := k4
       replace k4 := of_decide_eq_true k4
       refine Wp_seq_region ?_
       refine qF br 0 2 rfl Tryz.underlying25 rfl siz23 rfl ?_
       refine qV (r_load (v := (.slice aa t.args.length ac)) rfl flat23 (Br.cell rfl)) ?_
       refine WpL_enter rfl rfl (by decide) (r_callF (vs := [(.slice aa t.args.length ac), (.string (ByteArray.mk #[124])), (I6 1)]) Tryz.func42 nm42 bd42 rfl) (joined_c _ (hL.ext E) t.args aa ac 1 [124] (args_extE hargs E) (by omega) (by have := join_small (a := 1) (s := [124]) hok (by decide); omega) (fun x hx => ih x hx 1 (by decide))) ?_
       rintro _ w19 ⟨rfl, X19⟩
       replace Br := X19.keep Br
       replace E := E.ext X19
       refine qA (.string (bS (join (t.args.map (txtA 1)) [124]))) rfl ?_
       refine WpL_nil (Wp_ret (inB_ret (thn_ret ?_)))
       refine fin_tmp Tryz.results18 (v := (.string (bS (join (t.args.map (txtA 1)) [124])))) rfl ?_
       exact ⟨by rw [hge, heq, if_pos (by omega), k4]; rfl, E⟩
      ·have kk4 := k4
       replace k4 := of_decide_eq_false k4
       refine Wp_seq_region ?_
       refine qV (r_eql (k := .i64) (a := t.kind) (b := 7) rfl rfl) ?_
       refine qA (.bool (decide ((t.kind : Int) = 7))) rfl ?_
       refine WpL_nil ?_
       refine Wp_cond (b := decide ((t.kind : Int) = 7)) rfl (fun k7 => ?_) (fun k7 => ?_)
       ·have kk7 := k7
        replace k7 := of_decide_eq_true k7
        refine Wp_seq_region ?_
        refine qF br 0 2 rfl Tryz.underlying25 rfl siz23 rfl ?_
        refine qV (r_load (v := (.slice aa t.args.length ac)) rfl flat23 (Br.cell rfl)) ?_
        refine WpL_enter rfl rfl (by decide) (r_callF (vs := [(.slice aa t.args.length ac), (.string (ByteArray.mk #[38])), (I6 2)]) Tryz.func42 nm42 bd42 rfl) (joined_c _ (hL.ext E) t.args aa ac 2 [38] (args_extE hargs E) (by omega) (by have := join_small (a := 2) (s := [38]) hok (by decide); omega) (fun x hx => ih x hx 2 (by decide))) ?_
        rintro _ w19 ⟨rfl, X19⟩
        replace Br := X19.keep Br
        replace E := E.ext X19
        refine qA (.string (bS (join (t.args.map (txtA 2)) [38]))) rfl ?_
        refine WpL_nil (Wp_ret (inB_ret (thn_ret ?_)))
        refine fin_tmp Tryz.results18 (v := (.string (bS (join (t.args.map (txtA 2)) [38])))) rfl ?_
        exact ⟨by rw [hge, heq, if_pos (by omega), k7]; rfl, E⟩
       ·have kk7 := k7
        replace k7 := of_decide_eq_false k7
        rw [if_neg (by omega)] at heq
        refine Wp_seq_region ?_
        refine qV (r_eql (k := .i64) (a := t.kind) (b := 5) rfl rfl) ?_
        refine qA (.bool (decide ((t.kind : Int) = 5))) rfl ?_
        refine WpL_nil ?_
        refine Wp_cond (b := decide ((t.kind : Int) = 5)) rfl (fun k5 => ?_) (fun k5 => ?_)
        ·have kk5 := k5
         replace k5 := of_decide_eq_true k5
         have hl1 := okRe_one hok (by omega)
         obtain ⟨x, hxa⟩ : ∃ x, t.args = [x] := List.length_eq_one_iff.1 hl1
         have hx : t.args[0]? = some x := by rw [hxa]; rfl
         obtain ⟨b, o, rfl, hres⟩ := args_at hargs (by omega)
         obtain ⟨us, hus, hxt⟩ := hres.get hx
         have hxt0 := hxt
         obtain ⟨xsa, xsc, xaa, xac, rfl, _, _, _⟩ := hxt.form
         have hxs := size_one hxa
         have hxo := okRes_get (okRe_args hok) hx
         have hxl := txtA_len (a := 4) hxo
         have hxm := List.mem_of_getElem? hx
         refine Wp_seq_region ?_
         refine qF br 0 2 rfl Tryz.underlying25 rfl siz23 rfl ?_
         refine qV (r_load (v := (.slice (some ⟨b, o, none⟩) t.args.length ac)) rfl flat23 (Br.cell rfl)) ?_
         refine qV (r_indexSlice (b := b) (o := o) (len := t.args.length) (cap := ac) (i := 0) (o' := o + 0 * 6) rfl rfl rfl Tryz.underlying23 siz25 (by omega) (by omega)) ?_
         refine qV (r_loadAgg (vs := [(I6 x.kind), (.slice xsa x.set.length xsc), (.slice xaa x.args.length xac), (I6 x.mn), (I6 x.mx), (.bool x.neg)]) rfl agg25 siz25 rfl (hus.ext E)) ?_
         refine WpL_enter rfl rfl (by decide) (r_callF (vs := [(.agg (R6 x xsa xsc xaa xac)), (I6 4)]) Tryz.func18 nm18 bd18 rfl) (ih x hxm 4 (by decide) _ _ (hL.ext E) (ReAt.ext E x hxt0)) ?_
         rintro _ w9 ⟨rfl, X9⟩
         replace Br := X9.keep Br
         replace E := E.ext X9
         refine qV (r_bSAdd (l := txtA 4 x) (m := [42]) rfl rfl rfl (by simp only [List.length_append, List.length_cons, List.length_nil]; omega)) ?_
         refine qA (.string (bS (txtA 4 x ++ [42]))) rfl ?_
         refine WpL_nil (Wp_ret (inB_ret (thn_ret ?_)))
         refine fin_tmp Tryz.results18 (v := (.string (bS (txtA 4 x ++ [42])))) rfl ?_
         exact ⟨by rw [hge, heq, if_pos k5, txts_one hxa], E⟩
        ·have kk5 := k5
         replace k5 := of_decide_eq_false k5
         rw [if_neg k5] at heq
         refine Wp_seq_region ?_
         refine qV (r_eql (k := .i64) (a := t.kind) (b := 6) rfl rfl) ?_
         refine qA (.bool (decide ((t.kind : Int) = 6))) rfl ?_
         refine WpL_nil ?_
         refine Wp_cond (b := decide ((t.kind : Int) = 6)) rfl (fun k6 => ?_) (fun k6 => ?_)
         ·have kk6 := k6
          replace k6 := of_decide_eq_true k6
          have hl1 := okRe_one hok (by omega)
          obtain ⟨x, hxa⟩ : ∃ x, t.args = [x] := List.length_eq_one_iff.1 hl1
          have hx : t.args[0]? = some x := by rw [hxa]; rfl
          obtain ⟨b, o, rfl, hres⟩ := args_at hargs (by omega)
          obtain ⟨us, hus, hxt⟩ := hres.get hx
          have hxt0 := hxt
          obtain ⟨xsa, xsc, xaa, xac, rfl, _, _, _⟩ := hxt.form
          have hxs := size_one hxa
          have hxo := okRes_get (okRe_args hok) hx
          have hxl := txtA_len (a := 4) hxo
          have hxm := List.mem_of_getElem? hx
          have hz_10 : w0.heap.size ≤ w9.heap.size := E.size
          have lz_10_br : br < w9.heap.size := Br.lt
          refine Wp_seq ?_
          obtain ⟨Fs10, hFs10⟩ : ∃ Fs : List FctS, Fs = [(fun _ _ v _ => v = (P6 br 2)), (fun _ _ v _ => v = (.slice (some ⟨b, o, none⟩) t.args.length ac)), (fun _ _ v _ => v = (.pointer (some ⟨b, o + 0 * 6, none⟩))), (fun _ _ v _ => v = (.agg (R6 x xsa xsc xaa xac))), (fun _ _ v _ => v = (.string (bS (txtA 4 x)))), (fun _ _ v _ => v = (P6 br 3)), (fun _ _ v _ => v = (I6 t.mn)), (fun _ _ v _ => v = (P6 br 4)), (fun _ _ v _ => v = (I6 t.mx)), (fun _ _ v _ => v = (.string (bS (bndT t.mn t.mx)))), (fun _ _ v _ => v = (.string (bS (txtA 4 x ++ bndT t.mn t.mx)))), (fun _ _ v _ => v = undef)] := ⟨_, rfl⟩
          refine Wp_dagS (MsL []) [true, true, true, true, true, true, true, true, true, true, true, false] [11] [49, 50, 51, 52, 53, 54, 55, 56, 57, 58, 59, 108] [[], [0], [1], [2], [3], [], [5], [], [7], [4, 6, 8], [4, 9], []] [[], [0], [1, 0], [2, 1, 0], [3, 2, 1, 0], [], [5], [], [7], [4, 3, 2, 1, 0, 6, 5, 8, 7], [4, 3, 2, 1, 0, 9, 6, 5, 8, 7], []] Fs10 hFs10 (by kernel_rfl) mixed (by kernel_rfl) (by kernel_rfl) (by kernel_rfl) (by kernel_rfl) ?_ ?_
          ·intro wd X0
           refine qZ (fun S s' w' hi hN X U V H => ?_) ?_
           ·replace X := X.mono (M' := none1) (fun y _ h => by
              obtain ⟨j, hj, h⟩ := h
              exact h.elim)
            exact DoesT_pure (r_fieldAddr (b := br) (o := 0) (o' := 2) (U 2 rfl) Tryz.underlying25 rfl siz23 rfl) rfl
           refine qZ (fun S s' w' hi hN X U V H => ?_) ?_
           ·replace X := X.mono (M' := none1) (fun y _ h => by
              obtain ⟨j, hj, h⟩ := h
              exact h.elim)
            have e49 : s' 49 = (.pointer (some ⟨br, 2, none⟩)) := (H 0 rfl).2 49 (fun _ _ v _ => v = (.pointer (some ⟨br, 2, none⟩))) rfl (by rw [hFs10]; rfl)
            exact DoesT_pure (r_load (v := (.slice (some ⟨b, o, none⟩) t.args.length ac)) e49 flat23 (((X0.trans X).keep Br).cell rfl)) rfl
           refine qZ (fun S s' w' hi hN X U V H => ?_) ?_
           ·replace X := X.mono (M' := none1) (fun y _ h => by
              obtain ⟨j, hj, h⟩ := h
              exact h.elim)
            have e50 : s' 50 = (.slice (some ⟨b, o, none⟩) t.args.length ac) := (H 1 rfl).2 50 (fun _ _ v _ => v = (.slice (some ⟨b, o, none⟩) t.args.length ac)) rfl (by rw [hFs10]; rfl)
            exact DoesT_pure (r_indexSlice (b := b) (o := o) (len := t.args.length) (cap := ac) (i := 0) (o' := o + 0 * 6) e50 rfl rfl Tryz.underlying23 siz25 (by omega) (by omega)) rfl
           refine qZ (fun S s' w' hi hN X U V H => ?_) ?_
           ·replace X := X.mono (M' := none1) (fun y _ h => by
              obtain ⟨j, hj, h⟩ := h
              exact h.elim)
            have e51 : s' 51 = (.pointer (some ⟨b, o + 0 * 6, none⟩)) := (H 2 rfl).2 51 (fun _ _ v _ => v = (.pointer (some ⟨b, o + 0 * 6, none⟩))) rfl (by rw [hFs10]; rfl)
            exact DoesT_pure (r_loadAgg (vs := [(I6 x.kind), (.slice xsa x.set.length xsc), (.slice xaa x.args.length xac), (I6 x.mn), (I6 x.mx), (.bool x.neg)]) e51 agg25 siz25 rfl (hus.ext (Ext.trans E (X0.trans X)))) rfl
           refine qZ (fun S s' w' hi hN X U V H => ?_) ?_
           ·replace X := X.mono (M' := none1) (fun y _ h => by
              obtain ⟨j, hj, h⟩ := h
              exact h.elim)
            have e52 : s' 52 = (.agg #[(.int .i64 x.kind), (.slice xsa x.set.length xsc), (.slice xaa x.args.length xac), (.int .i64 x.mn), (.int .i64 x.mx), (.bool x.neg)]) := (H 3 rfl).2 52 (fun _ _ v _ => v = (.agg #[(.int .i64 x.kind), (.slice xsa x.set.length xsc), (.slice xaa x.args.length xac), (.int .i64 x.mn), (.int .i64 x.mx), (.bool x.neg)])) rfl (by rw [hFs10]; rfl)
            exact DoesT_callE (r_callF (vs := [(.agg (R6 x xsa xsc xaa xac)), (I6 4)]) Tryz.func18 nm18 bd18 (lst2 e52 rfl)) (ih x hxm 4 (by decide) _ _ (hL.ext (Ext.trans E (X0.trans X))) (ReAt.ext (Ext.trans E (X0.trans X)) x hxt0))
           refine qZ (fun S s' w' hi hN X U V H => ?_) ?_
           ·replace X := X.mono (M' := none1) (fun y _ h => by
              obtain ⟨j, hj, h⟩ := h
              exact h.elim)
            exact DoesT_pure (r_fieldAddr (b := br) (o := 0) (o' := 3) (U 2 rfl) Tryz.underlying25 rfl siz3 rfl) rfl
           refine qZ (fun S s' w' hi hN X U V H => ?_) ?_
           ·replace X := X.mono (M' := none1) (fun y _ h => by
              obtain ⟨j, hj, h⟩ := h
              exact h.elim)
            have e54 : s' 54 = (.pointer (some ⟨br, 3, none⟩)) := (H 5 rfl).2 54 (fun _ _ v _ => v = (.pointer (some ⟨br, 3, none⟩))) rfl (by rw [hFs10]; rfl)
            exact DoesT_pure (r_load (v := (I6 t.mn)) e54 flat3 (((X0.trans X).keep Br).cell rfl)) rfl
           refine qZ (fun S s' w' hi hN X U V H => ?_) ?_
           ·replace X := X.mono (M' := none1) (fun y _ h => by
              obtain ⟨j, hj, h⟩ := h
              exact h.elim)
            exact DoesT_pure (r_fieldAddr (b := br) (o := 0) (o' := 4) (U 2 rfl) Tryz.underlying25 rfl siz3 rfl) rfl
           refine qZ (fun S s' w' hi hN X U V H => ?_) ?_
           ·replace X := X.mono (M' := none1) (fun y _ h => by
              obtain ⟨j, hj, h⟩ := h
              exact h.elim)
            have e56 : s' 56 = (.pointer (some ⟨br, 4, none⟩)) := (H 7 rfl).2 56 (fun _ _ v _ => v = (.pointer (some ⟨br, 4, none⟩))) rfl (by rw [hFs10]; rfl)
            exact DoesT_pure (r_load (v := (I6 t.mx)) e56 flat3 (((X0.trans X).keep Br).cell rfl)) rfl
           refine qZ (fun S s' w' hi hN X U V H => ?_) ?_
           ·replace X := X.mono (M' := none1) (fun y _ h => by
              obtain ⟨j, hj, h⟩ := h
              exact h.elim)
            have e55 : s' 55 = (.int .i64 t.mn) := (H 6 rfl).2 55 (fun _ _ v _ => v = (.int .i64 t.mn)) rfl (by rw [hFs10]; rfl)
            have e57 : s' 57 = (.int .i64 t.mx) := (H 8 rfl).2 57 (fun _ _ v _ => v = (.int .i64 t.mx)) rfl (by rw [hFs10]; rfl)
            exact DoesT_callE (r_callF (vs := [(I6 t.mn), (I6 t.mx)]) Tryz.func43 nm43 bd43 (lst2 e55 e57)) (bnd_c _ t.mn t.mx (by omega) (by omega) (hL.pow.ext (Ext.trans E (X0.trans X))))
           refine qZ (fun S s' w' hi hN X U V H => ?_) ?_
           ·replace X := X.mono (M' := none1) (fun y _ h => by
              obtain ⟨j, hj, h⟩ := h
              exact h.elim)
            have e53 : s' 53 = (.string (bS (txtA 4 x))) := (H 4 rfl).2 53 (fun _ _ v _ => v = (.string (bS (txtA 4 x)))) rfl (by rw [hFs10]; rfl)
            have e58 : s' 58 = (.string (bS (bndT t.mn t.mx))) := (H 9 rfl).2 58 (fun _ _ v _ => v = (.string (bS (bndT t.mn t.mx)))) rfl (by rw [hFs10]; rfl)
            exact DoesT_pure (r_bSAdd (l := txtA 4 x) (m := bndT t.mn t.mx) e53 e58 rfl (by have := bndT_len (a := t.mn) (b := t.mx) (by omega) (by omega); simp only [List.length_append]; omega)) rfl
           refine DagStepsS.tail ?_
           exact DagStepsS.nil
          ·intro s' wd10 w10 X0 X10 U H
           replace X10 := X10.mono (M' := none1) (fun y _ h => by
             obtain ⟨j, hj, h⟩ := h
             exact h.elim)
           have e59 : s' 59 = (.string (bS (txtA 4 x ++ bndT t.mn t.mx))) := H 10 rfl 59 (fun _ _ v _ => v = (.string (bS (txtA 4 x ++ bndT t.mn t.mx)))) rfl (by rw [hFs10]; rfl)
           obtain ⟨j10, rfl⟩ := Fits.out (σ := s') (l := [(59, (.string (bS (txtA 4 x ++ bndT t.mn t.mx))))]) ⟨e59, trivial⟩
           clear U H
           replace Br := (X0.trans X10).keep Br
           replace X10 := X0.trans X10
           replace E := E.ext X10
           refine qA (.string (bS (txtA 4 x ++ bndT t.mn t.mx))) rfl ?_
           refine WpL_nil (thn_normal (Wp_ret (inB_ret (thn_ret ?_))))
           refine fin_tmp Tryz.results18 (v := (.string (bS (txtA 4 x ++ bndT t.mn t.mx)))) rfl ?_
           exact ⟨by rw [hge, heq, if_pos k6, txts_one hxa], E⟩
         ·have kk6 := k6
          replace k6 := of_decide_eq_false k6
          rw [if_neg k6] at heq
          refine Wp_seq_region ?_
          refine qV (r_eql (k := .i64) (a := t.kind) (b := 8) rfl rfl) ?_
          refine qA (.bool (decide ((t.kind : Int) = 8))) rfl ?_
          refine WpL_nil ?_
          refine Wp_cond (b := decide ((t.kind : Int) = 8)) rfl (fun k8 => ?_) (fun k8 => ?_)
          ·have kk8 := k8
           replace k8 := of_decide_eq_true k8
           have hl1 := okRe_one hok (by omega)
           obtain ⟨x, hxa⟩ : ∃ x, t.args = [x] := List.length_eq_one_iff.1 hl1
           have hx : t.args[0]? = some x := by rw [hxa]; rfl
           obtain ⟨b, o, rfl, hres⟩ := args_at hargs (by omega)
           obtain ⟨us, hus, hxt⟩ := hres.get hx
           have hxt0 := hxt
           obtain ⟨xsa, xsc, xaa, xac, rfl, _, _, _⟩ := hxt.form
           have hxs := size_one hxa
           have hxo := okRes_get (okRe_args hok) hx
           have hxl := txtA_len (a := 3) hxo
           have hxm := List.mem_of_getElem? hx
           refine Wp_seq_region ?_
           refine qF br 0 2 rfl Tryz.underlying25 rfl siz23 rfl ?_
           refine qV (r_load (v := (.slice (some ⟨b, o, none⟩) t.args.length ac)) rfl flat23 (Br.cell rfl)) ?_
           refine qV (r_indexSlice (b := b) (o := o) (len := t.args.length) (cap := ac) (i := 0) (o' := o + 0 * 6) rfl rfl rfl Tryz.underlying23 siz25 (by omega) (by omega)) ?_
           refine qV (r_loadAgg (vs := [(I6 x.kind), (.slice xsa x.set.length xsc), (.slice xaa x.args.length xac), (I6 x.mn), (I6 x.mx), (.bool x.neg)]) rfl agg25 siz25 rfl (hus.ext E)) ?_
           refine WpL_enter rfl rfl (by decide) (r_callF (vs := [(.agg (R6 x xsa xsc xaa xac)), (I6 3)]) Tryz.func18 nm18 bd18 rfl) (ih x hxm 3 (by decide) _ _ (hL.ext E) (ReAt.ext E x hxt0)) ?_
           rintro _ w9 ⟨rfl, X9⟩
           replace Br := X9.keep Br
           replace E := E.ext X9
           refine qV (r_bSAdd (l := [126]) (m := txtA 3 x) rfl rfl rfl (by simp only [List.length_append, List.length_cons, List.length_nil]; omega)) ?_
           refine qA (.string (bS ([126] ++ txtA 3 x))) rfl ?_
           refine WpL_nil (Wp_ret (inB_ret (thn_ret ?_)))
           refine fin_tmp Tryz.results18 (v := (.string (bS ([126] ++ txtA 3 x)))) rfl ?_
           exact ⟨by rw [hge, heq, if_pos k8, txts_one hxa], E⟩
          ·have kk8 := k8
           replace k8 := of_decide_eq_false k8
           rw [if_neg k8] at heq
           refine Wp_seq_region ?_
           refine qV (r_eql (k := .i64) (a := t.kind) (b := 9) rfl rfl) ?_
           refine qA (.bool (decide ((t.kind : Int) = 9))) rfl ?_
           refine WpL_nil ?_
           refine Wp_cond (b := decide ((t.kind : Int) = 9)) rfl (fun k9 => ?_) (fun k9 => ?_)
           ·have kk9 := k9
            replace k9 := of_decide_eq_true k9
            have hl1 := okRe_one hok (by omega)
            obtain ⟨x, hxa⟩ : ∃ x, t.args = [x] := List.length_eq_one_iff.1 hl1
            have hx : t.args[0]? = some x := by rw [hxa]; rfl
            obtain ⟨b, o, rfl, hres⟩ := args_at hargs (by omega)
            obtain ⟨us, hus, hxt⟩ := hres.get hx
            have hxt0 := hxt
            obtain ⟨xsa, xsc, xaa, xac, rfl, _, _, _⟩ := hxt.form
            have hxs := size_one hxa
            have hxo := okRes_get (okRe_args hok) hx
            have hxl := txtA_len (a := 0) hxo
            have hxm := List.mem_of_getElem? hx
            have hz_13 : w0.heap.size ≤ w9.heap.size := E.size
            have lz_13_br : br < w9.heap.size := Br.lt
            refine Wp_seq ?_
            obtain ⟨Fs13, hFs13⟩ : ∃ Fs : List FctS, Fs = [(fun _ _ v _ => v = (P6 br 3)), (fun _ _ v _ => v = (I6 t.mn)), (fun _ _ v _ => v = (.string (bS (itoa t.mn)))), (fun _ _ v _ => v = (.string (bS ([40, 35] ++ itoa t.mn)))), (fun _ _ v _ => v = (P6 br 2)), (fun _ _ v _ => v = (.slice (some ⟨b, o, none⟩) t.args.length ac)), (fun _ _ v _ => v = (.pointer (some ⟨b, o + 0 * 6, none⟩))), (fun _ _ v _ => v = (.agg (R6 x xsa xsc xaa xac))), (fun _ _ v _ => v = (.string (bS (txtA 0 x)))), (fun _ _ v _ => v = (.string (bS ([40, 35] ++ itoa t.mn ++ txtA 0 x)))), (fun _ _ v _ => v = (.string (bS ([40, 35] ++ itoa t.mn ++ txtA 0 x ++ [41])))), (fun _ _ v _ => v = undef)] := ⟨_, rfl⟩
            refine Wp_dagS (MsL []) [true, true, true, true, true, true, true, true, true, true, true, false] [11] [70, 71, 72, 73, 74, 75, 76, 77, 78, 79, 80, 108] [[], [0], [1], [2], [], [4], [5], [6], [2, 7], [3, 8], [9], []] [[], [0], [1, 0], [2, 1, 0], [], [4], [5, 4], [6, 5, 4], [2, 1, 0, 7, 6, 5, 4], [3, 2, 1, 0, 8, 7, 6, 5, 4], [9, 3, 2, 1, 0, 8, 7, 6, 5, 4], []] Fs13 hFs13 (by kernel_rfl) mixed (by kernel_rfl) (by kernel_rfl) (by kernel_rfl) (by kernel_rfl) ?_ ?_
            ·intro wd X0
             refine qZ (fun S s' w' hi hN X U V H => ?_) ?_
             ·replace X := X.mono (M' := none1) (fun y _ h => by
                obtain ⟨j, hj, h⟩ := h
                exact h.elim)
              exact DoesT_pure (r_fieldAddr (b := br) (o := 0) (o' := 3) (U 2 rfl) Tryz.underlying25 rfl siz3 rfl) rfl
             refine qZ (fun S s' w' hi hN X U V H => ?_) ?_
             ·replace X := X.mono (M' := none1) (fun y _ h => by
                obtain ⟨j, hj, h⟩ := h
                exact h.elim)
              have e70 : s' 70 = (.pointer (some ⟨br, 3, none⟩)) := (H 0 rfl).2 70 (fun _ _ v _ => v = (.pointer (some ⟨br, 3, none⟩))) rfl (by rw [hFs13]; rfl)
              exact DoesT_pure (r_load (v := (I6 t.mn)) e70 flat3 (((X0.trans X).keep Br).cell rfl)) rfl
             refine qZ (fun S s' w' hi hN X U V H => ?_) ?_
             ·replace X := X.mono (M' := none1) (fun y _ h => by
                obtain ⟨j, hj, h⟩ := h
                exact h.elim)
              have e71 : s' 71 = (.int .i64 t.mn) := (H 1 rfl).2 71 (fun _ _ v _ => v = (.int .i64 t.mn)) rfl (by rw [hFs13]; rfl)
              exact DoesT_callE (r_callF (vs := [(I6 t.mn)]) Tryz.func24 nm24 bd24 (lst1 e71)) (itoa_c _ t.mn hmm.1.1 (by omega) (hL.pow.ext (Ext.trans E (X0.trans X))))
             refine qZ (fun S s' w' hi hN X U V H => ?_) ?_
             ·replace X := X.mono (M' := none1) (fun y _ h => by
                obtain ⟨j, hj, h⟩ := h
                exact h.elim)
              have e72 : s' 72 = (.string (bS (itoa t.mn))) := (H 2 rfl).2 72 (fun _ _ v _ => v = (.string (bS (itoa t.mn)))) rfl (by rw [hFs13]; rfl)
              exact DoesT_pure (r_bSAdd (n := [40, 35] ++ itoa t.mn) rfl e72 rfl (by have := itoa_len hmm.1.1 (by omega); simp only [List.length_append, List.length_cons, List.length_nil]; omega)) rfl
             refine qZ (fun S s' w' hi hN X U V H => ?_) ?_
             ·replace X := X.mono (M' := none1) (fun y _ h => by
                obtain ⟨j, hj, h⟩ := h
                exact h.elim)
              exact DoesT_pure (r_fieldAddr (b := br) (o := 0) (o' := 2) (U 2 rfl) Tryz.underlying25 rfl siz23 rfl) rfl
             refine qZ (fun S s' w' hi hN X U V H => ?_) ?_
             ·replace X := X.mono (M' := none1) (fun y _ h => by
                obtain ⟨j, hj, h⟩ := h
                exact h.elim)
              have e74 : s' 74 = (.pointer (some ⟨br, 2, none⟩)) := (H 4 rfl).2 74 (fun _ _ v _ => v = (.pointer (some ⟨br, 2, none⟩))) rfl (by rw [hFs13]; rfl)
              exact DoesT_pure (r_load (v := (.slice (some ⟨b, o, none⟩) t.args.length ac)) e74 flat23 (((X0.trans X).keep Br).cell rfl)) rfl
             refine qZ (fun S s' w' hi hN X U V H => ?_) ?_
             ·replace X := X.mono (M' := none1) (fun y _ h => by
                obtain ⟨j, hj, h⟩ := h
                exact h.elim)
              have e75 : s' 75 = (.slice (some ⟨b, o, none⟩) t.args.length ac) := (H 5 rfl).2 75 (fun _ _ v _ => v = (.slice (some ⟨b, o, none⟩) t.args.length ac)) rfl (by rw [hFs13]; rfl)
              exact DoesT_pure (r_indexSlice (b := b) (o := o) (len := t.args.length) (cap := ac) (i := 0) (o' := o + 0 * 6) e75 rfl rfl Tryz.underlying23 siz25 (by omega) (by omega)) rfl
             refine qZ (fun S s' w' hi hN X U V H => ?_) ?_
             ·replace X := X.mono (M' := none1) (fun y _ h => by
                obtain ⟨j, hj, h⟩ := h
                exact h.elim)
              have e76 : s' 76 = (.pointer (some ⟨b, o + 0 * 6, none⟩)) := (H 6 rfl).2 76 (fun _ _ v _ => v = (.pointer (some ⟨b, o + 0 * 6, none⟩))) rfl (by rw [hFs13]; rfl)
              exact DoesT_pure (r_loadAgg (vs := [(I6 x.kind), (.slice xsa x.set.length xsc), (.slice xaa x.args.length xac), (I6 x.mn), (I6 x.mx), (.bool x.neg)]) e76 agg25 siz25 rfl (hus.ext (Ext.trans E (X0.trans X)))) rfl
             refine qZ (fun S s' w' hi hN X U V H => ?_) ?_
             ·replace X := X.mono (M' := none1) (fun y _ h => by
                obtain ⟨j, hj, h⟩ := h
                exact h.elim)
              have e77 : s' 77 = (.agg #[(.int .i64 x.kind), (.slice xsa x.set.length xsc), (.slice xaa x.args.length xac), (.int .i64 x.mn), (.int .i64 x.mx), (.bool x.neg)]) := (H 7 rfl).2 77 (fun _ _ v _ => v = (.agg #[(.int .i64 x.kind), (.slice xsa x.set.length xsc), (.slice xaa x.args.length xac), (.int .i64 x.mn), (.int .i64 x.mx), (.bool x.neg)])) rfl (by rw [hFs13]; rfl)
              exact DoesT_callE (r_callF (vs := [(.agg (R6 x xsa xsc xaa xac)), (I6 0)]) Tryz.func18 nm18 bd18 (lst2 e77 rfl)) (ih x hxm 0 (by decide) _ _ (hL.ext (Ext.trans E (X0.trans X))) (ReAt.ext (Ext.trans E (X0.trans X)) x hxt0))
             refine qZ (fun S s' w' hi hN X U V H => ?_) ?_
             ·replace X := X.mono (M' := none1) (fun y _ h => by
                obtain ⟨j, hj, h⟩ := h
                exact h.elim)
              have e73 : s' 73 = (.string (bS ([40, 35] ++ itoa t.mn))) := (H 3 rfl).2 73 (fun _ _ v _ => v = (.string (bS ([40, 35] ++ itoa t.mn)))) rfl (by rw [hFs13]; rfl)
              have e78 : s' 78 = (.string (bS (txtA 0 x))) := (H 8 rfl).2 78 (fun _ _ v _ => v = (.string (bS (txtA 0 x)))) rfl (by rw [hFs13]; rfl)
              exact DoesT_pure (r_bSAdd (n := [40, 35] ++ itoa t.mn ++ txtA 0 x) e73 e78 rfl (by have := itoa_len hmm.1.1 (by omega); simp only [List.length_append, List.length_cons, List.length_nil]; omega)) rfl
             refine qZ (fun S s' w' hi hN X U V H => ?_) ?_
             ·replace X := X.mono (M' := none1) (fun y _ h => by
                obtain ⟨j, hj, h⟩ := h
                exact h.elim)
              have e79 : s' 79 = (.string (bS ([40, 35] ++ itoa t.mn ++ txtA 0 x))) := (H 9 rfl).2 79 (fun _ _ v _ => v = (.string (bS ([40, 35] ++ itoa t.mn ++ txtA 0 x)))) rfl (by rw [hFs13]; rfl)
              exact DoesT_pure (r_bSAdd (n := [40, 35] ++ itoa t.mn ++ txtA 0 x ++ [41]) e79 rfl rfl (by have := itoa_len hmm.1.1 (by omega); simp only [List.length_append, List.length_cons, List.length_nil]; omega)) rfl
             refine DagStepsS.tail ?_
             exact DagStepsS.nil
            ·intro s' wd13 w13 X0 X13 U H
             replace X13 := X13.mono (M' := none1) (fun y _ h => by
               obtain ⟨j, hj, h⟩ := h
               exact h.elim)
             have e80 : s' 80 = (.string (bS ([40, 35] ++ itoa t.mn ++ txtA 0 x ++ [41]))) := H 10 rfl 80 (fun _ _ v _ => v = (.string (bS ([40, 35] ++ itoa t.mn ++ txtA 0 x ++ [41])))) rfl (by rw [hFs13]; rfl)
             obtain ⟨j13, rfl⟩ := Fits.out (σ := s') (l := [(80, (.string (bS ([40, 35] ++ itoa t.mn ++ txtA 0 x ++ [41]))))]) ⟨e80, trivial⟩
             clear U H
             replace Br := (X0.trans X13).keep Br
             replace X13 := X0.trans X13
             replace E := E.ext X13
             refine qA (.string (bS ([40, 35] ++ itoa t.mn ++ txtA 0 x ++ [41]))) rfl ?_
             refine WpL_nil (thn_normal (Wp_ret (inB_ret (thn_ret ?_))))
             refine fin_tmp Tryz.results18 (v := (.string (bS ([40, 35] ++ itoa t.mn ++ txtA 0 x ++ [41])))) rfl ?_
             exact ⟨by rw [hge, heq, if_pos k9, txts_one hxa], E⟩
           ·have kk9 := k9
            replace k9 := of_decide_eq_false k9
            rw [if_neg k9] at heq
            refine Wp_skip (inB_normal (thn_normal (Wp_seq (Wp_seq_region ?_))))
            refine qF br 0 5 rfl Tryz.underlying25 rfl siz4 rfl ?_
            refine qV (r_load (v := (.bool t.neg)) rfl flat4 (Br.cell rfl)) ?_
            refine WpL_nil ?_
            refine Wp_cond (b := t.neg) rfl (fun kn => ?_) (fun kn => ?_)
            ·have kkn := kn
             have hl1 := okRe_one hok (by omega)
             obtain ⟨x, hxa⟩ : ∃ x, t.args = [x] := List.length_eq_one_iff.1 hl1
             have hx : t.args[0]? = some x := by rw [hxa]; rfl
             obtain ⟨b, o, rfl, hres⟩ := args_at hargs (by omega)
             obtain ⟨us, hus, hxt⟩ := hres.get hx
             have hxt0 := hxt
             obtain ⟨xsa, xsc, xaa, xac, rfl, _, _, _⟩ := hxt.form
             have hxs := size_one hxa
             have hxo := okRes_get (okRe_args hok) hx
             have hxl := txtA_len (a := 0) hxo
             have hxm := List.mem_of_getElem? hx
             refine Wp_seq_region ?_
             refine qF br 0 2 rfl Tryz.underlying25 rfl siz23 rfl ?_
             refine qV (r_load (v := (.slice (some ⟨b, o, none⟩) t.args.length ac)) rfl flat23 (Br.cell rfl)) ?_
             refine qV (r_indexSlice (b := b) (o := o) (len := t.args.length) (cap := ac) (i := 0) (o' := o + 0 * 6) rfl rfl rfl Tryz.underlying23 siz25 (by omega) (by omega)) ?_
             refine qV (r_loadAgg (vs := [(I6 x.kind), (.slice xsa x.set.length xsc), (.slice xaa x.args.length xac), (I6 x.mn), (I6 x.mx), (.bool x.neg)]) rfl agg25 siz25 rfl (hus.ext E)) ?_
             refine WpL_enter rfl rfl (by decide) (r_callF (vs := [(.agg (R6 x xsa xsc xaa xac)), (I6 0)]) Tryz.func18 nm18 bd18 rfl) (ih x hxm 0 (by decide) _ _ (hL.ext E) (ReAt.ext E x hxt0)) ?_
             rintro _ w9 ⟨rfl, X9⟩
             replace Br := X9.keep Br
             replace E := E.ext X9
             refine qV (r_bSAdd (l := [40, 33]) (m := txtA 0 x) rfl rfl rfl (by simp only [List.length_append, List.length_cons, List.length_nil]; omega)) ?_
             refine qV (r_bSAdd (l := [40, 33] ++ txtA 0 x) (m := [41]) rfl rfl rfl (by simp only [List.length_append, List.length_cons, List.length_nil]; omega)) ?_
             refine qA (.string (bS ([40, 33] ++ txtA 0 x ++ [41]))) rfl ?_
             refine WpL_nil (Wp_ret (thn_ret ?_))
             refine fin_tmp Tryz.results18 (v := (.string (bS ([40, 33] ++ txtA 0 x ++ [41])))) rfl ?_
             exact ⟨by rw [hge, heq, if_pos kn, txts_one hxa], E⟩
            ·have kkn := kn
             have hl1 := okRe_one hok (by omega)
             obtain ⟨x, hxa⟩ : ∃ x, t.args = [x] := List.length_eq_one_iff.1 hl1
             have hx : t.args[0]? = some x := by rw [hxa]; rfl
             obtain ⟨b, o, rfl, hres⟩ := args_at hargs (by omega)
             obtain ⟨us, hus, hxt⟩ := hres.get hx
             have hxt0 := hxt
             obtain ⟨xsa, xsc, xaa, xac, rfl, _, _, _⟩ := hxt.form
             have hxs := size_one hxa
             have hxo := okRes_get (okRe_args hok) hx
             have hxl := txtA_len (a := 0) hxo
             have hxm := List.mem_of_getElem? hx
             refine Wp_skip (thn_normal (Wp_seq_region ?_))
             refine qF br 0 2 rfl Tryz.underlying25 rfl siz23 rfl ?_
             refine qV (r_load (v := (.slice (some ⟨b, o, none⟩) t.args.length ac)) rfl flat23 (Br.cell rfl)) ?_
             refine qV (r_indexSlice (b := b) (o := o) (len := t.args.length) (cap := ac) (i := 0) (o' := o + 0 * 6) rfl rfl rfl Tryz.underlying23 siz25 (by omega) (by omega)) ?_
             refine qV (r_loadAgg (vs := [(I6 x.kind), (.slice xsa x.set.length xsc), (.slice xaa x.args.length xac), (I6 x.mn), (I6 x.mx), (.bool x.neg)]) rfl agg25 siz25 rfl (hus.ext E)) ?_
             refine WpL_enter rfl rfl (by decide) (r_callF (vs := [(.agg (R6 x xsa xsc xaa xac)), (I6 0)]) Tryz.func18 nm18 bd18 rfl) (ih x hxm 0 (by decide) _ _ (hL.ext E) (ReAt.ext E x hxt0)) ?_
             rintro _ w9 ⟨rfl, X9⟩
             replace Br := X9.keep Br
             replace E := E.ext X9
             refine qV (r_bSAdd (l := [40, 61]) (m := txtA 0 x) rfl rfl rfl (by simp only [List.length_append, List.length_cons, List.length_nil]; omega)) ?_
             refine qV (r_bSAdd (l := [40, 61] ++ txtA 0 x) (m := [41]) rfl rfl rfl (by simp only [List.length_append, List.length_cons, List.length_nil]; omega)) ?_
             refine qA (.string (bS ([40, 61] ++ txtA 0 x ++ [41]))) rfl ?_
             refine WpL_nil (Wp_ret ?_)
             refine fin_tmp Tryz.results18 (v := (.string (bS ([40, 61] ++ txtA 0 x ++ [41])))) rfl ?_
             exact ⟨by rw [hge, heq, if_neg (by rw [kn]; decide), txts_one hxa], E⟩
theorem rtext_c : ∀ (n : Nat) (t : Re), t.size ≤ n → n ≤ 100000 → okRe t → ∀ a, a ≤ 4 → TextOk a t := by
  intro n
  induction n with
  | zero => intro t hn; have := t.size_pos; omega
  | succ n ih =>
  intro t hn hl hok
  have hih : ∀ x ∈ t.args, ∀ a, a ≤ 4 → TextOk a x := fun x hx a ha => by
    obtain ⟨i, hi⟩ := List.getElem?_of_mem hx
    have := Re.size_arg hi
    exact ih x (by omega) (by omega) (okRes_get (okRe_args hok) hi) a ha
  have h0 : TextOk 0 t := text_body t hok (by omega) hih 0 (by decide) fun h => absurd h (Nat.not_lt_zero _)
  exact fun a ha => text_body t hok (by omega) hih a ha fun _ => h0
/-- What Print returns. -/
def prtV (t : Re) : Value := if fitsE t 40 ≠ 0 then .tuple #[.string (bS []), .int .i64 (fitsE t 40)] else if 4000 < (txt t).length then .tuple #[.string (bS []), .int .i64 2] else .tuple #[.string (bS (txt t)), .int .i64 0]
theorem print_c (w0 : World) (hL : Lay w0) (t : Re) (vs : List Value) (ht : ReAt w0 t vs) : Ret Tryz.prog 7 #[.agg vs.toArray] w0 fun r w => r = prtV t ∧ Ext w0 w := by
 have ht0 := ht
 obtain ⟨sa, sc, aa, ac, rfl, hset, hlen, hargs⟩ := ht.form
 refine Ret_of Tryz.func7 rfl Tryz.ntmps7 (Nat.le_of_ble_eq_true rfl) ?_
 have E : Chg none1 w0 w0 := Chg.refl _ _
 refine Wp_seq_region ?_
 refine s_box (v := (.agg (R6 t sa sc aa ac))) (c := (R6 t sa sc aa ac)) (by decide) rfl rfl ?_
 intro b1 w1 N1
 have F1 := N1.ge E
 replace E := E.ext N1.ext
 have B1 := N1.blk
 refine qA (.string (ByteArray.mk #[])) rfl ?_
 refine qA (I6 0) rfl ?_
 refine WpL_nil (Wp_seq (Wp_seq_region ?_))
 refine qV (r_loadAgg (vs := [(I6 t.kind), (.slice sa t.set.length sc), (.slice aa t.args.length ac), (I6 t.mn), (I6 t.mx), (.bool t.neg)]) rfl agg25 siz25 rfl (B1.cells rfl)) ?_
 refine WpL_enter rfl rfl (by decide) (r_callF (vs := [(.agg (R6 t sa sc aa ac))]) Tryz.func17 nm17 bd17 rfl) (check_c _ t _ (ReAt.ext E t ht0)) ?_
 rintro _ w9 ⟨rfl, X9⟩
 replace B1 := X9.keep B1
 replace E := E.ext X9
 refine qA (I6 (fitsE t 40)) rfl ?_
 refine WpL_nil (Wp_seq_region ?_)
 refine qM (I6 (fitsE t 40)) rfl ?_
 refine qV (r_neq (k := .i64) (a := fitsE t 40) (b := 0) rfl rfl) ?_
 refine WpL_nil ?_
 refine Wp_cond (b := decide ((fitsE t 40 : Int) ≠ 0)) rfl (fun hf => ?_) (fun hf => ?_)
 ·have khf := hf
  replace hf := of_decide_eq_true hf
  refine Wp_seq_region ?_
  refine qM (I6 (fitsE t 40)) rfl ?_
  refine qA (.string (ByteArray.mk #[])) rfl ?_
  refine qA (I6 (fitsE t 40)) rfl ?_
  refine WpL_nil (Wp_ret (thn_ret ?_))
  refine fin_tmp2 Tryz.results7 (v := (.string (ByteArray.mk #[]))) (v' := (.int .i64 (fitsE t 40))) rfl rfl ?_
  exact ⟨by unfold prtV; rw [if_pos hf]; rfl, E⟩
 ·have khf := hf
  replace hf := of_decide_eq_false hf
  have hf0 : fitsE t 40 = 0 := by simpa using hf
  have hft := (fitsE_zero (by decide) (by decide)).1 hf0
  refine Wp_skip (thn_normal (Wp_seq_region ?_))
  refine qV (r_loadAgg (vs := [(I6 t.kind), (.slice sa t.set.length sc), (.slice aa t.args.length ac), (I6 t.mn), (I6 t.mx), (.bool t.neg)]) rfl agg25 siz25 rfl (B1.cells rfl)) ?_
  refine WpL_enter rfl rfl (by decide) (r_callF (vs := [(.agg (R6 t sa sc aa ac)), (I6 0)]) Tryz.func18 nm18 bd18 rfl) (rtext_c t.size t (Nat.le_refl _) (by omega) hft.1 0 (by decide) _ _ (hL.ext E) (ReAt.ext E t ht0)) ?_
  rintro _ w19 ⟨rfl, X19⟩
  replace B1 := X19.keep B1
  replace E := E.ext X19
  have h00 : txtA 0 t = txt t := txtA_ge (by omega)
  refine qA (.string (bS (txtA 0 t))) rfl ?_
  refine WpL_nil (Wp_seq (Wp_seq_region ?_))
  refine qM (.string (bS (txtA 0 t))) rfl ?_
  refine qV ((r_lenString Tryz.underlying9 rfl).trans (by rw [bS_size])) ?_
  refine qV (r_gtr (k := .i64) (a := (((txtA 0 t).length : Nat) : Int)) (b := 4000) rfl rfl) ?_
  refine WpL_nil ?_
  refine Wp_cond (b := decide ((4000 : Int) < (((txtA 0 t).length : Nat) : Int))) rfl (fun hl => ?_) (fun hl => ?_)
  ·have khl := hl
   replace hl := of_decide_eq_true hl
   refine Wp_seq_region ?_
   refine qA (.string (ByteArray.mk #[])) rfl ?_
   refine qA (I6 2) rfl ?_
   refine WpL_nil (Wp_ret (thn_ret ?_))
   refine fin_tmp2 Tryz.results7 (v := (.string (ByteArray.mk #[]))) (v' := (.int .i64 2)) rfl rfl ?_
   exact ⟨by unfold prtV; rw [if_neg (by simpa using hf), if_pos (by rw [h00] at hl; omega)]; rfl, E⟩
  ·have khl := hl
   replace hl := of_decide_eq_false hl
   refine Wp_skip (thn_normal (Wp_seq_region ?_))
   refine qM (.string (bS (txtA 0 t))) rfl ?_
   refine qA (.string (bS (txtA 0 t))) rfl ?_
   refine qA (I6 0) rfl ?_
   refine WpL_nil (Wp_ret ?_)
   refine fin_tmp2 Tryz.results7 (v := (.string (bS (txtA 0 t)))) (v' := (.int .i64 0)) rfl rfl ?_
   exact ⟨by unfold prtV; rw [if_neg (by simpa using hf), if_neg (by rw [h00] at hl; omega), h00], E⟩
end Go.Proofs
namespace Go.Proofs
open Go Go.Eng Go.Sort Go.Lib
set_option linter.unusedSectionVars false
variable [Drw]
set_option maxRecDepth 100000
theorem prt_plus : prtV (oneT 43) = .tuple #[.string (bS [92, 43]), .int .i64 0] := by
 have h1 : fitsE (oneT 43) 40 = 0 := by decide +kernel
 have h2 : txt (oneT 43) = [92, 43] := by rw [txt_2 rfl]; decide +kernel
 unfold prtV
 rw [if_neg (by rw [h1]; decide), h2, if_neg (by decide)]
theorem print_plus (w0 : World) (hL : Lay w0) (vs : List Value) (ht : ReAt w0 (oneT 43) vs) : Ret Tryz.prog 7 #[.agg vs.toArray] w0 fun r w => r = .tuple #[.string (bS [92, 43]), .int .i64 0] ∧ Ext w0 w :=
 (print_c w0 hL (oneT 43) vs ht).mono fun _ _ hh => ⟨hh.1.trans prt_plus, hh.2⟩
theorem prt_form (t : Re) : ∃ s e, prtV t = .tuple #[.string (bS s), .int .i64 e] ∧ ((e ≠ 0 ∧ s = []) ∨ (e = 0 ∧ s = txt t ∧ fitsE t 40 = 0 ∧ (txt t).length ≤ 4000)) := by
 unfold prtV
 split
 ·rename_i h; exact ⟨[], fitsE t 40, rfl, .inl ⟨h, rfl⟩⟩
 ·rename_i h
  split
  ·exact ⟨[], 2, rfl, .inl ⟨by decide, rfl⟩⟩
  ·rename_i h2; exact ⟨txt t, 0, rfl, .inr ⟨rfl, rfl, Classical.not_not.1 h, by omega⟩⟩
theorem printF_c (w0 : World) (hL : Lay w0) (t : Re) (vs : List Value) (ht : ReAt w0 t vs) (s : Bys) (e : Int) (h : prtV t = .tuple #[.string (bS s), .int .i64 e]) : Ret Tryz.prog 7 #[.agg vs.toArray] w0 fun r w => r = .tuple #[.string (bS s), .int .i64 e] ∧ Ext w0 w :=
 (print_c w0 hL t vs ht).mono fun _ _ hh => ⟨hh.1.trans h, hh.2⟩
theorem rtback_c (w0 : World) (hL : Lay w0) (t : Re) (vs : List Value) (ht : ReAt w0 t vs) : Ret Tryz.prog 4 #[.agg vs.toArray] w0 fun r w => r = .bool true ∧ Ext w0 w := by
 have ht0 := ht
 obtain ⟨s, e, hp, hse⟩ := prt_form t
 obtain ⟨sa, sc, aa, ac, rfl, hset, hlen, hargs⟩ := ht.form
 refine Ret_of Tryz.func4 rfl Tryz.ntmps4 (Nat.le_of_ble_eq_true rfl) ?_
 have E : Chg none1 w0 w0 := Chg.refl _ _
 refine Wp_seq_region ?_
 refine s_box (v := (.agg (R6 t sa sc aa ac))) (c := (R6 t sa sc aa ac)) (by decide) rfl rfl ?_
 intro br wr Nr
 have Fr := Nr.ge E
 replace E := E.ext Nr.ext
 have Br := Nr.blk
 refine qA (.bool false) rfl ?_
 refine WpL_nil (Wp_seq (Wp_seq_region ?_))
 refine WpL_enter rfl rfl (by decide) (r_callF (vs := [(I6 43)]) Tryz.func11 nm11 bd11 rfl) (one_c _ 43) ?_
 rintro _ w9 ⟨b9, rfl, hsp, X9⟩
 replace Br := X9.keep Br
 replace E := E.ext X9
 refine WpL_enter rfl rfl (by decide) (r_callF (vs := [(.agg #[(I6 2), (.slice (some ⟨b9, 0, none⟩) 1 1), (.slice none 0 0), (I6 0), (I6 0), (.bool false)])]) Tryz.func7 nm7 bd7 rfl) (print_plus _ (hL.ext E) _ (one_at hsp)) ?_
 rintro _ w19 ⟨rfl, X19⟩
 replace Br := X19.keep Br
 replace E := E.ext X19
 refine qM (.tuple #[(.string (bS [92, 43])), (I6 0)]) rfl ?_
 refine qV (r_extract (vs := #[(.string (bS [92, 43])), (I6 0)]) (v := (.string (bS [92, 43]))) rfl rfl) ?_
 refine qV (r_extract (vs := #[(.string (bS [92, 43])), (I6 0)]) (v := (I6 0)) rfl rfl) ?_
 refine qA (.string (bS [92, 43])) rfl ?_
 refine qA (I6 0) rfl ?_
 refine WpL_nil (Wp_seq_region ?_)
 refine qM (I6 0) rfl ?_
 refine qV (r_neq (k := .i64) (a := 0) (b := 0) rfl rfl) ?_
 refine qM (.bool false) rfl ?_
 refine WpL_guard_yes (oj := _) rfl rfl (by decide) rfl ?_
 refine qM (.string (bS [92, 43])) rfl ?_
 refine WpL_guard_yes (oj := _) rfl rfl (by decide) rfl ?_
 refine WpL_val (v := (.bool false)) rfl rfl (by decide) ((r_neqS (l := [92, 43]) (m := [92, 43]) rfl rfl).trans (by rfl)) ?_
 refine qV (r_pick (b := false) (v := (.bool false)) rfl rfl) ?_
 refine WpL_nil ?_
 refine Wp_cond_false rfl ?_
 refine Wp_skip (thn_normal (Wp_seq_region ?_))
 refine qV (r_loadAgg (vs := [(I6 t.kind), (.slice sa t.set.length sc), (.slice aa t.args.length ac), (I6 t.mn), (I6 t.mx), (.bool t.neg)]) rfl agg25 siz25 rfl (Br.cells rfl)) ?_
 refine WpL_enter rfl rfl (by decide) (r_callF (vs := [(.agg (R6 t sa sc aa ac))]) Tryz.func7 nm7 bd7 rfl) (printF_c _ (hL.ext E) t _ (ReAt.ext E t ht0) s e hp) ?_
 rintro _ w29 ⟨rfl, X29⟩
 replace Br := X29.keep Br
 replace E := E.ext X29
 refine qM (.tuple #[(.string (bS s)), (I6 e)]) rfl ?_
 refine qV (r_extract (vs := #[(.string (bS s)), (I6 e)]) (v := (.string (bS s))) rfl rfl) ?_
 refine qV (r_extract (vs := #[(.string (bS s)), (I6 e)]) (v := (I6 e)) rfl rfl) ?_
 refine qA (.string (bS s)) rfl ?_
 refine qA (I6 e) rfl ?_
 refine WpL_nil (Wp_seq (Wp_seq_region ?_))
 refine qM (I6 e) rfl ?_
 refine qV (r_neq (k := .i64) (a := e) (b := 0) rfl rfl) ?_
 refine WpL_nil ?_
 refine Wp_cond (b := decide ((e : Int) ≠ 0)) rfl (fun he => ?_) (fun he => ?_)
 ·have khe := he
  replace he := of_decide_eq_true he
  have hs0 : s = [] := by rcases hse with h | h; exact h.2; exact absurd h.1 he
  refine Wp_seq_region ?_
  refine qM (.string (bS s)) rfl ?_
  refine WpL_val (v := (.bool true)) rfl rfl (by decide) ((r_eqlS (l := s) (m := []) rfl rfl).trans (by rw [hs0]; rfl)) ?_
  refine qA (.bool true) rfl ?_
  refine WpL_nil (Wp_ret (thn_ret ?_))
  refine fin_tmp Tryz.results4 (v := (.bool true)) rfl ?_
  exact ⟨rfl, E⟩
 ·have khe := he
  replace he := of_decide_eq_false he
  obtain ⟨_, hst, hf, hl⟩ := hse.resolve_left (fun h => h.1 (by omega))
  obtain ⟨hok, hsz⟩ := (fitsE_zero (t := t) (most := 40) (by decide) (by decide)).1 hf
  refine Wp_skip (thn_normal (Wp_seq_region ?_))
  refine qM (.string (bS s)) rfl ?_
  refine WpL_enter rfl rfl (by decide) (r_callF (vs := [(.string (bS s))]) Tryz.func12 nm12 bd12 rfl) (read_c _ s 901 t (by rw [hst]; exact read_back hok (by omega)) (by rw [hst]; exact hl) (by rw [hst]; exact valid_txt hok) hf (hL.ext E)) ?_
  rintro _ w39 ⟨⟨ka, kc, la, lc, rfl, hR⟩, X39⟩
  replace Br := X39.keep Br
  replace E := E.ext X39
  have hat := ReIn.at t hR
  refine qM (.tuple #[(.agg (R6 t ka kc la lc)), (I6 0)]) rfl ?_
  refine qV (r_extract (vs := #[(.agg (R6 t ka kc la lc)), (I6 0)]) (v := (.agg (R6 t ka kc la lc))) rfl rfl) ?_
  refine qV (r_extract (vs := #[(.agg (R6 t ka kc la lc)), (I6 0)]) (v := (I6 0)) rfl rfl) ?_
  refine s_allocStore (v := (.agg (R6 t ka kc la lc))) (c := (R6 t ka kc la lc)) (n := 6) (by decide) zer25 rfl siz25 rfl rfl rfl (by simp [Value.oneCell']) ?_
  intro bx wx Nx
  have Fx := Nx.ge E
  have Ox_br := Nx.lt Br
  replace Br := Nx.keep Br
  replace hat := ReAt.ext Nx.ext t hat
  replace E := E.ext Nx.ext
  have Bx := Nx.blk
  refine qA (I6 0) rfl ?_
  refine WpL_nil (Wp_seq_region ?_)
  refine qM (I6 0) rfl ?_
  refine qV (r_eql (k := .i64) (a := 0) (b := 0) rfl rfl) ?_
  refine qM (.bool true) rfl ?_
  refine WpL_guard_yes (oj := _) rfl rfl (by decide) rfl ?_
  refine qV (r_loadAgg (vs := [(I6 t.kind), (.slice ka t.set.length kc), (.slice la t.args.length lc), (I6 t.mn), (I6 t.mx), (.bool t.neg)]) rfl agg25 siz25 rfl (Bx.cells rfl)) ?_
  refine WpL_guard_yes (oj := _) rfl rfl (by decide) rfl ?_
  refine qV (r_loadAgg (vs := [(I6 t.kind), (.slice sa t.set.length sc), (.slice aa t.args.length ac), (I6 t.mn), (I6 t.mx), (.bool t.neg)]) rfl agg25 siz25 rfl (Br.cells rfl)) ?_
  refine WpL_guard_yes (oj := _) rfl rfl (by decide) rfl ?_
  refine WpL_enter rfl rfl (by decide) (r_callF (vs := [(.agg (R6 t ka kc la lc)), (.agg (R6 t sa sc aa ac))]) Tryz.func13 nm13 bd13 rfl) (resame_c _ t t _ _ _ (Nat.le_refl _) hat (ReAt.ext E t ht0)) ?_
  rintro _ w49 ⟨rfl, X49⟩
  replace Br := X49.keep Br
  replace Bx := X49.keep Bx
  replace hat := ReAt.ext X49 t hat
  replace E := E.ext X49
  refine qV (r_pick (b := true) (v := (.bool (sameT t t))) rfl rfl) ?_
  refine qA (.bool (sameT t t)) rfl ?_
  refine WpL_nil (Wp_ret ?_)
  refine fin_tmp Tryz.results4 (v := (.bool (sameT t t))) rfl ?_
  exact ⟨by rw [(sameT_iff t t).2 rfl], E⟩
end Go.Proofs
namespace Go.Proofs
open Go Go.Eng
set_option linter.unusedSectionVars false
variable [Drw]
set_option maxRecDepth 100000
section
variable {H : Type} {enc : TypeId × Value → H} {P : Program} {w : World} {base : Nat} {spare : Nat → Bool} {held : Bool}
theorem cells_at {a : Addr} {k : Nat} {cs : List Value} (hk : 0 < k) (h : w.cells? base a k = some cs) : ∃ b o, a = ⟨b, o, none⟩ ∧ cs.length = k ∧ CellsAt w b o cs := by
  obtain ⟨h1, h2, h3⟩ := World.cells?_some h
  obtain ⟨b, o, s⟩ := a
  have hlen : cs.length = k := by first | exact h2 | exact h1 | omega
  have h0 := h3 0 (by omega)
  have hs : s = none := by
    cases s with
    | none => rfl
    | some s =>
      exfalso
      have hc : ∃ v, w.cell? ⟨b, o, some s⟩ = some v := ⟨_, by simpa [Addr.add, List.getElem?_eq_getElem (show 0 < cs.length by omega)] using h0⟩
      obtain ⟨v, hv⟩ := hc
      simp [World.cell?] at hv
      cases hh : w.heap[b]? <;> simp [hh] at hv
      split at hv <;> simp at hv
  subst hs
  refine ⟨b, o, rfl, hlen, fun i v hv => ?_⟩
  have := h3 i (by have := lt_of_get hv; omega)
  rw [Addr.add_lit] at this
  rw [this, hv]
theorem rows_map {α : Type} {f : α → List Value} : ∀ {rows : List (List Value)}, (∀ r ∈ rows, ∃ y, r = f y) → ∃ l : List α, rows = l.map f
  | [], _ => ⟨[], rfl⟩
  | r :: rows, h => by
    obtain ⟨y, hy⟩ := h r (by simp)
    obtain ⟨l, hl⟩ := rows_map (rows := rows) (f := f) fun r' hr' => h r' (List.mem_cons_of_mem _ hr')
    exact ⟨y :: l, by rw [hy, hl]; rfl⟩
/-- A slice, if each of its elements is read. -/
theorem open_rows {t e k fuel : Nat} {cs : List Value} {x : DataW H × List MemPlace} {R : List Value → Prop} (ht : P.underlying t = some (.slice e)) (hc : P.cellsOf e = k) (hk : 0 < k)
    (h : DataW.trod enc P w base spare held fuel t cs = some x) (hR : ∀ n cs' y, n < fuel → DataW.trod enc P w base spare held n e cs' = some y → R cs') :
    ∃ a rows cap, cs = [.slice a rows.length cap] ∧ SlAt w k (.slice a rows.length cap) rows ∧ (∀ r ∈ rows, R r ∧ r.length = k) ∧ rows.length ≤ cap ∧ cap ≤ maxLen := by
  rcases DataW.trod_slice ht h with ⟨rfl, _⟩ | ⟨a, len, cap, elems, rest, n, rfl, rfl, _, hb, hl, hm, hlen, hel, _, _⟩
  · exact ⟨none, [], 0, rfl, SlAt.nil _ _ _ _, by simp, by simp, by simp [maxLen]⟩
  · have each : ∀ i, i < len → ∃ cs', w.cells? base (a.add (i * k)) k = some cs' ∧ R cs' := by
      intro i hi
      have := hel i hi
      rw [List.getElem?_eq_getElem (by omega), hc, Option.bind_eq_some_iff] at this
      obtain ⟨cs', h1, h2⟩ := this
      exact ⟨cs', h1, hR n cs' _ (by omega) h2⟩
    have fam : ∀ m, m ≤ len → ∃ rows : List (List Value), rows.length = m ∧ ∀ i r, rows[i]? = some r → w.cells? base (a.add (i * k)) k = some r ∧ R r := by
      intro m
      induction m with
      | zero => intro _; exact ⟨[], rfl, by simp⟩
      | succ m ih =>
        intro hm
        obtain ⟨rows, h1, h2⟩ := ih (by omega)
        obtain ⟨cs', h3, h4⟩ := each m (by omega)
        refine ⟨rows ++ [cs'], by simp [h1], fun i r hr => ?_⟩
        rcases Nat.lt_or_ge i rows.length with hi | hi
        · rw [List.getElem?_append_left hi] at hr; exact h2 i r hr
        · rw [List.getElem?_append_right hi] at hr
          have hi' := lt_of_get hr
          simp at hi'
          obtain rfl : i = m := by omega
          simp [h1] at hr
          subst hr
          exact ⟨h3, h4⟩
    obtain ⟨rows, hrl, hrows⟩ := fam len (Nat.le_refl _)
    have hmax : rows.length ≤ 9223372036854775807 := by simp only [maxLen] at hm; omega
    refine ⟨some a, rows, cap, by rw [hrl], ⟨some a, cap, rfl, hmax, by omega, ?_⟩, ?_, by omega, hm⟩
    · rcases Nat.eq_zero_or_pos len with h0 | h0
      · left; exact List.eq_nil_of_length_eq_zero (by omega)
      · right
        obtain ⟨r0, hr0⟩ := get_of_lt (l := rows) (i := 0) (by omega)
        have h1 := (hrows 0 r0 hr0).1
        have hz : a.add (0 * k) = a := by simp [Addr.add]
        rw [hz] at h1
        obtain ⟨b, o, rfl, _, _⟩ := cells_at hk h1
        refine ⟨b, o, rfl, fun i r hr => ?_⟩
        have h2 := (hrows i r hr).1
        rw [Addr.add_lit] at h2
        obtain ⟨b', o', he, _, h3⟩ := cells_at hk h2
        cases he
        exact h3
    · intro r hr
      obtain ⟨i, hi⟩ := List.mem_iff_getElem?.1 hr
      have h2 := hrows i r hi
      obtain ⟨_, _, _, h3, _⟩ := cells_at hk h2.1
      exact ⟨h2.2, h3⟩
end
section
variable {H : Type} {enc : TypeId × Value → H} {w : World} {base : Nat} {spare : Nat → Bool} {held : Bool}
theorem cells62 : Tryz.prog.cellsOf 62 = 2 := by kernel_rfl
theorem cells25 : Tryz.prog.cellsOf 25 = 6 := by kernel_rfl
theorem cells3 : Tryz.prog.cellsOf 3 = 1 := by kernel_rfl
theorem cells4 : Tryz.prog.cellsOf 4 = 1 := by kernel_rfl
theorem cells23 : Tryz.prog.cellsOf 23 = 1 := by kernel_rfl
theorem cells22 : Tryz.prog.cellsOf 22 = 1 := by kernel_rfl
theorem open_span {fuel : Nat} {cs : List Value} {x : DataW H × List MemPlace} (h : DataW.trod enc Tryz.prog w base spare held fuel 62 cs = some x) : ∃ s : Int × Int, cs = spanV s := by
  obtain ⟨xs, n, rfl, _, hl, hx, hf⟩ := DataW.trod_struct Tryz.underlying62 h
  rw [cells62] at hl
  match cs, hl with
  | [c0, c1], _ =>
    have h0 : DataW.trod enc Tryz.prog w base spare held n 3 (([c0, c1].drop 0).take (Tryz.prog.cellsOf 3)) = xs[0]? := hf 0 _ rfl
    have h1 : DataW.trod enc Tryz.prog w base spare held n 3 (([c0, c1].drop 1).take (Tryz.prog.cellsOf 3)) = xs[1]? := hf 1 _ rfl
    simp only [cells3, List.drop, List.take] at h0 h1
    rw [List.getElem?_eq_getElem (by rw [hx]; decide)] at h0 h1
    obtain ⟨a, e0, _⟩ := DataW.trod_int Tryz.underlying3 h0
    obtain ⟨b, e1, _⟩ := DataW.trod_int Tryz.underlying3 h1
    simp at e0 e1
    subst e0; subst e1
    exact ⟨(a, b), rfl⟩
theorem open_spans {fuel : Nat} {cs : List Value} {x : DataW H × List MemPlace} (h : DataW.trod enc Tryz.prog w base spare held fuel 22 cs = some x) : ∃ a l cap, cs = [.slice a l.length cap] ∧ SpansAt w (.slice a l.length cap) l := by
 obtain ⟨a, rows, cap, rfl, h1, h2, _⟩ := open_rows (R := fun cs => ∃ s : Int × Int, cs = spanV s) Tryz.underlying22 cells62 (by decide) h (fun n cs' y _ hy => open_span hy)
 obtain ⟨l, rfl⟩ := rows_map fun r hr => (h2 r hr).1
 exact ⟨a, l, cap, by simp, by simpa [SpansAt] using h1⟩
end
end Go.Proofs
namespace Go.Proofs
open Go Go.Eng
set_option linter.unusedSectionVars false
variable [Drw]
set_option maxRecDepth 100000
section
variable {H : Type} {enc : TypeId × Value → H} {P : Program} {w : World} {base : Nat} {spare : Nat → Bool} {held : Bool}
/-- A slice, if each of its elements is read: with what was read. -/
theorem open_rowsB {t e k fuel : Nat} {cs : List Value} {x : DataW H × List MemPlace} {R : List Value → DataW H → Prop} (ht : P.underlying t = some (.slice e)) (hc : P.cellsOf e = k) (hk : 0 < k)
    (h : DataW.trod enc P w base spare held fuel t cs = some x) (hR : ∀ n cs' y, n < fuel → DataW.trod enc P w base spare held n e cs' = some y → R cs' y.1) :
    ∃ a rows cap, cs = [.slice a rows.length cap] ∧ SlAt w k (.slice a rows.length cap) rows ∧ (∀ r ∈ rows, r.length = k) ∧ rows.length ≤ cap ∧ cap ≤ maxLen ∧
      (rows = [] ∨ ∃ ds sp, x.1 = .slice ds sp ∧ ds.length = rows.length ∧ ∀ (i : Nat) r, rows[i]? = some r → ∃ d, ds[i]? = some d ∧ R r d) := by
  rcases DataW.trod_slice ht h with ⟨rfl, _⟩ | ⟨a, len, cap, elems, rest, n, rfl, rfl, rfl, hb, hl, hm, hlen, hel, _, _⟩
  · exact ⟨none, [], 0, rfl, SlAt.nil _ _ _ _, by simp, by simp, by simp [maxLen], .inl rfl⟩
  · have each : ∀ i, i < len → ∃ cs' y, w.cells? base (a.add (i * k)) k = some cs' ∧ elems[i]? = some y ∧ R cs' y.1 := by
      intro i hi
      have := hel i hi
      rw [List.getElem?_eq_getElem (by omega), hc, Option.bind_eq_some_iff] at this
      obtain ⟨cs', h1, h2⟩ := this
      exact ⟨cs', _, h1, List.getElem?_eq_getElem (by omega), hR n cs' _ (by omega) h2⟩
    have fam : ∀ m, m ≤ len → ∃ rows : List (List Value), rows.length = m ∧ ∀ (i : Nat) r, rows[i]? = some r → w.cells? base (a.add (i * k)) k = some r ∧ ∃ y, elems[i]? = some y ∧ R r y.1 := by
      intro m
      induction m with
      | zero => intro _; exact ⟨[], rfl, by simp⟩
      | succ m ih =>
        intro hm
        obtain ⟨rows, h1, h2⟩ := ih (by omega)
        obtain ⟨cs', y, h3, h4, h5⟩ := each m (by omega)
        refine ⟨rows ++ [cs'], by simp [h1], fun i r hr => ?_⟩
        rcases Nat.lt_or_ge i rows.length with hi | hi
        · rw [List.getElem?_append_left hi] at hr; exact h2 i r hr
        · rw [List.getElem?_append_right hi] at hr
          have hi' := lt_of_get hr
          simp at hi'
          obtain rfl : i = m := by omega
          simp [h1] at hr
          subst hr
          exact ⟨h3, y, h4, h5⟩
    obtain ⟨rows, hrl, hrows⟩ := fam len (Nat.le_refl _)
    have hmax : rows.length ≤ 9223372036854775807 := by simp only [maxLen] at hm; omega
    refine ⟨some a, rows, cap, by rw [hrl], ⟨some a, cap, rfl, hmax, by omega, ?_⟩, ?_, by omega, hm, .inr ⟨elems.map (·.1), rest.map (·.1), rfl, by simp; omega, fun i r hr => ?_⟩⟩
    · rcases Nat.eq_zero_or_pos len with h0 | h0
      · left; exact List.eq_nil_of_length_eq_zero (by omega)
      · right
        obtain ⟨r0, hr0⟩ := get_of_lt (l := rows) (i := 0) (by omega)
        have h1 := (hrows 0 r0 hr0).1
        have hz : a.add (0 * k) = a := by simp [Addr.add]
        rw [hz] at h1
        obtain ⟨b, o, rfl, _, _⟩ := cells_at hk h1
        refine ⟨b, o, rfl, fun i r hr => ?_⟩
        have h2 := (hrows i r hr).1
        rw [Addr.add_lit] at h2
        obtain ⟨b', o', he, _, h3⟩ := cells_at hk h2
        cases he
        exact h3
    · intro r hr
      obtain ⟨i, hi⟩ := List.mem_iff_getElem?.1 hr
      have h2 := hrows i r hi
      obtain ⟨_, _, _, h3, _⟩ := cells_at hk h2.1
      exact h3
    · obtain ⟨_, y, h4, h5⟩ := hrows i r hr
      exact ⟨y.1, by simp [h4], h5⟩
end
section
variable {H : Type} {enc : TypeId × Value → H} {w : World} {base : Nat} {spare : Nat → Bool} {held : Bool}
theorem bulk_get {l : List (DataW H)} {i : Nat} {d : DataW H} (h : l[i]? = some d) : YtgelnfllojinbaaGreatDoor.Rows.uptoBulk d ≤ YtgelnfllojinbaaGreatDoor.Rows.uptoBulkAll l := by
  induction l generalizing i with
  | nil => simp at h
  | cons x r ih =>
    simp only [YtgelnfllojinbaaGreatDoor.Rows.uptoBulkAll]
    cases i with
    | zero => simp at h; subst h; omega
    | succ i => have := ih (i := i) (by simpa using h); omega
theorem res_of_rowsB {b o : Nat} : ∀ {rows : List (List Value)} {ds : List (DataW H)}, ds.length = rows.length → (∀ (i : Nat) r, rows[i]? = some r → CellsAt w b (o + i * 6) r ∧ ∃ d, ds[i]? = some d ∧ ∃ t, ReAt w t r ∧ t.size ≤ YtgelnfllojinbaaGreatDoor.Rows.uptoBulk d) → ∃ ts : List Re, ts.length = rows.length ∧ (∀ (i : Nat) t, ts[i]? = some t → ∃ vs, CellsAt w b (o + i * 6) vs ∧ ReAt w t vs) ∧ Re.sizes ts ≤ YtgelnfllojinbaaGreatDoor.Rows.uptoBulkAll ds := by
  intro rows ds hl h
  have key : ∀ m, m ≤ rows.length → ∃ ts : List Re, ts.length = m ∧ (∀ (i : Nat) t, ts[i]? = some t → ∃ vs, CellsAt w b (o + i * 6) vs ∧ ReAt w t vs) ∧ Re.sizes ts ≤ YtgelnfllojinbaaGreatDoor.Rows.uptoBulkAll (ds.take m) := by
    intro m
    induction m with
    | zero => intro _; exact ⟨[], rfl, by simp, by simp [Re.sizes]⟩
    | succ m ih =>
      intro hm
      obtain ⟨ts, h1, h2, h3⟩ := ih (by omega)
      obtain ⟨r, hr⟩ := get_of_lt (l := rows) (i := m) (by omega)
      obtain ⟨h4, d, hd, t, h5, h6⟩ := h m r hr
      refine ⟨ts ++ [t], by simp [h1], fun i t' ht => ?_, ?_⟩
      · rcases Nat.lt_or_ge i ts.length with hi | hi
        · rw [List.getElem?_append_left hi] at ht; exact h2 i t' ht
        · rw [List.getElem?_append_right hi] at ht
          have hi' := lt_of_get ht
          simp at hi'
          obtain rfl : i = m := by omega
          simp [h1] at ht
          subst ht
          exact ⟨r, h4, h5⟩
      · have happ : ∀ (a c : List (DataW H)), YtgelnfllojinbaaGreatDoor.Rows.uptoBulkAll (a ++ c) = YtgelnfllojinbaaGreatDoor.Rows.uptoBulkAll a + YtgelnfllojinbaaGreatDoor.Rows.uptoBulkAll c := by
          intro a c
          induction a with
          | nil => simp [YtgelnfllojinbaaGreatDoor.Rows.uptoBulkAll]
          | cons y a ih2 => simp only [List.cons_append, YtgelnfllojinbaaGreatDoor.Rows.uptoBulkAll, ih2]; omega
        rw [List.take_add_one, hd, happ, Re.sizes_append]
        simp only [Option.toList_some, YtgelnfllojinbaaGreatDoor.Rows.uptoBulkAll, Re.sizes]
        omega
  obtain ⟨ts, h1, h2, h3⟩ := key rows.length (Nat.le_refl _)
  rw [← hl, List.take_length] at h3
  exact ⟨ts, h1, h2, h3⟩
theorem open_reB : ∀ (fuel : Nat) {cs : List Value} {x : DataW H × List MemPlace}, DataW.trod enc Tryz.prog w base spare held fuel 25 cs = some x → ∃ t, ReAt w t cs ∧ t.size ≤ YtgelnfllojinbaaGreatDoor.Rows.uptoBulk x.1 := by
  intro fuel
  induction fuel using Nat.strongRecOn with
  | _ fuel ih =>
  intro cs x h
  obtain ⟨xs, n, rfl, rfl, hl, hx, hf⟩ := DataW.trod_struct Tryz.underlying25 h
  rw [cells25] at hl
  match cs, hl with
  | [c0, c1, c2, c3, c4, c5], _ =>
    have h0 : DataW.trod enc Tryz.prog w base spare held n 3 (([c0, c1, c2, c3, c4, c5].drop 0).take (Tryz.prog.cellsOf 3)) = xs[0]? := hf 0 _ rfl
    have h1 : DataW.trod enc Tryz.prog w base spare held n 22 (([c0, c1, c2, c3, c4, c5].drop 1).take (Tryz.prog.cellsOf 22)) = xs[1]? := hf 1 _ rfl
    have h2 : DataW.trod enc Tryz.prog w base spare held n 23 (([c0, c1, c2, c3, c4, c5].drop 2).take (Tryz.prog.cellsOf 23)) = xs[2]? := hf 2 _ rfl
    have h3 : DataW.trod enc Tryz.prog w base spare held n 3 (([c0, c1, c2, c3, c4, c5].drop 3).take (Tryz.prog.cellsOf 3)) = xs[3]? := hf 3 _ rfl
    have h4 : DataW.trod enc Tryz.prog w base spare held n 3 (([c0, c1, c2, c3, c4, c5].drop 4).take (Tryz.prog.cellsOf 3)) = xs[4]? := hf 4 _ rfl
    have h5 : DataW.trod enc Tryz.prog w base spare held n 4 (([c0, c1, c2, c3, c4, c5].drop 5).take (Tryz.prog.cellsOf 4)) = xs[5]? := hf 5 _ rfl
    simp only [cells3, cells4, cells23, cells22, List.drop, List.take] at h0 h1 h2 h3 h4 h5
    have hlen6 : xs.length = 6 := hx
    obtain ⟨y2, hy2⟩ := get_of_lt (l := xs) (i := 2) (by omega)
    have hb2 : YtgelnfllojinbaaGreatDoor.Rows.uptoBulk y2.1 ≤ YtgelnfllojinbaaGreatDoor.Rows.uptoBulkAll (xs.map (·.1)) := bulk_get (i := 2) (by simp [hy2])
    have hbx : YtgelnfllojinbaaGreatDoor.Rows.uptoBulk (DataW.agg (xs.map (·.1))) = YtgelnfllojinbaaGreatDoor.Rows.uptoBulkAll (xs.map (·.1)) + 1 := by simp only [YtgelnfllojinbaaGreatDoor.Rows.uptoBulk]
    rw [hy2] at h2
    rw [List.getElem?_eq_getElem (by rw [hx]; decide)] at h0 h1 h3 h4 h5
    obtain ⟨k, e0, _⟩ := DataW.trod_int Tryz.underlying3 h0
    obtain ⟨mn, e3, _⟩ := DataW.trod_int Tryz.underlying3 h3
    obtain ⟨mx, e4, _⟩ := DataW.trod_int Tryz.underlying3 h4
    obtain ⟨ng, e5, _⟩ := DataW.trod_bool Tryz.underlying4 h5
    obtain ⟨sa, set, sc, e1, hs⟩ := open_spans h1
    obtain ⟨aa, rows, ac, e2, ha, hrows, hcap, hmax, hds⟩ := open_rowsB (R := fun cs d => ∃ t, ReAt w t cs ∧ t.size ≤ YtgelnfllojinbaaGreatDoor.Rows.uptoBulk d) Tryz.underlying23 cells25 (by decide) h2 (fun m cs' y hm hy => ih m (by omega) hy)
    simp at e0 e1 e2 e3 e4 e5
    subst e0; subst e1; subst e2; subst e3; subst e4; subst e5
    rcases Nat.eq_zero_or_pos rows.length with hz | hz
    · have : rows = [] := List.eq_nil_of_length_eq_zero hz
      subst this
      refine ⟨.mk k set [] mn mx ng, ReAt.of (args := []) hs ⟨by simp, by simp only [maxLen] at hmax; omega⟩ (.inl rfl), ?_⟩
      simp only [Re.size, Re.sizes]; omega
    · obtain ⟨b, o, rfl, hcells⟩ := SlAt.at ha hz
      rcases hds with rfl | ⟨ds, sp, hy, hdl, hd⟩
      · simp at hz
      obtain ⟨ts, hts, htg, hsz⟩ := res_of_rowsB (w := w) (b := b) (o := o) (rows := rows) hdl fun i r hr => ⟨hcells i r hr, hd i r hr⟩
      refine ⟨.mk k set ts mn mx ng, ?_, ?_⟩
      · rw [← hts]
        exact ReAt.of hs ⟨by omega, by simp only [maxLen] at hmax; omega⟩ (.inr ⟨b, o, rfl, ResAt.mk htg⟩)
      · rw [hy] at hb2
        simp only [YtgelnfllojinbaaGreatDoor.Rows.uptoBulk] at hb2
        simp only [Re.size]
        omega
end
end Go.Proofs
