/- Contracts and plain lemmas, part 3. -/
import Derived.Tactics
import Derived.Deep.Quiet
import Derived.Laws.AppendOwn
import Derived.KernelRfl
import Derived.Laws.Entries
import Derived.Laws.Build
import Derived.Below
import Derived.RowKit3
import Derived.StillTail
import Derived.Sort.Grow
import Derived.Deep.Draws
import Derived.Test.YtllhcafmcbibbaaChecked
import Derived.Laws.StructEq
import Derived.Laws.MakeOwn
import Derived.MapKept
import Derived.Laws.BytesArg
import Derived.Laws.CopyRow
import Derived.DeepKeys3
import Derived.OpenShut
import Derived.ChangeSlices
import Derived.Test.YtllhcafmcbibbaaZr2
namespace Go.Proofs
open Go Go.Eng
set_option maxRecDepth 100000
theorem half_shrX (x : Nat) : (((x : Nat) : Int)).fdiv (2 ^ (min (1 : Int).toNat IntKind.u64.bits)) = ((x / 2 : Nat) : Int) := by
  have : min (1 : Int).toNat IntKind.u64.bits = 1 := by decide
  rw [this, Int.fdiv_eq_ediv_of_nonneg _ (by decide)]
  omega
def upI (a k z : Nat) : Nat := if a ≤ z ∧ z < k then z + 1 else if z = k then a else z
theorem upI_zero (a z : Nat) : upI a a z = z := by
  unfold upI
  rw [if_neg (by omega)]
  split <;> omega
theorem upI_succ {a k : Nat} (h : a ≤ k) (z : Nat) : upI a k (if z = k + 1 then k else if z = k then k + 1 else z) = upI a (k + 1) z := by
  unfold upI
  repeat' split
  all_goals omega
theorem up_rar {κ : Int → Int} {l cu : List Int} {a m b i : Nat} (hz : ∀ z, cu[z]? = l[upI a (i - 1) z]?) (ham : a < m) (hi : m ≤ i) (hib : i ≤ b) (hs2 : SrtR κ l m b) (hlo : ∀ (p : Nat) (u v : Int), m ≤ p → p < i → l[p]? = some u → l[a]? = some v → κ u < κ v) (hhi : ∀ (p : Nat) (u v : Int), i ≤ p → p < b → l[p]? = some u → l[a]? = some v → κ v ≤ κ u) (hm : m = a + 1) : Rar κ a b l cu (upI a (i - 1)) ∧ SrtR κ cu a b := by
  refine ⟨⟨hz, fun x hx => by unfold upI; rw [if_neg (by omega), if_neg (by omega)], fun x h1 h2 => by unfold upI; split <;> (try split) <;> omega, fun x y u v hxy hu hv hlt => ?_⟩, fun p q u v h1 h2 h3 hu hv => ?_⟩
  · rw [hz] at hu hv
    by_cases hy : y = i - 1
    · subst hy
      rw [show upI a (i - 1) (i - 1) = a by unfold upI; rw [if_neg (by omega), if_pos rfl]] at hv hlt
      by_cases hx : a ≤ x
      · rw [show upI a (i - 1) x = x + 1 by unfold upI; rw [if_pos ⟨hx, hxy⟩]] at hu
        exact hlo (x + 1) u v (by omega) (by omega) hu hv
      · rw [show upI a (i - 1) x = x by unfold upI; rw [if_neg (by omega), if_neg (by omega)]] at hlt
        omega
    · exfalso
      unfold upI at hlt
      repeat' split at hlt
      all_goals omega
  · rw [hz] at hu hv
    by_cases hq : q = i - 1
    · subst hq
      rw [show upI a (i - 1) (i - 1) = a by unfold upI; rw [if_neg (by omega), if_pos rfl]] at hv
      rw [show upI a (i - 1) p = p + 1 by unfold upI; rw [if_pos ⟨h1, h2⟩]] at hu
      have := hlo (p + 1) u v (by omega) (by omega) hu hv
      omega
    · by_cases hp : p = i - 1
      · subst hp
        rw [show upI a (i - 1) (i - 1) = a by unfold upI; rw [if_neg (by omega), if_pos rfl]] at hu
        rw [show upI a (i - 1) q = q by unfold upI; rw [if_neg (by omega), if_neg hq]] at hv
        exact hhi q v u (by omega) h3 hv hu
      · have e : ∀ x, a ≤ x → x ≠ i - 1 → upI a (i - 1) x = if x < i - 1 then x + 1 else x := fun x h5 h6 => by
          unfold upI
          by_cases h7 : x < i - 1
          · rw [if_pos ⟨h5, h7⟩, if_pos h7]
          · rw [if_neg (by omega), if_neg h6, if_neg h7]
        rw [e p h1 hp] at hu
        rw [e q (by omega) hq] at hv
        exact hs2.le (show m ≤ _ by split <;> omega) (show _ ≤ (if q < i - 1 then q + 1 else q) by split <;> split <;> omega) (by split <;> omega) hu hv
def dnI (m k z : Nat) : Nat := if z = k then m else if k < z ∧ z ≤ m then z - 1 else z
theorem dnI_zero (m z : Nat) : dnI m m z = z := by
  unfold dnI
  split <;> (try split) <;> omega
theorem dnI_succ {m k : Nat} (h : k ≤ m) (h0 : 0 < k) (z : Nat) : dnI m k (if z = k - 1 then k else if z = k then k - 1 else z) = dnI m (k - 1) z := by
  unfold dnI
  repeat' split
  all_goals omega
theorem dn_rar {κ : Int → Int} {l cu : List Int} {a m b i : Nat} (hz : ∀ z, cu[z]? = l[dnI m i z]?) (hai : a ≤ i) (him : i ≤ m) (hs1 : SrtR κ l a m) (hlo : ∀ (p : Nat) (u v : Int), a ≤ p → p < i → l[p]? = some u → l[m]? = some v → κ u ≤ κ v) (hhi : ∀ (p : Nat) (u v : Int), i ≤ p → p < m → l[p]? = some u → l[m]? = some v → κ v < κ u) (hb : b = m + 1) : Rar κ a b l cu (dnI m i) ∧ SrtR κ cu a b := by
  have ei : dnI m i i = m := by unfold dnI; rw [if_pos rfl]
  have e : ∀ x, x ≠ i → x ≤ m → dnI m i x = if i < x then x - 1 else x := fun x h6 h7 => by
    unfold dnI
    by_cases h8 : i < x
    · rw [if_neg h6, if_pos ⟨h8, h7⟩, if_pos h8]
    · rw [if_neg h6, if_neg (by omega), if_neg h8]
  refine ⟨⟨hz, fun x hx => by unfold dnI; rw [if_neg (by omega), if_neg (by omega)], fun x h1 h2 => by unfold dnI; split <;> (try split) <;> omega, fun x y u v hxy hu hv hlt => ?_⟩, fun p q u v h1 h2 h3 hu hv => ?_⟩
  · rw [hz] at hu hv
    by_cases hx : x = i
    · subst hx
      rw [ei] at hu hlt
      by_cases hy : y ≤ m
      · rw [e y (by omega) hy, if_pos hxy] at hv
        exact hhi (y - 1) v u (by omega) (by omega) hv hu
      · rw [show dnI m x y = y by unfold dnI; rw [if_neg (by omega), if_neg (by omega)]] at hlt
        omega
    · exfalso
      unfold dnI at hlt
      repeat' split at hlt
      all_goals omega
  · rw [hz] at hu hv
    by_cases hq : q = i
    · subst hq
      rw [ei] at hv
      rw [e p (by omega) (by omega), if_neg (by omega)] at hu
      exact hlo p u v h1 h2 hu hv
    · by_cases hp : p = i
      · subst hp
        rw [ei] at hu
        rw [e q hq (by omega), if_pos h2] at hv
        have := hhi (q - 1) v u (by omega) (by omega) hv hu
        omega
      · rw [e p hp (by omega)] at hu
        rw [e q hq (by omega)] at hv
        exact hs1.le (show a ≤ _ by split <;> omega) (show _ ≤ (if i < q then q - 1 else q) by split <;> split <;> omega) (by split <;> omega) hu hv
structure CutR (κ : Int → Int) (l : List Int) (a m b s e : Nat) : Prop where
  ae : ∀ (p q : Nat) (u v : Int), a ≤ p → p < s → e ≤ q → q < b → l[p]? = some u → l[q]? = some v → κ u ≤ κ v
  ms : ∀ (p q : Nat) (u v : Int), m ≤ p → p < e → s ≤ q → q < m → l[p]? = some u → l[q]? = some v → κ u < κ v
theorem merge_cut {κ : Int → Int} {l : List Int} {a m b s0 r0 s : Nat} (ham : a < m) (hmb : m < b) (hs0 : a ≤ s0 ∧ s0 ≤ r0 ∧ r0 ≤ m ∧ r0 ≤ (a + b) / 2 ∧ (a + b) / 2 + m ≤ s0 + b) (hi : s0 ≤ s ∧ s ≤ s ∧ s ≤ r0) (hh : (s0 = a ∨ s0 + b = (a + b) / 2 + m) ∧ (r0 = m ∨ r0 = (a + b) / 2)) (hs1 : SrtR κ l a m) (hs2 : SrtR κ l m b)
    (hlo : s = s0 ∨ ∃ u v, l[s - 1]? = some u ∧ l[(a + b) / 2 + m - s]? = some v ∧ κ u ≤ κ v) (hhi : s = r0 ∨ ∃ u v, l[s]? = some u ∧ l[(a + b) / 2 + m - 1 - s]? = some v ∧ κ v < κ u) : CutR κ l a m b s ((a + b) / 2 + m - s) where
  ae := fun p q u v h1 h2 h3 h4 hu hv => by
    rcases hlo with h5 | ⟨u1, v1, hu1, hv1, h5⟩
    · rcases hh.1 with h6 | h6 <;> omega
    · have h6 := hs1.le h1 (show p ≤ s - 1 by omega) (by omega) hu hu1
      have h7 := hs2.le (show m ≤ (a + b) / 2 + m - s by omega) h3 h4 hv1 hv
      omega
  ms := fun p q u v h1 h2 h3 h4 hu hv => by
    rcases hhi with h5 | ⟨u1, v1, hu1, hv1, h5⟩
    · rcases hh.2 with h6 | h6 <;> omega
    · have h6 := hs1.le (show a ≤ s by omega) h3 h4 hu1 hv
      have h7 := hs2.le h1 (show p ≤ (a + b) / 2 + m - 1 - s by omega) (by omega) hu hv1
      omega
theorem roI_none {a m b : Nat} (h1 : a ≤ m) (h2 : m ≤ b) (h : ¬ (a < m ∧ m < b)) {z : Nat} : roI a m b z = z := by
  unfold roI
  split
  · omega
  · split <;> omega
/-- What the turn gives: four sorted pieces; all below the middle are not greater than what lies above. -/
structure MrgR (κ : Int → Int) (l cu : List Int) (a m b s d e : Nat) : Prop where
  dm : a ≤ s ∧ s ≤ d ∧ d ≤ e ∧ e ≤ b
  R : Rar κ a b l cu (roI s m e)
  s1 : SrtR κ cu a s
  s2 : SrtR κ cu s d
  s3 : SrtR κ cu d e
  s4 : SrtR κ cu e b
  lh : ∀ (p q : Nat) (u v : Int), a ≤ p → p < d → d ≤ q → q < b → cu[p]? = some u → cu[q]? = some v → κ u ≤ κ v
theorem merge_rot {κ : Int → Int} {l cu : List Int} {a m b s0 r0 s : Nat} (hz : ∀ z, cu[z]? = l[roI s m ((a + b) / 2 + m - s) z]?) (hs0 : a ≤ s0 ∧ s0 ≤ r0 ∧ r0 ≤ m ∧ r0 ≤ (a + b) / 2 ∧ (a + b) / 2 + m ≤ s0 + b) (hi : s0 ≤ s ∧ s ≤ s ∧ s ≤ r0) (ham : a < m) (hmb : m < b) (hs1 : SrtR κ l a m) (hs2 : SrtR κ l m b) (hc : CutR κ l a m b s ((a + b) / 2 + m - s)) : MrgR κ l cu a m b s ((a + b) / 2) ((a + b) / 2 + m - s) := by
  obtain ⟨d, hd⟩ : ∃ d, d = (a + b) / 2 := ⟨_, rfl⟩
  obtain ⟨e, he⟩ : ∃ e, e = (a + b) / 2 + m - s := ⟨_, rfl⟩
  rw [← he] at hz hc
  rw [← hd, show d + m - s = e by omega]
  have i1 : ∀ z, z < s → roI s m e z = z := fun z h => by unfold roI; rw [if_neg (by omega), if_neg (by omega)]
  have i2 : ∀ z, s ≤ z → z < d → roI s m e z = z + (m - s) := fun z h h2 => by unfold roI; rw [if_pos (by omega)]
  have i3 : ∀ z, d ≤ z → z < e → roI s m e z = z - (e - m) := fun z h h2 => by unfold roI; rw [if_neg (by omega), if_pos (by omega)]
  have i4 : ∀ z, e ≤ z → roI s m e z = z := fun z h => by unfold roI; rw [if_neg (by omega), if_neg (by omega)]
  have ms1 : s ≤ m ∧ m ≤ e ∧ s ≤ d ∧ d ≤ e ∧ e ≤ b ∧ a ≤ s ∧ d = s + (e - m) := by omega
  refine ⟨by omega, ⟨hz, fun z hz' => ?_, fun z h1 h2 => ?_, fun x y u v hxy hu hv hlt => ?_⟩, ?_, ?_, ?_, ?_, fun p q u v h1 h2 h3 h4 hu hv => ?_⟩
  · by_cases h : z < s
    · exact i1 z h
    · exact i4 z (by omega)
  · by_cases g1 : z < s
    · rw [i1 z g1]; omega
    · by_cases g2 : z < d
      · rw [i2 z (by omega) g2]; omega
      · by_cases g3 : z < e
        · rw [i3 z (by omega) g3]; omega
        · rw [i4 z (by omega)]; omega
  · rw [hz] at hu hv
    have hx : s ≤ x ∧ x < d := by
      refine Classical.byContradiction fun h => ?_
      have key : roI s m e x < roI s m e y := by
        by_cases g1 : x < s
        · rw [i1 x g1]
          by_cases k1 : y < s
          · rw [i1 y k1]; omega
          · by_cases k2 : y < d
            · rw [i2 y (by omega) k2]; omega
            · by_cases k3 : y < e
              · rw [i3 y (by omega) k3]; omega
              · rw [i4 y (by omega)]; omega
        · by_cases g3 : x < e
          · rw [i3 x (by omega) g3]
            by_cases k3 : y < e
            · rw [i3 y (by omega) k3]; omega
            · rw [i4 y (by omega)]; omega
          · rw [i4 x (by omega), i4 y (by omega)]; omega
      omega
    have hy : d ≤ y ∧ y < e := by
      refine Classical.byContradiction fun h => ?_
      rw [i2 x hx.1 hx.2] at hlt
      by_cases k2 : y < d
      · rw [i2 y (by omega) k2] at hlt; omega
      · rw [i4 y (by omega)] at hlt; omega
    rw [i2 x hx.1 hx.2] at hu
    rw [i3 y hy.1 hy.2] at hv
    exact hc.ms _ _ u v (by omega) (by omega) (by omega) (by omega) hu hv
  · exact hs1.move (roI s m e) (fun z _ _ => hz z) (fun z h1 h2 => by rw [i1 z h2]; omega) fun x y h1 h2 h3 => by rw [i1 x (by omega), i1 y h3]; exact h2
  · exact hs2.move (roI s m e) (fun z _ _ => hz z) (fun z h1 h2 => by rw [i2 z h1 h2]; omega) fun x y h1 h2 h3 => by rw [i2 x h1 (by omega), i2 y (by omega) h3]; omega
  · exact hs1.move (roI s m e) (fun z _ _ => hz z) (fun z h1 h2 => by rw [i3 z h1 h2]; omega) fun x y h1 h2 h3 => by rw [i3 x h1 (by omega), i3 y (by omega) h3]; omega
  · exact hs2.move (roI s m e) (fun z _ _ => hz z) (fun z h1 h2 => by rw [i4 z h1]; omega) fun x y h1 h2 h3 => by rw [i4 x h1, i4 y (by omega)]; omega
  · rw [hz] at hu hv
    by_cases g1 : p < s
    · rw [i1 p g1] at hu
      by_cases k3 : q < e
      · rw [i3 q (by omega) k3] at hv
        exact hs1.le h1 (by omega) (by omega) hu hv
      · rw [i4 q (by omega)] at hv
        exact hc.ae p q u v h1 g1 (by omega) h4 hu hv
    · rw [i2 p (by omega) h2] at hu
      by_cases k3 : q < e
      · rw [i3 q (by omega) k3] at hv
        exact Int.le_of_lt (hc.ms _ _ u v (by omega) (by omega) (by omega) (by omega) hu hv)
      · rw [i4 q (by omega)] at hv
        exact hs2.le (by omega) (by omega) (by omega) hu hv
theorem MrgR.one {κ : Int → Int} {l cu : List Int} {a m b s d e : Nat} (h : MrgR κ l cu a m b s d e) (hn : ¬ (a < s ∧ s < d)) : SrtR κ cu a d := by
  have hd := h.dm
  by_cases h1 : a < s
  · rw [show d = s by omega]; exact h.s1
  · rw [show a = s by omega]; exact h.s2
theorem MrgR.r1 {κ : Int → Int} {l cu cu2 : List Int} {f : Nat → Nat} {a m b s d e : Nat} (h : MrgR κ l cu a m b s d e) (r : Rar κ a d cu cu2 f) : SrtR κ cu2 d e := h.s3.move id (fun x h1 _ => by rw [r.idx, r.out x (by omega)]; rfl) (fun x h1 h2 => ⟨h1, h2⟩) fun x y _ h2 _ => h2
theorem MrgR.r2 {κ : Int → Int} {l cu cu2 : List Int} {f : Nat → Nat} {a m b s d e : Nat} (h : MrgR κ l cu a m b s d e) (r : Rar κ a d cu cu2 f) : SrtR κ cu2 e b := h.s4.move id (fun x h1 _ => by rw [r.idx, r.out x (by have := h.dm; omega)]; rfl) (fun x h1 h2 => ⟨h1, h2⟩) fun x y _ h2 _ => h2
theorem MrgR.two {κ : Int → Int} {l cu cu2 : List Int} {f : Nat → Nat} {a m b s d e : Nat} (h : MrgR κ l cu a m b s d e) (hn : ¬ (d < e ∧ e < b)) (r : Rar κ a d cu cu2 f) : SrtR κ cu2 d b := by
  have hd := h.dm
  by_cases h1 : d < e
  · rw [show b = e by omega]; exact h.r1 r
  · rw [show d = e by omega]; exact h.r2 r
theorem MrgR.fin {κ : Int → Int} {l cu cu2 l' : List Int} {f g : Nat → Nat} {a m b s d e : Nat} (h : MrgR κ l cu a m b s d e) (r : Rar κ a d cu cu2 f) (hs : SrtR κ cu2 a d) (k : Rar κ d b cu2 l' g) (hs' : SrtR κ l' d b) : Rar κ a b l l' (fun x => roI s m e (f (g x))) ∧ SrtR κ l' a b := by
  have hd := h.dm
  refine ⟨(h.R.trans (r.wide (Nat.le_refl _) (by omega))).trans (k.wide (by omega) (Nat.le_refl _)), SrtR.join (m := d) ?_ hs' fun p q u v h1 h2 h3 h4 hu hv => ?_⟩
  · exact hs.move id (fun x _ h2 => by rw [k.idx, k.out x (by omega)]; rfl) (fun x h1 h2 => ⟨h1, h2⟩) fun x y _ h2 _ => h2
  · rw [k.idx, k.out p (by omega), r.idx] at hu
    have k1 := k.inn q h3 h4
    rw [k.idx, r.idx, r.out _ (by omega)] at hv
    have r1 := r.inn p h1 h2
    exact h.lh _ _ u v r1.1 r1.2 k1.1 k1.2 hu hv
set_option maxHeartbeats 8000000 in
theorem symMergeX_c (κ : Int → Int) (cf : Int → Int → Int) (hk : ∀ x y, cf x y < 0 ↔ κ x < κ y) : ∀ (z : Nat) (w0 : World) (g c n T : Nat) (l : List Int) (rest : List Value) (fv : Value) (a m b : Nat), b - a ≤ z → Blk w0 g (l.map (Value.int .i64) ++ rest).toArray T → l.length = n → a < m → m < b → b ≤ n → n ≤ 1000000 → SrtR κ l a m → SrtR κ l m b →
    (∀ (w : World) (x y : Int), Chg (fun q => q = g) w0 w → x ∈ l → y ∈ l → CallV Try.prog fv #[.int .i64 x, .int .i64 y] w fun r w' => r = .int .i64 (cf x y) ∧ Ext w w') →
    Ret Try.prog 117 #[.slice (some ⟨g, 0, none⟩) n c, .int .i64 ((a : Nat) : Int), .int .i64 ((m : Nat) : Int), .int .i64 ((b : Nat) : Int), fv] w0 fun _ w => ∃ l' f, List.Perm l' l ∧ Rar κ a b l l' f ∧ SrtR κ l' a b ∧ Blk w g (l'.map (Value.int .i64) ++ rest).toArray T ∧ Chg (fun q => q = g) w0 w := by
  intro z
  induction z with
  | zero => intro w0 g c n T l rest fv a m b hz hB hn ham hmb; omega
  | succ z ih =>
  intro w0 g c n T l rest fv a m b hz hB hn ham hmb hbn hsz hs1 hs2 hf
  refine Ret_of Try.func117 rfl Try.ntmps117 (Nat.le_of_ble_eq_true rfl) ?_
  have E : Chg (fun q => q = g) w0 w0 := Chg.refl _ _
  refine Wp_seq ?_
  refine Wp_seq_region ?_
  refine WpL_val rfl rfl (by decide) (r_move (v := (.int .i64 ((m : Nat) : Int))) rfl) ?_
  refine WpL_val rfl rfl (by decide) (r_move (v := (.int .i64 ((a : Nat) : Int))) rfl) ?_
  refine WpL_val rfl rfl (by decide) (r_sub (k := .i64) (a := ((m : Nat) : Int)) (b := ((a : Nat) : Int)) (c := (((m - a : Nat) : Nat) : Int)) rfl rfl ((wI64 (by omega)).trans (by omega))) ?_
  refine WpL_val rfl rfl (by decide) (r_eql (k := .i64) (a := (((m - a : Nat) : Nat) : Int)) (b := 1) rfl rfl) ?_
  refine WpL_nil ?_
  refine Wp_cond (b := decide (((((m - a : Nat) : Nat) : Int) : Int) = 1)) rfl (fun h1 => ?_) (fun h1 => ?_)
  · have kh1 := h1
    replace h1 := of_decide_eq_true h1
    refine Wp_seq_region ?_
    refine WpL_val rfl rfl (by decide) (r_move (v := (.int .i64 ((m : Nat) : Int))) rfl) ?_
    refine WpL_val rfl rfl (by decide) (r_assign (v := (.int .i64 ((m : Nat) : Int))) rfl) ?_
    refine WpL_nil ?_
    refine Wp_seq_region ?_
    refine WpL_val rfl rfl (by decide) (r_move (v := (.int .i64 ((b : Nat) : Int))) rfl) ?_
    refine WpL_val rfl rfl (by decide) (r_assign (v := (.int .i64 ((b : Nat) : Int))) rfl) ?_
    refine WpL_nil ?_
    refine Wp_seq ?_
    refine Wp_block ?_
    refine Wp_loop (fun nn_ σ W2 => ∃ (i j : Nat), (∃ jj_, σ = upds jj_ [(0, (.slice (some ⟨g, 0, none⟩) n c)), (1, (.int .i64 ((a : Nat) : Int))), (4, fv), (10, (.int .i64 ((i : Nat) : Int))), (11, (.int .i64 ((j : Nat) : Int)))]) ∧ Chg (fun q => q = g) w0 W2 ∧ Blk W2 g ((l.map (Value.int .i64) ++ rest).toArray) T ∧ (m ≤ i ∧ i ≤ j ∧ j ≤ b) ∧ (∀ (p : Nat) (u v : Int), m ≤ p → p < i → l[p]? = some u → l[a]? = some v → κ u < κ v) ∧ (∀ (p : Nat) (u v : Int), j ≤ p → p < b → l[p]? = some u → l[a]? = some v → κ v ≤ κ u) ∧ nn_ = j - i + 1) (n := b - m + 1) ?_ ?_
    · exact ⟨m, b, Fits.out ⟨rfl, rfl, rfl, rfl, rfl, trivial⟩, E, hB, ⟨by omega, by omega, by omega⟩, (fun p u v h1 h2 => by omega), (fun p u v h1 h2 => by omega), rfl⟩
    · clear E hB
      rintro _ _ W2 ⟨i, j, ⟨j2, rfl⟩, E, hB, hi, hlo, hhi, rfl⟩
      refine Wp_seq ?_
      refine Wp_seq_region ?_
      refine WpL_val rfl rfl (by decide) (r_move (v := (.int .i64 ((i : Nat) : Int))) rfl) ?_
      refine WpL_val rfl rfl (by decide) (r_move (v := (.int .i64 ((j : Nat) : Int))) rfl) ?_
      refine WpL_val rfl rfl (by decide) (r_lss (k := .i64) (a := ((i : Nat) : Int)) (b := ((j : Nat) : Int)) rfl rfl) ?_
      refine WpL_nil ?_
      refine Wp_cond (b := decide ((((i : Nat) : Int) : Int) < ((j : Nat) : Int))) rfl (fun hlt => ?_) (fun hlt => ?_)
      · have khlt := hlt
        replace hlt := of_decide_eq_true hlt
        refine Wp_skip ?_
        refine thn_normal ?_
        refine Wp_block ?_
        refine Wp_seq_region ?_
        refine WpL_val rfl rfl (by decide) (r_move (v := (.int .i64 ((i : Nat) : Int))) rfl) ?_
        refine WpL_val rfl rfl (by decide) (r_move (v := (.int .i64 ((j : Nat) : Int))) rfl) ?_
        refine WpL_val rfl rfl (by decide) (r_add (k := .i64) (a := ((i : Nat) : Int)) (b := ((j : Nat) : Int)) (c := (((i + j : Nat) : Nat) : Int)) rfl rfl ((wI64 (by omega)).trans (by omega))) ?_
        refine WpL_val rfl rfl (by decide) (r_convInt (k := .i64) (k' := .u64) (n := (((i + j : Nat) : Nat) : Int)) (c := (((i + j : Nat) : Nat) : Int)) ⟨_, Try.underlying3⟩ Try.underlying115 rfl (wU64 (by omega))) ?_
        refine WpL_val rfl rfl (by decide) (r_shr (k := .u64) (a := (((i + j : Nat) : Nat) : Int)) (b := 1) (c := ((((i + j) / 2 : Nat) : Nat) : Int)) (k' := .u64) rfl rfl (by omega) (half_shrX _)) ?_
        refine WpL_val rfl rfl (by decide) (r_convInt (k := .u64) (k' := .i64) (n := ((((i + j) / 2 : Nat) : Nat) : Int)) (c := ((((i + j) / 2 : Nat) : Nat) : Int)) ⟨_, Try.underlying115⟩ Try.underlying3 rfl (wI64 (by omega))) ?_
        refine WpL_val rfl rfl (by decide) (r_assign (v := (.int .i64 ((((i + j) / 2 : Nat) : Nat) : Int))) rfl) ?_
        refine WpL_nil ?_
        obtain ⟨x, hx⟩ := get_of_lt (l := l) (i := (i + j) / 2) (by omega)
        obtain ⟨y, hy⟩ := get_of_lt (l := l) (i := a) (by omega)
        refine Wp_seq ?_
        obtain ⟨Fs4, hFs4⟩ : ∃ Fs : List Fact, Fs = [.eq fv, .eq (.slice (some ⟨g, 0, none⟩) n c), .eq (.int .i64 ((((i + j) / 2 : Nat) : Nat) : Int)), .eq (.pointer (some ⟨g, 0 + ((i + j) / 2), none⟩)), .eq (.int .i64 x), .eq (.slice (some ⟨g, 0, none⟩) n c), .eq (.int .i64 ((a : Nat) : Int)), .eq (.pointer (some ⟨g, 0 + a, none⟩)), .eq (.int .i64 y), .eq (.int .i64 (cf x y)), .eq (.bool (decide (cf x y < 0)))] := ⟨_, rfl⟩
        refine Wp_dag [40, 41, 42, 43, 44, 45, 46, 47, 48, 49, 50] [[], [], [], [1, 2], [3], [], [], [5, 6], [7], [0, 4, 8], [9]] Fs4 hFs4 mixed (by kernel_rfl) (by kernel_rfl) ?_ ?_
        · intro wd X0
          refine DagSteps.cons (fun s' w' X U H => Or.inl ⟨?_, ?_⟩) ?_
          · exact Guarded_none rfl
          · exact Does_val (r_move (v := fv) (U 4 rfl)) (Ext.refl _) rfl
          refine DagSteps.cons (fun s' w' X U H => Or.inl ⟨?_, ?_⟩) ?_
          · exact Guarded_none rfl
          · exact Does_val (r_move (v := (.slice (some ⟨g, 0, none⟩) n c)) (U 0 rfl)) (Ext.refl _) rfl
          refine DagSteps.cons (fun s' w' X U H => Or.inl ⟨?_, ?_⟩) ?_
          · exact Guarded_none rfl
          · exact Does_val (r_move (v := (.int .i64 ((((i + j) / 2 : Nat) : Nat) : Int))) (U 12 rfl)) (Ext.refl _) rfl
          refine DagSteps.cons (fun s' w' X U H => Or.inl ⟨?_, ?_⟩) ?_
          · exact Guarded_none rfl
          · have e41 : s' 41 = (.slice (some ⟨g, 0, none⟩) n c) := H 1 rfl 41 (.eq (.slice (some ⟨g, 0, none⟩) n c)) rfl (by rw [hFs4]; rfl)
            have e42 : s' 42 = (.int .i64 ((((i + j) / 2 : Nat) : Nat) : Int)) := H 2 rfl 42 (.eq (.int .i64 ((((i + j) / 2 : Nat) : Nat) : Int))) rfl (by rw [hFs4]; rfl)
            exact Does_val (r_indexSlice (b := g) (o := 0) (len := n) (cap := c) (i := (i + j) / 2) (o' := 0 + ((i + j) / 2)) e41 e42 (by omega) Try.underlying26 siz3 (by omega) (by omega)) (Ext.refl _) rfl
          refine DagSteps.cons (fun s' w' X U H => Or.inl ⟨?_, ?_⟩) ?_
          · exact Guarded_none rfl
          · have e43 : s' 43 = (.pointer (some ⟨g, 0 + ((i + j) / 2), none⟩)) := H 3 rfl 43 (.eq (.pointer (some ⟨g, 0 + ((i + j) / 2), none⟩))) rfl (by rw [hFs4]; rfl)
            exact Does_val (r_load (v := (.int .i64 x)) e43 flat3 ((by rw [Nat.zero_add]; exact ints_get ((X0.trans X).keep hB) hx))) (Ext.refl _) rfl
          refine DagSteps.cons (fun s' w' X U H => Or.inl ⟨?_, ?_⟩) ?_
          · exact Guarded_none rfl
          · exact Does_val (r_move (v := (.slice (some ⟨g, 0, none⟩) n c)) (U 0 rfl)) (Ext.refl _) rfl
          refine DagSteps.cons (fun s' w' X U H => Or.inl ⟨?_, ?_⟩) ?_
          · exact Guarded_none rfl
          · exact Does_val (r_move (v := (.int .i64 ((a : Nat) : Int))) (U 1 rfl)) (Ext.refl _) rfl
          refine DagSteps.cons (fun s' w' X U H => Or.inl ⟨?_, ?_⟩) ?_
          · exact Guarded_none rfl
          · have e45 : s' 45 = (.slice (some ⟨g, 0, none⟩) n c) := H 5 rfl 45 (.eq (.slice (some ⟨g, 0, none⟩) n c)) rfl (by rw [hFs4]; rfl)
            have e46 : s' 46 = (.int .i64 ((a : Nat) : Int)) := H 6 rfl 46 (.eq (.int .i64 ((a : Nat) : Int))) rfl (by rw [hFs4]; rfl)
            exact Does_val (r_indexSlice (b := g) (o := 0) (len := n) (cap := c) (i := a) (o' := 0 + a) e45 e46 (by omega) Try.underlying26 siz3 (by omega) (by omega)) (Ext.refl _) rfl
          refine DagSteps.cons (fun s' w' X U H => Or.inl ⟨?_, ?_⟩) ?_
          · exact Guarded_none rfl
          · have e47 : s' 47 = (.pointer (some ⟨g, 0 + a, none⟩)) := H 7 rfl 47 (.eq (.pointer (some ⟨g, 0 + a, none⟩))) rfl (by rw [hFs4]; rfl)
            exact Does_val (r_load (v := (.int .i64 y)) e47 flat3 ((by rw [Nat.zero_add]; exact ints_get ((X0.trans X).keep hB) hy))) (Ext.refl _) rfl
          refine DagSteps.cons (fun s' w' X U H => Or.inl ⟨?_, ?_⟩) ?_
          · exact Guarded_none rfl
          · have e44 : s' 44 = (.int .i64 x) := H 4 rfl 44 (.eq (.int .i64 x)) rfl (by rw [hFs4]; rfl)
            have e48 : s' 48 = (.int .i64 y) := H 8 rfl 48 (.eq (.int .i64 y)) rfl (by rw [hFs4]; rfl)
            have e40 : s' 40 = fv := H 0 rfl 40 (.eq fv) rfl (by rw [hFs4]; rfl)
            exact Does_callV e40 (lst2 e44 e48) (hf _ x y (E.ext (X0.trans X)) (List.mem_of_getElem? hx) (List.mem_of_getElem? hy))
          refine DagSteps.cons (fun s' w' X U H => Or.inl ⟨?_, ?_⟩) ?_
          · exact Guarded_none rfl
          · have e49 : s' 49 = (.int .i64 (cf x y)) := H 9 rfl 49 (.eq (.int .i64 (cf x y))) rfl (by rw [hFs4]; rfl)
            exact Does_val (r_lss (k := .i64) (a := cf x y) (b := 0) e49 rfl) (Ext.refl _) rfl
          exact DagSteps.nil
        · intro s' w4 X4 U H
          obtain ⟨j4, rfl⟩ := Fits.out (σ := s') (l := [(0, (.slice (some ⟨g, 0, none⟩) n c)), (1, (.int .i64 ((a : Nat) : Int))), (4, fv), (10, (.int .i64 ((i : Nat) : Int))), (11, (.int .i64 ((j : Nat) : Int))), (12, (.int .i64 ((((i + j) / 2 : Nat) : Nat) : Int))), (50, (.bool (decide (cf x y < 0))))]) ⟨U 0 rfl, U 1 rfl, U 4 rfl, U 10 rfl, U 11 rfl, U 12 rfl, (show s' 50 = (.bool (decide (cf x y < 0))) from H 10 50 (.eq (.bool (decide (cf x y < 0)))) rfl (by rw [hFs4]; rfl)), trivial⟩
          clear U H
          replace hB := X4.keep hB
          replace E := E.ext X4
          refine thn_normal ?_
          refine Wp_cond (b := decide (cf x y < 0)) rfl (fun hc => ?_) (fun hc => ?_)
          · have khc := hc
            replace hc := of_decide_eq_true hc
            refine Wp_region ?_
            refine WpL_val rfl rfl (by decide) (r_move (v := (.int .i64 ((((i + j) / 2 : Nat) : Nat) : Int))) rfl) ?_
            refine WpL_val rfl rfl (by decide) (r_add (k := .i64) (a := ((((i + j) / 2 : Nat) : Nat) : Int)) (b := 1) (c := ((((i + j) / 2 : Nat) : Nat) : Int) + 1) rfl rfl (wI64 (by omega))) ?_
            refine WpL_val rfl rfl (by decide) (r_assign (v := (.int .i64 (((((i + j) / 2 : Nat) : Nat) : Int) + 1))) rfl) ?_
            refine WpL_nil ?_
            refine inB_normal ?_
            refine thn_normal ?_
            exact ⟨j - ((i + j) / 2 + 1) + 1, by omega, (i + j) / 2 + 1, j, Fits.out ⟨rfl, rfl, rfl, rfl, rfl, trivial⟩, E, hB, ⟨by omega, by omega, by omega⟩, (fun p u v h1 h2 hu hv => by rw [hy] at hv; cases hv; have h3 := (hk _ _).1 hc; have h4 := hs2.le h1 (show p ≤ (i + j) / 2 by omega) (by omega) hu hx; omega), hhi, rfl⟩
          · have khc := hc
            replace hc := of_decide_eq_false hc
            refine Wp_region ?_
            refine WpL_val rfl rfl (by decide) (r_move (v := (.int .i64 ((((i + j) / 2 : Nat) : Nat) : Int))) rfl) ?_
            refine WpL_val rfl rfl (by decide) (r_assign (v := (.int .i64 ((((i + j) / 2 : Nat) : Nat) : Int))) rfl) ?_
            refine WpL_nil ?_
            refine inB_normal ?_
            refine thn_normal ?_
            exact ⟨((i + j) / 2) - i + 1, by omega, i, (i + j) / 2, Fits.out ⟨rfl, rfl, rfl, rfl, rfl, trivial⟩, E, hB, ⟨by omega, by omega, by omega⟩, hlo, (fun p u v h1 h2 hu hv => by rw [hy] at hv; cases hv; have h3 : κ y ≤ κ x := Int.not_lt.1 fun h => hc ((hk x y).2 h); have h4 := hs2.le (show m ≤ (i + j) / 2 by omega) h1 h2 hx hu; omega), rfl⟩
      · have khlt := hlt
        replace hlt := of_decide_eq_false hlt
        have hij : i = j := by omega
        subst hij
        refine Wp_exit ?_
        refine thn_exit ?_
        refine thn_exit ?_
        refine inB_here ?_
        refine thn_normal ?_
        refine Wp_seq ?_
        refine Wp_seq_region ?_
        refine WpL_val rfl rfl (by decide) (r_move (v := (.int .i64 ((a : Nat) : Int))) rfl) ?_
        refine WpL_val rfl rfl (by decide) (r_assign (v := (.int .i64 ((a : Nat) : Int))) rfl) ?_
        refine WpL_nil ?_
        refine Wp_block ?_
        refine Wp_loop (fun nn_ σ W6 => ∃ (k : Nat) (cu : List Int), (∃ jj_, σ = upds jj_ [(0, (.slice (some ⟨g, 0, none⟩) n c)), (10, (.int .i64 ((i : Nat) : Int))), (13, (.int .i64 ((k : Nat) : Int)))]) ∧ Chg (fun q => q = g) w0 W6 ∧ Blk W6 g ((cu.map (Value.int .i64) ++ rest).toArray) T ∧ (a ≤ k ∧ k ≤ i - 1) ∧ (List.Perm cu l) ∧ (∀ z, cu[z]? = l[upI a k z]?) ∧ nn_ = i - k) (n := i - a) ?_ ?_
        · exact ⟨a, l, Fits.out ⟨rfl, rfl, rfl, trivial⟩, E, hB, ⟨by omega, by omega⟩, List.Perm.refl _, (fun z => by rw [upI_zero]), rfl⟩
        · clear E hB
          rintro _ _ W6 ⟨k, cu, ⟨j6, rfl⟩, E, hB, hkk, hp, hz, rfl⟩
          refine Wp_seq ?_
          refine Wp_seq_region ?_
          refine WpL_val rfl rfl (by decide) (r_move (v := (.int .i64 ((k : Nat) : Int))) rfl) ?_
          refine WpL_val rfl rfl (by decide) (r_move (v := (.int .i64 ((i : Nat) : Int))) rfl) ?_
          refine WpL_val rfl rfl (by decide) (r_sub (k := .i64) (a := ((i : Nat) : Int)) (b := 1) (c := (((i - 1 : Nat) : Nat) : Int)) rfl rfl ((wI64 (by omega)).trans (by omega))) ?_
          refine WpL_val rfl rfl (by decide) (r_lss (k := .i64) (a := ((k : Nat) : Int)) (b := (((i - 1 : Nat) : Nat) : Int)) rfl rfl) ?_
          refine WpL_nil ?_
          refine Wp_cond (b := decide ((((k : Nat) : Int) : Int) < (((i - 1 : Nat) : Nat) : Int))) rfl (fun hltk => ?_) (fun hltk => ?_)
          · have khltk := hltk
            replace hltk := of_decide_eq_true hltk
            have hcl : cu.length = n := by rw [hp.length_eq, hn]
            obtain ⟨x, hx⟩ := get_of_lt (l := cu) (i := k) (by omega)
            obtain ⟨y, hy⟩ := get_of_lt (l := cu) (i := k + 1) (by omega)
            refine Wp_skip ?_
            refine thn_normal ?_
            refine Wp_seq ?_
            refine Wp_block ?_
            obtain ⟨Fs8, hFs8⟩ : ∃ Fs : List (FactT ((fun q => q = g))), Fs = [.eq (.slice (some ⟨g, 0, none⟩) n c), .eq (.int .i64 ((k : Nat) : Int)), .eq (.slice (some ⟨g, 0, none⟩) n c), .eq (.int .i64 ((k : Nat) : Int)), .eq (.int .i64 (((k : Nat) : Int) + 1)), .eq (.slice (some ⟨g, 0, none⟩) n c), .eq (.int .i64 ((k : Nat) : Int)), .eq (.int .i64 (((k : Nat) : Int) + 1)), .eq (.pointer (some ⟨g, 0 + (k + 1), none⟩)), .eq (.int .i64 y), .eq (.slice (some ⟨g, 0, none⟩) n c), .eq (.int .i64 ((k : Nat) : Int)), .eq (.pointer (some ⟨g, 0 + k, none⟩)), .eq (.int .i64 x), .eq (.pointer (some ⟨g, 0 + k, none⟩)), .own (fun _ w => Blk w g ((cu.set k y).map (Value.int .i64) ++ rest).toArray T) (fun _ _ _ e h => Ext.keep e h)] := ⟨_, rfl⟩
            refine Wp_dagT ((fun q => q = g)) 16 15 [61, 62, 63, 64, 65, 66, 67, 68, 69, 70, 71, 72, 73, 74, 75, 235] [[], [], [], [], [3], [], [], [6], [5, 7], [8], [], [], [10, 11], [12], [0, 1, 5, 6, 7, 8, 9, 13], [0, 1, 5, 6, 7, 8, 9, 13, 14]] Fs8 hFs8 rfl mixed (by kernel_rfl) (by kernel_rfl) (by kernel_rfl) ?_ ?_
            · intro wd X0
              refine DagStepsT.cons (fun s' w' X U H => ?_) ?_
              · exact DoesT_val (r_move (v := (.slice (some ⟨g, 0, none⟩) n c)) (U 0 rfl)) (Chg.refl _ _) rfl
              refine DagStepsT.cons (fun s' w' X U H => ?_) ?_
              · exact DoesT_val (r_move (v := (.int .i64 ((k : Nat) : Int))) (U 13 rfl)) (Chg.refl _ _) rfl
              refine DagStepsT.cons (fun s' w' X U H => ?_) ?_
              · exact DoesT_val (r_move (v := (.slice (some ⟨g, 0, none⟩) n c)) (U 0 rfl)) (Chg.refl _ _) rfl
              refine DagStepsT.cons (fun s' w' X U H => ?_) ?_
              · exact DoesT_val (r_move (v := (.int .i64 ((k : Nat) : Int))) (U 13 rfl)) (Chg.refl _ _) rfl
              refine DagStepsT.cons (fun s' w' X U H => ?_) ?_
              · have e64 : s' 64 = (.int .i64 ((k : Nat) : Int)) := H 3 rfl 64 (.eq (.int .i64 ((k : Nat) : Int))) rfl (by rw [hFs8]; rfl)
                exact DoesT_val (r_add (k := .i64) (a := ((k : Nat) : Int)) (b := 1) (c := ((k : Nat) : Int) + 1) e64 rfl (wI64 (by omega))) (Chg.refl _ _) rfl
              refine DagStepsT.cons (fun s' w' X U H => ?_) ?_
              · exact DoesT_val (r_move (v := (.slice (some ⟨g, 0, none⟩) n c)) (U 0 rfl)) (Chg.refl _ _) rfl
              refine DagStepsT.cons (fun s' w' X U H => ?_) ?_
              · exact DoesT_val (r_move (v := (.int .i64 ((k : Nat) : Int))) (U 13 rfl)) (Chg.refl _ _) rfl
              refine DagStepsT.cons (fun s' w' X U H => ?_) ?_
              · have e67 : s' 67 = (.int .i64 ((k : Nat) : Int)) := H 6 rfl 67 (.eq (.int .i64 ((k : Nat) : Int))) rfl (by rw [hFs8]; rfl)
                exact DoesT_val (r_add (k := .i64) (a := ((k : Nat) : Int)) (b := 1) (c := ((k : Nat) : Int) + 1) e67 rfl (wI64 (by omega))) (Chg.refl _ _) rfl
              refine DagStepsT.cons (fun s' w' X U H => ?_) ?_
              · have e66 : s' 66 = (.slice (some ⟨g, 0, none⟩) n c) := H 5 rfl 66 (.eq (.slice (some ⟨g, 0, none⟩) n c)) rfl (by rw [hFs8]; rfl)
                have e68 : s' 68 = (.int .i64 (((k : Nat) : Int) + 1)) := H 7 rfl 68 (.eq (.int .i64 (((k : Nat) : Int) + 1))) rfl (by rw [hFs8]; rfl)
                exact DoesT_val (r_indexSlice (b := g) (o := 0) (len := n) (cap := c) (i := k + 1) (o' := 0 + (k + 1)) e66 e68 (by omega) Try.underlying26 siz3 (by omega) (by omega)) (Chg.refl _ _) rfl
              refine DagStepsT.cons (fun s' w' X U H => ?_) ?_
              · have e69 : s' 69 = (.pointer (some ⟨g, 0 + (k + 1), none⟩)) := H 8 rfl 69 (.eq (.pointer (some ⟨g, 0 + (k + 1), none⟩))) rfl (by rw [hFs8]; rfl)
                exact DoesT_val (r_load (v := (.int .i64 y)) e69 flat3 (by rw [Nat.zero_add]; exact (Chg.keep X (fun f => f) (X0.keep hB) |> fun h => ints_get h hy))) (Chg.refl _ _) rfl
              refine DagStepsT.cons (fun s' w' X U H => ?_) ?_
              · exact DoesT_val (r_move (v := (.slice (some ⟨g, 0, none⟩) n c)) (U 0 rfl)) (Chg.refl _ _) rfl
              refine DagStepsT.cons (fun s' w' X U H => ?_) ?_
              · exact DoesT_val (r_move (v := (.int .i64 ((k : Nat) : Int))) (U 13 rfl)) (Chg.refl _ _) rfl
              refine DagStepsT.cons (fun s' w' X U H => ?_) ?_
              · have e71 : s' 71 = (.slice (some ⟨g, 0, none⟩) n c) := H 10 rfl 71 (.eq (.slice (some ⟨g, 0, none⟩) n c)) rfl (by rw [hFs8]; rfl)
                have e72 : s' 72 = (.int .i64 ((k : Nat) : Int)) := H 11 rfl 72 (.eq (.int .i64 ((k : Nat) : Int))) rfl (by rw [hFs8]; rfl)
                exact DoesT_val (r_indexSlice (b := g) (o := 0) (len := n) (cap := c) (i := k) (o' := 0 + k) e71 e72 (by omega) Try.underlying26 siz3 (by omega) (by omega)) (Chg.refl _ _) rfl
              refine DagStepsT.cons (fun s' w' X U H => ?_) ?_
              · have e73 : s' 73 = (.pointer (some ⟨g, 0 + k, none⟩)) := H 12 rfl 73 (.eq (.pointer (some ⟨g, 0 + k, none⟩))) rfl (by rw [hFs8]; rfl)
                exact DoesT_val (r_load (v := (.int .i64 x)) e73 flat3 (by rw [Nat.zero_add]; exact (Chg.keep X (fun f => f) (X0.keep hB) |> fun h => ints_get h hx))) (Chg.refl _ _) rfl
              refine DagStepsT.cons (fun s' w' X U H => ?_) ?_
              · have e61 : s' 61 = (.slice (some ⟨g, 0, none⟩) n c) := H 0 rfl 61 (.eq (.slice (some ⟨g, 0, none⟩) n c)) rfl (by rw [hFs8]; rfl)
                have e62 : s' 62 = (.int .i64 ((k : Nat) : Int)) := H 1 rfl 62 (.eq (.int .i64 ((k : Nat) : Int))) rfl (by rw [hFs8]; rfl)
                exact DoesT_val (r_indexSlice (b := g) (o := 0) (len := n) (cap := c) (i := k) (o' := 0 + k) e61 e62 (by omega) Try.underlying26 siz3 (by omega) (by omega)) (Chg.refl _ _) rfl
              refine DagStepsT.cons (fun s' w' X U H => ?_) ?_
              · have e75 : s' 75 = (.pointer (some ⟨g, 0 + k, none⟩)) := H 14 rfl 75 (.eq (.pointer (some ⟨g, 0 + k, none⟩))) rfl (by rw [hFs8]; rfl)
                have e70 : s' 70 = (.int .i64 y) := H 9 rfl 70 (.eq (.int .i64 y)) rfl (by rw [hFs8]; rfl)
                exact DoesT_store e75 e70 rfl siz3 (Chg.keep X (fun f => f) (X0.keep hB)) (by simp; omega) rfl (fun w9 h => by have h2 := h.blk; rw [Nat.zero_add, ints_set (by omega) y] at h2; exact h2)
              exact DagStepsT.nil
            · intro s' wd8 w8 X0 X8 U H
              have e63 : s' 63 = (.slice (some ⟨g, 0, none⟩) n c) := H 2 63 (.eq (.slice (some ⟨g, 0, none⟩) n c)) rfl (by rw [hFs8]; rfl)
              have e65 : s' 65 = (.int .i64 (((k : Nat) : Int) + 1)) := H 4 65 (.eq (.int .i64 (((k : Nat) : Int) + 1))) rfl (by rw [hFs8]; rfl)
              have e74 : s' 74 = (.int .i64 x) := H 13 74 (.eq (.int .i64 x)) rfl (by rw [hFs8]; rfl)
              obtain hB := (show (.own (fun _ w => Blk w g ((cu.set k y).map (Value.int .i64) ++ rest).toArray T) (fun _ _ _ e h => Ext.keep e h) : FactT ((fun q => q = g))).In (s' 235) w8 from H 15 235 (.own (fun _ w => Blk w g ((cu.set k y).map (Value.int .i64) ++ rest).toArray T) (fun _ _ _ e h => Ext.keep e h)) rfl (by rw [hFs8]; rfl))
              obtain ⟨j8, rfl⟩ := Fits.out (σ := s') (l := [(0, (.slice (some ⟨g, 0, none⟩) n c)), (10, (.int .i64 ((i : Nat) : Int))), (13, (.int .i64 ((k : Nat) : Int))), (63, (.slice (some ⟨g, 0, none⟩) n c)), (65, (.int .i64 (((k : Nat) : Int) + 1))), (74, (.int .i64 x))]) ⟨U 0 rfl, U 10 rfl, U 13 rfl, e63, e65, e74, trivial⟩
              clear U H
              replace E := (E.ext X0).step X8 (fun q _ h => h)
              refine WpL_val rfl rfl (by decide) (r_indexSlice (b := g) (o := 0) (len := n) (cap := c) (i := k + 1) (o' := 0 + (k + 1)) rfl rfl (by omega) Try.underlying26 siz3 (by omega) (by omega)) ?_
              refine s_store (b := g) (o := 0 + (k + 1)) (c' := (((cu.set k y).set (k + 1) x).map (Value.int .i64) ++ rest).toArray) (v := (.int .i64 x)) rfl rfl rfl siz3 hB (by simp; omega) (by rw [Nat.zero_add]; exact ints_set (by simp; omega) x) ?_
              intro w9 S9
              replace E := S9.step E (by first | exact Or.inl (by omega) | exact Or.inr rfl | exact Or.inr (by assumption) | exact Or.inr (by simp) | exact Or.inr (by omega) | exact Or.inr (by dsimp only; omega))
              replace hB := S9.blk
              refine WpL_nil ?_
              refine inB_normal ?_
              refine thn_normal ?_
              refine Wp_region ?_
              refine WpL_val rfl rfl (by decide) (r_move (v := (.int .i64 ((k : Nat) : Int))) rfl) ?_
              refine WpL_val rfl rfl (by decide) (r_add (k := .i64) (a := ((k : Nat) : Int)) (b := 1) (c := ((k : Nat) : Int) + 1) rfl rfl (wI64 (by omega))) ?_
              refine WpL_val rfl rfl (by decide) (r_assign (v := (.int .i64 (((k : Nat) : Int) + 1))) rfl) ?_
              refine WpL_nil ?_
              refine thn_normal ?_
              exact ⟨i - (k + 1), by omega, k + 1, (cu.set k y).set (k + 1) x, Fits.out ⟨rfl, rfl, rfl, trivial⟩, E, hB, ⟨by omega, by omega⟩, (swap_perm hx hy (by omega)).trans hp, (fun z => by rw [swap_get hx hy, hz]; congr 1; exact upI_succ (by omega) z), rfl⟩
          · have khltk := hltk
            replace hltk := of_decide_eq_false hltk
            have hki : k = i - 1 := by omega
            subst hki
            have hfin := up_rar (κ := κ) hz (by omega) (by omega) (by omega) hs2 hlo hhi (show m = a + 1 by omega)
            refine Wp_exit ?_
            refine thn_exit ?_
            refine thn_exit ?_
            refine inB_here ?_
            refine thn_normal ?_
            refine Wp_ret ?_
            refine thn_ret ?_
            refine fin_noneR Try.results117 ?_
            exact ⟨cu, _, hp, hfin.1, hfin.2, hB, E⟩
  · have kh1 := h1
    replace h1 := of_decide_eq_false h1
    refine Wp_skip ?_
    refine thn_normal ?_
    refine Wp_seq ?_
    refine Wp_seq_region ?_
    refine WpL_val rfl rfl (by decide) (r_move (v := (.int .i64 ((b : Nat) : Int))) rfl) ?_
    refine WpL_val rfl rfl (by decide) (r_move (v := (.int .i64 ((m : Nat) : Int))) rfl) ?_
    refine WpL_val rfl rfl (by decide) (r_sub (k := .i64) (a := ((b : Nat) : Int)) (b := ((m : Nat) : Int)) (c := (((b - m : Nat) : Nat) : Int)) rfl rfl ((wI64 (by omega)).trans (by omega))) ?_
    refine WpL_val rfl rfl (by decide) (r_eql (k := .i64) (a := (((b - m : Nat) : Nat) : Int)) (b := 1) rfl rfl) ?_
    refine WpL_nil ?_
    refine Wp_cond (b := decide (((((b - m : Nat) : Nat) : Int) : Int) = 1)) rfl (fun h2 => ?_) (fun h2 => ?_)
    · have kh2 := h2
      replace h2 := of_decide_eq_true h2
      refine Wp_seq_region ?_
      refine WpL_val rfl rfl (by decide) (r_move (v := (.int .i64 ((a : Nat) : Int))) rfl) ?_
      refine WpL_val rfl rfl (by decide) (r_assign (v := (.int .i64 ((a : Nat) : Int))) rfl) ?_
      refine WpL_nil ?_
      refine Wp_seq_region ?_
      refine WpL_val rfl rfl (by decide) (r_move (v := (.int .i64 ((m : Nat) : Int))) rfl) ?_
      refine WpL_val rfl rfl (by decide) (r_assign (v := (.int .i64 ((m : Nat) : Int))) rfl) ?_
      refine WpL_nil ?_
      refine Wp_seq ?_
      refine Wp_block ?_
      refine Wp_loop (fun nn_ σ W11 => ∃ (i2 j2 : Nat), (∃ jj_, σ = upds jj_ [(0, (.slice (some ⟨g, 0, none⟩) n c)), (2, (.int .i64 ((m : Nat) : Int))), (4, fv), (14, (.int .i64 ((i2 : Nat) : Int))), (15, (.int .i64 ((j2 : Nat) : Int)))]) ∧ Chg (fun q => q = g) w0 W11 ∧ Blk W11 g ((l.map (Value.int .i64) ++ rest).toArray) T ∧ (a ≤ i2 ∧ i2 ≤ j2 ∧ j2 ≤ m) ∧ (∀ (p : Nat) (u v : Int), a ≤ p → p < i2 → l[p]? = some u → l[m]? = some v → κ u ≤ κ v) ∧ (∀ (p : Nat) (u v : Int), j2 ≤ p → p < m → l[p]? = some u → l[m]? = some v → κ v < κ u) ∧ nn_ = j2 - i2 + 1) (n := m - a + 1) ?_ ?_
      · exact ⟨a, m, Fits.out ⟨rfl, rfl, rfl, rfl, rfl, trivial⟩, E, hB, ⟨by omega, by omega, by omega⟩, (fun p u v h1 h2 => by omega), (fun p u v h1 h2 => by omega), rfl⟩
      · clear E hB
        rintro _ _ W11 ⟨i2, j2, ⟨j11, rfl⟩, E, hB, hi, hlo, hhi, rfl⟩
        refine Wp_seq ?_
        refine Wp_seq_region ?_
        refine WpL_val rfl rfl (by decide) (r_move (v := (.int .i64 ((i2 : Nat) : Int))) rfl) ?_
        refine WpL_val rfl rfl (by decide) (r_move (v := (.int .i64 ((j2 : Nat) : Int))) rfl) ?_
        refine WpL_val rfl rfl (by decide) (r_lss (k := .i64) (a := ((i2 : Nat) : Int)) (b := ((j2 : Nat) : Int)) rfl rfl) ?_
        refine WpL_nil ?_
        refine Wp_cond (b := decide ((((i2 : Nat) : Int) : Int) < ((j2 : Nat) : Int))) rfl (fun hlt => ?_) (fun hlt => ?_)
        · have khlt := hlt
          replace hlt := of_decide_eq_true hlt
          refine Wp_skip ?_
          refine thn_normal ?_
          refine Wp_block ?_
          refine Wp_seq_region ?_
          refine WpL_val rfl rfl (by decide) (r_move (v := (.int .i64 ((i2 : Nat) : Int))) rfl) ?_
          refine WpL_val rfl rfl (by decide) (r_move (v := (.int .i64 ((j2 : Nat) : Int))) rfl) ?_
          refine WpL_val rfl rfl (by decide) (r_add (k := .i64) (a := ((i2 : Nat) : Int)) (b := ((j2 : Nat) : Int)) (c := (((i2 + j2 : Nat) : Nat) : Int)) rfl rfl ((wI64 (by omega)).trans (by omega))) ?_
          refine WpL_val rfl rfl (by decide) (r_convInt (k := .i64) (k' := .u64) (n := (((i2 + j2 : Nat) : Nat) : Int)) (c := (((i2 + j2 : Nat) : Nat) : Int)) ⟨_, Try.underlying3⟩ Try.underlying115 rfl (wU64 (by omega))) ?_
          refine WpL_val rfl rfl (by decide) (r_shr (k := .u64) (a := (((i2 + j2 : Nat) : Nat) : Int)) (b := 1) (c := ((((i2 + j2) / 2 : Nat) : Nat) : Int)) (k' := .u64) rfl rfl (by omega) (half_shrX _)) ?_
          refine WpL_val rfl rfl (by decide) (r_convInt (k := .u64) (k' := .i64) (n := ((((i2 + j2) / 2 : Nat) : Nat) : Int)) (c := ((((i2 + j2) / 2 : Nat) : Nat) : Int)) ⟨_, Try.underlying115⟩ Try.underlying3 rfl (wI64 (by omega))) ?_
          refine WpL_val rfl rfl (by decide) (r_assign (v := (.int .i64 ((((i2 + j2) / 2 : Nat) : Nat) : Int))) rfl) ?_
          refine WpL_nil ?_
          obtain ⟨x, hx⟩ := get_of_lt (l := l) (i := m) (by omega)
          obtain ⟨y, hy⟩ := get_of_lt (l := l) (i := (i2 + j2) / 2) (by omega)
          refine Wp_seq ?_
          obtain ⟨Fs13, hFs13⟩ : ∃ Fs : List Fact, Fs = [.eq fv, .eq (.slice (some ⟨g, 0, none⟩) n c), .eq (.int .i64 ((m : Nat) : Int)), .eq (.pointer (some ⟨g, 0 + m, none⟩)), .eq (.int .i64 x), .eq (.slice (some ⟨g, 0, none⟩) n c), .eq (.int .i64 ((((i2 + j2) / 2 : Nat) : Nat) : Int)), .eq (.pointer (some ⟨g, 0 + ((i2 + j2) / 2), none⟩)), .eq (.int .i64 y), .eq (.int .i64 (cf x y)), .eq (.bool (decide (cf x y < 0))), .eq (.bool (!(decide (cf x y < 0))))] := ⟨_, rfl⟩
          refine Wp_dag [92, 93, 94, 95, 96, 97, 98, 99, 100, 101, 102, 103] [[], [], [], [1, 2], [3], [], [], [5, 6], [7], [0, 4, 8], [9], [10]] Fs13 hFs13 mixed (by kernel_rfl) (by kernel_rfl) ?_ ?_
          · intro wd X0
            refine DagSteps.cons (fun s' w' X U H => Or.inl ⟨?_, ?_⟩) ?_
            · exact Guarded_none rfl
            · exact Does_val (r_move (v := fv) (U 4 rfl)) (Ext.refl _) rfl
            refine DagSteps.cons (fun s' w' X U H => Or.inl ⟨?_, ?_⟩) ?_
            · exact Guarded_none rfl
            · exact Does_val (r_move (v := (.slice (some ⟨g, 0, none⟩) n c)) (U 0 rfl)) (Ext.refl _) rfl
            refine DagSteps.cons (fun s' w' X U H => Or.inl ⟨?_, ?_⟩) ?_
            · exact Guarded_none rfl
            · exact Does_val (r_move (v := (.int .i64 ((m : Nat) : Int))) (U 2 rfl)) (Ext.refl _) rfl
            refine DagSteps.cons (fun s' w' X U H => Or.inl ⟨?_, ?_⟩) ?_
            · exact Guarded_none rfl
            · have e93 : s' 93 = (.slice (some ⟨g, 0, none⟩) n c) := H 1 rfl 93 (.eq (.slice (some ⟨g, 0, none⟩) n c)) rfl (by rw [hFs13]; rfl)
              have e94 : s' 94 = (.int .i64 ((m : Nat) : Int)) := H 2 rfl 94 (.eq (.int .i64 ((m : Nat) : Int))) rfl (by rw [hFs13]; rfl)
              exact Does_val (r_indexSlice (b := g) (o := 0) (len := n) (cap := c) (i := m) (o' := 0 + m) e93 e94 (by omega) Try.underlying26 siz3 (by omega) (by omega)) (Ext.refl _) rfl
            refine DagSteps.cons (fun s' w' X U H => Or.inl ⟨?_, ?_⟩) ?_
            · exact Guarded_none rfl
            · have e95 : s' 95 = (.pointer (some ⟨g, 0 + m, none⟩)) := H 3 rfl 95 (.eq (.pointer (some ⟨g, 0 + m, none⟩))) rfl (by rw [hFs13]; rfl)
              exact Does_val (r_load (v := (.int .i64 x)) e95 flat3 ((by rw [Nat.zero_add]; exact ints_get ((X0.trans X).keep hB) hx))) (Ext.refl _) rfl
            refine DagSteps.cons (fun s' w' X U H => Or.inl ⟨?_, ?_⟩) ?_
            · exact Guarded_none rfl
            · exact Does_val (r_move (v := (.slice (some ⟨g, 0, none⟩) n c)) (U 0 rfl)) (Ext.refl _) rfl
            refine DagSteps.cons (fun s' w' X U H => Or.inl ⟨?_, ?_⟩) ?_
            · exact Guarded_none rfl
            · exact Does_val (r_move (v := (.int .i64 ((((i2 + j2) / 2 : Nat) : Nat) : Int))) (U 16 rfl)) (Ext.refl _) rfl
            refine DagSteps.cons (fun s' w' X U H => Or.inl ⟨?_, ?_⟩) ?_
            · exact Guarded_none rfl
            · have e97 : s' 97 = (.slice (some ⟨g, 0, none⟩) n c) := H 5 rfl 97 (.eq (.slice (some ⟨g, 0, none⟩) n c)) rfl (by rw [hFs13]; rfl)
              have e98 : s' 98 = (.int .i64 ((((i2 + j2) / 2 : Nat) : Nat) : Int)) := H 6 rfl 98 (.eq (.int .i64 ((((i2 + j2) / 2 : Nat) : Nat) : Int))) rfl (by rw [hFs13]; rfl)
              exact Does_val (r_indexSlice (b := g) (o := 0) (len := n) (cap := c) (i := (i2 + j2) / 2) (o' := 0 + ((i2 + j2) / 2)) e97 e98 (by omega) Try.underlying26 siz3 (by omega) (by omega)) (Ext.refl _) rfl
            refine DagSteps.cons (fun s' w' X U H => Or.inl ⟨?_, ?_⟩) ?_
            · exact Guarded_none rfl
            · have e99 : s' 99 = (.pointer (some ⟨g, 0 + ((i2 + j2) / 2), none⟩)) := H 7 rfl 99 (.eq (.pointer (some ⟨g, 0 + ((i2 + j2) / 2), none⟩))) rfl (by rw [hFs13]; rfl)
              exact Does_val (r_load (v := (.int .i64 y)) e99 flat3 ((by rw [Nat.zero_add]; exact ints_get ((X0.trans X).keep hB) hy))) (Ext.refl _) rfl
            refine DagSteps.cons (fun s' w' X U H => Or.inl ⟨?_, ?_⟩) ?_
            · exact Guarded_none rfl
            · have e96 : s' 96 = (.int .i64 x) := H 4 rfl 96 (.eq (.int .i64 x)) rfl (by rw [hFs13]; rfl)
              have e100 : s' 100 = (.int .i64 y) := H 8 rfl 100 (.eq (.int .i64 y)) rfl (by rw [hFs13]; rfl)
              have e92 : s' 92 = fv := H 0 rfl 92 (.eq fv) rfl (by rw [hFs13]; rfl)
              exact Does_callV e92 (lst2 e96 e100) (hf _ x y (E.ext (X0.trans X)) (List.mem_of_getElem? hx) (List.mem_of_getElem? hy))
            refine DagSteps.cons (fun s' w' X U H => Or.inl ⟨?_, ?_⟩) ?_
            · exact Guarded_none rfl
            · have e101 : s' 101 = (.int .i64 (cf x y)) := H 9 rfl 101 (.eq (.int .i64 (cf x y))) rfl (by rw [hFs13]; rfl)
              exact Does_val (r_lss (k := .i64) (a := cf x y) (b := 0) e101 rfl) (Ext.refl _) rfl
            refine DagSteps.cons (fun s' w' X U H => Or.inl ⟨?_, ?_⟩) ?_
            · exact Guarded_none rfl
            · have e102 : s' 102 = (.bool (decide (cf x y < 0))) := H 10 rfl 102 (.eq (.bool (decide (cf x y < 0)))) rfl (by rw [hFs13]; rfl)
              exact Does_val (r_not (b := decide (cf x y < 0)) e102) (Ext.refl _) rfl
            exact DagSteps.nil
          · intro s' w13 X13 U H
            obtain ⟨j13, rfl⟩ := Fits.out (σ := s') (l := [(0, (.slice (some ⟨g, 0, none⟩) n c)), (2, (.int .i64 ((m : Nat) : Int))), (4, fv), (14, (.int .i64 ((i2 : Nat) : Int))), (15, (.int .i64 ((j2 : Nat) : Int))), (16, (.int .i64 ((((i2 + j2) / 2 : Nat) : Nat) : Int))), (103, (.bool (!(decide (cf x y < 0)))))]) ⟨U 0 rfl, U 2 rfl, U 4 rfl, U 14 rfl, U 15 rfl, U 16 rfl, (show s' 103 = (.bool (!(decide (cf x y < 0)))) from H 11 103 (.eq (.bool (!(decide (cf x y < 0))))) rfl (by rw [hFs13]; rfl)), trivial⟩
            clear U H
            replace hB := X13.keep hB
            replace E := E.ext X13
            refine thn_normal ?_
            refine Wp_cond (b := !(decide (cf x y < 0))) rfl (fun hc => ?_) (fun hc => ?_)
            · have khc := hc
              replace hc := by simpa using hc
              refine Wp_region ?_
              refine WpL_val rfl rfl (by decide) (r_move (v := (.int .i64 ((((i2 + j2) / 2 : Nat) : Nat) : Int))) rfl) ?_
              refine WpL_val rfl rfl (by decide) (r_add (k := .i64) (a := ((((i2 + j2) / 2 : Nat) : Nat) : Int)) (b := 1) (c := ((((i2 + j2) / 2 : Nat) : Nat) : Int) + 1) rfl rfl (wI64 (by omega))) ?_
              refine WpL_val rfl rfl (by decide) (r_assign (v := (.int .i64 (((((i2 + j2) / 2 : Nat) : Nat) : Int) + 1))) rfl) ?_
              refine WpL_nil ?_
              refine inB_normal ?_
              refine thn_normal ?_
              exact ⟨j2 - ((i2 + j2) / 2 + 1) + 1, by omega, (i2 + j2) / 2 + 1, j2, Fits.out ⟨rfl, rfl, rfl, rfl, rfl, trivial⟩, E, hB, ⟨by omega, by omega, by omega⟩, (fun p u v h1 h2 hu hv => by rw [hx] at hv; cases hv; have h3 : κ y ≤ κ x := Int.not_lt.1 fun h => absurd ((hk x y).2 h) (by omega); have h4 := hs1.le h1 (show p ≤ (i2 + j2) / 2 by omega) (by omega) hu hy; omega), hhi, rfl⟩
            · have khc := hc
              replace hc := by simpa using hc
              refine Wp_region ?_
              refine WpL_val rfl rfl (by decide) (r_move (v := (.int .i64 ((((i2 + j2) / 2 : Nat) : Nat) : Int))) rfl) ?_
              refine WpL_val rfl rfl (by decide) (r_assign (v := (.int .i64 ((((i2 + j2) / 2 : Nat) : Nat) : Int))) rfl) ?_
              refine WpL_nil ?_
              refine inB_normal ?_
              refine thn_normal ?_
              exact ⟨((i2 + j2) / 2) - i2 + 1, by omega, i2, (i2 + j2) / 2, Fits.out ⟨rfl, rfl, rfl, rfl, rfl, trivial⟩, E, hB, ⟨by omega, by omega, by omega⟩, hlo, (fun p u v h1 h2 hu hv => by rw [hx] at hv; cases hv; have h3 := (hk x y).1 (by omega); have h4 := hs1.le (show a ≤ (i2 + j2) / 2 by omega) h1 h2 hy hu; omega), rfl⟩
        · have khlt := hlt
          replace hlt := of_decide_eq_false hlt
          have hij2 : i2 = j2 := by omega
          refine Wp_exit ?_
          refine thn_exit ?_
          refine thn_exit ?_
          refine inB_here ?_
          refine thn_normal ?_
          refine Wp_seq ?_
          refine Wp_seq_region ?_
          refine WpL_val rfl rfl (by decide) (r_move (v := (.int .i64 ((m : Nat) : Int))) rfl) ?_
          refine WpL_val rfl rfl (by decide) (r_assign (v := (.int .i64 ((m : Nat) : Int))) rfl) ?_
          refine WpL_nil ?_
          refine Wp_block ?_
          refine Wp_loop (fun nn_ σ W15 => ∃ (k : Nat) (cu : List Int), (∃ jj_, σ = upds jj_ [(0, (.slice (some ⟨g, 0, none⟩) n c)), (14, (.int .i64 ((i2 : Nat) : Int))), (17, (.int .i64 ((k : Nat) : Int)))]) ∧ Chg (fun q => q = g) w0 W15 ∧ Blk W15 g ((cu.map (Value.int .i64) ++ rest).toArray) T ∧ (i2 ≤ k ∧ k ≤ m) ∧ (List.Perm cu l) ∧ (∀ z, cu[z]? = l[dnI m k z]?) ∧ nn_ = k - i2) (n := m - i2) ?_ ?_
          · exact ⟨m, l, Fits.out ⟨rfl, rfl, rfl, trivial⟩, E, hB, ⟨by omega, by omega⟩, List.Perm.refl _, (fun z => by rw [dnI_zero]), rfl⟩
          · clear E hB
            rintro _ _ W15 ⟨k, cu, ⟨j15, rfl⟩, E, hB, hkk, hp, hz, rfl⟩
            refine Wp_seq ?_
            refine Wp_seq_region ?_
            refine WpL_val rfl rfl (by decide) (r_move (v := (.int .i64 ((k : Nat) : Int))) rfl) ?_
            refine WpL_val rfl rfl (by decide) (r_move (v := (.int .i64 ((i2 : Nat) : Int))) rfl) ?_
            refine WpL_val rfl rfl (by decide) (r_gtr (k := .i64) (a := ((k : Nat) : Int)) (b := ((i2 : Nat) : Int)) rfl rfl) ?_
            refine WpL_nil ?_
            refine Wp_cond (b := decide ((((i2 : Nat) : Int) : Int) < ((k : Nat) : Int))) rfl (fun hgtk => ?_) (fun hgtk => ?_)
            · have khgtk := hgtk
              replace hgtk := of_decide_eq_true hgtk
              have hcl : cu.length = n := by rw [hp.length_eq, hn]
              obtain ⟨x, hx⟩ := get_of_lt (l := cu) (i := k) (by omega)
              obtain ⟨y, hy⟩ := get_of_lt (l := cu) (i := k - 1) (by omega)
              refine Wp_skip ?_
              refine thn_normal ?_
              refine Wp_seq ?_
              refine Wp_block ?_
              obtain ⟨Fs17, hFs17⟩ : ∃ Fs : List (FactT ((fun q => q = g))), Fs = [.eq (.slice (some ⟨g, 0, none⟩) n c), .eq (.int .i64 ((k : Nat) : Int)), .eq (.slice (some ⟨g, 0, none⟩) n c), .eq (.int .i64 ((k : Nat) : Int)), .eq (.int .i64 (((k : Nat) : Int) - 1)), .eq (.slice (some ⟨g, 0, none⟩) n c), .eq (.int .i64 ((k : Nat) : Int)), .eq (.int .i64 (((k : Nat) : Int) - 1)), .eq (.pointer (some ⟨g, 0 + (k - 1), none⟩)), .eq (.int .i64 y), .eq (.slice (some ⟨g, 0, none⟩) n c), .eq (.int .i64 ((k : Nat) : Int)), .eq (.pointer (some ⟨g, 0 + k, none⟩)), .eq (.int .i64 x), .eq (.pointer (some ⟨g, 0 + k, none⟩)), .own (fun _ w => Blk w g ((cu.set k y).map (Value.int .i64) ++ rest).toArray T) (fun _ _ _ e h => Ext.keep e h)] := ⟨_, rfl⟩
              refine Wp_dagT ((fun q => q = g)) 16 15 [113, 114, 115, 116, 117, 118, 119, 120, 121, 122, 123, 124, 125, 126, 127, 235] [[], [], [], [], [3], [], [], [6], [5, 7], [8], [], [], [10, 11], [12], [0, 1, 5, 6, 7, 8, 9, 13], [0, 1, 5, 6, 7, 8, 9, 13, 14]] Fs17 hFs17 rfl mixed (by kernel_rfl) (by kernel_rfl) (by kernel_rfl) ?_ ?_
              · intro wd X0
                refine DagStepsT.cons (fun s' w' X U H => ?_) ?_
                · exact DoesT_val (r_move (v := (.slice (some ⟨g, 0, none⟩) n c)) (U 0 rfl)) (Chg.refl _ _) rfl
                refine DagStepsT.cons (fun s' w' X U H => ?_) ?_
                · exact DoesT_val (r_move (v := (.int .i64 ((k : Nat) : Int))) (U 17 rfl)) (Chg.refl _ _) rfl
                refine DagStepsT.cons (fun s' w' X U H => ?_) ?_
                · exact DoesT_val (r_move (v := (.slice (some ⟨g, 0, none⟩) n c)) (U 0 rfl)) (Chg.refl _ _) rfl
                refine DagStepsT.cons (fun s' w' X U H => ?_) ?_
                · exact DoesT_val (r_move (v := (.int .i64 ((k : Nat) : Int))) (U 17 rfl)) (Chg.refl _ _) rfl
                refine DagStepsT.cons (fun s' w' X U H => ?_) ?_
                · have e116 : s' 116 = (.int .i64 ((k : Nat) : Int)) := H 3 rfl 116 (.eq (.int .i64 ((k : Nat) : Int))) rfl (by rw [hFs17]; rfl)
                  exact DoesT_val (r_sub (k := .i64) (a := ((k : Nat) : Int)) (b := 1) (c := ((k : Nat) : Int) - 1) e116 rfl (wI64 (by omega))) (Chg.refl _ _) rfl
                refine DagStepsT.cons (fun s' w' X U H => ?_) ?_
                · exact DoesT_val (r_move (v := (.slice (some ⟨g, 0, none⟩) n c)) (U 0 rfl)) (Chg.refl _ _) rfl
                refine DagStepsT.cons (fun s' w' X U H => ?_) ?_
                · exact DoesT_val (r_move (v := (.int .i64 ((k : Nat) : Int))) (U 17 rfl)) (Chg.refl _ _) rfl
                refine DagStepsT.cons (fun s' w' X U H => ?_) ?_
                · have e119 : s' 119 = (.int .i64 ((k : Nat) : Int)) := H 6 rfl 119 (.eq (.int .i64 ((k : Nat) : Int))) rfl (by rw [hFs17]; rfl)
                  exact DoesT_val (r_sub (k := .i64) (a := ((k : Nat) : Int)) (b := 1) (c := ((k : Nat) : Int) - 1) e119 rfl (wI64 (by omega))) (Chg.refl _ _) rfl
                refine DagStepsT.cons (fun s' w' X U H => ?_) ?_
                · have e118 : s' 118 = (.slice (some ⟨g, 0, none⟩) n c) := H 5 rfl 118 (.eq (.slice (some ⟨g, 0, none⟩) n c)) rfl (by rw [hFs17]; rfl)
                  have e120 : s' 120 = (.int .i64 (((k : Nat) : Int) - 1)) := H 7 rfl 120 (.eq (.int .i64 (((k : Nat) : Int) - 1))) rfl (by rw [hFs17]; rfl)
                  exact DoesT_val (r_indexSlice (b := g) (o := 0) (len := n) (cap := c) (i := k - 1) (o' := 0 + (k - 1)) e118 e120 (by omega) Try.underlying26 siz3 (by omega) (by omega)) (Chg.refl _ _) rfl
                refine DagStepsT.cons (fun s' w' X U H => ?_) ?_
                · have e121 : s' 121 = (.pointer (some ⟨g, 0 + (k - 1), none⟩)) := H 8 rfl 121 (.eq (.pointer (some ⟨g, 0 + (k - 1), none⟩))) rfl (by rw [hFs17]; rfl)
                  exact DoesT_val (r_load (v := (.int .i64 y)) e121 flat3 (by rw [Nat.zero_add]; exact (Chg.keep X (fun f => f) (X0.keep hB) |> fun h => ints_get h hy))) (Chg.refl _ _) rfl
                refine DagStepsT.cons (fun s' w' X U H => ?_) ?_
                · exact DoesT_val (r_move (v := (.slice (some ⟨g, 0, none⟩) n c)) (U 0 rfl)) (Chg.refl _ _) rfl
                refine DagStepsT.cons (fun s' w' X U H => ?_) ?_
                · exact DoesT_val (r_move (v := (.int .i64 ((k : Nat) : Int))) (U 17 rfl)) (Chg.refl _ _) rfl
                refine DagStepsT.cons (fun s' w' X U H => ?_) ?_
                · have e123 : s' 123 = (.slice (some ⟨g, 0, none⟩) n c) := H 10 rfl 123 (.eq (.slice (some ⟨g, 0, none⟩) n c)) rfl (by rw [hFs17]; rfl)
                  have e124 : s' 124 = (.int .i64 ((k : Nat) : Int)) := H 11 rfl 124 (.eq (.int .i64 ((k : Nat) : Int))) rfl (by rw [hFs17]; rfl)
                  exact DoesT_val (r_indexSlice (b := g) (o := 0) (len := n) (cap := c) (i := k) (o' := 0 + k) e123 e124 (by omega) Try.underlying26 siz3 (by omega) (by omega)) (Chg.refl _ _) rfl
                refine DagStepsT.cons (fun s' w' X U H => ?_) ?_
                · have e125 : s' 125 = (.pointer (some ⟨g, 0 + k, none⟩)) := H 12 rfl 125 (.eq (.pointer (some ⟨g, 0 + k, none⟩))) rfl (by rw [hFs17]; rfl)
                  exact DoesT_val (r_load (v := (.int .i64 x)) e125 flat3 (by rw [Nat.zero_add]; exact (Chg.keep X (fun f => f) (X0.keep hB) |> fun h => ints_get h hx))) (Chg.refl _ _) rfl
                refine DagStepsT.cons (fun s' w' X U H => ?_) ?_
                · have e113 : s' 113 = (.slice (some ⟨g, 0, none⟩) n c) := H 0 rfl 113 (.eq (.slice (some ⟨g, 0, none⟩) n c)) rfl (by rw [hFs17]; rfl)
                  have e114 : s' 114 = (.int .i64 ((k : Nat) : Int)) := H 1 rfl 114 (.eq (.int .i64 ((k : Nat) : Int))) rfl (by rw [hFs17]; rfl)
                  exact DoesT_val (r_indexSlice (b := g) (o := 0) (len := n) (cap := c) (i := k) (o' := 0 + k) e113 e114 (by omega) Try.underlying26 siz3 (by omega) (by omega)) (Chg.refl _ _) rfl
                refine DagStepsT.cons (fun s' w' X U H => ?_) ?_
                · have e127 : s' 127 = (.pointer (some ⟨g, 0 + k, none⟩)) := H 14 rfl 127 (.eq (.pointer (some ⟨g, 0 + k, none⟩))) rfl (by rw [hFs17]; rfl)
                  have e122 : s' 122 = (.int .i64 y) := H 9 rfl 122 (.eq (.int .i64 y)) rfl (by rw [hFs17]; rfl)
                  exact DoesT_store e127 e122 rfl siz3 (Chg.keep X (fun f => f) (X0.keep hB)) (by simp; omega) rfl (fun w9 h => by have h2 := h.blk; rw [Nat.zero_add, ints_set (by omega) y] at h2; exact h2)
                exact DagStepsT.nil
              · intro s' wd17 w17 X0 X17 U H
                have e115 : s' 115 = (.slice (some ⟨g, 0, none⟩) n c) := H 2 115 (.eq (.slice (some ⟨g, 0, none⟩) n c)) rfl (by rw [hFs17]; rfl)
                have e117 : s' 117 = (.int .i64 (((k : Nat) : Int) - 1)) := H 4 117 (.eq (.int .i64 (((k : Nat) : Int) - 1))) rfl (by rw [hFs17]; rfl)
                have e126 : s' 126 = (.int .i64 x) := H 13 126 (.eq (.int .i64 x)) rfl (by rw [hFs17]; rfl)
                obtain hB := (show (.own (fun _ w => Blk w g ((cu.set k y).map (Value.int .i64) ++ rest).toArray T) (fun _ _ _ e h => Ext.keep e h) : FactT ((fun q => q = g))).In (s' 235) w17 from H 15 235 (.own (fun _ w => Blk w g ((cu.set k y).map (Value.int .i64) ++ rest).toArray T) (fun _ _ _ e h => Ext.keep e h)) rfl (by rw [hFs17]; rfl))
                obtain ⟨j17, rfl⟩ := Fits.out (σ := s') (l := [(0, (.slice (some ⟨g, 0, none⟩) n c)), (14, (.int .i64 ((i2 : Nat) : Int))), (17, (.int .i64 ((k : Nat) : Int))), (115, (.slice (some ⟨g, 0, none⟩) n c)), (117, (.int .i64 (((k : Nat) : Int) - 1))), (126, (.int .i64 x))]) ⟨U 0 rfl, U 14 rfl, U 17 rfl, e115, e117, e126, trivial⟩
                clear U H
                replace E := (E.ext X0).step X17 (fun q _ h => h)
                refine WpL_val rfl rfl (by decide) (r_indexSlice (b := g) (o := 0) (len := n) (cap := c) (i := k - 1) (o' := 0 + (k - 1)) rfl rfl (by omega) Try.underlying26 siz3 (by omega) (by omega)) ?_
                refine s_store (b := g) (o := 0 + (k - 1)) (c' := (((cu.set k y).set (k - 1) x).map (Value.int .i64) ++ rest).toArray) (v := (.int .i64 x)) rfl rfl rfl siz3 hB (by simp; omega) (by rw [Nat.zero_add]; exact ints_set (by simp; omega) x) ?_
                intro w18 S18
                replace E := S18.step E (by first | exact Or.inl (by omega) | exact Or.inr rfl | exact Or.inr (by assumption) | exact Or.inr (by simp) | exact Or.inr (by omega) | exact Or.inr (by dsimp only; omega))
                replace hB := S18.blk
                refine WpL_nil ?_
                refine inB_normal ?_
                refine thn_normal ?_
                refine Wp_region ?_
                refine WpL_val rfl rfl (by decide) (r_move (v := (.int .i64 ((k : Nat) : Int))) rfl) ?_
                refine WpL_val rfl rfl (by decide) (r_sub (k := .i64) (a := ((k : Nat) : Int)) (b := 1) (c := (((k - 1 : Nat) : Nat) : Int)) rfl rfl ((wI64 (by omega)).trans (by omega))) ?_
                refine WpL_val rfl rfl (by decide) (r_assign (v := (.int .i64 (((k - 1 : Nat) : Nat) : Int))) rfl) ?_
                refine WpL_nil ?_
                refine thn_normal ?_
                exact ⟨(k - 1) - i2, by omega, k - 1, (cu.set k y).set (k - 1) x, Fits.out ⟨rfl, rfl, rfl, trivial⟩, E, hB, ⟨by omega, by omega⟩, (swap_perm hx hy (by omega)).trans hp, (fun z => by rw [swap_get hx hy, hz]; congr 1; exact dnI_succ (by omega) (by omega) z), rfl⟩
            · have khgtk := hgtk
              replace hgtk := of_decide_eq_false hgtk
              have hki : k = i2 := by omega
              subst hki
              rw [← hij2] at hhi
              have hfin := dn_rar (κ := κ) hz (by omega) (by omega) hs1 hlo hhi (show b = m + 1 by omega)
              refine Wp_exit ?_
              refine thn_exit ?_
              refine thn_exit ?_
              refine inB_here ?_
              refine thn_normal ?_
              refine Wp_ret ?_
              refine thn_ret ?_
              refine fin_noneR Try.results117 ?_
              exact ⟨cu, _, hp, hfin.1, hfin.2, hB, E⟩
    · have kh2 := h2
      replace h2 := of_decide_eq_false h2
      refine Wp_skip ?_
      refine thn_normal ?_
      refine Wp_seq_region ?_
      refine WpL_val rfl rfl (by decide) (r_move (v := (.int .i64 ((a : Nat) : Int))) rfl) ?_
      refine WpL_val rfl rfl (by decide) (r_move (v := (.int .i64 ((b : Nat) : Int))) rfl) ?_
      refine WpL_val rfl rfl (by decide) (r_add (k := .i64) (a := ((a : Nat) : Int)) (b := ((b : Nat) : Int)) (c := (((a + b : Nat) : Nat) : Int)) rfl rfl ((wI64 (by omega)).trans (by omega))) ?_
      refine WpL_val rfl rfl (by decide) (r_convInt (k := .i64) (k' := .u64) (n := (((a + b : Nat) : Nat) : Int)) (c := (((a + b : Nat) : Nat) : Int)) ⟨_, Try.underlying3⟩ Try.underlying115 rfl (wU64 (by omega))) ?_
      refine WpL_val rfl rfl (by decide) (r_shr (k := .u64) (a := (((a + b : Nat) : Nat) : Int)) (b := 1) (c := ((((a + b) / 2 : Nat) : Nat) : Int)) (k' := .u64) rfl rfl (by omega) (half_shrX _)) ?_
      refine WpL_val rfl rfl (by decide) (r_convInt (k := .u64) (k' := .i64) (n := ((((a + b) / 2 : Nat) : Nat) : Int)) (c := ((((a + b) / 2 : Nat) : Nat) : Int)) ⟨_, Try.underlying115⟩ Try.underlying3 rfl (wI64 (by omega))) ?_
      refine WpL_val rfl rfl (by decide) (r_assign (v := (.int .i64 ((((a + b) / 2 : Nat) : Nat) : Int))) rfl) ?_
      refine WpL_nil ?_
      refine Wp_seq_region ?_
      refine WpL_val rfl rfl (by decide) (r_move (v := (.int .i64 ((((a + b) / 2 : Nat) : Nat) : Int))) rfl) ?_
      refine WpL_val rfl rfl (by decide) (r_move (v := (.int .i64 ((m : Nat) : Int))) rfl) ?_
      refine WpL_val rfl rfl (by decide) (r_add (k := .i64) (a := ((((a + b) / 2 : Nat) : Nat) : Int)) (b := ((m : Nat) : Int)) (c := ((((a + b) / 2 + m : Nat) : Nat) : Int)) rfl rfl ((wI64 (by omega)).trans (by omega))) ?_
      refine WpL_val rfl rfl (by decide) (r_assign (v := (.int .i64 ((((a + b) / 2 + m : Nat) : Nat) : Int))) rfl) ?_
      refine WpL_nil ?_
      refine Wp_seq_region ?_
      refine WpL_val rfl rfl (by decide) (r_assign (v := (.int .i64 0)) rfl) ?_
      refine WpL_val rfl rfl (by decide) (r_assign (v := (.int .i64 0)) rfl) ?_
      refine WpL_nil ?_
      refine Wp_cut (fun σ W19 => ∃ (s0 r0 : Nat), (∃ jj_, σ = upds jj_ [(0, (.slice (some ⟨g, 0, none⟩) n c)), (1, (.int .i64 ((a : Nat) : Int))), (2, (.int .i64 ((m : Nat) : Int))), (3, (.int .i64 ((b : Nat) : Int))), (4, fv), (18, (.int .i64 ((((a + b) / 2 : Nat) : Nat) : Int))), (19, (.int .i64 ((((a + b) / 2 + m : Nat) : Nat) : Int))), (20, (.int .i64 ((s0 : Nat) : Int))), (21, (.int .i64 ((r0 : Nat) : Int)))]) ∧ Chg (fun q => q = g) w0 W19 ∧ Blk W19 g ((l.map (Value.int .i64) ++ rest).toArray) T ∧ (a ≤ s0 ∧ s0 ≤ r0 ∧ r0 ≤ m ∧ r0 ≤ (a + b) / 2 ∧ (a + b) / 2 + m ≤ s0 + b) ∧ ((s0 = a ∨ s0 + b = (a + b) / 2 + m) ∧ (r0 = m ∨ r0 = (a + b) / 2))) ?_ ?_
      · skip
        refine Wp_seq_region ?_
        refine WpL_val rfl rfl (by decide) (r_move (v := (.int .i64 ((m : Nat) : Int))) rfl) ?_
        refine WpL_val rfl rfl (by decide) (r_move (v := (.int .i64 ((((a + b) / 2 : Nat) : Nat) : Int))) rfl) ?_
        refine WpL_val rfl rfl (by decide) (r_gtr (k := .i64) (a := ((m : Nat) : Int)) (b := ((((a + b) / 2 : Nat) : Nat) : Int)) rfl rfl) ?_
        refine WpL_nil ?_
        refine Wp_cond (b := decide ((((((a + b) / 2 : Nat) : Nat) : Int) : Int) < ((m : Nat) : Int))) rfl (fun hmm => ?_) (fun hmm => ?_)
        · have khmm := hmm
          replace hmm := of_decide_eq_true hmm
          refine Wp_seq_region ?_
          refine WpL_val rfl rfl (by decide) (r_move (v := (.int .i64 ((((a + b) / 2 + m : Nat) : Nat) : Int))) rfl) ?_
          refine WpL_val rfl rfl (by decide) (r_move (v := (.int .i64 ((b : Nat) : Int))) rfl) ?_
          refine WpL_val rfl rfl (by decide) (r_sub (k := .i64) (a := ((((a + b) / 2 + m : Nat) : Nat) : Int)) (b := ((b : Nat) : Int)) (c := ((((a + b) / 2 + m - b : Nat) : Nat) : Int)) rfl rfl ((wI64 (by omega)).trans (by omega))) ?_
          refine WpL_val rfl rfl (by decide) (r_assign (v := (.int .i64 ((((a + b) / 2 + m - b : Nat) : Nat) : Int))) rfl) ?_
          refine WpL_nil ?_
          refine Wp_region ?_
          refine WpL_val rfl rfl (by decide) (r_move (v := (.int .i64 ((((a + b) / 2 : Nat) : Nat) : Int))) rfl) ?_
          refine WpL_val rfl rfl (by decide) (r_assign (v := (.int .i64 ((((a + b) / 2 : Nat) : Nat) : Int))) rfl) ?_
          refine WpL_nil ?_
          refine thn_normal ?_
          exact ⟨(a + b) / 2 + m - b, (a + b) / 2, Fits.out ⟨rfl, rfl, rfl, rfl, rfl, rfl, rfl, rfl, rfl, trivial⟩, E, hB, ⟨by omega, by omega, by omega, by omega, by omega⟩, ⟨.inr (by omega), .inr rfl⟩⟩
        · have khmm := hmm
          replace hmm := of_decide_eq_false hmm
          refine Wp_seq_region ?_
          refine WpL_val rfl rfl (by decide) (r_move (v := (.int .i64 ((a : Nat) : Int))) rfl) ?_
          refine WpL_val rfl rfl (by decide) (r_assign (v := (.int .i64 ((a : Nat) : Int))) rfl) ?_
          refine WpL_nil ?_
          refine Wp_region ?_
          refine WpL_val rfl rfl (by decide) (r_move (v := (.int .i64 ((m : Nat) : Int))) rfl) ?_
          refine WpL_val rfl rfl (by decide) (r_assign (v := (.int .i64 ((m : Nat) : Int))) rfl) ?_
          refine WpL_nil ?_
          refine thn_normal ?_
          exact ⟨a, m, Fits.out ⟨rfl, rfl, rfl, rfl, rfl, rfl, rfl, rfl, rfl, trivial⟩, E, hB, ⟨by omega, by omega, by omega, by omega, by omega⟩, ⟨.inl rfl, .inl rfl⟩⟩
      · clear E hB
        rintro _ W19 ⟨s0, r0, ⟨j19, rfl⟩, E, hB, hs0, hhs⟩
        refine Wp_seq_region ?_
        refine WpL_val rfl rfl (by decide) (r_move (v := (.int .i64 ((((a + b) / 2 + m : Nat) : Nat) : Int))) rfl) ?_
        refine WpL_val rfl rfl (by decide) (r_sub (k := .i64) (a := ((((a + b) / 2 + m : Nat) : Nat) : Int)) (b := 1) (c := ((((a + b) / 2 + m - 1 : Nat) : Nat) : Int)) rfl rfl ((wI64 (by omega)).trans (by omega))) ?_
        refine WpL_val rfl rfl (by decide) (r_assign (v := (.int .i64 ((((a + b) / 2 + m - 1 : Nat) : Nat) : Int))) rfl) ?_
        refine WpL_nil ?_
        refine Wp_seq ?_
        refine Wp_block ?_
        refine Wp_loop (fun nn_ σ W21 => ∃ (i3 j3 : Nat), (∃ jj_, σ = upds jj_ [(0, (.slice (some ⟨g, 0, none⟩) n c)), (1, (.int .i64 ((a : Nat) : Int))), (2, (.int .i64 ((m : Nat) : Int))), (3, (.int .i64 ((b : Nat) : Int))), (4, fv), (18, (.int .i64 ((((a + b) / 2 : Nat) : Nat) : Int))), (19, (.int .i64 ((((a + b) / 2 + m : Nat) : Nat) : Int))), (22, (.int .i64 ((((a + b) / 2 + m - 1 : Nat) : Nat) : Int))), (20, (.int .i64 ((i3 : Nat) : Int))), (21, (.int .i64 ((j3 : Nat) : Int)))]) ∧ Chg (fun q => q = g) w0 W21 ∧ Blk W21 g ((l.map (Value.int .i64) ++ rest).toArray) T ∧ (s0 ≤ i3 ∧ i3 ≤ j3 ∧ j3 ≤ r0) ∧ (i3 = s0 ∨ ∃ u v, l[i3 - 1]? = some u ∧ l[(a + b) / 2 + m - i3]? = some v ∧ κ u ≤ κ v) ∧ (j3 = r0 ∨ ∃ u v, l[j3]? = some u ∧ l[(a + b) / 2 + m - 1 - j3]? = some v ∧ κ v < κ u) ∧ nn_ = j3 - i3 + 1) (n := r0 - s0 + 1) ?_ ?_
        · exact ⟨s0, r0, Fits.out ⟨rfl, rfl, rfl, rfl, rfl, rfl, rfl, rfl, rfl, rfl, trivial⟩, E, hB, ⟨by omega, by omega, by omega⟩, .inl rfl, .inl rfl, rfl⟩
        · clear E hB
          rintro _ _ W21 ⟨i3, j3, ⟨j21, rfl⟩, E, hB, hi3, hlo, hhi, rfl⟩
          refine Wp_seq ?_
          refine Wp_seq_region ?_
          refine WpL_val rfl rfl (by decide) (r_move (v := (.int .i64 ((i3 : Nat) : Int))) rfl) ?_
          refine WpL_val rfl rfl (by decide) (r_move (v := (.int .i64 ((j3 : Nat) : Int))) rfl) ?_
          refine WpL_val rfl rfl (by decide) (r_lss (k := .i64) (a := ((i3 : Nat) : Int)) (b := ((j3 : Nat) : Int)) rfl rfl) ?_
          refine WpL_nil ?_
          refine Wp_cond (b := decide ((((i3 : Nat) : Int) : Int) < ((j3 : Nat) : Int))) rfl (fun hlt3 => ?_) (fun hlt3 => ?_)
          · have khlt3 := hlt3
            replace hlt3 := of_decide_eq_true hlt3
            refine Wp_skip ?_
            refine thn_normal ?_
            refine Wp_block ?_
            refine Wp_seq_region ?_
            refine WpL_val rfl rfl (by decide) (r_move (v := (.int .i64 ((i3 : Nat) : Int))) rfl) ?_
            refine WpL_val rfl rfl (by decide) (r_move (v := (.int .i64 ((j3 : Nat) : Int))) rfl) ?_
            refine WpL_val rfl rfl (by decide) (r_add (k := .i64) (a := ((i3 : Nat) : Int)) (b := ((j3 : Nat) : Int)) (c := (((i3 + j3 : Nat) : Nat) : Int)) rfl rfl ((wI64 (by omega)).trans (by omega))) ?_
            refine WpL_val rfl rfl (by decide) (r_convInt (k := .i64) (k' := .u64) (n := (((i3 + j3 : Nat) : Nat) : Int)) (c := (((i3 + j3 : Nat) : Nat) : Int)) ⟨_, Try.underlying3⟩ Try.underlying115 rfl (wU64 (by omega))) ?_
            refine WpL_val rfl rfl (by decide) (r_shr (k := .u64) (a := (((i3 + j3 : Nat) : Nat) : Int)) (b := 1) (c := ((((i3 + j3) / 2 : Nat) : Nat) : Int)) (k' := .u64) rfl rfl (by omega) (half_shrX _)) ?_
            refine WpL_val rfl rfl (by decide) (r_convInt (k := .u64) (k' := .i64) (n := ((((i3 + j3) / 2 : Nat) : Nat) : Int)) (c := ((((i3 + j3) / 2 : Nat) : Nat) : Int)) ⟨_, Try.underlying115⟩ Try.underlying3 rfl (wI64 (by omega))) ?_
            refine WpL_val rfl rfl (by decide) (r_assign (v := (.int .i64 ((((i3 + j3) / 2 : Nat) : Nat) : Int))) rfl) ?_
            refine WpL_nil ?_
            obtain ⟨x, hx⟩ := get_of_lt (l := l) (i := (a + b) / 2 + m - 1 - (i3 + j3) / 2) (by omega)
            obtain ⟨y, hy⟩ := get_of_lt (l := l) (i := (i3 + j3) / 2) (by omega)
            refine Wp_seq ?_
            obtain ⟨Fs23, hFs23⟩ : ∃ Fs : List Fact, Fs = [.eq fv, .eq (.slice (some ⟨g, 0, none⟩) n c), .eq (.int .i64 ((((a + b) / 2 + m - 1 : Nat) : Nat) : Int)), .eq (.int .i64 ((((i3 + j3) / 2 : Nat) : Nat) : Int)), .eq (.int .i64 (((((a + b) / 2 + m - 1 : Nat) : Nat) : Int) - ((((i3 + j3) / 2 : Nat) : Nat) : Int))), .eq (.pointer (some ⟨g, 0 + ((a + b) / 2 + m - 1 - (i3 + j3) / 2), none⟩)), .eq (.int .i64 x), .eq (.slice (some ⟨g, 0, none⟩) n c), .eq (.int .i64 ((((i3 + j3) / 2 : Nat) : Nat) : Int)), .eq (.pointer (some ⟨g, 0 + ((i3 + j3) / 2), none⟩)), .eq (.int .i64 y), .eq (.int .i64 (cf x y)), .eq (.bool (decide (cf x y < 0))), .eq (.bool (!(decide (cf x y < 0))))] := ⟨_, rfl⟩
            refine Wp_dag [158, 159, 160, 161, 162, 163, 164, 165, 166, 167, 168, 169, 170, 171] [[], [], [], [], [2, 3], [1, 4], [5], [], [], [7, 8], [9], [0, 6, 10], [11], [12]] Fs23 hFs23 mixed (by kernel_rfl) (by kernel_rfl) ?_ ?_
            · intro wd X0
              refine DagSteps.cons (fun s' w' X U H => Or.inl ⟨?_, ?_⟩) ?_
              · exact Guarded_none rfl
              · exact Does_val (r_move (v := fv) (U 4 rfl)) (Ext.refl _) rfl
              refine DagSteps.cons (fun s' w' X U H => Or.inl ⟨?_, ?_⟩) ?_
              · exact Guarded_none rfl
              · exact Does_val (r_move (v := (.slice (some ⟨g, 0, none⟩) n c)) (U 0 rfl)) (Ext.refl _) rfl
              refine DagSteps.cons (fun s' w' X U H => Or.inl ⟨?_, ?_⟩) ?_
              · exact Guarded_none rfl
              · exact Does_val (r_move (v := (.int .i64 ((((a + b) / 2 + m - 1 : Nat) : Nat) : Int))) (U 22 rfl)) (Ext.refl _) rfl
              refine DagSteps.cons (fun s' w' X U H => Or.inl ⟨?_, ?_⟩) ?_
              · exact Guarded_none rfl
              · exact Does_val (r_move (v := (.int .i64 ((((i3 + j3) / 2 : Nat) : Nat) : Int))) (U 23 rfl)) (Ext.refl _) rfl
              refine DagSteps.cons (fun s' w' X U H => Or.inl ⟨?_, ?_⟩) ?_
              · exact Guarded_none rfl
              · have e160 : s' 160 = (.int .i64 ((((a + b) / 2 + m - 1 : Nat) : Nat) : Int)) := H 2 rfl 160 (.eq (.int .i64 ((((a + b) / 2 + m - 1 : Nat) : Nat) : Int))) rfl (by rw [hFs23]; rfl)
                have e161 : s' 161 = (.int .i64 ((((i3 + j3) / 2 : Nat) : Nat) : Int)) := H 3 rfl 161 (.eq (.int .i64 ((((i3 + j3) / 2 : Nat) : Nat) : Int))) rfl (by rw [hFs23]; rfl)
                exact Does_val (r_sub (k := .i64) (a := ((((a + b) / 2 + m - 1 : Nat) : Nat) : Int)) (b := ((((i3 + j3) / 2 : Nat) : Nat) : Int)) (c := ((((a + b) / 2 + m - 1 : Nat) : Nat) : Int) - ((((i3 + j3) / 2 : Nat) : Nat) : Int)) e160 e161 (wI64 (by omega))) (Ext.refl _) rfl
              refine DagSteps.cons (fun s' w' X U H => Or.inl ⟨?_, ?_⟩) ?_
              · exact Guarded_none rfl
              · have e159 : s' 159 = (.slice (some ⟨g, 0, none⟩) n c) := H 1 rfl 159 (.eq (.slice (some ⟨g, 0, none⟩) n c)) rfl (by rw [hFs23]; rfl)
                have e162 : s' 162 = (.int .i64 (((((a + b) / 2 + m - 1 : Nat) : Nat) : Int) - ((((i3 + j3) / 2 : Nat) : Nat) : Int))) := H 4 rfl 162 (.eq (.int .i64 (((((a + b) / 2 + m - 1 : Nat) : Nat) : Int) - ((((i3 + j3) / 2 : Nat) : Nat) : Int)))) rfl (by rw [hFs23]; rfl)
                exact Does_val (r_indexSlice (b := g) (o := 0) (len := n) (cap := c) (i := (a + b) / 2 + m - 1 - (i3 + j3) / 2) (o' := 0 + ((a + b) / 2 + m - 1 - (i3 + j3) / 2)) e159 e162 (by omega) Try.underlying26 siz3 (by omega) (by omega)) (Ext.refl _) rfl
              refine DagSteps.cons (fun s' w' X U H => Or.inl ⟨?_, ?_⟩) ?_
              · exact Guarded_none rfl
              · have e163 : s' 163 = (.pointer (some ⟨g, 0 + ((a + b) / 2 + m - 1 - (i3 + j3) / 2), none⟩)) := H 5 rfl 163 (.eq (.pointer (some ⟨g, 0 + ((a + b) / 2 + m - 1 - (i3 + j3) / 2), none⟩))) rfl (by rw [hFs23]; rfl)
                exact Does_val (r_load (v := (.int .i64 x)) e163 flat3 ((by rw [Nat.zero_add]; exact ints_get ((X0.trans X).keep hB) hx))) (Ext.refl _) rfl
              refine DagSteps.cons (fun s' w' X U H => Or.inl ⟨?_, ?_⟩) ?_
              · exact Guarded_none rfl
              · exact Does_val (r_move (v := (.slice (some ⟨g, 0, none⟩) n c)) (U 0 rfl)) (Ext.refl _) rfl
              refine DagSteps.cons (fun s' w' X U H => Or.inl ⟨?_, ?_⟩) ?_
              · exact Guarded_none rfl
              · exact Does_val (r_move (v := (.int .i64 ((((i3 + j3) / 2 : Nat) : Nat) : Int))) (U 23 rfl)) (Ext.refl _) rfl
              refine DagSteps.cons (fun s' w' X U H => Or.inl ⟨?_, ?_⟩) ?_
              · exact Guarded_none rfl
              · have e165 : s' 165 = (.slice (some ⟨g, 0, none⟩) n c) := H 7 rfl 165 (.eq (.slice (some ⟨g, 0, none⟩) n c)) rfl (by rw [hFs23]; rfl)
                have e166 : s' 166 = (.int .i64 ((((i3 + j3) / 2 : Nat) : Nat) : Int)) := H 8 rfl 166 (.eq (.int .i64 ((((i3 + j3) / 2 : Nat) : Nat) : Int))) rfl (by rw [hFs23]; rfl)
                exact Does_val (r_indexSlice (b := g) (o := 0) (len := n) (cap := c) (i := (i3 + j3) / 2) (o' := 0 + ((i3 + j3) / 2)) e165 e166 (by omega) Try.underlying26 siz3 (by omega) (by omega)) (Ext.refl _) rfl
              refine DagSteps.cons (fun s' w' X U H => Or.inl ⟨?_, ?_⟩) ?_
              · exact Guarded_none rfl
              · have e167 : s' 167 = (.pointer (some ⟨g, 0 + ((i3 + j3) / 2), none⟩)) := H 9 rfl 167 (.eq (.pointer (some ⟨g, 0 + ((i3 + j3) / 2), none⟩))) rfl (by rw [hFs23]; rfl)
                exact Does_val (r_load (v := (.int .i64 y)) e167 flat3 ((by rw [Nat.zero_add]; exact ints_get ((X0.trans X).keep hB) hy))) (Ext.refl _) rfl
              refine DagSteps.cons (fun s' w' X U H => Or.inl ⟨?_, ?_⟩) ?_
              · exact Guarded_none rfl
              · have e164 : s' 164 = (.int .i64 x) := H 6 rfl 164 (.eq (.int .i64 x)) rfl (by rw [hFs23]; rfl)
                have e168 : s' 168 = (.int .i64 y) := H 10 rfl 168 (.eq (.int .i64 y)) rfl (by rw [hFs23]; rfl)
                have e158 : s' 158 = fv := H 0 rfl 158 (.eq fv) rfl (by rw [hFs23]; rfl)
                exact Does_callV e158 (lst2 e164 e168) (hf _ x y (E.ext (X0.trans X)) (List.mem_of_getElem? hx) (List.mem_of_getElem? hy))
              refine DagSteps.cons (fun s' w' X U H => Or.inl ⟨?_, ?_⟩) ?_
              · exact Guarded_none rfl
              · have e169 : s' 169 = (.int .i64 (cf x y)) := H 11 rfl 169 (.eq (.int .i64 (cf x y))) rfl (by rw [hFs23]; rfl)
                exact Does_val (r_lss (k := .i64) (a := cf x y) (b := 0) e169 rfl) (Ext.refl _) rfl
              refine DagSteps.cons (fun s' w' X U H => Or.inl ⟨?_, ?_⟩) ?_
              · exact Guarded_none rfl
              · have e170 : s' 170 = (.bool (decide (cf x y < 0))) := H 12 rfl 170 (.eq (.bool (decide (cf x y < 0)))) rfl (by rw [hFs23]; rfl)
                exact Does_val (r_not (b := decide (cf x y < 0)) e170) (Ext.refl _) rfl
              exact DagSteps.nil
            · intro s' w23 X23 U H
              obtain ⟨j23, rfl⟩ := Fits.out (σ := s') (l := [(0, (.slice (some ⟨g, 0, none⟩) n c)), (1, (.int .i64 ((a : Nat) : Int))), (2, (.int .i64 ((m : Nat) : Int))), (3, (.int .i64 ((b : Nat) : Int))), (4, fv), (18, (.int .i64 ((((a + b) / 2 : Nat) : Nat) : Int))), (19, (.int .i64 ((((a + b) / 2 + m : Nat) : Nat) : Int))), (20, (.int .i64 ((i3 : Nat) : Int))), (21, (.int .i64 ((j3 : Nat) : Int))), (22, (.int .i64 ((((a + b) / 2 + m - 1 : Nat) : Nat) : Int))), (23, (.int .i64 ((((i3 + j3) / 2 : Nat) : Nat) : Int))), (171, (.bool (!(decide (cf x y < 0)))))]) ⟨U 0 rfl, U 1 rfl, U 2 rfl, U 3 rfl, U 4 rfl, U 18 rfl, U 19 rfl, U 20 rfl, U 21 rfl, U 22 rfl, U 23 rfl, (show s' 171 = (.bool (!(decide (cf x y < 0)))) from H 13 171 (.eq (.bool (!(decide (cf x y < 0))))) rfl (by rw [hFs23]; rfl)), trivial⟩
              clear U H
              replace hB := X23.keep hB
              replace E := E.ext X23
              refine thn_normal ?_
              refine Wp_cond (b := !(decide (cf x y < 0))) rfl (fun hc => ?_) (fun hc => ?_)
              · have khc := hc
                replace hc := by simpa using hc
                refine Wp_region ?_
                refine WpL_val rfl rfl (by decide) (r_move (v := (.int .i64 ((((i3 + j3) / 2 : Nat) : Nat) : Int))) rfl) ?_
                refine WpL_val rfl rfl (by decide) (r_add (k := .i64) (a := ((((i3 + j3) / 2 : Nat) : Nat) : Int)) (b := 1) (c := ((((i3 + j3) / 2 : Nat) : Nat) : Int) + 1) rfl rfl (wI64 (by omega))) ?_
                refine WpL_val rfl rfl (by decide) (r_assign (v := (.int .i64 (((((i3 + j3) / 2 : Nat) : Nat) : Int) + 1))) rfl) ?_
                refine WpL_nil ?_
                refine inB_normal ?_
                refine thn_normal ?_
                exact ⟨j3 - ((i3 + j3) / 2 + 1) + 1, by omega, (i3 + j3) / 2 + 1, j3, Fits.out ⟨rfl, rfl, rfl, rfl, rfl, rfl, rfl, rfl, rfl, rfl, trivial⟩, E, hB, ⟨by omega, by omega, by omega⟩, .inr ⟨y, x, by rw [Nat.add_sub_cancel]; exact hy, by rw [show (a + b) / 2 + m - ((i3 + j3) / 2 + 1) = (a + b) / 2 + m - 1 - (i3 + j3) / 2 by omega]; exact hx, Int.not_lt.1 fun h9 => absurd ((hk _ _).2 h9) (by omega)⟩, hhi, rfl⟩
              · have khc := hc
                replace hc := by simpa using hc
                refine Wp_region ?_
                refine WpL_val rfl rfl (by decide) (r_move (v := (.int .i64 ((((i3 + j3) / 2 : Nat) : Nat) : Int))) rfl) ?_
                refine WpL_val rfl rfl (by decide) (r_assign (v := (.int .i64 ((((i3 + j3) / 2 : Nat) : Nat) : Int))) rfl) ?_
                refine WpL_nil ?_
                refine inB_normal ?_
                refine thn_normal ?_
                exact ⟨((i3 + j3) / 2) - i3 + 1, by omega, i3, (i3 + j3) / 2, Fits.out ⟨rfl, rfl, rfl, rfl, rfl, rfl, rfl, rfl, rfl, rfl, trivial⟩, E, hB, ⟨by omega, by omega, by omega⟩, hlo, .inr ⟨y, x, hy, hx, (hk _ _).1 (by omega)⟩, rfl⟩
          · have khlt3 := hlt3
            replace hlt3 := of_decide_eq_false hlt3
            have hij3 : i3 = j3 := by omega
            subst hij3
            have hsp := merge_cut ham hmb hs0 hi3 hhs hs1 hs2 hlo hhi
            clear hlo hhi
            refine Wp_exit ?_
            refine thn_exit ?_
            refine thn_exit ?_
            refine inB_here ?_
            refine thn_normal ?_
            refine Wp_seq_region ?_
            refine WpL_val rfl rfl (by decide) (r_move (v := (.int .i64 ((((a + b) / 2 + m : Nat) : Nat) : Int))) rfl) ?_
            refine WpL_val rfl rfl (by decide) (r_move (v := (.int .i64 ((i3 : Nat) : Int))) rfl) ?_
            refine WpL_val rfl rfl (by decide) (r_sub (k := .i64) (a := ((((a + b) / 2 + m : Nat) : Nat) : Int)) (b := ((i3 : Nat) : Int)) (c := ((((a + b) / 2 + m - i3 : Nat) : Nat) : Int)) rfl rfl ((wI64 (by omega)).trans (by omega))) ?_
            refine WpL_val rfl rfl (by decide) (r_assign (v := (.int .i64 ((((a + b) / 2 + m - i3 : Nat) : Nat) : Int))) rfl) ?_
            refine WpL_nil ?_
            refine Wp_cut (fun σ W25 => ∃ (cu : List Int), (∃ jj_, σ = upds jj_ [(0, (.slice (some ⟨g, 0, none⟩) n c)), (1, (.int .i64 ((a : Nat) : Int))), (3, (.int .i64 ((b : Nat) : Int))), (4, fv), (18, (.int .i64 ((((a + b) / 2 : Nat) : Nat) : Int))), (20, (.int .i64 ((i3 : Nat) : Int))), (24, (.int .i64 ((((a + b) / 2 + m - i3 : Nat) : Nat) : Int)))]) ∧ Chg (fun q => q = g) w0 W25 ∧ (List.Perm cu l) ∧ (∀ z, cu[z]? = l[roI i3 m ((a + b) / 2 + m - i3) z]?) ∧ (Blk W25 g (cu.map (Value.int .i64) ++ rest).toArray T)) ?_ ?_
            · skip
              refine Wp_seq_region ?_
              refine WpL_val rfl rfl (by decide) (r_move (v := (.int .i64 ((i3 : Nat) : Int))) rfl) ?_
              refine WpL_val rfl rfl (by decide) (r_move (v := (.int .i64 ((m : Nat) : Int))) rfl) ?_
              obtain ⟨e26, he26⟩ : ∃ e, (decide ((((i3 : Nat) : Int) : Int) < ((m : Nat) : Int))) = e := ⟨_, rfl⟩
              refine WpL_val rfl rfl (by decide) ((r_lss (k := .i64) (a := ((i3 : Nat) : Int)) (b := ((m : Nat) : Int)) rfl rfl).trans (by rw [he26]; try rfl)) ?_
              refine WpL_val rfl rfl (by decide) (r_move (v := (.bool e26)) rfl) ?_
              refine WpL_guard_any (oj := _) (gv := (.bool e26)) (u := (bif e26 then (.int .i64 ((m : Nat) : Int)) else undef)) rfl rfl (by decide) (by decide) rfl (by cases e26 <;> first | exact Or.inr ⟨Or.inl rfl, rfl⟩ | exact Or.inr ⟨Or.inr rfl, rfl⟩ | exact Or.inl ⟨rfl, r_move (v := (.int .i64 ((m : Nat) : Int))) rfl⟩) ?_
              refine WpL_guard_any (oj := _) (gv := (.bool e26)) (u := (bif e26 then (.int .i64 ((((a + b) / 2 + m - i3 : Nat) : Nat) : Int)) else undef)) rfl rfl (by decide) (by decide) rfl (by cases e26 <;> first | exact Or.inr ⟨Or.inl rfl, rfl⟩ | exact Or.inr ⟨Or.inr rfl, rfl⟩ | exact Or.inl ⟨rfl, r_move (v := (.int .i64 ((((a + b) / 2 + m - i3 : Nat) : Nat) : Int))) rfl⟩) ?_
              obtain ⟨e27, he27⟩ : ∃ e, (decide ((((m : Nat) : Int) : Int) < ((((a + b) / 2 + m - i3 : Nat) : Nat) : Int))) = e := ⟨_, rfl⟩
              refine WpL_guard_any (oj := _) (gv := (.bool e26)) (u := (bif e26 then (.bool e27) else undef)) rfl rfl (by decide) (by decide) rfl (by cases e26 <;> first | exact Or.inr ⟨Or.inl rfl, rfl⟩ | exact Or.inr ⟨Or.inr rfl, rfl⟩ | exact Or.inl ⟨rfl, (r_lss (k := .i64) (a := ((m : Nat) : Int)) (b := ((((a + b) / 2 + m - i3 : Nat) : Nat) : Int)) rfl rfl).trans (by rw [he27]; try rfl)⟩) ?_
              obtain ⟨e28, he28⟩ : ∃ e, (e26 && e27) = e := ⟨_, rfl⟩
              refine WpL_val rfl rfl (by decide) (r_pick (b := e26) (v := .bool e28) rfl (by rw [← he28]; cases e26 <;> rfl)) ?_
              refine WpL_nil ?_
              subst he28
              subst he27
              subst he26
              refine Wp_cond (b := ((decide ((((i3 : Nat) : Int) : Int) < ((m : Nat) : Int))) && (decide ((((m : Nat) : Int) : Int) < ((((a + b) / 2 + m - i3 : Nat) : Nat) : Int))))) rfl (fun hr1 => ?_) (fun hr1 => ?_)
              · have khr1 := hr1
                simp only [Bool.and_eq_true, decide_eq_true_eq] at hr1
                refine Wp_region ?_
                refine WpL_val rfl rfl (by decide) (r_move (v := (.slice (some ⟨g, 0, none⟩) n c)) rfl) ?_
                refine WpL_val rfl rfl (by decide) (r_move (v := (.int .i64 ((i3 : Nat) : Int))) rfl) ?_
                refine WpL_val rfl rfl (by decide) (r_move (v := (.int .i64 ((m : Nat) : Int))) rfl) ?_
                refine WpL_val rfl rfl (by decide) (r_move (v := (.int .i64 ((((a + b) / 2 + m - i3 : Nat) : Nat) : Int))) rfl) ?_
                refine WpL_val rfl rfl (by decide) (r_move (v := fv) rfl) ?_
                refine WpL_enter rfl rfl (by decide) (r_callF (vs := [(.slice (some ⟨g, 0, none⟩) n c), (.int .i64 ((i3 : Nat) : Int)), (.int .i64 ((m : Nat) : Int)), (.int .i64 ((((a + b) / 2 + m - i3 : Nat) : Nat) : Int)), fv]) Try.func126 nm126 bd126 rfl) (rotateX_c _ g c n T l rest fv i3 m ((a + b) / 2 + m - i3) hB hn (by omega) (by omega) (by omega) hsz) ?_
                rintro _ w9 ⟨l', hp', hz', hG', C9⟩
                replace E := E.step C9 (fun q _ h => h)
                refine WpL_nil ?_
                refine thn_normal ?_
                exact ⟨l', Fits.out ⟨rfl, rfl, rfl, rfl, rfl, rfl, rfl, trivial⟩, E, hp', hz', hG'⟩
              · have khr1 := hr1
                have hr10 : ¬ (i3 < m ∧ m < (a + b) / 2 + m - i3) := by rw [Bool.and_eq_false_iff, decide_eq_false_iff_not, decide_eq_false_iff_not] at hr1; omega
                refine Wp_skip ?_
                refine thn_normal ?_
                exact ⟨l, Fits.out ⟨rfl, rfl, rfl, rfl, rfl, rfl, rfl, trivial⟩, E, List.Perm.refl _, (fun z => by rw [roI_none (by omega) (by omega) hr10]), hB⟩
            · clear E
              rintro _ W25 ⟨cu, ⟨j25, rfl⟩, E, hp, hz, hG⟩
              have hM := merge_rot hz hs0 hi3 ham hmb hs1 hs2 hsp
              refine Wp_cut (fun σ W30 => ∃ (cu2 : List Int) (f2 : Nat → Nat), (∃ jj_, σ = upds jj_ [(0, (.slice (some ⟨g, 0, none⟩) n c)), (3, (.int .i64 ((b : Nat) : Int))), (4, fv), (18, (.int .i64 ((((a + b) / 2 : Nat) : Nat) : Int))), (24, (.int .i64 ((((a + b) / 2 + m - i3 : Nat) : Nat) : Int)))]) ∧ Chg (fun q => q = g) w0 W30 ∧ (List.Perm cu2 l) ∧ (Rar κ a ((a + b) / 2) cu cu2 f2) ∧ (SrtR κ cu2 a ((a + b) / 2)) ∧ (Blk W30 g (cu2.map (Value.int .i64) ++ rest).toArray T)) ?_ ?_
              · skip
                refine Wp_seq_region ?_
                refine WpL_val rfl rfl (by decide) (r_move (v := (.int .i64 ((a : Nat) : Int))) rfl) ?_
                refine WpL_val rfl rfl (by decide) (r_move (v := (.int .i64 ((i3 : Nat) : Int))) rfl) ?_
                obtain ⟨e31, he31⟩ : ∃ e, (decide ((((a : Nat) : Int) : Int) < ((i3 : Nat) : Int))) = e := ⟨_, rfl⟩
                refine WpL_val rfl rfl (by decide) ((r_lss (k := .i64) (a := ((a : Nat) : Int)) (b := ((i3 : Nat) : Int)) rfl rfl).trans (by rw [he31]; try rfl)) ?_
                refine WpL_val rfl rfl (by decide) (r_move (v := (.bool e31)) rfl) ?_
                refine WpL_guard_any (oj := _) (gv := (.bool e31)) (u := (bif e31 then (.int .i64 ((i3 : Nat) : Int)) else undef)) rfl rfl (by decide) (by decide) rfl (by cases e31 <;> first | exact Or.inr ⟨Or.inl rfl, rfl⟩ | exact Or.inr ⟨Or.inr rfl, rfl⟩ | exact Or.inl ⟨rfl, r_move (v := (.int .i64 ((i3 : Nat) : Int))) rfl⟩) ?_
                refine WpL_guard_any (oj := _) (gv := (.bool e31)) (u := (bif e31 then (.int .i64 ((((a + b) / 2 : Nat) : Nat) : Int)) else undef)) rfl rfl (by decide) (by decide) rfl (by cases e31 <;> first | exact Or.inr ⟨Or.inl rfl, rfl⟩ | exact Or.inr ⟨Or.inr rfl, rfl⟩ | exact Or.inl ⟨rfl, r_move (v := (.int .i64 ((((a + b) / 2 : Nat) : Nat) : Int))) rfl⟩) ?_
                obtain ⟨e32, he32⟩ : ∃ e, (decide ((((i3 : Nat) : Int) : Int) < ((((a + b) / 2 : Nat) : Nat) : Int))) = e := ⟨_, rfl⟩
                refine WpL_guard_any (oj := _) (gv := (.bool e31)) (u := (bif e31 then (.bool e32) else undef)) rfl rfl (by decide) (by decide) rfl (by cases e31 <;> first | exact Or.inr ⟨Or.inl rfl, rfl⟩ | exact Or.inr ⟨Or.inr rfl, rfl⟩ | exact Or.inl ⟨rfl, (r_lss (k := .i64) (a := ((i3 : Nat) : Int)) (b := ((((a + b) / 2 : Nat) : Nat) : Int)) rfl rfl).trans (by rw [he32]; try rfl)⟩) ?_
                obtain ⟨e33, he33⟩ : ∃ e, (e31 && e32) = e := ⟨_, rfl⟩
                refine WpL_val rfl rfl (by decide) (r_pick (b := e31) (v := .bool e33) rfl (by rw [← he33]; cases e31 <;> rfl)) ?_
                refine WpL_nil ?_
                subst he33
                subst he32
                subst he31
                refine Wp_cond (b := ((decide ((((a : Nat) : Int) : Int) < ((i3 : Nat) : Int))) && (decide ((((i3 : Nat) : Int) : Int) < ((((a + b) / 2 : Nat) : Nat) : Int))))) rfl (fun hr2 => ?_) (fun hr2 => ?_)
                · have khr2 := hr2
                  simp only [Bool.and_eq_true, decide_eq_true_eq] at hr2
                  refine Wp_region ?_
                  refine WpL_val rfl rfl (by decide) (r_move (v := (.slice (some ⟨g, 0, none⟩) n c)) rfl) ?_
                  refine WpL_val rfl rfl (by decide) (r_move (v := (.int .i64 ((a : Nat) : Int))) rfl) ?_
                  refine WpL_val rfl rfl (by decide) (r_move (v := (.int .i64 ((i3 : Nat) : Int))) rfl) ?_
                  refine WpL_val rfl rfl (by decide) (r_move (v := (.int .i64 ((((a + b) / 2 : Nat) : Nat) : Int))) rfl) ?_
                  refine WpL_val rfl rfl (by decide) (r_move (v := fv) rfl) ?_
                  refine WpL_enter rfl rfl (by decide) (r_callF (vs := [(.slice (some ⟨g, 0, none⟩) n c), (.int .i64 ((a : Nat) : Int)), (.int .i64 ((i3 : Nat) : Int)), (.int .i64 ((((a + b) / 2 : Nat) : Nat) : Int)), fv]) Try.func117 nm117 bd117 rfl) (ih _ g c n T cu rest fv a i3 ((a + b) / 2) (by omega) hG (by rw [hp.length_eq, hn]) (by omega) (by omega) (by omega) hsz hM.s1 hM.s2 (fun w x y h hx hy => hf w x y (Chg.trans E h) (hp.mem_iff.1 hx) (hp.mem_iff.1 hy))) ?_
                  rintro _ w19 ⟨l', f', hp', hR', hS', hG', C19⟩
                  replace E := E.step C19 (fun q _ h => h)
                  refine WpL_nil ?_
                  refine thn_normal ?_
                  exact ⟨l', f', Fits.out ⟨rfl, rfl, rfl, rfl, rfl, trivial⟩, E, hp'.trans hp, hR', hS', hG'⟩
                · have khr2 := hr2
                  have hr20 : ¬ (a < i3 ∧ i3 < (a + b) / 2) := by rw [Bool.and_eq_false_iff, decide_eq_false_iff_not, decide_eq_false_iff_not] at hr2; omega
                  refine Wp_skip ?_
                  refine thn_normal ?_
                  exact ⟨cu, id, Fits.out ⟨rfl, rfl, rfl, rfl, rfl, trivial⟩, E, hp, Rar.refl _ _ _ _, hM.one hr20, hG⟩
              · clear E
                rintro _ W30 ⟨cu2, f2, ⟨j30, rfl⟩, E, hp2, hR2, hS2, hG2⟩
                refine Wp_seq_region ?_
                refine WpL_val rfl rfl (by decide) (r_move (v := (.int .i64 ((((a + b) / 2 : Nat) : Nat) : Int))) rfl) ?_
                refine WpL_val rfl rfl (by decide) (r_move (v := (.int .i64 ((((a + b) / 2 + m - i3 : Nat) : Nat) : Int))) rfl) ?_
                obtain ⟨e35, he35⟩ : ∃ e, (decide ((((((a + b) / 2 : Nat) : Nat) : Int) : Int) < ((((a + b) / 2 + m - i3 : Nat) : Nat) : Int))) = e := ⟨_, rfl⟩
                refine WpL_val rfl rfl (by decide) ((r_lss (k := .i64) (a := ((((a + b) / 2 : Nat) : Nat) : Int)) (b := ((((a + b) / 2 + m - i3 : Nat) : Nat) : Int)) rfl rfl).trans (by rw [he35]; try rfl)) ?_
                refine WpL_val rfl rfl (by decide) (r_move (v := (.bool e35)) rfl) ?_
                refine WpL_guard_any (oj := _) (gv := (.bool e35)) (u := (bif e35 then (.int .i64 ((((a + b) / 2 + m - i3 : Nat) : Nat) : Int)) else undef)) rfl rfl (by decide) (by decide) rfl (by cases e35 <;> first | exact Or.inr ⟨Or.inl rfl, rfl⟩ | exact Or.inr ⟨Or.inr rfl, rfl⟩ | exact Or.inl ⟨rfl, r_move (v := (.int .i64 ((((a + b) / 2 + m - i3 : Nat) : Nat) : Int))) rfl⟩) ?_
                refine WpL_guard_any (oj := _) (gv := (.bool e35)) (u := (bif e35 then (.int .i64 ((b : Nat) : Int)) else undef)) rfl rfl (by decide) (by decide) rfl (by cases e35 <;> first | exact Or.inr ⟨Or.inl rfl, rfl⟩ | exact Or.inr ⟨Or.inr rfl, rfl⟩ | exact Or.inl ⟨rfl, r_move (v := (.int .i64 ((b : Nat) : Int))) rfl⟩) ?_
                obtain ⟨e36, he36⟩ : ∃ e, (decide ((((((a + b) / 2 + m - i3 : Nat) : Nat) : Int) : Int) < ((b : Nat) : Int))) = e := ⟨_, rfl⟩
                refine WpL_guard_any (oj := _) (gv := (.bool e35)) (u := (bif e35 then (.bool e36) else undef)) rfl rfl (by decide) (by decide) rfl (by cases e35 <;> first | exact Or.inr ⟨Or.inl rfl, rfl⟩ | exact Or.inr ⟨Or.inr rfl, rfl⟩ | exact Or.inl ⟨rfl, (r_lss (k := .i64) (a := ((((a + b) / 2 + m - i3 : Nat) : Nat) : Int)) (b := ((b : Nat) : Int)) rfl rfl).trans (by rw [he36]; try rfl)⟩) ?_
                obtain ⟨e37, he37⟩ : ∃ e, (e35 && e36) = e := ⟨_, rfl⟩
                refine WpL_val rfl rfl (by decide) (r_pick (b := e35) (v := .bool e37) rfl (by rw [← he37]; cases e35 <;> rfl)) ?_
                refine WpL_nil ?_
                subst he37
                subst he36
                subst he35
                refine Wp_cond (b := ((decide ((((((a + b) / 2 : Nat) : Nat) : Int) : Int) < ((((a + b) / 2 + m - i3 : Nat) : Nat) : Int))) && (decide ((((((a + b) / 2 + m - i3 : Nat) : Nat) : Int) : Int) < ((b : Nat) : Int))))) rfl (fun hr3 => ?_) (fun hr3 => ?_)
                · have khr3 := hr3
                  simp only [Bool.and_eq_true, decide_eq_true_eq] at hr3
                  refine Wp_region ?_
                  refine WpL_val rfl rfl (by decide) (r_move (v := (.slice (some ⟨g, 0, none⟩) n c)) rfl) ?_
                  refine WpL_val rfl rfl (by decide) (r_move (v := (.int .i64 ((((a + b) / 2 : Nat) : Nat) : Int))) rfl) ?_
                  refine WpL_val rfl rfl (by decide) (r_move (v := (.int .i64 ((((a + b) / 2 + m - i3 : Nat) : Nat) : Int))) rfl) ?_
                  refine WpL_val rfl rfl (by decide) (r_move (v := (.int .i64 ((b : Nat) : Int))) rfl) ?_
                  refine WpL_val rfl rfl (by decide) (r_move (v := fv) rfl) ?_
                  refine WpL_enter rfl rfl (by decide) (r_callF (vs := [(.slice (some ⟨g, 0, none⟩) n c), (.int .i64 ((((a + b) / 2 : Nat) : Nat) : Int)), (.int .i64 ((((a + b) / 2 + m - i3 : Nat) : Nat) : Int)), (.int .i64 ((b : Nat) : Int)), fv]) Try.func117 nm117 bd117 rfl) (ih _ g c n T cu2 rest fv ((a + b) / 2) ((a + b) / 2 + m - i3) b (by omega) hG2 (by rw [hp2.length_eq, hn]) (by omega) (by omega) (by omega) hsz (hM.r1 hR2) (hM.r2 hR2) (fun w x y h hx hy => hf w x y (Chg.trans E h) (hp2.mem_iff.1 hx) (hp2.mem_iff.1 hy))) ?_
                  rintro _ w29 ⟨l', f', hp', hR', hS', hG', C29⟩
                  replace E := E.step C29 (fun q _ h => h)
                  have hfin := hM.fin hR2 hS2 hR' hS'
                  refine WpL_nil ?_
                  refine fin_none Try.results117 ?_
                  exact ⟨l', _, hp'.trans hp2, hfin.1, hfin.2, hG', E⟩
                · have khr3 := hr3
                  have hr30 : ¬ ((a + b) / 2 < (a + b) / 2 + m - i3 ∧ (a + b) / 2 + m - i3 < b) := by rw [Bool.and_eq_false_iff, decide_eq_false_iff_not, decide_eq_false_iff_not] at hr3; omega
                  have hfin := hM.fin hR2 hS2 (Rar.refl _ _ _ _) (hM.two hr30 hR2)
                  refine Wp_skip ?_
                  refine fin_none Try.results117 ?_
                  exact ⟨cu2, _, hp2, hfin.1, hfin.2, hG2, E⟩
end Go.Proofs
namespace Go.Proofs
open Go Go.Eng
set_option maxRecDepth 100000
theorem SrtR.keep {κ : Int → Int} {l l' : List Int} {a b x y : Nat} {f : Nat → Nat} (h : SrtR κ l x y) (r : Rar κ a b l l' f) (hy : y ≤ a) : SrtR κ l' x y := h.move id (fun z _ h2 => by rw [r.idx, r.out z (by omega)]; rfl) (fun z h1 h2 => ⟨h1, h2⟩) fun z z' _ h2 _ => h2
theorem SrtR.keepU {κ : Int → Int} {l l' : List Int} {a b x y : Nat} {f : Nat → Nat} (h : SrtR κ l x y) (r : Rar κ a b l l' f) (hx : b ≤ x) : SrtR κ l' x y := h.move id (fun z h1 _ => by rw [r.idx, r.out z (by omega)]; rfl) (fun z h1 h2 => ⟨h1, h2⟩) fun z z' _ h2 _ => h2
theorem dvd_next {d p q : Nat} (hp : d ∣ p) (hq : d ∣ q) (h : p < q) : p + d ≤ q := by
  obtain ⟨i, rfl⟩ := hp
  obtain ⟨j, rfl⟩ := hq
  have h1 : i < j := Nat.lt_of_mul_lt_mul_left h
  have h2 : d * (i + 1) ≤ d * j := Nat.mul_le_mul_left d h1
  rwa [Nat.mul_succ] at h2
theorem dvd_gap {d p q : Nat} (hp : d ∣ p) (hq : d ∣ q) (h : q ≤ p) (h2 : p < q + d) : p = q := by
  rcases Nat.lt_or_eq_of_le h with h3 | h3
  · have := dvd_next hq hp h3; omega
  · exact h3.symm
set_option maxHeartbeats 4000000 in
theorem stableX_c (w0 : World) (g c n T : Nat) (l : List Int) (rest : List Value) (fv : Value) (cf : Int → Int → Int) (κ : Int → Int) (hk : ∀ x y, cf x y < 0 ↔ κ x < κ y) (hB : Blk w0 g (l.map (Value.int .i64) ++ rest).toArray T) (hn : l.length = n) (hsz : n ≤ 100000)
    (hf : ∀ (w : World) (x y : Int), Chg (fun q => q = g) w0 w → x ∈ l → y ∈ l → CallV Try.prog fv #[.int .i64 x, .int .i64 y] w fun r w' => r = .int .i64 (cf x y) ∧ Ext w w') :
    Ret Try.prog 50 #[.slice (some ⟨g, 0, none⟩) n c, fv] w0 fun _ w => ∃ l' f, List.Perm l' l ∧ Rar κ 0 n l l' f ∧ SrtR κ l' 0 n ∧ Blk w g (l'.map (Value.int .i64) ++ rest).toArray T ∧ Chg (fun q => q = g) w0 w := by
  have hin : Ret Try.prog 91 #[.slice (some ⟨g, 0, none⟩) n c, .int .i64 ((n : Nat) : Int), fv] w0 fun _ w => ∃ l' f, List.Perm l' l ∧ Rar κ 0 n l l' f ∧ SrtR κ l' 0 n ∧ Blk w g (l'.map (Value.int .i64) ++ rest).toArray T ∧ Chg (fun q => q = g) w0 w := by
    refine Ret_of Try.func91 rfl Try.ntmps91 (Nat.le_of_ble_eq_true rfl) ?_
    have E : Chg (fun q => q = g) w0 w0 := Chg.refl _ _
    refine Wp_seq_region ?_
    refine WpL_val rfl rfl (by decide) (r_assign (v := (.int .i64 20)) rfl) ?_
    refine WpL_nil ?_
    refine Wp_seq_region ?_
    refine WpL_val rfl rfl (by decide) (r_move (v := (.int .i64 20)) rfl) ?_
    refine WpL_val rfl rfl (by decide) (r_assign (v := (.int .i64 0)) rfl) ?_
    refine WpL_val rfl rfl (by decide) (r_assign (v := (.int .i64 20)) rfl) ?_
    refine WpL_nil ?_
    refine Wp_seq ?_
    refine Wp_block ?_
    refine Wp_loop (fun nn_ σ W1 => ∃ (p q : Nat) (cu : List Int) (f : Nat → Nat), (∃ jj_, σ = upds jj_ [(0, (.slice (some ⟨g, 0, none⟩) n c)), (1, (.int .i64 ((n : Nat) : Int))), (2, fv), (6, (.int .i64 20)), (7, (.int .i64 ((p : Nat) : Int))), (8, (.int .i64 ((q : Nat) : Int)))]) ∧ Chg (fun q => q = g) w0 W1 ∧ (q = p + 20) ∧ (p ≤ n) ∧ (List.Perm cu l) ∧ (Rar κ 0 n l cu f) ∧ (20 ∣ p) ∧ (∀ x, 20 ∣ x → x < p → SrtR κ cu x (x + 20)) ∧ (Blk W1 g (cu.map (Value.int .i64) ++ rest).toArray T) ∧ nn_ = n - p) (n := n - 0) ?_ ?_
    · exact ⟨0, 20, l, id, Fits.out ⟨rfl, rfl, rfl, rfl, rfl, rfl, trivial⟩, E, rfl, Nat.zero_le _, List.Perm.refl _, Rar.refl _ _ _ _, Nat.dvd_zero _, (fun x _ h => absurd h (Nat.not_lt_zero _)), hB, rfl⟩
    · clear E
      rintro _ _ W1 ⟨p, q, cu, f, ⟨j1, rfl⟩, E, hq, hpn, hp, hR, hd, hS, hG, rfl⟩
      refine Wp_seq ?_
      refine Wp_seq_region ?_
      refine WpL_val rfl rfl (by decide) (r_move (v := (.int .i64 ((q : Nat) : Int))) rfl) ?_
      refine WpL_val rfl rfl (by decide) (r_move (v := (.int .i64 ((n : Nat) : Int))) rfl) ?_
      refine WpL_val rfl rfl (by decide) (r_leq (k := .i64) (a := ((q : Nat) : Int)) (b := ((n : Nat) : Int)) rfl rfl) ?_
      refine WpL_nil ?_
      refine Wp_cond (b := decide ((((q : Nat) : Int) : Int) ≤ ((n : Nat) : Int))) rfl (fun hle => ?_) (fun hle => ?_)
      · have khle := hle
        replace hle := of_decide_eq_true hle
        refine Wp_skip ?_
        refine thn_normal ?_
        refine Wp_block ?_
        refine Wp_seq_region ?_
        refine WpL_val rfl rfl (by decide) (r_move (v := (.slice (some ⟨g, 0, none⟩) n c)) rfl) ?_
        refine WpL_val rfl rfl (by decide) (r_move (v := (.int .i64 ((p : Nat) : Int))) rfl) ?_
        refine WpL_val rfl rfl (by decide) (r_move (v := (.int .i64 ((q : Nat) : Int))) rfl) ?_
        refine WpL_val rfl rfl (by decide) (r_move (v := fv) rfl) ?_
        refine WpL_enter rfl rfl (by decide) (r_callF (vs := [(.slice (some ⟨g, 0, none⟩) n c), (.int .i64 ((p : Nat) : Int)), (.int .i64 ((q : Nat) : Int)), fv]) Try.func116 nm116 bd116 rfl) (isortX_c _ g c n T cu rest fv cf κ hk p q hG (by rw [hp.length_eq, hn]) (by omega) (by omega) (by omega) (fun w x y hE hx hy => hf w x y (E.trans hE) (hp.mem_iff.1 hx) (hp.mem_iff.1 hy))) ?_
        rintro _ w9 ⟨l', f', hp', hR', hS', hG', C9⟩
        replace E := E.step C9 (fun q _ h => h)
        refine WpL_nil ?_
        refine Wp_seq_region ?_
        refine WpL_val rfl rfl (by decide) (r_move (v := (.int .i64 ((q : Nat) : Int))) rfl) ?_
        refine WpL_val rfl rfl (by decide) (r_assign (v := (.int .i64 ((q : Nat) : Int))) rfl) ?_
        refine WpL_nil ?_
        refine Wp_region ?_
        refine WpL_val rfl rfl (by decide) (r_move (v := (.int .i64 ((q : Nat) : Int))) rfl) ?_
        refine WpL_val rfl rfl (by decide) (r_move (v := (.int .i64 20)) rfl) ?_
        refine WpL_val rfl rfl (by decide) (r_add (k := .i64) (a := ((q : Nat) : Int)) (b := 20) (c := (((q + 20 : Nat) : Nat) : Int)) rfl rfl ((wI64 (by omega)).trans (by omega))) ?_
        refine WpL_val rfl rfl (by decide) (r_assign (v := (.int .i64 (((q + 20 : Nat) : Nat) : Int))) rfl) ?_
        refine WpL_nil ?_
        refine inB_normal ?_
        refine thn_normal ?_
        exact ⟨n - q, by omega, q, q + 20, l', _, Fits.out ⟨rfl, rfl, rfl, rfl, rfl, rfl, trivial⟩, E, rfl, (by omega), hp'.trans hp, hR.trans (hR'.wide (Nat.zero_le _) (by omega)), (by omega), (fun x hx hl => by rcases Nat.lt_or_ge x p with h9 | h9; exact (hS x hx h9).keep hR' (by omega); rw [show x = p by omega, ← hq]; exact hS'), hG', rfl⟩
      · have khle := hle
        replace hle := of_decide_eq_false hle
        refine Wp_exit ?_
        refine thn_exit ?_
        refine thn_exit ?_
        refine inB_here ?_
        refine thn_normal ?_
        refine Wp_seq_region ?_
        refine WpL_val rfl rfl (by decide) (r_move (v := (.slice (some ⟨g, 0, none⟩) n c)) rfl) ?_
        refine WpL_val rfl rfl (by decide) (r_move (v := (.int .i64 ((p : Nat) : Int))) rfl) ?_
        refine WpL_val rfl rfl (by decide) (r_move (v := (.int .i64 ((n : Nat) : Int))) rfl) ?_
        refine WpL_val rfl rfl (by decide) (r_move (v := fv) rfl) ?_
        refine WpL_enter rfl rfl (by decide) (r_callF (vs := [(.slice (some ⟨g, 0, none⟩) n c), (.int .i64 ((p : Nat) : Int)), (.int .i64 ((n : Nat) : Int)), fv]) Try.func116 nm116 bd116 rfl) (isortX_c _ g c n T cu rest fv cf κ hk p n hG (by rw [hp.length_eq, hn]) (by omega) (Nat.le_refl _) (by omega) (fun w x y hE hx hy => hf w x y (E.trans hE) (hp.mem_iff.1 hx) (hp.mem_iff.1 hy))) ?_
        rintro _ w19 ⟨l1, f1, hp1, hR1, hS1, hG1, C19⟩
        replace E := E.step C19 (fun q _ h => h)
        refine WpL_nil ?_
        refine Wp_block ?_
        refine Wp_loop (fun nn_ σ W3 => ∃ (s : Nat) (cu : List Int) (f : Nat → Nat), (∃ jj_, σ = upds jj_ [(0, (.slice (some ⟨g, 0, none⟩) n c)), (1, (.int .i64 ((n : Nat) : Int))), (2, fv), (6, (.int .i64 ((s : Nat) : Int)))]) ∧ Chg (fun q => q = g) w0 W3 ∧ (20 ≤ s) ∧ (List.Perm cu l) ∧ (Rar κ 0 n l cu f) ∧ (∀ x, s ∣ x → SrtR κ cu x (min (x + s) n)) ∧ (Blk W3 g (cu.map (Value.int .i64) ++ rest).toArray T) ∧ nn_ = n - s) (n := n - 20) ?_ ?_
        · exact ⟨20, l1, _, Fits.out ⟨rfl, rfl, rfl, rfl, trivial⟩, E, Nat.le_refl _, hp1.trans hp, hR.trans (hR1.wide (Nat.zero_le _) (Nat.le_refl _)), (fun x hx => by rcases Nat.lt_or_ge x p with h9 | h9; exact ((hS x hx h9).keep hR1 (by omega)).sub (Nat.le_refl _) (Nat.min_le_left _ _); exact (hS1.sub h9 (Nat.min_le_right _ _))), hG1, rfl⟩
        · clear E
          rintro _ _ W3 ⟨s, cu, f, ⟨j3, rfl⟩, E, hs, hp, hR, hS, hG, rfl⟩
          refine Wp_seq ?_
          refine Wp_seq_region ?_
          refine WpL_val rfl rfl (by decide) (r_move (v := (.int .i64 ((s : Nat) : Int))) rfl) ?_
          refine WpL_val rfl rfl (by decide) (r_move (v := (.int .i64 ((n : Nat) : Int))) rfl) ?_
          refine WpL_val rfl rfl (by decide) (r_lss (k := .i64) (a := ((s : Nat) : Int)) (b := ((n : Nat) : Int)) rfl rfl) ?_
          refine WpL_nil ?_
          refine Wp_cond (b := decide ((((s : Nat) : Int) : Int) < ((n : Nat) : Int))) rfl (fun hlt => ?_) (fun hlt => ?_)
          · have khlt := hlt
            replace hlt := of_decide_eq_true hlt
            refine Wp_skip ?_
            refine thn_normal ?_
            refine Wp_block ?_
            refine Wp_seq_region ?_
            refine WpL_val rfl rfl (by decide) (r_move (v := (.int .i64 ((s : Nat) : Int))) rfl) ?_
            refine WpL_val rfl rfl (by decide) (r_mul (k := .i64) (a := 2) (b := ((s : Nat) : Int)) (c := (((2 * s : Nat) : Nat) : Int)) rfl rfl ((wI64 (by omega)).trans (by omega))) ?_
            refine WpL_val rfl rfl (by decide) (r_assign (v := (.int .i64 0)) rfl) ?_
            refine WpL_val rfl rfl (by decide) (r_assign (v := (.int .i64 (((2 * s : Nat) : Nat) : Int))) rfl) ?_
            refine WpL_nil ?_
            refine Wp_seq ?_
            refine Wp_block ?_
            refine Wp_loop (fun nn_ σ W5 => ∃ (p2 q2 : Nat) (cu2 : List Int) (f2 : Nat → Nat), (∃ jj_, σ = upds jj_ [(0, (.slice (some ⟨g, 0, none⟩) n c)), (1, (.int .i64 ((n : Nat) : Int))), (2, fv), (6, (.int .i64 ((s : Nat) : Int))), (7, (.int .i64 ((p2 : Nat) : Int))), (8, (.int .i64 ((q2 : Nat) : Int)))]) ∧ Chg (fun q => q = g) w0 W5 ∧ (q2 = p2 + 2 * s) ∧ (p2 ≤ n) ∧ (List.Perm cu2 l) ∧ (Rar κ 0 n l cu2 f2) ∧ (2 * s ∣ p2) ∧ (∀ x, 2 * s ∣ x → x < p2 → SrtR κ cu2 x (x + 2 * s)) ∧ (∀ x, s ∣ x → p2 ≤ x → SrtR κ cu2 x (min (x + s) n)) ∧ (Blk W5 g (cu2.map (Value.int .i64) ++ rest).toArray T) ∧ nn_ = n - p2) (n := n - 0) ?_ ?_
            · exact ⟨0, 2 * s, cu, f, Fits.out ⟨rfl, rfl, rfl, rfl, rfl, rfl, trivial⟩, E, (by omega), Nat.zero_le _, hp, hR, Nat.dvd_zero _, (fun x _ h => absurd h (Nat.not_lt_zero _)), (fun x hx _ => hS x hx), hG, rfl⟩
            · clear E
              rintro _ _ W5 ⟨p2, q2, cu2, f2, ⟨j5, rfl⟩, E, hq, hpn, hp2, hR2, hd2, hS2, hT2, hG2, rfl⟩
              refine Wp_seq ?_
              refine Wp_seq_region ?_
              refine WpL_val rfl rfl (by decide) (r_move (v := (.int .i64 ((q2 : Nat) : Int))) rfl) ?_
              refine WpL_val rfl rfl (by decide) (r_move (v := (.int .i64 ((n : Nat) : Int))) rfl) ?_
              refine WpL_val rfl rfl (by decide) (r_leq (k := .i64) (a := ((q2 : Nat) : Int)) (b := ((n : Nat) : Int)) rfl rfl) ?_
              refine WpL_nil ?_
              refine Wp_cond (b := decide ((((q2 : Nat) : Int) : Int) ≤ ((n : Nat) : Int))) rfl (fun hle2 => ?_) (fun hle2 => ?_)
              · have khle2 := hle2
                replace hle2 := of_decide_eq_true hle2
                refine Wp_skip ?_
                refine thn_normal ?_
                refine Wp_block ?_
                refine Wp_seq_region ?_
                refine WpL_val rfl rfl (by decide) (r_move (v := (.slice (some ⟨g, 0, none⟩) n c)) rfl) ?_
                refine WpL_val rfl rfl (by decide) (r_move (v := (.int .i64 ((p2 : Nat) : Int))) rfl) ?_
                refine WpL_val rfl rfl (by decide) (r_move (v := (.int .i64 ((p2 : Nat) : Int))) rfl) ?_
                refine WpL_val rfl rfl (by decide) (r_move (v := (.int .i64 ((s : Nat) : Int))) rfl) ?_
                refine WpL_val rfl rfl (by decide) (r_add (k := .i64) (a := ((p2 : Nat) : Int)) (b := ((s : Nat) : Int)) (c := (((p2 + s : Nat) : Nat) : Int)) rfl rfl ((wI64 (by omega)).trans (by omega))) ?_
                refine WpL_val rfl rfl (by decide) (r_move (v := (.int .i64 ((q2 : Nat) : Int))) rfl) ?_
                refine WpL_val rfl rfl (by decide) (r_move (v := fv) rfl) ?_
                have hds : s ∣ p2 := Nat.dvd_trans (Nat.dvd_mul_left s 2) hd2
                refine WpL_enter rfl rfl (by decide) (r_callF (vs := [(.slice (some ⟨g, 0, none⟩) n c), (.int .i64 ((p2 : Nat) : Int)), (.int .i64 (((p2 + s : Nat) : Nat) : Int)), (.int .i64 ((q2 : Nat) : Int)), fv]) Try.func117 nm117 bd117 rfl) (symMergeX_c κ cf hk n _ g c n T cu2 rest fv p2 (p2 + s) q2 (by omega) hG2 (by rw [hp2.length_eq, hn]) (by omega) (by omega) (by omega) (by omega) ((hT2 p2 hds (Nat.le_refl _)).sub (Nat.le_refl _) (by omega)) ((hT2 (p2 + s) (Nat.dvd_add hds (Nat.dvd_refl _)) (by omega)).sub (Nat.le_refl _) (by omega)) (fun w x y hE hx hy => hf w x y (E.trans hE) (hp2.mem_iff.1 hx) (hp2.mem_iff.1 hy))) ?_
                rintro _ w29 ⟨l', f', hp', hR', hS', hG', C29⟩
                replace E := E.step C29 (fun q _ h => h)
                refine WpL_nil ?_
                refine Wp_seq_region ?_
                refine WpL_val rfl rfl (by decide) (r_move (v := (.int .i64 ((q2 : Nat) : Int))) rfl) ?_
                refine WpL_val rfl rfl (by decide) (r_assign (v := (.int .i64 ((q2 : Nat) : Int))) rfl) ?_
                refine WpL_nil ?_
                refine Wp_region ?_
                refine WpL_val rfl rfl (by decide) (r_move (v := (.int .i64 ((q2 : Nat) : Int))) rfl) ?_
                refine WpL_val rfl rfl (by decide) (r_move (v := (.int .i64 ((s : Nat) : Int))) rfl) ?_
                refine WpL_val rfl rfl (by decide) (r_mul (k := .i64) (a := 2) (b := ((s : Nat) : Int)) (c := (((2 * s : Nat) : Nat) : Int)) rfl rfl ((wI64 (by omega)).trans (by omega))) ?_
                refine WpL_val rfl rfl (by decide) (r_add (k := .i64) (a := ((q2 : Nat) : Int)) (b := (((2 * s : Nat) : Nat) : Int)) (c := (((q2 + 2 * s : Nat) : Nat) : Int)) rfl rfl ((wI64 (by omega)).trans (by omega))) ?_
                refine WpL_val rfl rfl (by decide) (r_assign (v := (.int .i64 (((q2 + 2 * s : Nat) : Nat) : Int))) rfl) ?_
                refine WpL_nil ?_
                refine inB_normal ?_
                refine thn_normal ?_
                exact ⟨n - q2, by omega, q2, q2 + 2 * s, l', _, Fits.out ⟨rfl, rfl, rfl, rfl, rfl, rfl, trivial⟩, E, rfl, (by omega), hp'.trans hp2, hR2.trans (hR'.wide (Nat.zero_le _) (by omega)), (by rw [hq]; exact Nat.dvd_add hd2 (Nat.dvd_refl _)), (fun x hx hl => by rcases Nat.lt_or_ge x p2 with h9 | h9; exact (hS2 x hx h9).keep hR' (dvd_next hx hd2 h9); rw [dvd_gap hx hd2 h9 (by omega), ← hq]; exact hS'), (fun x hx hl => (hT2 x hx (by omega)).keepU hR' hl), hG', rfl⟩
              · have khle2 := hle2
                replace hle2 := of_decide_eq_false hle2
                refine Wp_exit ?_
                refine thn_exit ?_
                refine thn_exit ?_
                refine inB_here ?_
                refine thn_normal ?_
                refine Wp_seq ?_
                refine Wp_seq_region ?_
                refine WpL_val rfl rfl (by decide) (r_move (v := (.int .i64 ((p2 : Nat) : Int))) rfl) ?_
                refine WpL_val rfl rfl (by decide) (r_move (v := (.int .i64 ((s : Nat) : Int))) rfl) ?_
                refine WpL_val rfl rfl (by decide) (r_add (k := .i64) (a := ((p2 : Nat) : Int)) (b := ((s : Nat) : Int)) (c := (((p2 + s : Nat) : Nat) : Int)) rfl rfl ((wI64 (by omega)).trans (by omega))) ?_
                refine WpL_val rfl rfl (by decide) (r_assign (v := (.int .i64 (((p2 + s : Nat) : Nat) : Int))) rfl) ?_
                refine WpL_nil ?_
                refine Wp_seq_region ?_
                refine WpL_val rfl rfl (by decide) (r_move (v := (.int .i64 (((p2 + s : Nat) : Nat) : Int))) rfl) ?_
                refine WpL_val rfl rfl (by decide) (r_move (v := (.int .i64 ((n : Nat) : Int))) rfl) ?_
                refine WpL_val rfl rfl (by decide) (r_lss (k := .i64) (a := (((p2 + s : Nat) : Nat) : Int)) (b := ((n : Nat) : Int)) rfl rfl) ?_
                refine WpL_nil ?_
                refine Wp_cond (b := decide (((((p2 + s : Nat) : Nat) : Int) : Int) < ((n : Nat) : Int))) rfl (fun hm => ?_) (fun hm => ?_)
                · have khm := hm
                  replace hm := of_decide_eq_true hm
                  have hds : s ∣ p2 := Nat.dvd_trans (Nat.dvd_mul_left s 2) hd2
                  refine Wp_region ?_
                  refine WpL_val rfl rfl (by decide) (r_move (v := (.slice (some ⟨g, 0, none⟩) n c)) rfl) ?_
                  refine WpL_val rfl rfl (by decide) (r_move (v := (.int .i64 ((p2 : Nat) : Int))) rfl) ?_
                  refine WpL_val rfl rfl (by decide) (r_move (v := (.int .i64 (((p2 + s : Nat) : Nat) : Int))) rfl) ?_
                  refine WpL_val rfl rfl (by decide) (r_move (v := (.int .i64 ((n : Nat) : Int))) rfl) ?_
                  refine WpL_val rfl rfl (by decide) (r_move (v := fv) rfl) ?_
                  refine WpL_enter rfl rfl (by decide) (r_callF (vs := [(.slice (some ⟨g, 0, none⟩) n c), (.int .i64 ((p2 : Nat) : Int)), (.int .i64 (((p2 + s : Nat) : Nat) : Int)), (.int .i64 ((n : Nat) : Int)), fv]) Try.func117 nm117 bd117 rfl) (symMergeX_c κ cf hk n _ g c n T cu2 rest fv p2 (p2 + s) n (by omega) hG2 (by rw [hp2.length_eq, hn]) (by omega) (by omega) (by omega) (by omega) ((hT2 p2 hds (Nat.le_refl _)).sub (Nat.le_refl _) (by omega)) ((hT2 (p2 + s) (Nat.dvd_add hds (Nat.dvd_refl _)) (by omega)).sub (Nat.le_refl _) (by omega)) (fun w x y hE hx hy => hf w x y (E.trans hE) (hp2.mem_iff.1 hx) (hp2.mem_iff.1 hy))) ?_
                  rintro _ w39 ⟨l', f', hp', hR', hS', hG', C39⟩
                  replace E := E.step C39 (fun q _ h => h)
                  refine WpL_nil ?_
                  refine thn_normal ?_
                  refine Wp_region ?_
                  refine WpL_val rfl rfl (by decide) (r_move (v := (.int .i64 ((s : Nat) : Int))) rfl) ?_
                  refine WpL_val rfl rfl (by decide) (r_mul (k := .i64) (a := ((s : Nat) : Int)) (b := 2) (c := (((s * 2 : Nat) : Nat) : Int)) rfl rfl ((wI64 (by omega)).trans (by omega))) ?_
                  refine WpL_val rfl rfl (by decide) (r_assign (v := (.int .i64 (((s * 2 : Nat) : Nat) : Int))) rfl) ?_
                  refine WpL_nil ?_
                  refine inB_normal ?_
                  refine thn_normal ?_
                  exact ⟨n - (s * 2), by omega, s * 2, l', _, Fits.out ⟨rfl, rfl, rfl, rfl, trivial⟩, E, (by omega), hp'.trans hp2, hR2.trans (hR'.wide (Nat.zero_le _) (Nat.le_refl _)), (fun x hx => by rw [Nat.mul_comm s 2] at hx ⊢; rcases Nat.lt_or_ge x p2 with h9 | h9; exact ((hS2 x hx h9).keep hR' (dvd_next hx hd2 h9)).sub (Nat.le_refl _) (Nat.min_le_left _ _); exact hS'.sub h9 (Nat.min_le_right _ _)), hG', rfl⟩
                · have khm := hm
                  replace hm := of_decide_eq_false hm
                  refine Wp_skip ?_
                  refine thn_normal ?_
                  refine Wp_region ?_
                  refine WpL_val rfl rfl (by decide) (r_move (v := (.int .i64 ((s : Nat) : Int))) rfl) ?_
                  refine WpL_val rfl rfl (by decide) (r_mul (k := .i64) (a := ((s : Nat) : Int)) (b := 2) (c := (((s * 2 : Nat) : Nat) : Int)) rfl rfl ((wI64 (by omega)).trans (by omega))) ?_
                  refine WpL_val rfl rfl (by decide) (r_assign (v := (.int .i64 (((s * 2 : Nat) : Nat) : Int))) rfl) ?_
                  refine WpL_nil ?_
                  refine inB_normal ?_
                  refine thn_normal ?_
                  have hds : s ∣ p2 := Nat.dvd_trans (Nat.dvd_mul_left s 2) hd2
                  exact ⟨n - (s * 2), by omega, s * 2, cu2, f2, Fits.out ⟨rfl, rfl, rfl, rfl, trivial⟩, E, (by omega), hp2, hR2, (fun x hx => by rw [Nat.mul_comm s 2] at hx ⊢; rcases Nat.lt_or_ge x p2 with h9 | h9; exact (hS2 x hx h9).sub (Nat.le_refl _) (Nat.min_le_left _ _); exact (hT2 p2 hds (Nat.le_refl _)).sub h9 (by omega)), hG2, rfl⟩
          · have khlt := hlt
            replace hlt := of_decide_eq_false hlt
            refine Wp_exit ?_
            refine thn_exit ?_
            refine thn_exit ?_
            refine inB_here ?_
            refine fin_none Try.results91 ?_
            exact ⟨cu, f, hp, hR, (hS 0 (Nat.dvd_zero _)).sub (Nat.le_refl _) (by omega), hG, E⟩
  refine Ret_of Try.func50 rfl Try.ntmps50 (Nat.le_of_ble_eq_true rfl) ?_
  have E : Chg (fun q => q = g) w0 w0 := Chg.refl _ _
  refine Wp_region ?_
  refine WpL_val rfl rfl (by decide) (r_move (v := (.slice (some ⟨g, 0, none⟩) n c)) rfl) ?_
  refine WpL_val rfl rfl (by decide) (r_move (v := (.slice (some ⟨g, 0, none⟩) n c)) rfl) ?_
  refine WpL_val rfl rfl (by decide) (r_lenSlice (ad := some ⟨g, 0, none⟩) (n := n) (cap := c) Try.underlying26 rfl) ?_
  refine WpL_val rfl rfl (by decide) (r_move (v := fv) rfl) ?_
  refine WpL_enter rfl rfl (by decide) (r_callF (vs := [(.slice (some ⟨g, 0, none⟩) n c), (.int .i64 ((n : Nat) : Int)), fv]) Try.func91 nm91 bd91 rfl) (hin) ?_
  rintro _ w9 ⟨l', f, hp, hR, hS, hB9, C9⟩
  replace E := E.step C9 (fun q _ h => h)
  refine WpL_nil ?_
  refine fin_none Try.results50 ?_
  exact ⟨l', f, hp, hR, hS, hB9, C9⟩
end Go.Proofs
namespace Go.Eng
open Go
def two (c1 c2 : Nat) (M1 M2 : Nat → Prop) (p : Nat) : Nat → Prop := bif Nat.beq p c1 then M1 else bif Nat.beq p c2 then M2 else none1
/-- An operation that is sure to be yet to come when operation i is done. -/
def gone (wss : List (List Nat)) (i j : Nat) : Bool := Nat.beq j i || (wss.getD j []).contains i
def Past (wss : List (List Nat)) (Ms : Nat → Nat → Prop) (i : Nat) : Nat → Prop := fun y => ∃ j, gone wss i j = false ∧ Ms j y
theorem two_or {c1 c2 : Nat} {M1 M2 : Nat → Prop} {p y : Nat} (h : two c1 c2 M1 M2 p y) : (p = c1 ∧ M1 y) ∨ (p = c2 ∧ M2 y) := by
  unfold two at h
  cases h1 : Nat.beq p c1 with
  | true => rw [h1] at h; exact .inl ⟨Nat.eq_of_beq_eq_true h1, h⟩
  | false =>
    rw [h1] at h
    cases h2 : Nat.beq p c2 with
    | true => rw [h2] at h; exact .inr ⟨Nat.eq_of_beq_eq_true h2, h⟩
    | false => rw [h2] at h; exact h.elim
section
variable {wss : List (List Nat)} {c1 c2 i y : Nat} {M1 M2 : Nat → Prop}
theorem Past.or (h : Past wss (two c1 c2 M1 M2) i y) : M1 y ∨ M2 y := by
  obtain ⟨j, _, h2⟩ := h
  rcases two_or h2 with h | h
  · exact .inl h.2
  · exact .inr h.2
theorem Past.fst (hg : gone wss i c2 = true) (h : Past wss (two c1 c2 M1 M2) i y) : M1 y := by
  obtain ⟨j, h1, h2⟩ := h
  rcases two_or h2 with h | h
  · exact h.2
  · rw [h.1, hg] at h1; cases h1
theorem Past.none (hg : gone wss i c1 = true) (hg2 : gone wss i c2 = true) (h : Past wss (two c1 c2 M1 M2) i y) : False := by
  obtain ⟨j, h1, h2⟩ := h
  rcases two_or h2 with h | h
  · rw [h.1, hg] at h1; cases h1
  · rw [h.1, hg2] at h1; cases h1
theorem two_ext {p : Nat} {w w' : World} (h : Chg (two c1 c2 M1 M2 p) w w') : (p = c1 ∧ Chg M1 w w') ∨ (p = c2 ∧ Chg M2 w w') ∨ Ext w w' := by
  unfold two at h
  cases h1 : Nat.beq p c1 with
  | true => rw [h1] at h; exact .inl ⟨Nat.eq_of_beq_eq_true h1, h⟩
  | false =>
    rw [h1] at h
    cases h2 : Nat.beq p c2 with
    | true => rw [h2] at h; exact .inr (.inl ⟨Nat.eq_of_beq_eq_true h2, h⟩)
    | false => rw [h2] at h; exact .inr (.inr h)
end
/-- A fact of a value that may also speak of the values of the operations ahead of it. -/
abbrev FctE := Env → Fct
def HoldsX (ds : List Nat) (Fs : List FctE) (j : Nat) (σ : Env) (w : World) : Prop := ∀ d F, ds[j]? = some d → Fs[j]? = some F → F σ (σ d) w
def DagStepX (P : Program) (N : Nat) (ds : List Nat) (Fs : List FctE) (σ : Env) (w : World) (Ms : Nat → Nat → Prop) (all : List (List Nat)) (i : Nat) (o : Oper) (ws : List Nat) (F : FctE) : Prop :=
  ∀ σ' w', Chg (Past all Ms i) w w' → (∀ t, ds.contains t = false → σ' t = σ t) → (∀ j, ws.contains j = true → HoldsX ds Fs j σ' w') → DoesT (Ms i) P N o (fun v w => F σ' (Go.Eng.valOf o v) w) σ' w'
def StabX (Ms : Nat → Nat → Prop) (i : Nat) (ws : List Nat) (F : FctE) : Prop := ∀ p, p ≠ i → ws.contains p = false → ∀ σ v w w', Chg (Ms p) w w' → F σ v w → F σ v w'
def LocX (ds : List Nat) (ws : List Nat) (F : FctE) : Prop := ∀ σ1 σ2 : Env, (∀ j d, ws.contains j = true → ds[j]? = some d → σ2 d = σ1 d) → ∀ v w, F σ1 v w → F σ2 v w
theorem StabX.eq {Ms : Nat → Nat → Prop} {i : Nat} {ws : List Nat} {u : Value} : StabX Ms i ws (fun _ v _ => v = u) := fun _ _ _ _ _ _ _ _ h => h
theorem LocX.const {ds ws : List Nat} {G : Fct} : LocX ds ws (fun _ => G) := fun _ _ _ _ _ h => h
inductive DagStepsX (P : Program) (N : Nat) (ds : List Nat) (Fs : List FctE) (σ : Env) (w : World) (Ms : Nat → Nat → Prop) (all : List (List Nat)) : Nat → List Oper → List (List Nat) → List FctE → Prop where
  | nil {i : Nat} : DagStepsX P N ds Fs σ w Ms all i [] [] []
  | cons {i : Nat} {o : Oper} {l : List Oper} {ws : List Nat} {wss : List (List Nat)} {F : FctE} {Gs : List FctE} (s : StabX Ms i ws F) (lc : LocX ds ws F) (h : DagStepX P N ds Fs σ w Ms all i o ws F) (t : DagStepsX P N ds Fs σ w Ms all (i + 1) l wss Gs) : DagStepsX P N ds Fs σ w Ms all i (o :: l) (ws :: wss) (F :: Gs)
theorem DagStepsX.get {P : Program} {N : Nat} {ds : List Nat} {Fs : List FctE} {σ : Env} {w : World} {Ms : Nat → Nat → Prop} {all : List (List Nat)} : ∀ {i : Nat} {l : List Oper} {wss : List (List Nat)} {Gs : List FctE}, DagStepsX P N ds Fs σ w Ms all i l wss Gs → ∀ {j : Nat} {o : Oper}, l[j]? = some o → ∃ ws F, wss[j]? = some ws ∧ Gs[j]? = some F ∧ StabX Ms (i + j) ws F ∧ LocX ds ws F ∧ DagStepX P N ds Fs σ w Ms all (i + j) o ws F
  | _, _, _, _, .nil, j, o, h => by simp at h
  | i, _, _, _, .cons s lc h t, 0, o, ho => by
    simp at ho; subst ho
    exact ⟨_, _, rfl, rfl, s, lc, h⟩
  | i, _, _, _, .cons s lc h t, j + 1, o, ho => by
    simp at ho
    obtain ⟨ws, F, h1, h2, h3, h5, h4⟩ := DagStepsX.get t ho
    exact ⟨ws, F, by simpa using h1, by simpa using h2, by rw [show i + (j + 1) = i + 1 + j from by omega]; exact h3, h5, by rw [show i + (j + 1) = i + 1 + j from by omega]; exact h4⟩
/-- Waits that follow from the given ones. -/
def closB1 (wss cl : List (List Nat)) (i : Nat) : Bool := (cl.getD i []).all fun c => (wss.getD i []).contains c || (wss.getD i []).any fun e => (cl.getD e []).contains c
def closB (wss cl : List (List Nat)) : Bool := (List.range wss.length).all (closB1 wss cl)
theorem closB_get {wss cl : List (List Nat)} (h : closB wss cl = true) {i c : Nat} {ws : List Nat} (hw : wss[i]? = some ws) (hc : (cl.getD i []).contains c = true) : c ∈ ws ∨ ∃ e ∈ ws, (cl.getD e []).contains c = true := by
  have h1 := List.all_eq_true.1 h i (List.mem_range.2 (lt_of_get hw))
  have h2 := List.all_eq_true.1 h1 c (by simpa using hc)
  rw [List.getD_eq_getElem?_getD, hw, Option.getD_some, Bool.or_eq_true] at h2
  rcases h2 with h2 | h2
  · exact .inl (by simpa using h2)
  · obtain ⟨e, he, h3⟩ := List.any_eq_true.1 h2
    exact .inr ⟨e, he, h3⟩
theorem Wp_dagX {P : Program} {N : Nat} {Q : Post} {σ : Env} {w : World} {id : Nat} {l : List Oper} (Ms : Nat → Nat → Prop) (n : Nat) (ds : List Nat) (wss cl : List (List Nat)) (Fs : List FctE) {Gs : List FctE} (hG : Fs = Gs) (hC : closB wss cl = true) (hm : P.follows .mixedOrders = true) (hB : dagBT N 0 (l.take n) ds wss = true) (hn : nodupB ds = true)
    (hT : (decide (n < l.length) && Region.sinkB .any l.toArray n && Region.chainB .any l.toArray n && Region.seqB .any l.toArray (l.length - n) n (headDone n l.length)) = true)
    (steps : ∀ w1, Ext w w1 → DagStepsX P N ds Fs σ w1 Ms cl 0 (l.take n) cl Gs)
    (k : ∀ σ' w1 w', Ext w w1 → Chg (fun y => ∃ j, Ms j y) w1 w' → (∀ t, ds.contains t = false → σ' t = σ t) → (∀ j, HoldsX ds Fs j σ' w') → WpL P N l.toArray (Q .normal) Q (l.drop n) σ' w') : Wp P N (.region id l.toArray true) Q σ w := by
  intro dz a ha he
  have eQ : lift dz N (thn (Q .normal) Q) = lift dz N Q := by funext e a w; cases e <;> rfl
  refine wp_region_any hm ?_
  obtain ⟨w1, hw1⟩ : ∃ w1 : World, w1 = { w with drawn := w.drawn + 1 } := ⟨_, rfl⟩
  have hE1 : Ext w w1 := by rw [hw1]; exact drew_ext w
  rw [← hw1]
  have hst := steps w1 hE1
  rw [← hG] at hst
  simp only [Bool.and_eq_true, decide_eq_true_eq] at hT
  obtain ⟨⟨⟨hnl, hs⟩, hc⟩, hseq⟩ := hT
  have hlen : ds.length = n := by rw [dagBT_len hB]; simp; omega
  have key : ∀ (m : Nat) (listed : Array Bool) (a : Act) (w' : World), (listed.toList.take n).count false = m → HeadInv .any l.toArray n listed → Ok dz N a → Chg (fun y => ∃ j, listed.getD j false = true ∧ Ms j y) w1 w' → (∀ t, ds.contains t = false → env a t = σ t) → (∀ j, listed.getD j false = true → HoldsX ds Fs j (env a) w') →
      wpAny P .any l.toArray (lift dz N Q) (m + (l.length - n)) listed a w' := by
    intro m
    induction m with
    | zero =>
      intro listed a w' hc0 inv ha hx hu hh
      have hsz : listed.size = l.length := by simpa using inv.size
      have hl : listed = headDone n l.length := by
        apply Array.ext'
        rw [headDone]
        have := head_all (l := listed.toList) (n := n) (by simp; omega) hc0 (by
          intro t h1 h2
          have h2' : t < listed.size := by simpa using h2
          have := inv.tail t h1 (by simpa [hsz] using h2')
          simp only [Array.getD_eq_getD_getElem?, Array.getElem?_eq_getElem h2', Option.getD_some] at this
          simp [h2', this])
        rw [this]; simp [hsz]
      rw [Nat.zero_add]
      have h1 := k (env a) w1 w' hE1 (hx.mono fun y _ h => by obtain ⟨j, _, h⟩ := h; exact ⟨j, h⟩) hu (fun j d F hd hF => by
        have hj : j < n := by have := lt_of_get hd; omega
        exact hh j (by
          rw [hl, headDone]
          simp [Array.getD_eq_getD_getElem?, List.getElem?_append_left, hj]) d F hd hF) dz a ha rfl
      rw [eQ] at h1
      have := wpAny_of_seq (P := P) (md := .any) (ops := l.toArray) (Q' := lift dz N Q) (l.drop n) n listed a w' (fun j => by simp [List.getElem?_drop]) (by rw [List.length_drop, hl]; exact hseq) h1
      rwa [List.length_drop] at this
    | succ m ih =>
      intro listed a w' hcm inv ha hx hu hh
      have hsz : listed.size = l.length := by simpa using inv.size
      obtain ⟨i0, hi0n, hi0⟩ : ∃ i, i < n ∧ listed.getD i true = false := by
        have : 0 < (listed.toList.take n).count false := by omega
        rw [List.count_pos_iff] at this
        obtain ⟨i, hi, he⟩ := List.getElem_of_mem this
        have hin : i < n := by simp at hi; omega
        refine ⟨i, hin, ?_⟩
        have hil : i < listed.size := by simp at hi; omega
        simp only [Array.getD_eq_getD_getElem?, Array.getElem?_eq_getElem hil, Option.getD_some]
        simpa using he
      rw [show m + 1 + (l.length - n) = (m + (l.length - n)) + 1 by omega]
      refine ⟨fun hr => ?_, fun i hi => ?_⟩
      · exfalso
        have hall : ∀ i, i < n → listed.getD i true = true := by
          intro i
          induction i using Nat.strongRecOn with
          | _ i ihi =>
            intro hi
            cases hv : listed.getD i true with
            | true => rfl
            | false =>
              exfalso
              obtain ⟨o, ho⟩ := get_of_lt (l := l) (i := i) (by omega)
              have ho' : (l.take n)[i]? = some o := by rw [List.getElem?_take_of_lt hi]; exact ho
              obtain ⟨d, ws, _, _, h3⟩ := dagBT_get hB ho'
              have : i ∈ Region.ready .any l.toArray listed := by
                refine mem_ready.2 ⟨hv, o, by simpa using ho, fun e he hb => ?_⟩
                simp only [dagOneT, Bool.and_eq_true, Array.all_eq_true_iff_forall_mem, Bool.or_eq_true, Bool.not_eq_true', Nat.zero_add] at h3
                have := (h3.1.1.2 e he).resolve_left (by simp [hb])
                have hlt : e.on < i := by simpa [Nat.blt_eq] using this
                have h4 := ihi e.on hlt (by omega)
                have hj : e.on < listed.size := by omega
                simpa only [Array.getD_eq_getD_getElem?, Array.getElem?_eq_getElem hj, Option.getD_some] using h4
              rw [hr] at this
              cases this
        rw [hall i0 hi0n] at hi0
        cases hi0
      · have hin : i < n := by
          rcases Nat.lt_or_ge i n with h | h
          · exact h
          · exact absurd hi (tail_waits hs hc (by simpa using hnl) inv _ i0 rfl hi0n hi0 i h)
        obtain ⟨h1, o, h2, h3⟩ := mem_ready.1 hi
        have hil : i < listed.size := by omega
        have ho : l[i]? = some o := by simpa using h2
        have ho' : (l.take n)[i]? = some o := by rw [List.getElem?_take_of_lt hin]; exact ho
        obtain ⟨d, ws, hd, hws, h4⟩ := dagBT_get hB ho'
        obtain ⟨ws', F, hws', hF, hstab, hloc, hstep⟩ := hst.get ho'
        simp only [Nat.zero_add] at hstep hstab
        simp only [dagOneT, Bool.and_eq_true, List.all_eq_true, Array.any_eq_true', Array.all_eq_true_iff_forall_mem, Bool.or_eq_true, Bool.not_eq_true', Nat.zero_add] at h4
        obtain ⟨⟨⟨hdst, _⟩, hwait⟩, hgd⟩ := h4
        have hgd : o.guard = none := by simpa using hgd
        have hcl : ∀ j, listed.getD j false = true → ∀ c, (cl.getD j []).contains c = true → listed.getD c false = true := by
          intro j
          induction j using Nat.strongRecOn with
          | _ j ihj =>
            intro hlj c hc
            have hcn : j < n := by
              rcases Nat.lt_or_ge j n with h | h
              · exact h
              · rcases Nat.lt_or_ge j l.length with h' | h'
                · have := getD_both (inv.tail j h (by simpa using h')); rw [this] at hlj; cases hlj
                · simp [Array.getElem?_eq_none (show listed.size ≤ j by omega)] at hlj
            obtain ⟨oc, hoc⟩ := get_of_lt (l := l) (i := j) (by omega)
            have hoc' : (l.take n)[j]? = some oc := by rw [List.getElem?_take_of_lt hcn]; exact hoc
            obtain ⟨dc, wsc, _, hwsc, h5⟩ := dagBT_get hB hoc'
            simp only [dagOneT, Bool.and_eq_true, List.all_eq_true, Array.any_eq_true', Array.all_eq_true_iff_forall_mem, Bool.or_eq_true, Bool.not_eq_true', Nat.zero_add] at h5
            have hdir : ∀ e' ∈ wsc, listed.getD e' false = true ∧ e' < j := by
              intro e' he'
              obtain ⟨e, he, hb1, hb2⟩ := h5.1.2 e' he'
              have hei : e.on = e' := Nat.eq_of_beq_eq_true hb2
              have h6 := inv.closed j oc (by simpa using hoc) hlj e he hb1
              have h7 := (h5.1.1.2 e he).resolve_left (by simp [hb1])
              rw [hei] at h6 h7
              exact ⟨h6, by simpa [Nat.blt_eq] using h7⟩
            rcases closB_get hC hwsc hc with h6 | ⟨e', he', h6⟩
            · exact (hdir c h6).1
            · exact ihj e' (hdir e' he').2 (hdir e' he').1 c h6
        have hgone : ∀ j, listed.getD j false = true → gone cl i j = false := by
          intro j hlj
          cases hg : gone cl i j with
          | false => rfl
          | true =>
            exfalso
            simp only [gone, Bool.or_eq_true] at hg
            rcases hg with hg | hg
            · have : j = i := Nat.eq_of_beq_eq_true hg
              rw [this, getD_both h1] at hlj; cases hlj
            · have := hcl j hlj i hg
              rw [getD_both h1] at this; cases this
        have hclo : ∀ j, ws'.contains j = true → listed.getD j false = true := by
          intro j hj
          have hj' : (cl.getD i []).contains j = true := by rw [List.getD_eq_getElem?_getD, hws', Option.getD_some]; exact hj
          have hdir : ∀ e' ∈ ws, listed.getD e' false = true := by
            intro e' he'
            obtain ⟨e, he, hb1, hb2⟩ := hwait e' he'
            have : e.on = e' := Nat.eq_of_beq_eq_true hb2
            exact this ▸ h3 e he hb1
          rcases closB_get hC hws hj' with h6 | ⟨e', he', h6⟩
          · exact hdir j h6
          · exact hcl e' (hdir e' he') j h6
        have hH : ∀ j, ws'.contains j = true → HoldsX ds Fs j (env a) w' := fun j hj => hh j (hclo j hj)
        have hstep2 : ∀ w2, Chg (Ms i) w' w2 → Chg (fun y => ∃ j, (listed.setIfInBounds i true).getD j false = true ∧ Ms j y) w1 w2 := by
          intro w2 hx2
          have hg : (listed.setIfInBounds i true).getD i false = true := by simp [Array.getD_eq_getD_getElem?, hil]
          refine Chg.step (hx.mono fun y _ h => ?_) hx2 (fun y _ h => ⟨i, hg, h⟩)
          obtain ⟨j, h5, h6⟩ := h
          by_cases hij : j = i
          · exact ⟨i, hg, hij ▸ h6⟩
          · exact ⟨j, by rw [getD_set_ne _ (Ne.symm hij)]; exact h5, h6⟩
        have cont : ∀ v w2, Chg (Ms i) w' w2 → F (env a) (Go.Eng.valOf o v) w2 → wpAny P .any l.toArray (lift dz N Q) (m + (l.length - n)) (listed.setIfInBounds i true) (a.put o.dst v) w2 := by
          intro v w2 hx2 hv
          have henv : (∀ t, t ≠ d → env (a.put o.dst v) t = env a t) ∧ env (a.put o.dst v) d = Go.Eng.valOf o v := by
            cases hod : o.dst with
            | none =>
              rw [hod] at hdst
              have hNd : N ≤ d := Nat.le_of_ble_eq_true hdst
              refine ⟨fun t _ => rfl, ?_⟩
              simp only [Go.Eng.valOf, hod]
              show a.tmps.getD d undef = undef
              have : a.tmps.size ≤ d := by rw [ha.size]; exact hNd
              simp [Array.getElem?_eq_none this]
            | some d' =>
              rw [hod] at hdst
              simp only [Bool.and_eq_true] at hdst
              have hd1 : d' = d := Nat.eq_of_beq_eq_true hdst.1
              have hd2 : d < N := by simpa [Nat.blt_eq] using hdst.2
              subst hd1
              rw [env_put ha hd2 v]
              refine ⟨fun t ht => ?_, ?_⟩
              · have : Nat.beq t d' = false := by cases hb : Nat.beq t d'; rfl; exact absurd (Nat.eq_of_beq_eq_true hb) ht
                simp [upd, this]
              · simp [upd, Go.Eng.valOf, hod]
          refine ih _ _ _ ?_ (inv.set hi hin) (ha.put _ _) (hstep2 w2 hx2) ?_ ?_
          · have hl : listed.toList[i]? = some false := by
              simp only [Array.getD_eq_getD_getElem?, Array.getElem?_eq_getElem hil, Option.getD_some] at h1
              simp [hil, h1]
            have := count_take_set (l := listed.toList) hin (by simp; omega) hl
            rw [Array.toList_setIfInBounds]
            omega
          · intro t ht
            rw [henv.1 t (fun h => by
              subst h
              have := List.mem_of_getElem? hd
              simp [this] at ht), hu t ht]
          · intro j hj d' F' hd' hF'
            by_cases hij : j = i
            · subst hij
              rw [hd] at hd'; cases hd'
              rw [hF] at hF'; cases hF'
              rw [henv.2]
              refine hloc (env a) _ (fun j' d' hj' hd' => henv.1 d' fun he => ?_) _ _ hv
              have := nodupB_get hn (he ▸ hd') hd
              subst this
              have := hclo j' hj'
              rw [getD_both h1] at this
              cases this
            · have hne : d' ≠ d := by
                intro h
                subst h
                exact hij (nodupB_get hn hd' hd)
              rw [henv.1 d' hne]
              rw [getD_set_ne _ (Ne.symm hij)] at hj
              have h6 := hh j hj d' F' hd' hF'
              have hjn : j < n := by have := lt_of_get hd'; omega
              obtain ⟨oj, hoj⟩ := get_of_lt (l := l) (i := j) (by omega)
              have hoj' : (l.take n)[j]? = some oj := by rw [List.getElem?_take_of_lt hjn]; exact hoj
              obtain ⟨dj, wsj, _, hwsj, h5⟩ := dagBT_get hB hoj'
              obtain ⟨wsj', Fj, hwsj', hFj, hsj, hlj, _⟩ := hst.get hoj'
              rw [hF'] at hFj; cases hFj
              simp only [Nat.zero_add] at hsj
              have hci : wsj'.contains i = false := by
                cases hci : wsj'.contains i with
                | false => rfl
                | true =>
                  exfalso
                  have := hgone j hj
                  have hgc : cl.getD j [] = wsj' := by simp [hwsj']
                  simp only [gone, hgc, hci, Bool.or_true] at this
                  cases this
              refine hlj (env a) _ (fun j' d' hj' hd' => henv.1 d' fun he => ?_) _ _ (hsj i (Ne.symm hij) hci _ _ _ _ hx2 h6)
              have := nodupB_get hn (he ▸ hd') hd
              subst this
              rw [hci] at hj'
              cases hj'
        have hx0 : Chg (Past cl Ms i) w1 w' := hx.mono fun y _ h => by
          obtain ⟨j, h5, h6⟩ := h
          exact ⟨j, hgone j h5, h6⟩
        have hdo := hstep (env a) w' hx0 hu hH
        have hw : Region.wanted o (yielded l.toArray a.tmps) = true := by simp [Region.wanted, hgd]
        unfold wpOp
        simp only [h2, hw, if_true]
        exact Or.inl (hdo _ a ha rfl _ _ cont)
  have inv0 : HeadInv .any l.toArray n (Array.replicate l.toArray.size false) :=
    ⟨by simp, fun j oj _ hl => (by rw [getD_replicate_false] at hl; cases hl), fun t _ ht => getD_in (by simpa using ht) (getD_replicate_false _ _)⟩
  have h1 := key n (Array.replicate l.toArray.size false) a w1 (by simp; omega) inv0 ha (Chg.refl _ _) (fun t _ => by rw [he]) (fun j hj => by rw [getD_replicate_false] at hj; cases hj)
  have e3 : n + (l.length - n) = l.toArray.size := by simp; omega
  rw [e3] at h1
  exact h1
end Go.Eng
