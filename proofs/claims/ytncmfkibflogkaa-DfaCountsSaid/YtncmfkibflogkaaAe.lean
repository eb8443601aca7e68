/- Keys of states as byte strings; a finer numbering has no fewer numbers. -/
import Derived.Test.YtncmfkibflogkaaAd
namespace Go.Proofs
open Go Go.Eng Go.Sort

theorem Refd.cnt_mono {n c cnt cnt' : Nat} {d : Dfa} {p q : List Int} (hp : Refd n c d p cnt) (hq : Refd n c d q cnt') (hf : ∀ s t : Nat, s < n → t < n → liveD c d s → liveD c d t → q[s]? = q[t]? → p[s]? = p[t]?) : cnt ≤ cnt' := by
  have hmap : ∀ j : Nat, ∃ i : Nat, j < cnt' → (i < cnt ∧ ∀ u : Nat, u < n → liveD c d u → q[u]? = some ((j : Nat) : Int) → p[u]? = some ((i : Nat) : Int)) := by
    intro j
    by_cases hj : j < cnt'
    · obtain ⟨u, hu, lu, hqu⟩ := hq.onto j hj
      obtain ⟨i, hi, hic⟩ := hp.liv u hu lu
      refine ⟨i, fun _ => ⟨hic, fun v hv lv hqv => ?_⟩⟩
      rw [← hf u v hu hv lu lv (by rw [hqu, hqv])]; exact hi
    · exact ⟨0, fun h => absurd h hj⟩
  obtain ⟨f, hfm⟩ := Classical.axiomOfChoice hmap
  have hle := nodup_leN (l := List.range cnt) (m := (List.range cnt').map f) List.nodup_range fun i hi => by
    rw [List.mem_range] at hi
    obtain ⟨u, hu, lu, hpu⟩ := hp.onto i hi
    obtain ⟨j, hj, hjc⟩ := hq.liv u hu lu
    have h1 := (hfm j hjc).2 u hu lu hj
    rw [hpu] at h1
    exact List.mem_map.2 ⟨j, List.mem_range.2 hjc, by simp at h1; omega⟩
  simpa using hle
def bytes4 (n : Int) : List Int := [n % 256, n / 256 % 256, n / 65536 % 256, n / 16777216 % 256]
def encI (l : List Int) : ByteArray := strOfNums (l.flatMap bytes4)
def okK (l : List Int) : Prop := ∀ x ∈ l, -1 ≤ x ∧ x < 2147483648
theorem bytes4_rng (n : Int) : ∀ x ∈ bytes4 n, 0 ≤ x ∧ x < 256 := by
  intro x hx
  simp only [bytes4, List.mem_cons, List.not_mem_nil, or_false] at hx
  omega
theorem bytes4_inj {x y : Int} (hx : -1 ≤ x ∧ x < 2147483648) (hy : -1 ≤ y ∧ y < 2147483648) (h : bytes4 x = bytes4 y) : x = y := by
  simp only [bytes4, List.cons.injEq, and_true] at h
  omega
theorem flat4_inj : ∀ {l m : List Int}, okK l → okK m → l.flatMap bytes4 = m.flatMap bytes4 → l = m
  | [], [], _, _, _ => rfl
  | [], y :: m, _, _, h => by simp [bytes4] at h
  | x :: l, [], _, _, h => by simp [bytes4] at h
  | x :: l, y :: m, hl, hm, h => by
    rw [List.flatMap_cons, List.flatMap_cons] at h
    obtain ⟨h1, h2⟩ := List.append_inj h rfl
    rw [bytes4_inj (hl x List.mem_cons_self) (hm y List.mem_cons_self) h1, flat4_inj (fun z hz => hl z (List.mem_cons_of_mem _ hz)) (fun z hz => hm z (List.mem_cons_of_mem _ hz)) h2]
theorem flat4_rng {l : List Int} : ∀ x ∈ l.flatMap bytes4, 0 ≤ x ∧ x < 256 := fun x hx => by
  obtain ⟨y, _, h⟩ := List.mem_flatMap.1 hx
  exact bytes4_rng y x h
theorem nums_inj {l m : List Int} (hl : ∀ x ∈ l, 0 ≤ x ∧ x < 256) (hm : ∀ x ∈ m, 0 ≤ x ∧ x < 256) (h : strOfNums l = strOfNums m) : l = m := by
  have h1 := congrArg (fun s => s.data.toList) h
  simp only [strOfNums_data] at h1
  have h2 : ∀ {l m : List Int}, (∀ x ∈ l, 0 ≤ x ∧ x < 256) → (∀ x ∈ m, 0 ≤ x ∧ x < 256) → l.map (fun i => UInt8.ofNat i.toNat) = m.map (fun i => UInt8.ofNat i.toNat) → l = m := by
    intro l
    induction l with
    | nil => intro m _ _ h; cases m with
      | nil => rfl
      | cons y m => cases h
    | cons x l ih =>
      intro m h3 h4 h
      cases m with
      | nil => cases h
      | cons y m =>
        simp only [List.map_cons, List.cons.injEq] at h
        have a := h3 x List.mem_cons_self
        have b := h4 y List.mem_cons_self
        have e := congrArg UInt8.toNat h.1
        simp only [UInt8.toNat_ofNat'] at e
        rw [ih (fun z hz => h3 z (List.mem_cons_of_mem _ hz)) (fun z hz => h4 z (List.mem_cons_of_mem _ hz)) h.2]
        congr 1
        omega
  exact h2 hl hm h1
theorem encI_inj {l m : List Int} (hl : okK l) (hm : okK m) (h : encI l = encI m) : l = m := flat4_inj hl hm (nums_inj flat4_rng flat4_rng h)
def keysI : List (List Int) → Nat → List (ByteArray × Int)
  | [], _ => []
  | m :: ks, n => (encI m, ((n : Nat) : Int)) :: keysI ks (n + 1)
theorem keysI_len : ∀ (ks : List (List Int)) (n : Nat), (keysI ks n).length = ks.length
  | [], _ => rfl
  | _ :: ks, n => by simp [keysI, keysI_len ks]
theorem keysI_snoc : ∀ (ks : List (List Int)) (m : List Int) (n : Nat), keysI (ks ++ [m]) n = keysI ks n ++ [(encI m, (((n + ks.length : Nat) : Nat) : Int))]
  | [], m, n => rfl
  | x :: ks, m, n => by
    show (encI x, _) :: keysI (ks ++ [m]) (n + 1) = (encI x, _) :: (keysI ks (n + 1) ++ _)
    rw [keysI_snoc ks m (n + 1), List.length_cons, show n + 1 + ks.length = n + (ks.length + 1) by omega]
theorem keysI_mem : ∀ {ks : List (List Int)} {n : Nat} {q : ByteArray × Int}, q ∈ keysI ks n → ∃ (j : Nat) (m : List Int), ks[j]? = some m ∧ q = (encI m, (((n + j : Nat) : Nat) : Int))
  | [], _, _, h => by cases h
  | x :: ks, n, q, h => by
    rcases List.mem_cons.1 h with h | h
    · exact ⟨0, x, rfl, h⟩
    · obtain ⟨j, m, h1, h2⟩ := keysI_mem h
      exact ⟨j + 1, m, h1, by rw [h2]; congr 2; omega⟩
theorem keysI_key : ∀ {ks : List (List Int)} {n : Nat} {m : List Int}, m ∈ ks → encI m ∈ (keysI ks n).map (·.1)
  | x :: ks, n, m, h => by
    rcases List.mem_cons.1 h with rfl | h
    · exact List.mem_cons_self
    · exact List.mem_cons_of_mem _ (keysI_key (n := n + 1) h)
theorem keysI_get {ks : List (List Int)} {m : List Int} {v : Int} (hk : ∀ k ∈ ks, okK k) (hm : okK m) (h : getM (keysI ks 0) (encI m) = some v) : ∃ j : Nat, v = ((j : Nat) : Int) ∧ ks[j]? = some m := by
  obtain ⟨j, m', h1, h2⟩ := keysI_mem (getM_some_mem h)
  simp only [Prod.mk.injEq, Nat.zero_add] at h2
  obtain rfl := encI_inj hm (hk m' (List.mem_of_getElem? h1)) h2.1
  exact ⟨j, h2.2, h1⟩
theorem keysI_none {ks : List (List Int)} {m : List Int} (h : getM (keysI ks 0) (encI m) = none) : m ∉ ks ∧ putM (keysI ks 0) (encI m) ((ks.length : Nat) : Int) = keysI (ks ++ [m]) 0 := by
  refine ⟨fun hm => ?_, ?_⟩
  · have := getM_isSome.2 (keysI_key (n := 0) hm)
    rw [h] at this; cases this
  · rw [putM_none _ h, keysI_snoc, Nat.zero_add]
abbrev TU8 : Nat := 5
theorem wU8m (n : Int) : IntKind.u8.wrap n = n % 256 := by
  simp only [IntKind.wrap, IntKind.bits, IntKind.signed, Bool.true_and, Bool.false_and, decide_eq_true_eq, ge_iff_le, Int.reducePow, Nat.reduceSub, Bool.false_eq_true, if_false]
theorem fdiv_pos (n : Int) {k : Int} (h : 0 ≤ k) : n.fdiv k = n / k := Int.fdiv_eq_ediv_of_nonneg n h
theorem word4_c (w0 : World) (base n : Nat) (v : Value) (xs : List Int) (x : Int) (hv : w0.ownsRow base TU8 1 v n (xs.map (Value.int .u8))) (hb : base ≤ w0.heap.size) (hn : n ≤ 1000000) (hxn : n = xs.length) (hx : -1 ≤ x ∧ x < 2147483648) :
    Ret Try.prog 97 #[v, .int .i64 x] w0 fun r w => (∃ a c, r = .slice a (n + 4) c) ∧ w.ownsRow base TU8 1 r (n + 4) ((xs ++ bytes4 x).map (Value.int .u8)) ∧ Chg (fun y => v.ownBlock = some y) w0 w := by
  obtain ⟨a, c, rfl⟩ := own_form hv
  refine Ret_of Try.func97 rfl Try.ntmps97 (Nat.le_of_ble_eq_true rfl) ?_
  have E : Chg (fun y => (Value.slice a n c).ownBlock = some y) w0 w0 := Chg.refl _ _
  refine Wp_seq_region ?_
  refine WpL_val rfl rfl (by decide) (r_assign (v := (.slice none 0 0)) rfl) ?_
  refine WpL_nil ?_
  refine Wp_seq_region ?_
  refine WpL_val rfl rfl (by decide) (r_move (v := (.slice a n c)) rfl) ?_
  refine WpL_val rfl rfl (by decide) (r_move (v := (.int .i64 x)) rfl) ?_
  refine WpL_val rfl rfl (by decide) (r_convInt (k := .i64) (k' := .u8) (n := x) (c := x % 256) ⟨_, Try.underlying3⟩ Try.underlying5 rfl (wU8m x)) ?_
  refine WpL_val rfl rfl (by decide) (r_move (v := (.int .i64 x)) rfl) ?_
  refine WpL_val rfl rfl (by decide) (r_shr (k := .i64) (a := x) (b := 8) (c := x / 256) (k' := .u64) rfl rfl (by omega) (fdiv_pos x (by decide))) ?_
  refine WpL_val rfl rfl (by decide) (r_convInt (k := .i64) (k' := .u8) (n := x / 256) (c := x / 256 % 256) ⟨_, Try.underlying3⟩ Try.underlying5 rfl (wU8m _)) ?_
  refine WpL_val rfl rfl (by decide) (r_move (v := (.int .i64 x)) rfl) ?_
  refine WpL_val rfl rfl (by decide) (r_shr (k := .i64) (a := x) (b := 16) (c := x / 65536) (k' := .u64) rfl rfl (by omega) (fdiv_pos x (by decide))) ?_
  refine WpL_val rfl rfl (by decide) (r_convInt (k := .i64) (k' := .u8) (n := x / 65536) (c := x / 65536 % 256) ⟨_, Try.underlying3⟩ Try.underlying5 rfl (wU8m _)) ?_
  refine WpL_val rfl rfl (by decide) (r_move (v := (.int .i64 x)) rfl) ?_
  refine WpL_val rfl rfl (by decide) (r_shr (k := .i64) (a := x) (b := 24) (c := x / 16777216) (k' := .u64) rfl rfl (by omega) (fdiv_pos x (by decide))) ?_
  refine WpL_val rfl rfl (by decide) (r_convInt (k := .i64) (k' := .u8) (n := x / 16777216) (c := x / 16777216 % 256) ⟨_, Try.underlying3⟩ Try.underlying5 rfl (wU8m _)) ?_
  refine s_buildSlice (ps := [(0, (.int .u8 (x % 256))), (1, (.int .u8 (x / 256 % 256))), (2, (.int .u8 (x / 65536 % 256))), (3, (.int .u8 (x / 16777216 % 256)))]) (c := #[(.int .u8 (x % 256)), (.int .u8 (x / 256 % 256)), (.int .u8 (x / 65536 % 256)), (.int .u8 (x / 16777216 % 256))]) (by decide) rfl Try.underlying62 siz5 zer5 (by decide) (by decide) (by kernel_rfl) ?_
  intro bt wt Nt
  have Ft := Nt.ge E
  replace E := E.ext Nt.ext
  have Bt := Nt.blk
  have hvt := own_ext hv Nt.ext
  refine s_append (base := base) (n := n) (m := 4) (xs := (xs.map (Value.int .u8))) (news := [(.int .u8 (x % 256)), (.int .u8 (x / 256 % 256)), (.int .u8 (x / 65536 % 256)), (.int .u8 (x / 16777216 % 256))]) (size := 1) (bytes := 1) (v := (.slice a n c)) (by decide) Try.underlying62 siz5 byt5 zer5 rfl (by decide) rfl hvt rfl (rfl) (Bt.cells rfl) (by simp [Value.oneCell']) (by unfold maxLen; omega) (by omega) ((by have := Nt.ext.size; omega)) ?_
  intro v7 w59 Ov7 Cv7 Dv7
  replace E := E.step Cv7 (fun x hx h => h)
  obtain ⟨a2, c2, rfl⟩ := own_form Ov7
  refine WpL_val rfl rfl (by decide) (r_assign (v := (.slice a2 (n + 4) c2)) rfl) ?_
  refine WpL_nil ?_
  refine Wp_ret ?_
  refine fin_tmp Try.results97 (v := (.slice a2 (n + 4) c2)) rfl ?_
  exact ⟨⟨a2, c2, rfl⟩, by rw [List.map_append]; exact Ov7, E⟩
end Go.Proofs
