/- classes.Of: the partition with the fewest classes. (under way: does not build yet) -/
import Derived.Test.YtpjamnekclkhhaaCn
namespace Go.Proofs
open Go Go.Eng Go.Sort
set_option maxRecDepth 100000

theorem badE_at : ∀ {ll : List (List Sp)} {k : Nat} {l : List Sp}, (∀ x ∈ ll.take k, checkE x = 0) → ll[k]? = some l → checkE l ≠ 0 → badE ll = checkE l
  | [], _, _, _, h, _ => by simp at h
  | x :: ll, 0, l, _, h, hc => by simp at h; subst h; unfold badE; rw [if_pos hc]
  | x :: ll, k + 1, l, hz, h, hc => by
    unfold badE
    rw [if_neg (by simpa using hz x (by simp))]
    exact badE_at (k := k) (fun y hy => hz y (by simp [hy])) (by simpa using h) hc
theorem badE_zero : ∀ {ll : List (List Sp)}, (∀ x ∈ ll, checkE x = 0) → badE ll = 0
  | [], _ => rfl
  | x :: ll, h => by
    unfold badE
    rw [if_neg (by simpa using h x (by simp))]
    exact badE_zero fun y hy => h y (by simp [hy])
theorem own_caps {w : World} {base e size n c : Nat} {a : Option Addr} {xs : List Value} (h : w.ownsRow base e size (.slice a n c) n xs) : n ≤ c ∧ c ≤ 9223372036854775807 := by
  rcases h.2 with ⟨h1, h0⟩ | ⟨g, cap, cur, hv, _, _, hnc, hcm, _⟩
  · simp only [Value.slice.injEq] at h1; omega
  · simp only [Value.slice.injEq] at hv
    obtain ⟨_, _, rfl⟩ := hv
    exact ⟨hnc, hcm⟩
def ClsRes (w : World) (r : Value) (out : List (List Sp)) (e : Int) : Prop := ∃ a c, r = .tuple #[.slice a out.length c, .int .i64 e] ∧ SpssAt w (.slice a out.length c) out
theorem spss_nil (w : World) : SpssAt w (.slice none 0 0) [] := ⟨[], SlAt.nil _ _ _ _, rfl, fun i u l h => by simp at h⟩
theorem raw_take {ll : List (List Sp)} {i : Nat} {l : List Sp} (h : ll[i]? = some l) : rawC (ll.take (i + 1)).flatten = rawC (ll.take i).flatten ++ l.flatMap fun s => [s.1, s.2 + 1] := by
  rw [lens_take h]
  unfold rawC
  rw [List.flatMap_append, List.cons_append]
theorem raw_snoc {l : List Sp} {j : Nat} {s : Sp} (h : l[j]? = some s) : (l.take (j + 1)).flatMap (fun s => [s.1, s.2 + 1]) = (l.take j).flatMap (fun s => [s.1, s.2 + 1]) ++ [s.1, s.2 + 1] := by
  rw [take_snoc h, List.flatMap_append]; simp
theorem cut_at {p q : List Int} {i : Nat} {c : Int} (hqp : q = p ∨ q = p ++ [1114112]) (hc : q[i]? = some c) (hb : ∀ x ∈ p, x ≤ 1114111) : (c ≤ 1114111 → p[i]? = some c) ∧ (1114111 < c → p.length ≤ i) := by
  rcases hqp with rfl | rfl
  · exact ⟨fun _ => hc, fun h => absurd (hb c (List.mem_of_getElem? hc)) (by omega)⟩
  · rcases Nat.lt_or_ge i p.length with h1 | h1
    · rw [List.getElem?_append_left h1] at hc
      exact ⟨fun _ => hc, fun h => absurd (hb c (List.mem_of_getElem? hc)) (by omega)⟩
    · rw [List.getElem?_append_right h1] at hc
      have h2 := lt_of_get hc
      simp at h2
      rw [show i - p.length = 0 by omega] at hc
      simp at hc
      exact ⟨fun h => by omega, fun _ => h1⟩
theorem cut_len {p q : List Int} (hqp : q = p ∨ q = p ++ [1114112]) : p.length ≤ q.length ∧ q.length ≤ p.length + 1 := by
  rcases hqp with rfl | rfl <;> simp
theorem cut_next {p q : List Int} {i : Nat} {c : Int} (hqp : q = p ∨ q = p ++ [1114112]) (hi : i ≤ p.length) (hc : q[i]? = some c) : nx p i = c := by
  unfold nx
  rcases hqp with rfl | rfl
  · rw [hc]; rfl
  · rcases Nat.lt_or_ge i p.length with h1 | h1
    · rw [List.getElem?_append_left h1] at hc; rw [hc]; rfl
    · rw [List.getElem?_append_right h1] at hc
      rw [show i - p.length = 0 by omega] at hc
      simp at hc
      rw [List.getElem?_eq_none h1]; simpa using hc
theorem cut_last {p q : List Int} {i : Nat} (hqp : q = p ∨ q = p ++ [1114112]) (hi : q.length ≤ i) : nx p i = 1114112 := by
  have := cut_len hqp
  unfold nx
  rw [List.getElem?_eq_none (by omega)]; rfl
theorem CSt.on {w : World} {base n : Nat} {vo : Value} {vs : List Value} {outs : List (List Sp)} (h : CSt w base vo vs outs) (hn : n = outs.length) : w.ownsRow base TSs 1 vo n vs := by subst hn; exact h.o
theorem snoc_old {outs : List (List Sp)} {ks : List (List Bool)} {m : List Bool} (hl : outs.length = ks.length) (hn : m ∉ ks) : ∀ (j : Nat) q, (outs ++ [[]])[j]? = some q → outs[j]? = some q ∨ (j = ks.length ∧ q = [] ∧ m ∉ ks) := by
  intro j q hq
  rcases Nat.lt_or_ge j outs.length with h1 | h1
  · left; rwa [List.getElem?_append_left h1] at hq
  · right
    rw [List.getElem?_append_right h1] at hq
    have h2 := lt_of_get hq
    simp at h2
    rw [show j - outs.length = 0 by omega] at hq
    simp at hq
    exact ⟨by omega, by simp [hq], hn⟩
theorem snoc_blk {vs : List Value} {z : Nat} (h : ∀ (i : Nat) v b, vs[i]? = some v → v.ownBlock = some b → b < z) : ∀ (i : Nat) v b, (vs ++ [.slice none 0 0])[i]? = some v → v.ownBlock = some b → b < z := by
  intro i v b hv hb
  rcases Nat.lt_or_ge i vs.length with h1 | h1
  · rw [List.getElem?_append_left h1] at hv; exact h i v b hv hb
  · rw [List.getElem?_append_right h1] at hv
    have h2 := lt_of_get hv
    simp at h2
    rw [show i - vs.length = 0 by omega] at hv
    simp at hv
    subst hv
    cases hb
def marksN (ll : List (List Sp)) (c : Int) (e : Nat) : List Int := (markL (ll.take e) c).map bitN ++ List.replicate (ll.length - e) 0
theorem marksN_zero (ll : List (List Sp)) (c : Int) : marksN ll c 0 = List.replicate ll.length 0 := by simp [marksN, markL]
theorem marksN_len {ll : List (List Sp)} {c : Int} {e : Nat} (h : e ≤ ll.length) : (marksN ll c e).length = ll.length := by
  simp [marksN, markL]; omega
theorem marksN_succ {ll : List (List Sp)} {c : Int} {e : Nat} {l : List Sp} (h : ll[e]? = some l) : marksN ll c (e + 1) = (marksN ll c e).set e (bitN (inS l c)) := by
  have hl := lt_of_get h
  unfold marksN markL
  rw [take_snoc h, show ll.length - e = (ll.length - (e + 1)) + 1 by omega, List.replicate_succ, List.map_append, List.map_append, List.append_assoc]
  have h1 : (((ll.take e).map fun l => inS l c).map bitN).length = e := by simp; omega
  rw [List.set_append_right _ _ (by omega), h1, Nat.sub_self]
  simp
theorem marksN_same {ll : List (List Sp)} {c : Int} {e : Nat} {l : List Sp} (h : ll[e]? = some l) (hi : inS l c = false) : marksN ll c (e + 1) = marksN ll c e := by
  have hl := lt_of_get h
  unfold marksN markL
  rw [take_snoc h, show ll.length - e = (ll.length - (e + 1)) + 1 by omega, List.replicate_succ, List.map_append, List.map_append, List.append_assoc]
  simp [hi, bitN]
theorem marksN_all (ll : List (List Sp)) (c : Int) : marksN ll c ll.length = (markL ll c).map bitN := by simp [marksN]
theorem compi_n (w0 : World) (g c n : Nat) (l q : List Int) (hH : Sort.Holds (Value.int .i64) w0 g 0 l.toArray) (hc : l.length ≤ c ∧ c ≤ 9223372036854775807) (hn : l.length = n) (hq : q = Lib.compact l) :
    Ret Try.prog 83 #[.slice (some ⟨g, 0, none⟩) n c] w0 fun r w => r = .slice (some ⟨g, 0, none⟩) q.length c ∧ IntsAt w r q ∧ Chg (fun x => x = g) w0 w := by
  subst hn; subst hq; exact compi_c w0 g c l hH hc
set_option maxHeartbeats 8000000 in
theorem of_c (w0 : World) (v : Value) (ll : List (List Sp)) (h : SpssAt w0 v ll) (hL : ll.flatten.length ≤ 1048576) (hL2 : ll.length ≤ 1048576) :
    Ret Try.prog 40 #[v] w0 fun r w => (∃ out e, clsP ll out e ∧ ClsRes w r out e) ∧ Ext w0 w := by
  obtain ⟨a, c, rfl, _, hle⟩ := h.form
  obtain ⟨base, hbase⟩ : ∃ base, base = w0.heap.size := ⟨_, rfl⟩
  refine Ret_of Try.func40 rfl Try.ntmps40 (Nat.le_of_ble_eq_true rfl) ?_
  have E : Chg none1 w0 w0 := Chg.refl _ _
  refine Wp_seq_region ?_
  refine WpL_val rfl rfl (by decide) (r_assign (v := (.slice none 0 0)) rfl) ?_
  refine WpL_val rfl rfl (by decide) (r_assign (v := (.int .i64 0)) rfl) ?_
  refine WpL_nil ?_
  refine Wp_seq ?_
  refine Wp_seq_region ?_
  refine WpL_val rfl rfl (by decide) (r_move (v := (.slice a ll.length c)) rfl) ?_
  refine WpL_val rfl rfl (by decide) (r_lenSlice (ad := a) (n := ll.length) (cap := c) Try.underlying53 rfl) ?_
  refine WpL_val rfl rfl (by decide) (r_move (v := (.int .i64 0)) rfl) ?_
  refine WpL_nil ?_
  refine Wp_block ?_
  refine Wp_loop (fun nn_ σ W1 => ∃ (k : Nat), (∃ jj_, σ = upds jj_ [(0, (.slice a ll.length c)), (23, (.slice a ll.length c)), (24, (.int .i64 ((ll.length : Nat) : Int))), (25, (.int .i64 ((k : Nat) : Int)))]) ∧ Chg none1 w0 W1 ∧ (k ≤ ll.length) ∧ (∀ l ∈ ll.take k, checkE l = 0) ∧ nn_ = ll.length - k) (n := ll.length - 0) ?_ ?_
  · exact ⟨0, Fits.out ⟨rfl, rfl, rfl, rfl, trivial⟩, E, Nat.zero_le _, (by simp), rfl⟩
  · clear E
    rintro _ _ W1 ⟨k, ⟨j1, rfl⟩, E, hk, hz, rfl⟩
    refine Wp_seq_region ?_
    refine WpL_val rfl rfl (by decide) (r_lss (k := .i64) (a := ((k : Nat) : Int)) (b := ((ll.length : Nat) : Int)) rfl rfl) ?_
    refine WpL_nil ?_
    refine Wp_seq ?_
    refine Wp_cond (b := decide ((((k : Nat) : Int) : Int) < ((ll.length : Nat) : Int))) rfl (fun hlt => ?_) (fun hlt => ?_)
    · have khlt := hlt
      replace hlt := of_decide_eq_true hlt
      obtain ⟨l, hx⟩ := get_of_lt (l := ll) (i := k) (by omega)
      obtain ⟨b, o, rfl, hcl⟩ := spss_cells h (by omega)
      obtain ⟨ra, rc, hcell, hsp⟩ := hcl k l hx
      refine Wp_skip ?_
      refine thn_normal ?_
      refine Wp_seq ?_
      refine Wp_block ?_
      refine Wp_seq_region ?_
      refine WpL_val rfl rfl (by decide) (r_indexSlice (b := b) (o := o) (len := ll.length) (cap := c) (i := k) (o' := o + k) rfl rfl rfl Try.underlying53 siz23 (by omega) (by omega)) ?_
      refine WpL_val rfl rfl (by decide) (r_load (v := (.slice ra l.length rc)) rfl flat23 (E.cell (fun f => f) hcell)) ?_
      refine WpL_val rfl rfl (by decide) (r_assign (v := (.slice ra l.length rc)) rfl) ?_
      refine WpL_nil ?_
      refine Wp_seq_region ?_
      refine WpL_val rfl rfl (by decide) (r_move (v := (.slice ra l.length rc)) rfl) ?_
      refine WpL_enter rfl rfl (by decide) (r_callF (vs := [(.slice ra l.length rc)]) Try.func33 nm33 bd33 rfl) (rcheck_c _ _ l (hsp.ext E)) ?_
      rintro _ w9 ⟨rfl, X9⟩
      replace E := E.ext X9
      refine WpL_val rfl rfl (by decide) (r_assign (v := (.int .i64 (checkE l))) rfl) ?_
      refine WpL_nil ?_
      refine Wp_seq_region ?_
      refine WpL_val rfl rfl (by decide) (r_move (v := (.int .i64 (checkE l))) rfl) ?_
      refine WpL_val rfl rfl (by decide) (r_neq (k := .i64) (a := checkE l) (b := 0) rfl rfl) ?_
      refine WpL_nil ?_
      refine Wp_cond (b := decide ((checkE l : Int) ≠ 0)) rfl (fun hc => ?_) (fun hc => ?_)
      · have khc := hc
        replace hc := of_decide_eq_true hc
        refine Wp_seq_region ?_
        refine WpL_val rfl rfl (by decide) (r_move (v := (.int .i64 (checkE l))) rfl) ?_
        refine WpL_val rfl rfl (by decide) (r_assign (v := (.slice none 0 0)) rfl) ?_
        refine WpL_val rfl rfl (by decide) (r_assign (v := (.int .i64 (checkE l))) rfl) ?_
        refine WpL_nil ?_
        refine Wp_ret ?_
        refine inB_ret ?_
        refine thn_ret ?_
        refine thn_ret ?_
        refine inB_ret ?_
        refine thn_ret ?_
        refine fin_tmp2 Try.results40 (v := (.slice none 0 0)) (v' := (.int .i64 (checkE l))) rfl rfl ?_
        exact ⟨⟨[], checkE l, .inl ⟨by rw [badE_at hz hx hc]; exact hc, (badE_at hz hx hc).symm, rfl⟩, none, 0, rfl, spss_nil _⟩, E⟩
      · have khc := hc
        replace hc := of_decide_eq_false hc
        refine Wp_skip ?_
        refine inB_normal ?_
        refine thn_normal ?_
        refine Wp_region ?_
        refine WpL_val rfl rfl (by decide) (r_add (k := .i64) (a := ((k : Nat) : Int)) (b := 1) (c := ((k : Nat) : Int) + 1) rfl rfl (wI64 (by omega))) ?_
        refine WpL_val rfl rfl (by decide) (r_move (v := (.int .i64 (((k : Nat) : Int) + 1))) rfl) ?_
        refine WpL_nil ?_
        refine thn_normal ?_
        exact ⟨ll.length - (k + 1), by omega, k + 1, Fits.out ⟨rfl, rfl, rfl, rfl, trivial⟩, E, (by omega), (fun y hy => by rw [take_snoc hx] at hy; rcases List.mem_append.1 hy with h1 | h1; exact hz y h1; rw [List.mem_singleton] at h1; subst h1; omega), rfl⟩
    · have khlt := hlt
      replace hlt := of_decide_eq_false hlt
      have hkk : k = ll.length := by omega
      rw [hkk, List.take_length] at hz
      have hz0 := badE_zero hz
      have hok : ∀ s ∈ ll.flatten, vSp s := fun s hs => by obtain ⟨l, hl, hs⟩ := List.mem_flatten.1 hs; exact (checkE_canon (hz l hl)).1.ok s hs
      refine Wp_exit ?_
      refine thn_exit ?_
      refine thn_exit ?_
      refine inB_here ?_
      refine thn_normal ?_
      refine Wp_seq_region ?_
      refine s_buildSlice (ps := [(0, (.int .i64 0))]) (c := #[(.int .i64 0)]) (by decide) rfl Try.underlying22 siz3 zer3 (by decide) (by decide) (by kernel_rfl) ?_
      intro bq wq Nq
      have Fq := Nq.ge E
      replace E := E.ext Nq.ext
      have Bq := Nq.blk
      refine WpL_val rfl rfl (by decide) (r_assign (v := (.slice (some ⟨bq, 0, none⟩) 1 1)) rfl) ?_
      refine WpL_nil ?_
      refine Wp_seq ?_
      refine Wp_seq_region ?_
      refine WpL_val rfl rfl (by decide) (r_move (v := (.slice a ll.length c)) rfl) ?_
      refine WpL_val rfl rfl (by decide) (r_lenSlice (ad := a) (n := ll.length) (cap := c) Try.underlying53 rfl) ?_
      refine WpL_val rfl rfl (by decide) (r_move (v := (.int .i64 0)) rfl) ?_
      refine WpL_nil ?_
      refine Wp_block ?_
      have hown0 := own_lit1 (base := base) Bq (by omega)
      have hbs0 : base ≤ wq.heap.size := by have := E.size; omega
      refine Wp_loop (fun nn_ σ W4 => ∃ (i : Nat) (la : Option Addr) (lc : Nat) (n : Nat) (rs : List Int), (∃ jj_, σ = upds jj_ [(0, (.slice a ll.length c)), (36, (.slice a ll.length c)), (37, (.int .i64 ((ll.length : Nat) : Int))), (38, (.int .i64 ((i : Nat) : Int))), (7, (.slice la n lc))]) ∧ Chg none1 w0 W4 ∧ (i ≤ ll.length) ∧ (rs = rawC (ll.take i).flatten) ∧ (n = rs.length) ∧ (W4.ownsRow base TInt 1 (.slice la n lc) n (rs.map (Value.int .i64))) ∧ (base ≤ W4.heap.size) ∧ nn_ = ll.length - i) (n := ll.length - 0) ?_ ?_
      · exact ⟨0, some ⟨bq, 0, none⟩, 1, 1, [0], Fits.out ⟨rfl, rfl, rfl, rfl, rfl, trivial⟩, E, Nat.zero_le _, rfl, rfl, hown0, hbs0, rfl⟩
      · clear E
        rintro _ _ W4 ⟨i, la, lc, n, rs, ⟨j4, rfl⟩, E, hi, hrs, hn, hown, hbs, rfl⟩
        refine Wp_seq_region ?_
        refine WpL_val rfl rfl (by decide) (r_lss (k := .i64) (a := ((i : Nat) : Int)) (b := ((ll.length : Nat) : Int)) rfl rfl) ?_
        refine WpL_nil ?_
        refine Wp_seq ?_
        refine Wp_cond (b := decide ((((i : Nat) : Int) : Int) < ((ll.length : Nat) : Int))) rfl (fun hlt2 => ?_) (fun hlt2 => ?_)
        · have khlt2 := hlt2
          replace hlt2 := of_decide_eq_true hlt2
          obtain ⟨l, hx⟩ := get_of_lt (l := ll) (i := i) (by omega)
          obtain ⟨b, o, rfl, hcl⟩ := spss_cells h (by omega)
          obtain ⟨ra, rc, hcell, hsp⟩ := hcl i l hx
          have hn1 := lens_le ll (i + 1)
          rw [lens_take hx, List.length_append] at hn1
          have hrl := rawC_len (ll.take i).flatten
          rw [← hrs] at hrl
          refine Wp_skip ?_
          refine thn_normal ?_
          refine Wp_seq ?_
          refine Wp_block ?_
          refine Wp_seq_region ?_
          refine WpL_val rfl rfl (by decide) (r_indexSlice (b := b) (o := o) (len := ll.length) (cap := c) (i := i) (o' := o + i) rfl rfl rfl Try.underlying53 siz23 (by omega) (by omega)) ?_
          refine WpL_val rfl rfl (by decide) (r_load (v := (.slice ra l.length rc)) rfl flat23 (E.cell (fun f => f) hcell)) ?_
          refine WpL_val rfl rfl (by decide) (r_assign (v := (.slice ra l.length rc)) rfl) ?_
          refine WpL_nil ?_
          refine Wp_seq_region ?_
          refine WpL_val rfl rfl (by decide) (r_move (v := (.slice ra l.length rc)) rfl) ?_
          refine WpL_val rfl rfl (by decide) (r_lenSlice (ad := ra) (n := l.length) (cap := rc) Try.underlying23 rfl) ?_
          refine WpL_val rfl rfl (by decide) (r_move (v := (.int .i64 0)) rfl) ?_
          refine WpL_nil ?_
          refine Wp_block ?_
          refine Wp_loop (fun nn_ σ W6 => ∃ (j : Nat) (la2 : Option Addr) (lc2 : Nat) (n2 : Nat), (∃ jj_, σ = upds jj_ [(0, (.slice (some ⟨b, o, none⟩) ll.length c)), (36, (.slice (some ⟨b, o, none⟩) ll.length c)), (37, (.int .i64 ((ll.length : Nat) : Int))), (38, (.int .i64 ((i : Nat) : Int))), (42, (.slice ra l.length rc)), (43, (.int .i64 ((l.length : Nat) : Int))), (44, (.int .i64 ((j : Nat) : Int))), (7, (.slice la2 n2 lc2))]) ∧ Chg none1 w0 W6 ∧ (j ≤ l.length) ∧ (n2 = rs.length + 2 * j) ∧ (W6.ownsRow base TInt 1 (.slice la2 n2 lc2) n2 ((rs ++ (l.take j).flatMap fun s => [s.1, s.2 + 1]).map (Value.int .i64))) ∧ (base ≤ W6.heap.size) ∧ nn_ = l.length - j) (n := l.length - 0) ?_ ?_
          · exact ⟨0, la, lc, n, Fits.out ⟨rfl, rfl, rfl, rfl, rfl, rfl, rfl, rfl, trivial⟩, E, Nat.zero_le _, (by omega), (by simpa using hown), hbs, rfl⟩
          · clear E
            rintro _ _ W6 ⟨j, la2, lc2, n2, ⟨j6, rfl⟩, E, hj, hn2, hown2, hbs2, rfl⟩
            refine Wp_seq_region ?_
            refine WpL_val rfl rfl (by decide) (r_lss (k := .i64) (a := ((j : Nat) : Int)) (b := ((l.length : Nat) : Int)) rfl rfl) ?_
            refine WpL_nil ?_
            refine Wp_seq ?_
            refine Wp_cond (b := decide ((((j : Nat) : Int) : Int) < ((l.length : Nat) : Int))) rfl (fun hlt3 => ?_) (fun hlt3 => ?_)
            · have khlt3 := hlt3
              replace hlt3 := of_decide_eq_true hlt3
              obtain ⟨s, hs⟩ := get_of_lt (l := l) (i := j) (by omega)
              obtain ⟨sb, so, rfl, hsc⟩ := spans_cells hsp (by omega)
              have hvs := hok s (List.mem_flatten.2 ⟨l, List.mem_of_getElem? hx, List.mem_of_getElem? hs⟩)
              unfold vSp at hvs
              have hownb := hown2
              refine Wp_skip ?_
              refine thn_normal ?_
              refine Wp_seq ?_
              refine Wp_block ?_
              refine Wp_seq_region ?_
              refine WpL_val rfl rfl (by decide) (r_indexSlice (b := sb) (o := so) (len := l.length) (cap := rc) (i := j) (o' := so + j * 2) rfl rfl rfl Try.underlying23 siz37 (by omega) (by omega)) ?_
              refine WpL_val rfl rfl (by decide) (r_loadAgg (vs := [(.int .i64 s.1), (.int .i64 s.2)]) rfl agg37 siz37 rfl ((hsc j s hs).ext E)) ?_
              refine s_allocStore (v := (.agg #[(.int .i64 s.1), (.int .i64 s.2)])) (c := #[(.int .i64 s.1), (.int .i64 s.2)]) (n := 2) (by decide) zer37 rfl siz37 rfl rfl rfl (by simp [Value.oneCell']) ?_
              intro bt wt Nt
              have Ft := Nt.ge E
              replace hown2 := own_ext hown2 Nt.ext
              replace hbs2 := Nat.le_trans hbs2 Nt.ext.size
              replace E := E.ext Nt.ext
              have Bt := Nt.blk
              refine WpL_nil ?_
              refine Wp_region ?_
              refine WpL_val rfl rfl (by decide) (r_move (v := (.slice la2 n2 lc2)) rfl) ?_
              refine WpL_val rfl rfl (by decide) (r_fieldAddr (b := bt) (o := 0) (o' := 0) rfl Try.underlying37 rfl siz3 rfl) ?_
              refine WpL_val rfl rfl (by decide) (r_load (v := (.int .i64 s.1)) rfl flat3 (Bt.cell rfl)) ?_
              refine WpL_val rfl rfl (by decide) (r_fieldAddr (b := bt) (o := 0) (o' := 1) rfl Try.underlying37 rfl siz3 rfl) ?_
              refine WpL_val rfl rfl (by decide) (r_load (v := (.int .i64 s.2)) rfl flat3 (Bt.cell rfl)) ?_
              refine WpL_val rfl rfl (by decide) (r_add (k := .i64) (a := s.2) (b := 1) (c := s.2 + 1) rfl rfl (wI64 (by omega))) ?_
              refine s_buildSlice (ps := [(0, (.int .i64 s.1)), (1, (.int .i64 (s.2 + 1)))]) (c := #[(.int .i64 s.1), (.int .i64 (s.2 + 1))]) (by decide) rfl Try.underlying22 siz3 zer3 (by decide) (by decide) (by kernel_rfl) ?_
              intro b8 w8 N8
              have F8 := N8.ge E
              have O8_bt := N8.lt Bt
              replace Bt := N8.keep Bt
              replace hown2 := own_ext hown2 N8.ext
              replace hbs2 := Nat.le_trans hbs2 N8.ext.size
              replace E := E.ext N8.ext
              have B8 := N8.blk
              refine s_append (base := base) (n := n2) (m := 2) (xs := ((rs ++ (l.take j).flatMap fun s => [s.1, s.2 + 1]).map (Value.int .i64))) (news := [(.int .i64 s.1), (.int .i64 (s.2 + 1))]) (size := 1) (bytes := 8) (v := (.slice la2 n2 lc2)) (by decide) Try.underlying22 siz3 byt3 zer3 rfl (by decide) rfl hown2 rfl (rfl) (B8.cells rfl) (by simp [Value.oneCell']) (by unfold maxLen; omega) (by omega) (hbs2) ?_
              intro v9 w29 Ov9 Cv9 Dv9
              replace E := E.step Cv9 (fun x hx h => absurd (hown2.lt x h).1 (by omega))
              obtain ⟨la3, lc3, rfl⟩ := own_form Ov9
              refine WpL_val rfl rfl (by decide) (r_assign (v := (.slice la3 (n2 + 2) lc3)) rfl) ?_
              refine WpL_nil ?_
              refine inB_normal ?_
              refine thn_normal ?_
              refine Wp_region ?_
              refine WpL_val rfl rfl (by decide) (r_add (k := .i64) (a := ((j : Nat) : Int)) (b := 1) (c := ((j : Nat) : Int) + 1) rfl rfl (wI64 (by omega))) ?_
              refine WpL_val rfl rfl (by decide) (r_move (v := (.int .i64 (((j : Nat) : Int) + 1))) rfl) ?_
              refine WpL_nil ?_
              refine thn_normal ?_
              exact ⟨l.length - (j + 1), by omega, j + 1, la3, lc3, n2 + 2, Fits.out ⟨rfl, rfl, rfl, rfl, rfl, rfl, rfl, rfl, trivial⟩, E, (by omega), (by omega), (by rw [raw_snoc hs, ← List.append_assoc]; simpa using Ov9), Nat.le_trans hbs2 Cv9.size, rfl⟩
            · have khlt3 := hlt3
              replace hlt3 := of_decide_eq_false hlt3
              have hjj : j = l.length := by omega
              rw [hjj, List.take_length] at hown2
              refine Wp_exit ?_
              refine thn_exit ?_
              refine thn_exit ?_
              refine inB_here ?_
              refine inB_normal ?_
              refine thn_normal ?_
              refine Wp_region ?_
              refine WpL_val rfl rfl (by decide) (r_add (k := .i64) (a := ((i : Nat) : Int)) (b := 1) (c := ((i : Nat) : Int) + 1) rfl rfl (wI64 (by omega))) ?_
              refine WpL_val rfl rfl (by decide) (r_move (v := (.int .i64 (((i : Nat) : Int) + 1))) rfl) ?_
              refine WpL_nil ?_
              refine thn_normal ?_
              exact ⟨ll.length - (i + 1), by omega, i + 1, la2, lc2, n2, rawC (ll.take (i + 1)).flatten, Fits.out ⟨rfl, rfl, rfl, rfl, rfl, trivial⟩, E, (by omega), rfl, (by rw [rawC_len, lens_take hx, List.length_append]; omega), (by rw [raw_take hx, ← hrs]; exact hown2), hbs2, rfl⟩
        · have khlt2 := hlt2
          replace hlt2 := of_decide_eq_false hlt2
          have hii : i = ll.length := by omega
          rw [hii, List.take_length] at hrs
          have hrl := rawC_len ll.flatten
          rw [← hrs] at hrl
          obtain ⟨hncap, hcmax⟩ : n ≤ lc ∧ lc ≤ 9223372036854775807 := own_caps hown
          obtain ⟨g, rfl, hgb, hgc⟩ := own_cells hown (by omega)
          have hgl := hown.lt g rfl
          obtain ⟨q, hq⟩ : ∃ q, q = Lib.compact (rs.mergeSort leB) := ⟨_, rfl⟩
          obtain ⟨hq1, hq2⟩ : q.Pairwise (· < ·) ∧ ∀ x, x ∈ q ↔ x ∈ rawC ll.flatten := by rw [hq, ← hrs]; exact compact_sorted rs
          obtain ⟨p, hP, hqp⟩ := cuts_pcs hok hq1 hq2
          subst hn
          refine Wp_exit ?_
          refine thn_exit ?_
          refine thn_exit ?_
          refine inB_here ?_
          refine thn_normal ?_
          refine Wp_seq_region ?_
          refine WpL_val rfl rfl (by decide) (r_move (v := (.slice (some ⟨g, 0, none⟩) rs.length lc)) rfl) ?_
          refine WpL_enter rfl rfl (by decide) (r_callF (vs := [(.slice (some ⟨g, 0, none⟩) rs.length lc)]) Try.func82 nm82 bd82 rfl) (sorti_h _ base g lc rs hown (by omega)) ?_
          rintro _ w31 ⟨rfl, H31, C31⟩
          replace E := E.step C31 (fun x hx hm => absurd (hown.lt g rfl).1 (by omega))
          refine WpL_nil ?_
          refine Wp_seq_region ?_
          refine WpL_val rfl rfl (by decide) (r_move (v := (.slice (some ⟨g, 0, none⟩) rs.length lc)) rfl) ?_
          refine WpL_enter rfl rfl (by decide) (r_callF (vs := [(.slice (some ⟨g, 0, none⟩) rs.length lc)]) Try.func83 nm83 bd83 rfl) (compi_n _ g lc rs.length (rs.mergeSort leB) q H31 (by simp; omega) (by simp) hq) ?_
          rintro _ w32 ⟨rfl, I32, C32⟩
          replace E := E.step C32 (fun x hx hm => absurd (hown.lt g rfl).1 (by omega))
          refine WpL_val rfl rfl (by decide) (r_assign (v := (.slice (some ⟨g, 0, none⟩) q.length lc)) rfl) ?_
          refine WpL_nil ?_
          refine Wp_seq_region ?_
          refine WpL_val rfl rfl (by decide) (r_assign (v := (.slice none 0 0)) rfl) ?_
          refine WpL_nil ?_
          refine Wp_seq_region ?_
          refine s_makeMap kStr kInt (by decide) ?_
          intro bm wm Nm
          have Fm := Nm.ge E
          replace E := E.ext Nm.ext
          intro Mm
          refine WpL_val rfl rfl (by decide) (r_assign (v := (.map (some bm))) rfl) ?_
          refine WpL_nil ?_
          refine Wp_seq ?_
          refine Wp_seq_region ?_
          refine WpL_val rfl rfl (by decide) (r_move (v := (.slice (some ⟨g, 0, none⟩) q.length lc)) rfl) ?_
          refine WpL_val rfl rfl (by decide) (r_lenSlice (ad := some ⟨g, 0, none⟩) (n := q.length) (cap := lc) Try.underlying22 rfl) ?_
          refine WpL_val rfl rfl (by decide) (r_move (v := (.int .i64 0)) rfl) ?_
          refine WpL_nil ?_
          refine Wp_block ?_
          obtain ⟨n1, hn1e⟩ : ∃ n, n = wm.heap.size := ⟨_, rfl⟩
          have hI0 : SlIn (fun b => b = g) wm 1 (.slice (some ⟨g, 0, none⟩) q.length lc) (q.map intV) := SlIn.mk (I32.ext Nm.ext) rfl
          have hbmn : bm < n1 := by have := Mm.lt; omega
          have hgm0 : g < bm := by have := C32.size; have := C31.size; have := Nm.eq; omega
          have hbn1 : w0.heap.size ≤ n1 := by have := E.size; omega
          have hpb : ∀ x ∈ p, x ≤ 1114111 := fun x hx => (pcs_range hP hok hx).2
          have hpl : p.length ≤ 1114112 := pcs_len hP.1 (fun x hx => pcs_range hP hok hx)
          have hql := cut_len hqp
          have hqb : ∀ x ∈ q, 0 ≤ x ∧ x ≤ 1114112 := fun x hx => by rcases rawC_mem.1 ((hq2 x).1 hx) with h1 | ⟨s, hs, h1⟩; omega; have := hok s hs; unfold vSp at this; omega
          refine Wp_loop (fun nn_ σ W9 => ∃ (i2 : Nat) (ks : List (List Bool)) (outs : List (List Sp)) (vs : List Value) (oa : Option Addr) (oc : Nat) (on : Nat), (∃ jj_, σ = upds jj_ [(0, (.slice a ll.length c)), (7, (.slice (some ⟨g, 0, none⟩) q.length lc)), (13, (.map (some bm))), (63, (.slice (some ⟨g, 0, none⟩) q.length lc)), (64, (.int .i64 ((q.length : Nat) : Int))), (65, (.int .i64 ((i2 : Nat) : Int))), (12, (.slice oa on oc))]) ∧ Chg none1 w0 W9 ∧ MapAt W9 bm kStr kInt (keysM ks 0) ∧ (GInv ll p i2 ks outs) ∧ (i2 ≤ p.length) ∧ (CSt W9 n1 (.slice oa on oc) vs outs) ∧ (on = outs.length) ∧ (SlIn (fun b => b = g) W9 1 (.slice (some ⟨g, 0, none⟩) q.length lc) (q.map intV)) ∧ (n1 ≤ W9.heap.size) ∧ nn_ = p.length - i2) (n := p.length - 0) ?_ ?_
          · exact ⟨0, [], [], [], none, 0, 0, Fits.out ⟨rfl, rfl, rfl, rfl, rfl, rfl, rfl, trivial⟩, E, Mm, GInv.start hP hok, Nat.zero_le _, CSt.start _ _, rfl, hI0, (by omega), rfl⟩
          · clear E Mm
            rintro _ _ W9 ⟨i2, ks, outs, vs, oa, oc, on, ⟨j9, rfl⟩, E, Mm, hG, hi2, hC, hon, hI, hs1, rfl⟩
            refine Wp_seq_region ?_
            refine WpL_val rfl rfl (by decide) (r_lss (k := .i64) (a := ((i2 : Nat) : Int)) (b := ((q.length : Nat) : Int)) rfl rfl) ?_
            refine WpL_nil ?_
            refine Wp_seq ?_
            refine Wp_cond (b := decide ((((i2 : Nat) : Int) : Int) < ((q.length : Nat) : Int))) rfl (fun hlt4 => ?_) (fun hlt4 => ?_)
            · have khlt4 := hlt4
              replace hlt4 := of_decide_eq_true hlt4
              obtain ⟨c1, hc1⟩ := get_of_lt (l := q) (i := i2) (by omega)
              obtain ⟨qb, qo, hqab, hqc⟩ := ints_cells (l := q) hI.at (by omega)
              simp only [Option.some.injEq, Addr.mk.injEq, and_true] at hqab
              obtain ⟨rfl, rfl⟩ := hqab
              refine Wp_skip ?_
              refine thn_normal ?_
              refine Wp_seq ?_
              refine Wp_block ?_
              refine Wp_seq_region ?_
              refine WpL_val rfl rfl (by decide) (r_move (v := (.int .i64 ((i2 : Nat) : Int))) rfl) ?_
              refine WpL_val rfl rfl (by decide) (r_indexSlice (b := g) (o := 0) (len := q.length) (cap := lc) (i := i2) (o' := 0 + i2) rfl rfl rfl Try.underlying22 siz3 (by omega) (by omega)) ?_
              refine WpL_val rfl rfl (by decide) (r_load (v := (.int .i64 c1)) rfl flat3 (hqc i2 c1 hc1)) ?_
              refine WpL_val rfl rfl (by decide) (r_assign (v := (.int .i64 ((i2 : Nat) : Int))) rfl) ?_
              refine WpL_val rfl rfl (by decide) (r_assign (v := (.int .i64 c1)) rfl) ?_
              refine WpL_nil ?_
              refine Wp_seq ?_
              refine Wp_seq_region ?_
              refine WpL_val rfl rfl (by decide) (r_move (v := (.int .i64 c1)) rfl) ?_
              refine WpL_val rfl rfl (by decide) (r_gtr (k := .i64) (a := c1) (b := 1114111) rfl rfl) ?_
              refine WpL_nil ?_
              refine Wp_cond (b := decide ((1114111 : Int) < c1)) rfl (fun hbig => ?_) (fun hbig => ?_)
              · have khbig := hbig
                replace hbig := of_decide_eq_true hbig
                have hie : i2 = p.length := by have := (cut_at hqp hc1 hpb).2 hbig; omega
                have hG2 := hG
                rw [hie] at hG2
                have hJ0 := hC.join
                have hcnt := hG.cnt
                have hcl9 := hG.len
                refine Wp_exit ?_
                refine thn_exit ?_
                refine inB_there (by decide) ?_
                refine thn_exit ?_
                refine thn_exit ?_
                refine inB_here ?_
                refine thn_normal ?_
                refine Wp_seq ?_
                refine Wp_seq_region ?_
                refine WpL_val rfl rfl (by decide) (r_move (v := (.slice oa on oc)) rfl) ?_
                refine WpL_val rfl rfl (by decide) (r_lenSlice (ad := oa) (n := on) (cap := oc) Try.underlying53 rfl) ?_
                refine WpL_val rfl rfl (by decide) (r_move (v := (.int .i64 0)) rfl) ?_
                refine WpL_nil ?_
                refine Wp_block ?_
                refine Wp_loop (fun nn_ σ W12 => ∃ (k3 : Nat) (cs : List (List Sp)) (us : List Value), (∃ jj_, σ = upds jj_ [(12, (.slice oa on oc)), (133, (.int .i64 ((on : Nat) : Int))), (134, (.int .i64 ((k3 : Nat) : Int)))]) ∧ Chg none1 w0 W12 ∧ (k3 ≤ outs.length) ∧ (JSt W12 n1 (.slice oa on oc) us outs cs k3) ∧ (∀ c ∈ cs, c.length ≤ 16) ∧ (n1 ≤ W12.heap.size) ∧ nn_ = outs.length - k3) (n := outs.length - 0) ?_ ?_
                · exact ⟨0, [], vs, Fits.out ⟨rfl, rfl, rfl, trivial⟩, E, Nat.zero_le _, hJ0, (by simp), hs1, rfl⟩
                · clear E
                  rintro _ _ W12 ⟨k3, cs, us, ⟨j12, rfl⟩, E, hk3, hJ, hsm, hs3, rfl⟩
                  refine Wp_seq_region ?_
                  refine WpL_val rfl rfl (by decide) (r_lss (k := .i64) (a := ((k3 : Nat) : Int)) (b := ((on : Nat) : Int)) rfl rfl) ?_
                  refine WpL_nil ?_
                  refine Wp_seq ?_
                  refine Wp_cond (b := decide ((((k3 : Nat) : Int) : Int) < ((on : Nat) : Int))) rfl (fun hlt5 => ?_) (fun hlt5 => ?_)
                  · have khlt5 := hlt5
                    replace hlt5 := of_decide_eq_true hlt5
                    obtain ⟨o1, ho1⟩ := get_of_lt (l := outs) (i := k3) (by omega)
                    obtain ⟨u1, hu1⟩ := get_of_lt (l := us) (i := k3) (by have := hJ.len; omega)
                    obtain ⟨⟨ua, uc, rfl⟩, hui⟩ := hJ.rst k3 u1 o1 (Nat.le_refl _) hu1 ho1
                    have hJo := hJ.o
                    rw [← hon] at hJo
                    obtain ⟨gg, rfl, hg1, hg2⟩ := own_cells hJo (by omega)
                    have hggl := hJo.lt gg rfl
                    have hol := (hG2.ok k3 o1 ho1)
                    refine Wp_skip ?_
                    refine thn_normal ?_
                    refine Wp_seq ?_
                    refine Wp_block ?_
                    refine Wp_seq_region ?_
                    refine WpL_val rfl rfl (by decide) (r_move (v := (.int .i64 ((k3 : Nat) : Int))) rfl) ?_
                    refine WpL_val rfl rfl (by decide) (r_assign (v := (.int .i64 ((k3 : Nat) : Int))) rfl) ?_
                    refine WpL_nil ?_
                    refine Wp_seq_region ?_
                    refine WpL_val rfl rfl (by decide) (r_move (v := (.slice (some ⟨gg, 0, none⟩) on oc)) rfl) ?_
                    refine WpL_val rfl rfl (by decide) (r_move (v := (.int .i64 ((k3 : Nat) : Int))) rfl) ?_
                    refine WpL_val rfl rfl (by decide) (r_move (v := (.slice (some ⟨gg, 0, none⟩) on oc)) rfl) ?_
                    refine WpL_val rfl rfl (by decide) (r_move (v := (.int .i64 ((k3 : Nat) : Int))) rfl) ?_
                    refine WpL_val rfl rfl (by decide) (r_indexSlice (b := gg) (o := 0) (len := on) (cap := oc) (i := k3) (o' := 0 + k3) rfl rfl rfl Try.underlying53 siz23 (by omega) (by omega)) ?_
                    refine WpL_val rfl rfl (by decide) (r_load (v := (.slice ua o1.length uc)) rfl flat23 ((by have h1 := (hJo.cells (g := gg) rfl) k3 _ hu1; rwa [Addr.add_lit] at h1))) ?_
                    refine WpL_enter rfl rfl (by decide) (r_callF (vs := [(.slice ua o1.length uc)]) Try.func64 nm64 bd64 rfl) (join_c _ _ o1 hui.at (by omega) hol.1) ?_
                    rintro _ w41 ⟨⟨j1, hj1, ⟨⟨ja, jc, rfl⟩, O41⟩⟩, X41⟩
                    replace E := E.ext X41
                    obtain ⟨cur, hBo, hcs⟩ := own_blk (own_ext hJo X41)
                    refine WpL_val rfl rfl (by decide) (r_indexSlice (b := gg) (o := 0) (len := on) (cap := oc) (i := k3) (o' := 0 + k3) rfl rfl rfl Try.underlying53 siz23 (by omega) (by omega)) ?_
                    have hBo0 := hBo
                    have hPx : True := trivial
                    refine s_store (b := gg) (o := 0 + k3) (c' := cur.setIfInBounds (0 + k3) (.slice ja j1.length jc)) (v := (.slice ja j1.length jc)) rfl rfl rfl siz23 hBo (by omega) (rfl) ?_
                    intro w14 S14
                    replace hPx := S14
                    replace E := S14.step E (by first | exact Or.inl (by omega) | exact Or.inr rfl | exact Or.inr (by assumption) | exact Or.inr (by simp) | exact Or.inr (by omega) | exact Or.inr (by dsimp only; omega))
                    replace hBo := S14.blk
                    refine WpL_nil ?_
                    refine Wp_seq_region ?_
                    refine WpL_val rfl rfl (by decide) (r_move (v := (.slice (some ⟨gg, 0, none⟩) on oc)) rfl) ?_
                    refine WpL_val rfl rfl (by decide) (r_move (v := (.int .i64 ((k3 : Nat) : Int))) rfl) ?_
                    refine WpL_val rfl rfl (by decide) (r_indexSlice (b := gg) (o := 0) (len := on) (cap := oc) (i := k3) (o' := 0 + k3) rfl rfl rfl Try.underlying53 siz23 (by omega) (by omega)) ?_
                    refine WpL_val rfl rfl (by decide) (r_load (v := (.slice ja j1.length jc)) rfl flat23 (hBo.cell (by rw [Array.getElem?_setIfInBounds_self_of_lt (by omega)]))) ?_
                    refine WpL_val rfl rfl (by decide) (r_lenSlice (ad := ja) (n := j1.length) (cap := jc) Try.underlying23 rfl) ?_
                    refine WpL_val rfl rfl (by decide) (r_gtr (k := .i64) (a := ((j1.length : Nat) : Int)) (b := 16) rfl rfl) ?_
                    refine WpL_nil ?_
                    refine Wp_cond (b := decide ((16 : Int) < ((j1.length : Nat) : Int))) rfl (fun hlg => ?_) (fun hlg => ?_)
                    · have khlg := hlg
                      replace hlg := of_decide_eq_true hlg
                      refine Wp_seq_region ?_
                      refine WpL_val rfl rfl (by decide) (r_assign (v := (.slice none 0 0)) rfl) ?_
                      refine WpL_val rfl rfl (by decide) (r_assign (v := (.int .i64 2)) rfl) ?_
                      refine WpL_nil ?_
                      refine Wp_ret ?_
                      refine inB_ret ?_
                      refine thn_ret ?_
                      refine thn_ret ?_
                      refine inB_ret ?_
                      refine thn_ret ?_
                      refine fin_tmp2 Try.results40 (v := (.slice none 0 0)) (v' := (.int .i64 2)) rfl rfl ?_
                      obtain ⟨cF, hF1, hF2⟩ := cls_large hG2 hP ho1 hj1 (by omega)
                      exact ⟨⟨[], 2, .inr ⟨hz0, cF, hF1, .inl ⟨hF2, rfl, rfl⟩⟩, none, 0, rfl, spss_nil _⟩, E⟩
                    · have khlg := hlg
                      replace hlg := of_decide_eq_false hlg
                      refine Wp_skip ?_
                      refine inB_normal ?_
                      refine thn_normal ?_
                      refine Wp_region ?_
                      refine WpL_val rfl rfl (by decide) (r_add (k := .i64) (a := ((k3 : Nat) : Int)) (b := 1) (c := ((k3 : Nat) : Int) + 1) rfl rfl (wI64 (by omega))) ?_
                      refine WpL_val rfl rfl (by decide) (r_move (v := (.int .i64 (((k3 : Nat) : Int) + 1))) rfl) ?_
                      refine WpL_nil ?_
                      refine thn_normal ?_
                      exact ⟨outs.length - (k3 + 1), by omega, k3 + 1, cs ++ [j1], us.set k3 (.slice ja j1.length jc), Fits.out ⟨rfl, rfl, rfl, trivial⟩, E, (by omega), (by have hS := JSt.step (hJ.ext X41) hon ho1 (⟨⟨_, _, rfl⟩, O41⟩ : OwnS _ _ _ j1) hggl.2 hj1 hBo0 (by simpa using hPx); exact hS), (fun c hc => by rcases List.mem_append.1 hc with h1 | h1; exact hsm c h1; rw [List.mem_singleton] at h1; subst h1; omega), (by have := X41.size; have := hPx.chg.size; omega), rfl⟩
                  · have khlt5 := hlt5
                    replace hlt5 := of_decide_eq_false hlt5
                    have hk33 : k3 = outs.length := by omega
                    have hcls := hG2.done hP (by rw [hJ.cl, hk33]) hJ.jn
                    have hsp := hJ.done hk33
                    have hcl3 : cs.length = on := by rw [hJ.cl, hk33, hon]
                    refine Wp_exit ?_
                    refine thn_exit ?_
                    refine thn_exit ?_
                    refine inB_here ?_
                    refine thn_normal ?_
                    refine Wp_seq ?_
                    refine Wp_seq_region ?_
                    refine WpL_val rfl rfl (by decide) (r_move (v := (.slice oa on oc)) rfl) ?_
                    refine WpL_val rfl rfl (by decide) (r_lenSlice (ad := oa) (n := on) (cap := oc) Try.underlying53 rfl) ?_
                    refine WpL_val rfl rfl (by decide) (r_gtr (k := .i64) (a := ((on : Nat) : Int)) (b := 16) rfl rfl) ?_
                    refine WpL_nil ?_
                    refine Wp_cond (b := decide ((16 : Int) < ((on : Nat) : Int))) rfl (fun hlg2 => ?_) (fun hlg2 => ?_)
                    · have khlg2 := hlg2
                      replace hlg2 := of_decide_eq_true hlg2
                      refine Wp_seq_region ?_
                      refine WpL_val rfl rfl (by decide) (r_assign (v := (.slice none 0 0)) rfl) ?_
                      refine WpL_val rfl rfl (by decide) (r_assign (v := (.int .i64 2)) rfl) ?_
                      refine WpL_nil ?_
                      refine Wp_ret ?_
                      refine thn_ret ?_
                      refine fin_tmp2 Try.results40 (v := (.slice none 0 0)) (v' := (.int .i64 2)) rfl rfl ?_
                      exact ⟨⟨[], 2, .inr ⟨hz0, cs, hcls, .inl ⟨.inr (by omega), rfl, rfl⟩⟩, none, 0, rfl, spss_nil _⟩, E⟩
                    · have khlg2 := hlg2
                      replace hlg2 := of_decide_eq_false hlg2
                      refine Wp_skip ?_
                      refine thn_normal ?_
                      refine Wp_seq_region ?_
                      refine WpL_val rfl rfl (by decide) (r_move (v := (.slice oa on oc)) rfl) ?_
                      refine WpL_val rfl rfl (by decide) (r_assign (v := (.slice oa on oc)) rfl) ?_
                      refine WpL_val rfl rfl (by decide) (r_assign (v := (.int .i64 0)) rfl) ?_
                      refine WpL_nil ?_
                      refine Wp_ret ?_
                      refine fin_tmp2 Try.results40 (v := (.slice oa on oc)) (v' := (.int .i64 0)) rfl rfl ?_
                      rw [← hcl3] at hsp
                      exact ⟨⟨cs, 0, .inr ⟨hz0, cs, hcls, .inr ⟨fun hl9 => by rcases hl9 with ⟨c, h1, h2⟩ | h2; have := hsm c h1; omega; omega, rfl, rfl⟩⟩, oa, oc, by rw [hcl3], hsp⟩, E⟩
              · have khbig := hbig
                replace hbig := of_decide_eq_false hbig
                have E6 : Chg none1 W9 W9 := Chg.refl _ _
                obtain ⟨z0, hz0e⟩ : ∃ z0, z0 = (W9).heap.size := ⟨_, rfl⟩
                have hblk : ∀ (i : Nat) v b, vs[i]? = some v → v.ownBlock = some b → b < z0 := fun i v b hv hb => by obtain ⟨l, hl⟩ := hC.some hv; have := ((hC.inn i v l hv hl).lt b hb).2; omega
                have hpc := (cut_at hqp hc1 hpb).1 (by omega)
                have hlp := lt_of_get hpc
                refine Wp_skip ?_
                refine thn_normal ?_
                refine Wp_seq_region ?_
                refine WpL_val rfl rfl (by decide) (r_move (v := (.int .i64 c1)) rfl) ?_
                refine WpL_val rfl rfl (by decide) (r_build (ps := [(0, (.int .i64 c1)), (1, (.int .i64 1114111))]) (v := (.agg #[(.int .i64 c1), (.int .i64 1114111)])) rfl (by kernel_rfl)) ?_
                refine s_allocStore (v := (.agg #[(.int .i64 c1), (.int .i64 1114111)])) (c := #[(.int .i64 c1), (.int .i64 1114111)]) (n := 2) (by decide) zer37 rfl siz37 rfl rfl rfl (by simp [Value.oneCell']) ?_
                intro bx wx Nx
                have Fx := Nx.ge E
                have Fx_E6 := Nx.ge E6
                have Ox_bm := Nx.ltM Mm
                replace Mm := Nx.keepM Mm
                replace E := E.ext Nx.ext
                have Bx := Nx.blk
                replace E6 := E6.ext Nx.ext
                refine WpL_nil ?_
                refine Wp_cut (fun σ W17 => ∃ (hi : Int), (∃ jj_, σ = upds jj_ [(0, (.slice a ll.length c)), (7, (.slice (some ⟨g, 0, none⟩) q.length lc)), (12, (.slice oa on oc)), (13, (.map (some bm))), (15, (.int .i64 c1)), (16, (.pointer (some ⟨bx, 0, none⟩))), (63, (.slice (some ⟨g, 0, none⟩) q.length lc)), (64, (.int .i64 ((q.length : Nat) : Int))), (65, (.int .i64 ((i2 : Nat) : Int)))]) ∧ Chg none1 w0 W17 ∧ Chg none1 W9 W17 ∧ MapAt W17 bm kStr kInt (keysM ks 0) ∧ Blk W17 bx (#[Value.int .i64 c1, Value.int .i64 hi]) 37 ∧ (hi = nx p (i2 + 1) - 1)) ?_ ?_
                · skip
                  refine Wp_seq_region ?_
                  refine WpL_val rfl rfl (by decide) (r_move (v := (.int .i64 ((i2 : Nat) : Int))) rfl) ?_
                  refine WpL_val rfl rfl (by decide) (r_add (k := .i64) (a := ((i2 : Nat) : Int)) (b := 1) (c := ((i2 : Nat) : Int) + 1) rfl rfl (wI64 (by omega))) ?_
                  refine WpL_val rfl rfl (by decide) (r_move (v := (.slice (some ⟨g, 0, none⟩) q.length lc)) rfl) ?_
                  refine WpL_val rfl rfl (by decide) (r_lenSlice (ad := some ⟨g, 0, none⟩) (n := q.length) (cap := lc) Try.underlying22 rfl) ?_
                  refine WpL_val rfl rfl (by decide) (r_lss (k := .i64) (a := ((i2 : Nat) : Int) + 1) (b := ((q.length : Nat) : Int)) rfl rfl) ?_
                  refine WpL_nil ?_
                  refine Wp_cond (b := decide ((((i2 : Nat) : Int) + 1 : Int) < ((q.length : Nat) : Int))) rfl (fun hnx => ?_) (fun hnx => ?_)
                  · have khnx := hnx
                    replace hnx := of_decide_eq_true hnx
                    obtain ⟨d1, hd1⟩ := get_of_lt (l := q) (i := i2 + 1) (by omega)
                    have hdn := cut_next hqp (by omega) hd1
                    have hdb := hqb d1 (List.mem_of_getElem? hd1)
                    refine Wp_region ?_
                    refine WpL_val rfl rfl (by decide) (r_move (v := (.slice (some ⟨g, 0, none⟩) q.length lc)) rfl) ?_
                    refine WpL_val rfl rfl (by decide) (r_move (v := (.int .i64 ((i2 : Nat) : Int))) rfl) ?_
                    refine WpL_val rfl rfl (by decide) (r_add (k := .i64) (a := ((i2 : Nat) : Int)) (b := 1) (c := ((i2 : Nat) : Int) + 1) rfl rfl (wI64 (by omega))) ?_
                    refine WpL_val rfl rfl (by decide) (r_indexSlice (b := g) (o := 0) (len := q.length) (cap := lc) (i := i2 + 1) (o' := 0 + (i2 + 1)) rfl rfl (by omega) Try.underlying22 siz3 (by omega) (by omega)) ?_
                    refine WpL_val rfl rfl (by decide) (r_load (v := (.int .i64 d1)) rfl flat3 (((hI.chg E6 fun _ _ f => f).at |> fun hh => by obtain ⟨qb, qo, hab, hqd⟩ := ints_cells (l := q) hh (by omega); simp only [Option.some.injEq, Addr.mk.injEq, and_true] at hab; obtain ⟨rfl, rfl⟩ := hab; exact hqd (i2 + 1) d1 hd1))) ?_
                    refine WpL_val rfl rfl (by decide) (r_sub (k := .i64) (a := d1) (b := 1) (c := d1 - 1) rfl rfl (wI64 (by omega))) ?_
                    refine WpL_val rfl rfl (by decide) (r_fieldAddr (b := bx) (o := 0) (o' := 1) rfl Try.underlying37 rfl siz3 rfl) ?_
                    refine s_store (b := bx) (o := 1) (c' := #[(.int .i64 c1), (.int .i64 (d1 - 1))]) (v := (.int .i64 (d1 - 1))) rfl rfl rfl siz3 Bx (by simp) rfl ?_
                    intro w19 S19
                    replace Mm := S19.keepM (by omega) Mm
                    replace E := S19.step E (by first | exact Or.inl (by omega) | exact Or.inr rfl | exact Or.inr (by assumption) | exact Or.inr (by simp) | exact Or.inr (by omega) | exact Or.inr (by dsimp only; omega))
                    replace E6 := S19.step E6 (Or.inl (by omega))
                    replace Bx := S19.blk
                    refine WpL_nil ?_
                    refine thn_normal ?_
                    exact ⟨d1 - 1, Fits.out ⟨rfl, rfl, rfl, rfl, rfl, rfl, rfl, rfl, rfl, trivial⟩, E, E6, Mm, Bx, (by omega)⟩
                  · have khnx := hnx
                    replace hnx := of_decide_eq_false hnx
                    refine Wp_skip ?_
                    refine thn_normal ?_
                    exact ⟨1114111, Fits.out ⟨rfl, rfl, rfl, rfl, rfl, rfl, rfl, rfl, rfl, trivial⟩, E, E6, Mm, Bx, (by rw [cut_last hqp (by omega)]; rfl)⟩
                · clear E E6 Mm Bx
                  rintro _ W17 ⟨hi, ⟨j17, rfl⟩, E, E6, Mm, Bx, hhi⟩
                  refine Wp_seq_region ?_
                  refine WpL_val rfl rfl (by decide) (r_move (v := (.slice a ll.length c)) rfl) ?_
                  refine WpL_val rfl rfl (by decide) (r_lenSlice (ad := a) (n := ll.length) (cap := c) Try.underlying53 rfl) ?_
                  refine s_make (n := ll.length) (z := (.int .u8 0)) (bytes := 1) (by decide) Try.underlying93 siz5 byt5 zer5 rfl rfl rfl (by omega) (by omega) ?_
                  intro bk wk Nk
                  have Fk := Nk.ge E
                  have Fk_E6 := Nk.ge E6
                  have Ok_bm := Nk.ltM Mm
                  have Ok_bx := Nk.lt Bx
                  replace Mm := Nk.keepM Mm
                  replace Bx := Nk.keep Bx
                  replace E := E.ext Nk.ext
                  have Bk := Nk.blk
                  replace E6 := E6.ext Nk.ext
                  refine WpL_val rfl rfl (by decide) (r_assign (v := (.slice (some ⟨bk, 0, none⟩) ll.length ll.length)) rfl) ?_
                  refine WpL_nil ?_
                  refine Wp_seq ?_
                  refine Wp_seq_region ?_
                  refine WpL_val rfl rfl (by decide) (r_move (v := (.slice a ll.length c)) rfl) ?_
                  refine WpL_val rfl rfl (by decide) (r_lenSlice (ad := a) (n := ll.length) (cap := c) Try.underlying53 rfl) ?_
                  refine WpL_val rfl rfl (by decide) (r_move (v := (.int .i64 0)) rfl) ?_
                  refine WpL_nil ?_
                  refine Wp_block ?_
                  rw [show (List.replicate ll.length (Value.int .u8 0)) = (marksN ll c1 0).map (Value.int .u8) from by rw [marksN_zero, List.map_replicate]] at Bk
                  refine Wp_loop (fun nn_ σ W20 => ∃ (e1 : Nat), (∃ jj_, σ = upds jj_ [(0, (.slice a ll.length c)), (7, (.slice (some ⟨g, 0, none⟩) q.length lc)), (12, (.slice oa on oc)), (13, (.map (some bm))), (15, (.int .i64 c1)), (16, (.pointer (some ⟨bx, 0, none⟩))), (17, (.slice (some ⟨bk, 0, none⟩) ll.length ll.length)), (63, (.slice (some ⟨g, 0, none⟩) q.length lc)), (64, (.int .i64 ((q.length : Nat) : Int))), (65, (.int .i64 ((i2 : Nat) : Int))), (89, (.slice a ll.length c)), (90, (.int .i64 ((ll.length : Nat) : Int))), (91, (.int .i64 ((e1 : Nat) : Int)))]) ∧ Chg none1 w0 W20 ∧ Chg none1 W9 W20 ∧ MapAt W20 bm kStr kInt (keysM ks 0) ∧ Blk W20 bx #[(.int .i64 c1), (.int .i64 hi)] 37 ∧ Blk W20 bk (((marksN ll c1 e1).map (Value.int .u8)).toArray) 5 ∧ (e1 ≤ ll.length) ∧ nn_ = ll.length - e1) (n := ll.length - 0) ?_ ?_
                  · exact ⟨0, Fits.out ⟨rfl, rfl, rfl, rfl, rfl, rfl, rfl, rfl, rfl, rfl, rfl, rfl, rfl, trivial⟩, E, E6, Mm, Bx, Bk, Nat.zero_le _, rfl⟩
                  · clear E E6 Mm Bx Bk
                    rintro _ _ W20 ⟨e1, ⟨j20, rfl⟩, E, E6, Mm, Bx, Bk, he1, rfl⟩
                    refine Wp_seq_region ?_
                    refine WpL_val rfl rfl (by decide) (r_lss (k := .i64) (a := ((e1 : Nat) : Int)) (b := ((ll.length : Nat) : Int)) rfl rfl) ?_
                    refine WpL_nil ?_
                    refine Wp_seq ?_
                    refine Wp_cond (b := decide ((((e1 : Nat) : Int) : Int) < ((ll.length : Nat) : Int))) rfl (fun hlt6 => ?_) (fun hlt6 => ?_)
                    · have khlt6 := hlt6
                      replace hlt6 := of_decide_eq_true hlt6
                      obtain ⟨l6, hx6⟩ := get_of_lt (l := ll) (i := e1) (by omega)
                      obtain ⟨b, o, rfl, hcl⟩ := spss_cells h (by omega)
                      obtain ⟨ra, rc, hcell, hsp⟩ := hcl e1 l6 hx6
                      refine Wp_skip ?_
                      refine thn_normal ?_
                      refine Wp_seq ?_
                      refine Wp_block ?_
                      refine Wp_seq_region ?_
                      refine WpL_val rfl rfl (by decide) (r_move (v := (.int .i64 ((e1 : Nat) : Int))) rfl) ?_
                      refine WpL_val rfl rfl (by decide) (r_indexSlice (b := b) (o := o) (len := ll.length) (cap := c) (i := e1) (o' := o + e1) rfl rfl rfl Try.underlying53 siz23 (by omega) (by omega)) ?_
                      refine WpL_val rfl rfl (by decide) (r_load (v := (.slice ra l6.length rc)) rfl flat23 (E.cell (fun f => f) hcell)) ?_
                      refine WpL_val rfl rfl (by decide) (r_assign (v := (.int .i64 ((e1 : Nat) : Int))) rfl) ?_
                      refine WpL_val rfl rfl (by decide) (r_assign (v := (.slice ra l6.length rc)) rfl) ?_
                      refine WpL_nil ?_
                      refine Wp_seq_region ?_
                      refine WpL_val rfl rfl (by decide) (r_move (v := (.slice ra l6.length rc)) rfl) ?_
                      refine WpL_val rfl rfl (by decide) (r_move (v := (.int .i64 c1)) rfl) ?_
                      refine WpL_enter rfl rfl (by decide) (r_callF (vs := [(.slice ra l6.length rc), (.int .i64 c1)]) Try.func53 nm53 bd53 rfl) (in_c _ _ l6 c1 (hsp.ext E)) ?_
                      rintro _ w51 ⟨rfl, X51⟩
                      replace Mm := X51.keepM Mm
                      replace Bx := X51.keep Bx
                      replace Bk := X51.keep Bk
                      replace E := E.ext X51
                      replace E6 := E6.ext X51
                      refine WpL_nil ?_
                      refine Wp_cond (b := inS l6 c1) rfl (fun hin => ?_) (fun hin => ?_)
                      · have khin := hin
                        have hml := marksN_len (c := c1) he1
                        refine Wp_region ?_
                        refine WpL_val rfl rfl (by decide) (r_move (v := (.slice (some ⟨bk, 0, none⟩) ll.length ll.length)) rfl) ?_
                        refine WpL_val rfl rfl (by decide) (r_move (v := (.int .i64 ((e1 : Nat) : Int))) rfl) ?_
                        refine WpL_val rfl rfl (by decide) (r_indexSlice (b := bk) (o := 0) (len := ll.length) (cap := ll.length) (i := e1) (o' := 0 + e1) rfl rfl rfl Try.underlying93 siz5 (by omega) (by omega)) ?_
                        refine s_store (b := bk) (o := 0 + e1) (c' := ((marksN ll c1 (e1 + 1)).map (Value.int .u8)).toArray) (v := (.int .u8 1)) rfl rfl rfl siz5 Bk (by simp; omega) (by rw [marksN_succ hx6, hin]; simp [bitN, List.map_set]) ?_
                        intro w23 S23
                        replace Mm := S23.keepM (by omega) Mm
                        replace Bx := S23.keep (by omega) Bx
                        replace E := S23.step E (by first | exact Or.inl (by omega) | exact Or.inr rfl | exact Or.inr (by assumption) | exact Or.inr (by simp) | exact Or.inr (by omega) | exact Or.inr (by dsimp only; omega))
                        replace E6 := S23.step E6 (Or.inl (by omega))
                        replace Bk := S23.blk
                        refine WpL_nil ?_
                        refine inB_normal ?_
                        refine thn_normal ?_
                        refine Wp_region ?_
                        refine WpL_val rfl rfl (by decide) (r_add (k := .i64) (a := ((e1 : Nat) : Int)) (b := 1) (c := ((e1 : Nat) : Int) + 1) rfl rfl (wI64 (by omega))) ?_
                        refine WpL_val rfl rfl (by decide) (r_move (v := (.int .i64 (((e1 : Nat) : Int) + 1))) rfl) ?_
                        refine WpL_nil ?_
                        refine thn_normal ?_
                        exact ⟨ll.length - (e1 + 1), by omega, e1 + 1, Fits.out ⟨rfl, rfl, rfl, rfl, rfl, rfl, rfl, rfl, rfl, rfl, rfl, rfl, rfl, trivial⟩, E, E6, Mm, Bx, Bk, (by omega), rfl⟩
                      · have khin := hin
                        have hsm6 : marksN ll c1 (e1 + 1) = marksN ll c1 e1 := marksN_same hx6 hin
                        rw [← hsm6] at Bk
                        refine Wp_skip ?_
                        refine inB_normal ?_
                        refine thn_normal ?_
                        refine Wp_region ?_
                        refine WpL_val rfl rfl (by decide) (r_add (k := .i64) (a := ((e1 : Nat) : Int)) (b := 1) (c := ((e1 : Nat) : Int) + 1) rfl rfl (wI64 (by omega))) ?_
                        refine WpL_val rfl rfl (by decide) (r_move (v := (.int .i64 (((e1 : Nat) : Int) + 1))) rfl) ?_
                        refine WpL_nil ?_
                        refine thn_normal ?_
                        exact ⟨ll.length - (e1 + 1), by omega, e1 + 1, Fits.out ⟨rfl, rfl, rfl, rfl, rfl, rfl, rfl, rfl, rfl, rfl, rfl, rfl, rfl, trivial⟩, E, E6, Mm, Bx, Bk, (by omega), rfl⟩
                    · have khlt6 := hlt6
                      replace hlt6 := of_decide_eq_false hlt6
                      have hee : e1 = ll.length := by omega
                      rw [hee, marksN_all] at Bk
                      refine Wp_exit ?_
                      refine thn_exit ?_
                      refine thn_exit ?_
                      refine inB_here ?_
                      refine thn_normal ?_
                      refine Wp_seq_region ?_
                      refine WpL_val rfl rfl (by decide) (r_move (v := (.map (some bm))) rfl) ?_
                      refine WpL_val rfl rfl (by decide) (r_move (v := (.slice (some ⟨bk, 0, none⟩) ll.length ll.length)) rfl) ?_
                      refine WpL_val rfl rfl (by decide) (r_bytesStr Try.underlying93 Try.underlying5 Try.underlying9 rfl Bk (by simp [markL])) ?_
                      refine WpL_val (v := (.tuple #[(.int .i64 ((getM (keysM ks 0) (encB (markL ll c1))).getD 0)), (.bool ((getM (keysM ks 0) (encB (markL ll c1))).isSome))])) rfl rfl (by decide) (r_lookup2 (k := (encB (markL ll c1))) (z := 0) Try.underlying92 (keyStr Try.underlying9) zer3 Mm rfl rfl) ?_
                      refine WpL_val rfl rfl (by decide) (r_move (v := (.tuple #[(.int .i64 ((getM (keysM ks 0) (encB (markL ll c1))).getD 0)), (.bool ((getM (keysM ks 0) (encB (markL ll c1))).isSome))])) rfl) ?_
                      refine WpL_val rfl rfl (by decide) (r_extract (vs := #[(.int .i64 ((getM (keysM ks 0) (encB (markL ll c1))).getD 0)), (.bool ((getM (keysM ks 0) (encB (markL ll c1))).isSome))]) (v := (.int .i64 ((getM (keysM ks 0) (encB (markL ll c1))).getD 0))) rfl rfl) ?_
                      refine WpL_val rfl rfl (by decide) (r_extract (vs := #[(.int .i64 ((getM (keysM ks 0) (encB (markL ll c1))).getD 0)), (.bool ((getM (keysM ks 0) (encB (markL ll c1))).isSome))]) (v := (.bool ((getM (keysM ks 0) (encB (markL ll c1))).isSome))) rfl rfl) ?_
                      refine WpL_val rfl rfl (by decide) (r_assign (v := (.int .i64 ((getM (keysM ks 0) (encB (markL ll c1))).getD 0))) rfl) ?_
                      refine WpL_val rfl rfl (by decide) (r_assign (v := (.bool ((getM (keysM ks 0) (encB (markL ll c1))).isSome))) rfl) ?_
                      refine WpL_nil ?_
                      have hC6 := hC.ext E6
                      have hI6 := hI.chg E6 fun _ _ f => f
                      have hs6 := Nat.le_trans hs1 E6.size
                      have hcnt := hG.cnt
                      have hkon : on = ks.length := by rw [hon, hG.len]
                      refine Wp_cut (fun σ W24 => ∃ (kk : Nat) (ks1 : List (List Bool)) (outs1 : List (List Sp)) (vs1 : List Value) (oa1 : Option Addr) (oc1 on1 : Nat), (∃ jj_, σ = upds jj_ [(0, (.slice a ll.length c)), (7, (.slice (some ⟨g, 0, none⟩) q.length lc)), (13, (.map (some bm))), (16, (.pointer (some ⟨bx, 0, none⟩))), (63, (.slice (some ⟨g, 0, none⟩) q.length lc)), (64, (.int .i64 ((q.length : Nat) : Int))), (65, (.int .i64 ((i2 : Nat) : Int))), (12, (.slice oa1 on1 oc1)), (20, (.int .i64 ((kk : Nat) : Int)))]) ∧ Chg none1 w0 W24 ∧ MapAt W24 bm kStr kInt (keysM ks1 0) ∧ Blk W24 bx #[(.int .i64 c1), (.int .i64 hi)] 37 ∧ Blk W24 bk ((((markL ll c1).map bitN).map (Value.int .u8)).toArray) 5 ∧ (ks1 = addF ks (markL ll c1)) ∧ (outs1.length = ks1.length) ∧ (∀ (j : Nat) q, outs1[j]? = some q → outs[j]? = some q ∨ (j = ks.length ∧ q = [] ∧ markL ll c1 ∉ ks)) ∧ (ks1[kk]? = some (markL ll c1)) ∧ (CSt W24 n1 (.slice oa1 on1 oc1) vs1 outs1) ∧ (on1 = outs1.length) ∧ (SlIn (fun b => b = g) W24 1 (.slice (some ⟨g, 0, none⟩) q.length lc) (q.map intV)) ∧ (n1 ≤ W24.heap.size) ∧ (∀ (i : Nat) v b, vs1[i]? = some v → v.ownBlock = some b → b < z0)) ?_ ?_
                      · skip
                        refine Wp_seq_region ?_
                        refine WpL_val rfl rfl (by decide) (r_move (v := (.bool ((getM (keysM ks 0) (encB (markL ll c1))).isSome))) rfl) ?_
                        refine WpL_val rfl rfl (by decide) (r_not (b := (getM (keysM ks 0) (encB (markL ll c1))).isSome) rfl) ?_
                        refine WpL_nil ?_
                        refine Wp_cond (b := !((getM (keysM ks 0) (encB (markL ll c1))).isSome)) rfl (fun hnew => ?_) (fun hnew => ?_)
                        · have khnew := hnew
                          replace hnew := by simpa using hnew
                          have hgm : getM (keysM ks 0) (encB (markL ll c1)) = none := by simpa using hnew
                          obtain ⟨hnin, hput⟩ := keysM_none hgm
                          refine Wp_seq_region ?_
                          refine WpL_val rfl rfl (by decide) (r_move (v := (.slice oa on oc)) rfl) ?_
                          refine WpL_val rfl rfl (by decide) (r_lenSlice (ad := oa) (n := on) (cap := oc) Try.underlying53 rfl) ?_
                          refine WpL_val rfl rfl (by decide) (r_assign (v := (.int .i64 ((on : Nat) : Int))) rfl) ?_
                          refine WpL_nil ?_
                          refine Wp_seq_region ?_
                          refine WpL_val rfl rfl (by decide) (r_move (v := (.map (some bm))) rfl) ?_
                          refine WpL_val rfl rfl (by decide) (r_move (v := (.slice (some ⟨bk, 0, none⟩) ll.length ll.length)) rfl) ?_
                          refine WpL_val rfl rfl (by decide) (r_bytesStr Try.underlying93 Try.underlying5 Try.underlying9 rfl Bk (by simp [markL])) ?_
                          refine WpL_val rfl rfl (by decide) (r_move (v := (.int .i64 ((on : Nat) : Int))) rfl) ?_
                          refine s_mapUpdate (k := (encB (markL ll c1))) (v := ((on : Nat) : Int)) Try.underlying92 (keyStr Try.underlying9) Mm rfl rfl rfl ?_
                          intro w26 S26 H26
                          replace hs6 := Nat.le_trans hs6 S26.chg.size
                          replace hC6 := hC6.chg S26.chg fun b h1 _ h2 => absurd h2 (by omega)
                          replace hI6 := hI6.chg S26.chg fun b h1 h2 => by subst h1; omega
                          replace Bx := S26.keep (by omega) Bx
                          replace Bk := S26.keep (by omega) Bk
                          replace E := S26.step E (by first | exact Or.inl (by omega) | exact Or.inr rfl | exact Or.inr (by assumption) | exact Or.inr (by simp) | exact Or.inr (by omega) | exact Or.inr (by dsimp only; omega))
                          replace Mm := H26
                          refine WpL_nil ?_
                          refine Wp_region ?_
                          refine WpL_val rfl rfl (by decide) (r_move (v := (.slice oa on oc)) rfl) ?_
                          refine s_buildSlice (ps := [(0, (.slice none 0 0))]) (c := #[(.slice none 0 0)]) (by decide) rfl Try.underlying53 siz23 zer23 (by decide) (by decide) (by kernel_rfl) ?_
                          intro b27 w27 N27
                          have F27 := N27.ge E
                          have O27_bm := N27.ltM Mm
                          have O27_bx := N27.lt Bx
                          have O27_bk := N27.lt Bk
                          replace Mm := N27.keepM Mm
                          replace Bx := N27.keep Bx
                          replace Bk := N27.keep Bk
                          replace hC6 := hC6.ext N27.ext
                          replace hI6 := hI6.chg N27.ext fun _ _ f => f
                          replace hs6 := Nat.le_trans hs6 N27.ext.size
                          replace E := E.ext N27.ext
                          have B27 := N27.blk
                          refine s_append (base := n1) (n := on) (m := 1) (xs := vs) (news := [(.slice none 0 0)]) (size := 1) (bytes := 24) (v := (.slice oa on oc)) (by decide) Try.underlying53 siz23 byt23 zer23 rfl (by decide) rfl (hC6.on hon) rfl (rfl) (B27.cells rfl) (by simp [Value.oneCell']) (by unfold maxLen; omega) (by omega) (hs6) ?_
                          intro v7 w59 Ov7 Cv7 Dv7
                          replace Mm := Cv7.keepM (fun h => by have := (hC6.o.lt _ h).1; omega) Mm
                          replace Bx := Cv7.keep (fun h => by have := (hC.o.lt _ h).2; omega) Bx
                          replace Bk := Cv7.keep (fun h => by have := (hC.o.lt _ h).2; omega) Bk
                          replace E := E.step Cv7 (fun x hx h => absurd ((hC6.on hon).lt x h).1 (by omega))
                          obtain ⟨oa2, oc2, rfl⟩ := own_form Ov7
                          rw [hkon, hput] at Mm
                          refine WpL_val rfl rfl (by decide) (r_assign (v := (.slice oa2 (on + 1) oc2)) rfl) ?_
                          refine WpL_nil ?_
                          refine thn_normal ?_
                          exact ⟨on, ks ++ [markL ll c1], outs ++ [[]], vs ++ [.slice none 0 0], oa2, oc2, on + 1, Fits.out ⟨rfl, rfl, rfl, rfl, rfl, rfl, rfl, rfl, rfl, trivial⟩, E, Mm, Bx, Bk, (by unfold addF; rw [if_neg hnin]), (by simp; omega), snoc_old hG.len hnin, (by rw [hkon]; simp), hC6.push (by rw [← hon]; exact Ov7) Cv7 Dv7, (by simp; omega), hI6.chg Cv7 fun b h1 h2 => by subst h1; have := (hC6.o.lt _ h2).1; omega, Nat.le_trans hs6 Cv7.size, snoc_blk hblk⟩
                        · have khnew := hnew
                          replace hnew := by simpa using hnew
                          have hgs : (getM (keysM ks 0) (encB (markL ll c1))).isSome = true := by simpa using hnew
                          obtain ⟨v9, hv9⟩ := Option.isSome_iff_exists.1 hgs
                          obtain ⟨j9, rfl, hj9⟩ := keysM_get hv9
                          rw [show (getM (keysM ks 0) (encB (markL ll c1))).getD 0 = ((j9 : Nat) : Int) from by rw [hv9]; rfl]
                          refine Wp_skip ?_
                          refine thn_normal ?_
                          exact ⟨j9, ks, outs, vs, oa, oc, on, Fits.out ⟨rfl, rfl, rfl, rfl, rfl, rfl, rfl, rfl, rfl, trivial⟩, E, Mm, Bx, Bk, (by unfold addF; rw [if_pos (List.mem_of_getElem? hj9)]), (by omega), (fun j q h => .inl h), hj9, hC6, hon, hI6, hs6, hblk⟩
                      · clear E Mm Bx Bk
                        rintro _ W24 ⟨kk, ks1, outs1, vs1, oa1, oc1, on1, ⟨j24, rfl⟩, E, Mm, Bx, Bk, hks1, hol1, hsm1, hkm1, hC1, hon1, hI1, hs7, hbl⟩
                        obtain ⟨o1, ho1⟩ := get_of_lt (l := outs1) (i := kk) (by have := lt_of_get hkm1; omega)
                        obtain ⟨v1, hv1⟩ := get_of_lt (l := vs1) (i := kk) (by have := hC1.len; have := lt_of_get hkm1; omega)
                        obtain ⟨va, vc, rfl⟩ := own_form (hC1.inn kk v1 o1 hv1 ho1)
                        have hko := lt_of_get ho1
                        have hol8 : o1.length ≤ i2 := by rcases hsm1 kk o1 ho1 with h1 | ⟨_, h1, _⟩; exact (hG.ok kk o1 h1).2; subst h1; exact Nat.zero_le _
                        obtain ⟨gg, rfl, hg1, hg2⟩ := own_cells (hC1.on hon1) (by omega)
                        have hggl := hC1.o.lt gg rfl
                        have hinn := hC1.inn kk _ o1 hv1 ho1
                        obtain ⟨h0, hh0⟩ : ∃ h0, h0 = (W24).heap.size := ⟨_, rfl⟩
                        obtain ⟨Fs28, hFs28⟩ : ∃ Fs : List (FactT ((fun y => (Value.slice va o1.length vc).ownBlock = some y))), Fs = [.eq (.slice (some ⟨gg, 0, none⟩) on1 oc1), .eq (.int .i64 ((kk : Nat) : Int)), .eq (.slice (some ⟨gg, 0, none⟩) on1 oc1), .eq (.int .i64 ((kk : Nat) : Int)), .eq (.pointer (some ⟨gg, 0 + kk, none⟩)), .eq (.slice va o1.length vc), .eq (.agg #[(.int .i64 c1), (.int .i64 hi)]), .till (litF TSp #[.int .i64 c1, .int .i64 hi] 0) (litF_ext _ _ _), .own (appF n1 TSp 2 (o1.length + 1) ((o1.map spanV).flatten ++ [Value.int .i64 c1, Value.int .i64 hi]) (.slice va o1.length vc) h0) (appF_ext _ _ _ _ _ _ _)] := ⟨_, rfl⟩
                        refine Wp_dagT ((fun y => (Value.slice va o1.length vc).ownBlock = some y)) 9 8 [121, 122, 123, 124, 125, 126, 127, 128, 129] [[], [], [], [], [2, 3], [4], [], [6], [5, 7]] Fs28 hFs28 rfl mixed (by kernel_rfl) (by kernel_rfl) (by kernel_rfl) ?_ ?_
                        · intro wd X0
                          refine DagStepsT.cons (fun s' w' X U H => ?_) ?_
                          · exact DoesT_val (r_move (v := (.slice (some ⟨gg, 0, none⟩) on1 oc1)) (U 12 rfl)) (Chg.refl _ _) rfl
                          refine DagStepsT.cons (fun s' w' X U H => ?_) ?_
                          · exact DoesT_val (r_move (v := (.int .i64 ((kk : Nat) : Int))) (U 20 rfl)) (Chg.refl _ _) rfl
                          refine DagStepsT.cons (fun s' w' X U H => ?_) ?_
                          · exact DoesT_val (r_move (v := (.slice (some ⟨gg, 0, none⟩) on1 oc1)) (U 12 rfl)) (Chg.refl _ _) rfl
                          refine DagStepsT.cons (fun s' w' X U H => ?_) ?_
                          · exact DoesT_val (r_move (v := (.int .i64 ((kk : Nat) : Int))) (U 20 rfl)) (Chg.refl _ _) rfl
                          refine DagStepsT.cons (fun s' w' X U H => ?_) ?_
                          · have e123 : s' 123 = (.slice (some ⟨gg, 0, none⟩) on1 oc1) := H 2 rfl 123 (.eq (.slice (some ⟨gg, 0, none⟩) on1 oc1)) rfl (by rw [hFs28]; rfl)
                            have e124 : s' 124 = (.int .i64 ((kk : Nat) : Int)) := H 3 rfl 124 (.eq (.int .i64 ((kk : Nat) : Int))) rfl (by rw [hFs28]; rfl)
                            exact DoesT_val (r_indexSlice (b := gg) (o := 0) (len := on1) (cap := oc1) (i := kk) (o' := 0 + kk) e123 e124 rfl Try.underlying53 siz23 (by omega) (by omega)) (Chg.refl _ _) rfl
                          refine DagStepsT.cons (fun s' w' X U H => ?_) ?_
                          · have e125 : s' 125 = (.pointer (some ⟨gg, 0 + kk, none⟩)) := H 4 rfl 125 (.eq (.pointer (some ⟨gg, 0 + kk, none⟩))) rfl (by rw [hFs28]; rfl)
                            exact DoesT_val (r_load (v := (.slice va o1.length vc)) e125 flat23 (by have h1 := hg2 kk _ hv1; exact (Ext.cell X (X0.cell h1)))) (Chg.refl _ _) rfl
                          refine DagStepsT.cons (fun s' w' X U H => ?_) ?_
                          · exact DoesT_val (r_loadAgg (vs := [(.int .i64 c1), (.int .i64 hi)]) (U 16 rfl) agg37 siz37 rfl ((Chg.keep X (fun h => by have := hbl kk _ _ hv1 h; omega) (X0.keep Bx)).cells rfl)) (Chg.refl _ _) rfl
                          refine DagStepsT.cons (fun s' w' X U H => ?_) ?_
                          · have e127 : s' 127 = (.agg #[(.int .i64 c1), (.int .i64 hi)]) := H 6 rfl 127 (.eq (.agg #[(.int .i64 c1), (.int .i64 hi)])) rfl (by rw [hFs28]; rfl)
                            exact DoesT_lit Try.underlying23 siz37 zer37 e127 (by decide) (by decide) (by kernel_rfl) (Nat.zero_le _)
                          refine DagStepsT.cons (fun s' w' X U H => ?_) ?_
                          · have e126 : s' 126 = (.slice va o1.length vc) := H 5 rfl 126 (.eq (.slice va o1.length vc)) rfl (by rw [hFs28]; rfl)
                            obtain ⟨b128, e128, B128, _⟩ := (show (.till (litF TSp #[.int .i64 c1, .int .i64 hi] 0) (litF_ext _ _ _) : FactT ((fun y => (Value.slice va o1.length vc).ownBlock = some y))).In (s' 128) w' from FactT.at_false (H 7 rfl 128 (.till (litF TSp #[.int .i64 c1, .int .i64 hi] 0) (litF_ext _ _ _)) rfl (by rw [hFs28]; rfl)))
                            exact DoesT_append Try.underlying23 siz37 byt37 zer37 rfl (by decide) e126 (own_ext (own_ext hinn X0) X) e128 rfl (B128.cells rfl) (by simp [Value.oneCell']) (by unfold maxLen; omega) (by omega) (by have := X0.size; have := X.size; omega) (fun y h => h) (by have := X0.size; have := X.size; omega)
                          exact DagStepsT.nil
                        · intro s' wd28 w28 X0 X28 U H
                          have e121 : s' 121 = (.slice (some ⟨gg, 0, none⟩) on1 oc1) := H 0 121 (.eq (.slice (some ⟨gg, 0, none⟩) on1 oc1)) rfl (by rw [hFs28]; rfl)
                          have e122 : s' 122 = (.int .i64 ((kk : Nat) : Int)) := H 1 122 (.eq (.int .i64 ((kk : Nat) : Int))) rfl (by rw [hFs28]; rfl)
                          obtain ⟨⟨a129, c129, e129⟩, O129, D129⟩ := (show (.own (appF n1 TSp 2 (o1.length + 1) ((o1.map spanV).flatten ++ [Value.int .i64 c1, Value.int .i64 hi]) (.slice va o1.length vc) h0) (appF_ext _ _ _ _ _ _ _) : FactT ((fun y => (Value.slice va o1.length vc).ownBlock = some y))).In (s' 129) w28 from H 8 129 (.own (appF n1 TSp 2 (o1.length + 1) ((o1.map spanV).flatten ++ [Value.int .i64 c1, Value.int .i64 hi]) (.slice va o1.length vc) h0) (appF_ext _ _ _ _ _ _ _)) rfl (by rw [hFs28]; rfl))
                          obtain ⟨j28, rfl⟩ := Fits.out (σ := s') (l := [(0, (.slice a ll.length c)), (7, (.slice (some ⟨g, 0, none⟩) q.length lc)), (12, (.slice (some ⟨gg, 0, none⟩) on1 oc1)), (13, (.map (some bm))), (63, (.slice (some ⟨g, 0, none⟩) q.length lc)), (64, (.int .i64 ((q.length : Nat) : Int))), (65, (.int .i64 ((i2 : Nat) : Int))), (121, (.slice (some ⟨gg, 0, none⟩) on1 oc1)), (122, (.int .i64 ((kk : Nat) : Int))), (129, (.slice a129 (o1.length + 1) c129))]) ⟨U 0 rfl, U 7 rfl, U 12 rfl, U 13 rfl, U 63 rfl, U 64 rfl, U 65 rfl, e121, e122, e129, trivial⟩
                          clear U H
                          replace Mm := Chg.keepM X28 (fun h => by have := (hinn.lt _ h).1; omega) (X0.keepM Mm)
                          replace Bx := Chg.keep X28 (fun h => by have := hbl kk _ _ hv1 h; omega) (X0.keep Bx)
                          have hXm := Chg.trans (Ext.chg X0) X28
                          replace E := (E.ext X0).step X28 (fun y hy h => by have := (hinn.lt _ h).1; omega)
                          obtain ⟨cur, hBo, hcs⟩ := own_blk (own_chg (hC1.on hon1) hXm (fun b hb hm => hC1.apo kk _ _ hv1 hm hb))
                          have hI8 := hI1.chg hXm fun b h1 h2 => by subst h1; have := (hinn.lt _ h2).1; omega
                          have hs9 := Nat.le_trans hs7 hXm.size
                          refine WpL_val rfl rfl (by decide) (r_indexSlice (b := gg) (o := 0) (len := on1) (cap := oc1) (i := kk) (o' := 0 + kk) rfl rfl rfl Try.underlying53 siz23 (by omega) (by omega)) ?_
                          have hBo0 := hBo
                          have hPx : True := trivial
                          refine s_store (b := gg) (o := 0 + kk) (c' := cur.setIfInBounds (0 + kk) (.slice a129 (o1.length + 1) c129)) (v := (.slice a129 (o1.length + 1) c129)) rfl rfl rfl siz23 hBo (by omega) (rfl) ?_
                          intro w29 S29
                          replace hI8 := hI8.chg S29.chg fun b h1 h2 => by subst h1; omega
                          replace hs9 := Nat.le_trans hs9 S29.chg.size
                          replace hPx := S29
                          replace Mm := S29.keepM (by omega) Mm
                          replace E := S29.step E (by first | exact Or.inl (by omega) | exact Or.inr rfl | exact Or.inr (by assumption) | exact Or.inr (by simp) | exact Or.inr (by omega) | exact Or.inr (by dsimp only; omega))
                          replace hBo := S29.blk
                          have hC9 := hC1.grow hon1 hv1 ho1 (x := (c1, hi)) (v' := .slice a129 (o1.length + 1) c129) (by rw [e129] at O129; simpa [spanV] using O129) hXm (by rw [e129, hh0] at D129; exact D129) hBo0 (by simpa using hPx)
                          refine WpL_nil ?_
                          refine inB_normal ?_
                          refine thn_normal ?_
                          refine Wp_region ?_
                          refine WpL_val rfl rfl (by decide) (r_add (k := .i64) (a := ((i2 : Nat) : Int)) (b := 1) (c := ((i2 : Nat) : Int) + 1) rfl rfl (wI64 (by omega))) ?_
                          refine WpL_val rfl rfl (by decide) (r_move (v := (.int .i64 (((i2 : Nat) : Int) + 1))) rfl) ?_
                          refine WpL_nil ?_
                          refine thn_normal ?_
                          exact ⟨p.length - (i2 + 1), by omega, i2 + 1, ks1, outs1.set kk (o1 ++ [(c1, hi)]), vs1.set kk (.slice a129 (o1.length + 1) c129), some ⟨gg, 0, none⟩, oc1, on1, Fits.out ⟨rfl, rfl, rfl, rfl, rfl, rfl, rfl, trivial⟩, E, Mm, (by rw [hhi]; exact hG.step hP hok hpc hks1 hol1 hsm1 hkm1 ho1), (by omega), hC9, (by simp; omega), hI8, hs9, rfl⟩
            · have khlt4 := hlt4
              replace hlt4 := of_decide_eq_false hlt4
              have hie : i2 = p.length := by omega
              have hG2 := hG
              rw [hie] at hG2
              have hJ0 := hC.join
              have hcnt := hG.cnt
              have hcl9 := hG.len
              refine Wp_exit ?_
              refine thn_exit ?_
              refine thn_exit ?_
              refine inB_here ?_
              refine thn_normal ?_
              refine Wp_seq ?_
              refine Wp_seq_region ?_
              refine WpL_val rfl rfl (by decide) (r_move (v := (.slice oa on oc)) rfl) ?_
              refine WpL_val rfl rfl (by decide) (r_lenSlice (ad := oa) (n := on) (cap := oc) Try.underlying53 rfl) ?_
              refine WpL_val rfl rfl (by decide) (r_move (v := (.int .i64 0)) rfl) ?_
              refine WpL_nil ?_
              refine Wp_block ?_
              refine Wp_loop (fun nn_ σ W30 => ∃ (k3 : Nat) (cs : List (List Sp)) (us : List Value), (∃ jj_, σ = upds jj_ [(12, (.slice oa on oc)), (133, (.int .i64 ((on : Nat) : Int))), (134, (.int .i64 ((k3 : Nat) : Int)))]) ∧ Chg none1 w0 W30 ∧ (k3 ≤ outs.length) ∧ (JSt W30 n1 (.slice oa on oc) us outs cs k3) ∧ (∀ c ∈ cs, c.length ≤ 16) ∧ (n1 ≤ W30.heap.size) ∧ nn_ = outs.length - k3) (n := outs.length - 0) ?_ ?_
              · exact ⟨0, [], vs, Fits.out ⟨rfl, rfl, rfl, trivial⟩, E, Nat.zero_le _, hJ0, (by simp), hs1, rfl⟩
              · clear E
                rintro _ _ W30 ⟨k3, cs, us, ⟨j30, rfl⟩, E, hk3, hJ, hsm, hs3, rfl⟩
                refine Wp_seq_region ?_
                refine WpL_val rfl rfl (by decide) (r_lss (k := .i64) (a := ((k3 : Nat) : Int)) (b := ((on : Nat) : Int)) rfl rfl) ?_
                refine WpL_nil ?_
                refine Wp_seq ?_
                refine Wp_cond (b := decide ((((k3 : Nat) : Int) : Int) < ((on : Nat) : Int))) rfl (fun hlt5 => ?_) (fun hlt5 => ?_)
                · have khlt5 := hlt5
                  replace hlt5 := of_decide_eq_true hlt5
                  obtain ⟨o1, ho1⟩ := get_of_lt (l := outs) (i := k3) (by omega)
                  obtain ⟨u1, hu1⟩ := get_of_lt (l := us) (i := k3) (by have := hJ.len; omega)
                  obtain ⟨⟨ua, uc, rfl⟩, hui⟩ := hJ.rst k3 u1 o1 (Nat.le_refl _) hu1 ho1
                  have hJo := hJ.o
                  rw [← hon] at hJo
                  obtain ⟨gg, rfl, hg1, hg2⟩ := own_cells hJo (by omega)
                  have hggl := hJo.lt gg rfl
                  have hol := (hG2.ok k3 o1 ho1)
                  refine Wp_skip ?_
                  refine thn_normal ?_
                  refine Wp_seq ?_
                  refine Wp_block ?_
                  refine Wp_seq_region ?_
                  refine WpL_val rfl rfl (by decide) (r_move (v := (.int .i64 ((k3 : Nat) : Int))) rfl) ?_
                  refine WpL_val rfl rfl (by decide) (r_assign (v := (.int .i64 ((k3 : Nat) : Int))) rfl) ?_
                  refine WpL_nil ?_
                  refine Wp_seq_region ?_
                  refine WpL_val rfl rfl (by decide) (r_move (v := (.slice (some ⟨gg, 0, none⟩) on oc)) rfl) ?_
                  refine WpL_val rfl rfl (by decide) (r_move (v := (.int .i64 ((k3 : Nat) : Int))) rfl) ?_
                  refine WpL_val rfl rfl (by decide) (r_move (v := (.slice (some ⟨gg, 0, none⟩) on oc)) rfl) ?_
                  refine WpL_val rfl rfl (by decide) (r_move (v := (.int .i64 ((k3 : Nat) : Int))) rfl) ?_
                  refine WpL_val rfl rfl (by decide) (r_indexSlice (b := gg) (o := 0) (len := on) (cap := oc) (i := k3) (o' := 0 + k3) rfl rfl rfl Try.underlying53 siz23 (by omega) (by omega)) ?_
                  refine WpL_val rfl rfl (by decide) (r_load (v := (.slice ua o1.length uc)) rfl flat23 ((by have h1 := (hJo.cells (g := gg) rfl) k3 _ hu1; rwa [Addr.add_lit] at h1))) ?_
                  refine WpL_enter rfl rfl (by decide) (r_callF (vs := [(.slice ua o1.length uc)]) Try.func64 nm64 bd64 rfl) (join_c _ _ o1 hui.at (by omega) hol.1) ?_
                  rintro _ w41 ⟨⟨j1, hj1, ⟨⟨ja, jc, rfl⟩, O41⟩⟩, X41⟩
                  replace E := E.ext X41
                  obtain ⟨cur, hBo, hcs⟩ := own_blk (own_ext hJo X41)
                  refine WpL_val rfl rfl (by decide) (r_indexSlice (b := gg) (o := 0) (len := on) (cap := oc) (i := k3) (o' := 0 + k3) rfl rfl rfl Try.underlying53 siz23 (by omega) (by omega)) ?_
                  have hBo0 := hBo
                  have hPx : True := trivial
                  refine s_store (b := gg) (o := 0 + k3) (c' := cur.setIfInBounds (0 + k3) (.slice ja j1.length jc)) (v := (.slice ja j1.length jc)) rfl rfl rfl siz23 hBo (by omega) (rfl) ?_
                  intro w32 S32
                  replace hPx := S32
                  replace E := S32.step E (by first | exact Or.inl (by omega) | exact Or.inr rfl | exact Or.inr (by assumption) | exact Or.inr (by simp) | exact Or.inr (by omega) | exact Or.inr (by dsimp only; omega))
                  replace hBo := S32.blk
                  refine WpL_nil ?_
                  refine Wp_seq_region ?_
                  refine WpL_val rfl rfl (by decide) (r_move (v := (.slice (some ⟨gg, 0, none⟩) on oc)) rfl) ?_
                  refine WpL_val rfl rfl (by decide) (r_move (v := (.int .i64 ((k3 : Nat) : Int))) rfl) ?_
                  refine WpL_val rfl rfl (by decide) (r_indexSlice (b := gg) (o := 0) (len := on) (cap := oc) (i := k3) (o' := 0 + k3) rfl rfl rfl Try.underlying53 siz23 (by omega) (by omega)) ?_
                  refine WpL_val rfl rfl (by decide) (r_load (v := (.slice ja j1.length jc)) rfl flat23 (hBo.cell (by rw [Array.getElem?_setIfInBounds_self_of_lt (by omega)]))) ?_
                  refine WpL_val rfl rfl (by decide) (r_lenSlice (ad := ja) (n := j1.length) (cap := jc) Try.underlying23 rfl) ?_
                  refine WpL_val rfl rfl (by decide) (r_gtr (k := .i64) (a := ((j1.length : Nat) : Int)) (b := 16) rfl rfl) ?_
                  refine WpL_nil ?_
                  refine Wp_cond (b := decide ((16 : Int) < ((j1.length : Nat) : Int))) rfl (fun hlg => ?_) (fun hlg => ?_)
                  · have khlg := hlg
                    replace hlg := of_decide_eq_true hlg
                    refine Wp_seq_region ?_
                    refine WpL_val rfl rfl (by decide) (r_assign (v := (.slice none 0 0)) rfl) ?_
                    refine WpL_val rfl rfl (by decide) (r_assign (v := (.int .i64 2)) rfl) ?_
                    refine WpL_nil ?_
                    refine Wp_ret ?_
                    refine inB_ret ?_
                    refine thn_ret ?_
                    refine thn_ret ?_
                    refine inB_ret ?_
                    refine thn_ret ?_
                    refine fin_tmp2 Try.results40 (v := (.slice none 0 0)) (v' := (.int .i64 2)) rfl rfl ?_
                    obtain ⟨cF, hF1, hF2⟩ := cls_large hG2 hP ho1 hj1 (by omega)
                    exact ⟨⟨[], 2, .inr ⟨hz0, cF, hF1, .inl ⟨hF2, rfl, rfl⟩⟩, none, 0, rfl, spss_nil _⟩, E⟩
                  · have khlg := hlg
                    replace hlg := of_decide_eq_false hlg
                    refine Wp_skip ?_
                    refine inB_normal ?_
                    refine thn_normal ?_
                    refine Wp_region ?_
                    refine WpL_val rfl rfl (by decide) (r_add (k := .i64) (a := ((k3 : Nat) : Int)) (b := 1) (c := ((k3 : Nat) : Int) + 1) rfl rfl (wI64 (by omega))) ?_
                    refine WpL_val rfl rfl (by decide) (r_move (v := (.int .i64 (((k3 : Nat) : Int) + 1))) rfl) ?_
                    refine WpL_nil ?_
                    refine thn_normal ?_
                    exact ⟨outs.length - (k3 + 1), by omega, k3 + 1, cs ++ [j1], us.set k3 (.slice ja j1.length jc), Fits.out ⟨rfl, rfl, rfl, trivial⟩, E, (by omega), (by have hS := JSt.step (hJ.ext X41) hon ho1 (⟨⟨_, _, rfl⟩, O41⟩ : OwnS _ _ _ j1) hggl.2 hj1 hBo0 (by simpa using hPx); exact hS), (fun c hc => by rcases List.mem_append.1 hc with h1 | h1; exact hsm c h1; rw [List.mem_singleton] at h1; subst h1; omega), (by have := X41.size; have := hPx.chg.size; omega), rfl⟩
                · have khlt5 := hlt5
                  replace hlt5 := of_decide_eq_false hlt5
                  have hk33 : k3 = outs.length := by omega
                  have hcls := hG2.done hP (by rw [hJ.cl, hk33]) hJ.jn
                  have hsp := hJ.done hk33
                  have hcl3 : cs.length = on := by rw [hJ.cl, hk33, hon]
                  refine Wp_exit ?_
                  refine thn_exit ?_
                  refine thn_exit ?_
                  refine inB_here ?_
                  refine thn_normal ?_
                  refine Wp_seq ?_
                  refine Wp_seq_region ?_
                  refine WpL_val rfl rfl (by decide) (r_move (v := (.slice oa on oc)) rfl) ?_
                  refine WpL_val rfl rfl (by decide) (r_lenSlice (ad := oa) (n := on) (cap := oc) Try.underlying53 rfl) ?_
                  refine WpL_val rfl rfl (by decide) (r_gtr (k := .i64) (a := ((on : Nat) : Int)) (b := 16) rfl rfl) ?_
                  refine WpL_nil ?_
                  refine Wp_cond (b := decide ((16 : Int) < ((on : Nat) : Int))) rfl (fun hlg2 => ?_) (fun hlg2 => ?_)
                  · have khlg2 := hlg2
                    replace hlg2 := of_decide_eq_true hlg2
                    refine Wp_seq_region ?_
                    refine WpL_val rfl rfl (by decide) (r_assign (v := (.slice none 0 0)) rfl) ?_
                    refine WpL_val rfl rfl (by decide) (r_assign (v := (.int .i64 2)) rfl) ?_
                    refine WpL_nil ?_
                    refine Wp_ret ?_
                    refine thn_ret ?_
                    refine fin_tmp2 Try.results40 (v := (.slice none 0 0)) (v' := (.int .i64 2)) rfl rfl ?_
                    exact ⟨⟨[], 2, .inr ⟨hz0, cs, hcls, .inl ⟨.inr (by omega), rfl, rfl⟩⟩, none, 0, rfl, spss_nil _⟩, E⟩
                  · have khlg2 := hlg2
                    replace hlg2 := of_decide_eq_false hlg2
                    refine Wp_skip ?_
                    refine thn_normal ?_
                    refine Wp_seq_region ?_
                    refine WpL_val rfl rfl (by decide) (r_move (v := (.slice oa on oc)) rfl) ?_
                    refine WpL_val rfl rfl (by decide) (r_assign (v := (.slice oa on oc)) rfl) ?_
                    refine WpL_val rfl rfl (by decide) (r_assign (v := (.int .i64 0)) rfl) ?_
                    refine WpL_nil ?_
                    refine Wp_ret ?_
                    refine fin_tmp2 Try.results40 (v := (.slice oa on oc)) (v' := (.int .i64 0)) rfl rfl ?_
                    rw [← hcl3] at hsp
                    exact ⟨⟨cs, 0, .inr ⟨hz0, cs, hcls, .inr ⟨fun hl9 => by rcases hl9 with ⟨c, h1, h2⟩ | h2; have := hsm c h1; omega; omega, rfl, rfl⟩⟩, oa, oc, by rw [hcl3], hsp⟩, E⟩
end Go.Proofs
