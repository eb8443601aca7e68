/- Contracts and plain lemmas, part 6. -/
import Derived.Tactics
import Derived.Deep.Quiet
import Derived.Laws.AppendOwn
import Derived.KernelRfl
import Derived.Laws.Entries
import Derived.Laws.Build
import Derived.Below
import Derived.RowKit3
import Derived.StillTail
import Derived.Sort.Grow
import Derived.Deep.Draws
import Derived.Test.YtncmfkibflogkaaChecked
import Derived.Laws.StructEq
import Derived.Laws.MakeOwn
import Derived.MapKept
import Derived.Laws.BytesArg
import Derived.Laws.CopyRow
import Derived.DeepKeys3
import Derived.OpenShut
import Derived.ChangeSlices
import Derived.Test.YtncmfkibflogkaaPb5
namespace Go.Proofs
open Go Go.Eng Go.Sort
set_option maxRecDepth 100000
theorem litF_chg {U : Nat → Prop} {e hs : Nat} {c : Array Value} (h : ∀ y, U y → y < hs) : ∀ v w w', Chg U w w' → litF e c hs v w → litF e c hs v w' := by
  rintro v w w' x ⟨b, h1, h2, h3⟩
  exact ⟨b, h1, x.keep (fun hu => by have := h b hu; omega) h2, h3⟩
theorem appF_chg {U : Nat → Prop} {base e size n hs : Nat} {xs : List Value} {old : Value} (h : ∀ y, base ≤ y → ¬ U y) : ∀ v w w', Chg U w w' → appF base e size n xs old hs v w → appF base e size n xs old hs v w' := by
  rintro v w w' x ⟨h1, h2, h3⟩
  exact ⟨h1, own_chg h2 x (fun k hk => h k (h2.lt k hk).1), h3⟩
theorem number_x (w0 : World) (v : Value) (x : Int) (rest : List Nat) (h : ByAt w0 v (encI1 x ++ rest)) (hx : -1 ≤ x ∧ x ≤ 9223372036854775807) :
    Ret Try.prog 84 #[v] w0 fun r w => r = .tuple #[.int .i64 x, .int .i64 (((encI1 x).length : Nat) : Int)] ∧ Ext w0 w := by
  refine (number_c w0 v (x + 1).toNat rest h (by omega)).mono ?_
  rintro r w ⟨rfl, e⟩
  exact ⟨by rw [show (((x + 1).toNat : Nat) : Int) - 1 = x by omega]; rfl, e⟩
theorem by_cut {w : World} {a a' : Option Addr} {n c sz n' c' : Nat} {p rest : List Nat} (h : ByAt w (.slice a n c) (p ++ rest)) (hp : p.length = sz) (ha : (if c = sz then a else a.map (·.add (sz * 1))) = a') (hn : n' = n - sz) (hc : c' = c - sz) : ByAt w (.slice a' n' c') rest := by
  have hcap := SlAt.cap h
  simp only [List.length_map, List.length_append] at hcap
  have h1 := SlAt.cut (lo := sz) (hi := n) h (by omega) (Nat.le_refl _) ha rfl rfl
  have h2 : (((p ++ rest).map byV).drop sz).take (n - sz) = rest.map byV := by
    rw [List.map_append, List.drop_append_of_le_length (by simp; omega), List.drop_of_length_le (by simp; omega), List.nil_append]
    exact List.take_of_length_le (by simp; omega)
  rw [h2] at h1
  subst hn; subst hc
  exact h1
def FldB (sl : List Value) (b : Nat) : Prop := ∃ (j : Nat) (v : Value), sl[j]? = some v ∧ v.ownBlock = some b
/-- Slices of one's own that share no block. -/
structure FldOwn (w : World) (base : Nat) (sl : List Value) (ls : List (List Int)) : Prop where
  len : sl.length = ls.length
  own : ∀ (j : Nat) v l, sl[j]? = some v → ls[j]? = some l → w.ownsRow base TDI 1 v l.length (l.map (Value.int .i64))
  ap : ∀ (i j : Nat) v u b, sl[i]? = some v → sl[j]? = some u → v.ownBlock = some b → u.ownBlock = some b → i = j
theorem FldOwn.lt {w : World} {base : Nat} {sl : List Value} {ls : List (List Int)} (h : FldOwn w base sl ls) {b : Nat} (hb : FldB sl b) : base ≤ b ∧ b < w.heap.size := by
  obtain ⟨j, v, h1, h2⟩ := hb
  obtain ⟨l, hl⟩ := get_of_lt (l := ls) (i := j) (by have := lt_of_get h1; have := h.len; omega)
  exact (h.own j v l h1 hl).lt b h2
theorem FldOwn.chg {M : Nat → Prop} {w w' : World} {base : Nat} {sl : List Value} {ls : List (List Int)} (h : FldOwn w base sl ls) (c : Chg M w w') (hM : ∀ b, FldB sl b → ¬ M b) : FldOwn w' base sl ls :=
  ⟨h.len, fun j v l hv hl => own_chg (h.own j v l hv hl) c fun b hb => hM b ⟨j, v, hv, hb⟩, h.ap⟩
theorem FldOwn.ext {w w' : World} {base : Nat} {sl : List Value} {ls : List (List Int)} (h : FldOwn w base sl ls) (c : Ext w w') : FldOwn w' base sl ls := h.chg c fun _ _ f => f
theorem fld_set {sl : List Value} {i : Nat} {v' : Value} (j : Nat) (u : Value) (hu : (sl.set i v')[j]? = some u) : (j = i ∧ u = v') ∨ (j ≠ i ∧ sl[j]? = some u) := by
  rw [List.getElem?_set] at hu
  split at hu
  · rename_i he
    split at hu
    · exact .inl ⟨he.symm, (Option.some.inj hu).symm⟩
    · cases hu
  · rename_i he
    exact .inr ⟨fun e => he e.symm, hu⟩
theorem fldB_set {sl : List Value} {i b : Nat} {v v' : Value} (hv : sl[i]? = some v) {hs : Nat} (W : ∀ k, v'.ownBlock = some k → v.ownBlock = some k ∨ hs ≤ k) (h : FldB (sl.set i v') b) : FldB sl b ∨ hs ≤ b := by
  obtain ⟨j, u, h1, h2⟩ := h
  rcases fld_set j u h1 with ⟨rfl, rfl⟩ | ⟨_, h3⟩
  · exact (W b h2).imp (fun h => ⟨j, v, hv, h⟩) id
  · exact .inl ⟨j, u, h3, h2⟩
theorem FldOwn.grow {w w' : World} {base i n hs : Nat} {sl : List Value} {ls : List (List Int)} {v v' : Value} {l' : List Int} (h : FldOwn w base sl ls) (hv : sl[i]? = some v)
    (O : w'.ownsRow base TDI 1 v' n (l'.map (Value.int .i64))) (hn : n = l'.length) {M : Nat → Prop} (C : Chg M w w') (hM : ∀ b, M b → v.ownBlock = some b ∨ b < base) (W : ∀ k, v'.ownBlock = some k → v.ownBlock = some k ∨ hs ≤ k) (hhs : hs = w.heap.size) : FldOwn w' base (sl.set i v') (ls.set i l') := by
  have hne : ∀ (j : Nat) u b, j ≠ i → sl[j]? = some u → u.ownBlock = some b → v.ownBlock ≠ some b ∧ v'.ownBlock ≠ some b := fun j u b hj hu hb => by
    have h1 : v.ownBlock ≠ some b := fun e => hj (h.ap j i u v b hu hv hb e)
    refine ⟨h1, fun e => ?_⟩
    rcases W b e with h2 | h2
    · exact h1 h2
    · have := (h.lt ⟨j, u, hu, hb⟩).2; omega
  refine ⟨by simp [h.len], ?_, ?_⟩
  · intro j u l hu hl
    rcases fld_set j u hu with ⟨rfl, rfl⟩ | ⟨h1, h2⟩
    · rw [List.getElem?_set, if_pos rfl, if_pos (by have := lt_of_get hv; have := h.len; omega)] at hl
      cases hl
      rw [hn] at O
      exact O
    · rw [List.getElem?_set, if_neg (fun e => h1 e.symm)] at hl
      exact own_chg (h.own j u l h2 hl) C fun b hb hm => (hM b hm).elim (hne j u b h1 h2 hb).1 (fun h3 => by have := ((h.own j u l h2 hl).lt b hb).1; omega)
  · intro p q u z b hu hz hb hb'
    rcases fld_set p u hu with ⟨rfl, rfl⟩ | ⟨h1, h2⟩ <;> rcases fld_set q z hz with ⟨rfl, rfl⟩ | ⟨h3, h4⟩
    · rfl
    · exact absurd hb (hne q z b h3 h4 hb').2
    · exact absurd hb' (hne p u b h1 h2 hb).2
    · exact h.ap p q u z b h2 h4 hb hb'
theorem FldOwn.start (w : World) (base : Nat) : FldOwn w base (List.replicate 4 (.slice none 0 0)) [[], [], [], []] := by
  have hv : ∀ (i : Nat) v, (List.replicate 4 (Value.slice none 0 0))[i]? = some v → v = .slice none 0 0 := fun i v h => (List.mem_replicate.1 (List.mem_of_getElem? h)).2
  refine ⟨rfl, fun j v l hv' hl => ?_, fun i j v u b h1 h2 h3 h4 => ?_⟩
  · rw [hv j v hv']
    have : l = [] := by
      have := List.mem_of_getElem? hl
      simpa using this
    subst this
    exact World.ownsRow_nil _ _ _ _
  · rw [hv i v h1] at h3; cases h3
def T4 (t : Tab) : List (List Int) := [t.acc, natV t.bs, t.ow, t.nx]
theorem rows4 {w : World} {b9 bq T : Nat} {n m : Int} (hB : Blk w bq #[.pointer (some ⟨b9, 2, none⟩), .int .i64 n, .pointer (some ⟨b9, 3, none⟩), .int .i64 n, .pointer (some ⟨b9, 4, none⟩), .int .i64 m, .pointer (some ⟨b9, 5, none⟩), .int .i64 m] T) {i : Nat} (hi : i < 4) :
    CellsAt w bq (0 + i * 2) [.pointer (some ⟨b9, 2 + i, none⟩), .int .i64 (if i < 2 then n else m)] := by
  match i, hi with
  | 0, _ => exact hB.cells rfl
  | 1, _ => exact hB.cells rfl
  | 2, _ => exact hB.cells rfl
  | 3, _ => exact hB.cells rfl
theorem T4_len {t : Tab} (hg : GoodT t) {i : Nat} {l : List Int} (h : (T4 t)[i]? = some l) : (if i < 2 then ((t.bs.length : Nat) : Int) else ((t.ow.length : Nat) : Int)) = ((l.length : Nat) : Int) := by
  have g6 := hg.nl; have g7 := hg.al
  match i, h with
  | 0, h => simp [T4] at h; subst h; simp; omega
  | 1, h => simp [T4] at h; subst h; simp [natV_len]
  | 2, h => simp [T4] at h; subst h; simp
  | 3, h => simp [T4] at h; subst h; simp; omega
  | i + 4, h => simp [T4] at h
theorem T4_mem {t : Tab} {i : Nat} {l : List Int} (h : (T4 t)[i]? = some l) : ∀ x ∈ l, x ∈ intsT t := by
  intro x hx
  match i, h with
  | 0, h => simp [T4] at h; subst h; simp [intsT, hx]
  | 1, h => simp [T4] at h; subst h; simp [intsT, hx]
  | 2, h => simp [T4] at h; subst h; simp [intsT, hx]
  | 3, h => simp [T4] at h; subst h; simp [intsT, hx]
  | i + 4, h => simp [T4] at h
theorem T4_next {t : Tab} {i : Nat} {l : List Int} (h : (T4 t)[i]? = some l) : ((T4 t).take i ++ List.replicate (4 - i) []).set i l = (T4 t).take (i + 1) ++ List.replicate (4 - (i + 1)) [] := by
  match i, h with
  | 0, h => simp [T4] at h; subst h; rfl
  | 1, h => simp [T4] at h; subst h; rfl
  | 2, h => simp [T4] at h; subst h; rfl
  | 3, h => simp [T4] at h; subst h; rfl
  | i + 4, h => simp [T4] at h
theorem T4_set0 {t : Tab} {i : Nat} (h : i < 4) : ((T4 t).take i ++ List.replicate (4 - i) []).set i [] = (T4 t).take i ++ List.replicate (4 - i) [] := by
  match i, h with
  | 0, _ => rfl
  | 1, _ => rfl
  | 2, _ => rfl
  | 3, _ => rfl
theorem tab_set {p q v : Value} {sl : List Value} {i : Nat} : ([p, q] ++ sl).toArray.setIfInBounds (2 + i) v = ([p, q] ++ sl.set i v).toArray := by
  rw [List.setIfInBounds_toArray, show 2 + i = i + 1 + 1 by omega]; rfl
theorem FldOwn.tab {w : World} {base : Nat} {sl : List Value} {t : Tab} (h : FldOwn w base sl (T4 t)) : ∃ aa ac ba bc oa oc na nc, sl = [.slice aa t.acc.length ac, .slice ba t.bs.length bc, .slice oa t.ow.length oc, .slice na t.nx.length nc] ∧
    TabAt w t [.int .i64 t.start, .int .i64 ((t.cols : Nat) : Int), .slice aa t.acc.length ac, .slice ba t.bs.length bc, .slice oa t.ow.length oc, .slice na t.nx.length nc] := by
  have hl : sl.length = 4 := h.len
  match sl, hl with
  | [a, b, c, d], _ =>
    have h1 := h.own 0 a _ rfl rfl
    have h2 := h.own 1 b _ rfl rfl
    have h3 := h.own 2 c _ rfl rfl
    have h4 := h.own 3 d _ rfl rfl
    obtain ⟨aa, ac, rfl⟩ := own_form h1
    obtain ⟨ba, bc, rfl⟩ := own_form h2
    obtain ⟨oa, oc, rfl⟩ := own_form h3
    obtain ⟨na, nc, rfl⟩ := own_form h4
    have i1 := own_intsD h1 rfl
    have i2 := own_intsD h2 rfl
    have i3 := own_intsD h3 rfl
    have i4 := own_intsD h4 rfl
    rw [natV_len] at i2 ⊢
    exact ⟨aa, ac, ba, bc, oa, oc, na, nc, rfl, aa, ac, ba, bc, oa, oc, na, nc, rfl, i1, i2, i3, i4⟩
theorem FldOwn.tabAt {w : World} {base : Nat} {t : Tab} {aa ba oa na : Option Addr} {ac bc oc nc : Nat} (h : FldOwn w base [.slice aa t.acc.length ac, .slice ba t.bs.length bc, .slice oa t.ow.length oc, .slice na t.nx.length nc] (T4 t)) :
    TabAt w t [.int .i64 t.start, .int .i64 ((t.cols : Nat) : Int), .slice aa t.acc.length ac, .slice ba t.bs.length bc, .slice oa t.ow.length oc, .slice na t.nx.length nc] := by
  obtain ⟨a1, c1, a2, c2, a3, c3, a4, c4, he, hT⟩ := h.tab
  simp only [List.cons.injEq, Value.slice.injEq, true_and, and_true] at he
  obtain ⟨⟨rfl, rfl⟩, ⟨rfl, rfl⟩, ⟨rfl, rfl⟩, rfl, rfl⟩ := he
  exact hT
abbrev TDfaT : Nat := 58
set_option maxHeartbeats 4000000 in
theorem read_c (w0 : World) (v : Value) (t : Tab) (h : ByAt w0 v (bytesT t)) (hg : GoodT t) (hW : ∀ x ∈ t.acc, x ≤ 9223372036854775807) :
    Ret Try.prog 43 #[v] w0 fun r w => (∃ vs, r = .tuple #[.agg (List.toArray vs), .int .i64 0] ∧ TabAt w t vs) ∧ Ext w0 w := by
  have h' := h
  obtain ⟨a, c, rfl⟩ := SlAt.form h'
  have hok := intsT_ok hg hW
  have hlen := intsT_len hg
  have hbl := SlAt.le h
  simp only [List.length_map] at h hbl ⊢
  have g1 := hg.n1; have g2 := hg.n2; have g3 := hg.c1; have g4 := hg.c2; have g5 := hg.ol; have g6 := hg.nl; have g7 := hg.al
  have hil4 : 4 ≤ (intsT t).length := by simp only [intsT, List.length_append, List.length_cons]; omega
  refine Ret_of Try.func43 rfl Try.ntmps43 (Nat.le_of_ble_eq_true rfl) ?_
  have E : Chg none1 w0 w0 := Chg.refl _ _
  refine Wp_seq_region ?_
  refine s_alloc (c := #[(.int .i64 0), (.int .i64 0), (.slice none 0 0), (.slice none 0 0), (.slice none 0 0), (.slice none 0 0)]) (by decide) zer58 rfl ?_
  intro br wr Nr
  have Fr := Nr.ge E
  replace E := E.ext Nr.ext
  have Br := Nr.blk
  refine WpL_val rfl rfl (by decide) (r_assign (v := (.int .i64 0)) rfl) ?_
  refine WpL_nil ?_
  refine Wp_seq_region ?_
  refine WpL_val rfl rfl (by decide) (r_assign (v := (.slice none 0 0)) rfl) ?_
  refine WpL_nil ?_
  refine Wp_seq ?_
  refine Wp_seq_region ?_
  refine WpL_val rfl rfl (by decide) (r_move (v := (.int .i64 0)) rfl) ?_
  refine WpL_nil ?_
  refine Wp_block ?_
  obtain ⟨n1, hn1⟩ : ∃ n1, n1 = (wr).heap.size := ⟨_, rfl⟩
  have hbr : br < n1 := by rw [hn1]; exact Br.lt
  have hn0 : w0.heap.size ≤ n1 := by rw [hn1]; exact E.size
  refine Wp_loop (fun nn_ σ W1 => ∃ (j : Nat) (ra : Option Addr) (rn rc : Nat) (la : Option Addr) (lc : Nat), (∃ jj_, σ = upds jj_ [(2, (.pointer (some ⟨br, 0, none⟩))), (15, (.int .i64 ((j : Nat) : Int))), (0, (.slice ra rn rc)), (4, (.slice la j lc))]) ∧ Chg none1 w0 W1 ∧ Blk W1 br #[(.int .i64 0), (.int .i64 0), (.slice none 0 0), (.slice none 0 0), (.slice none 0 0), (.slice none 0 0)] 58 ∧ (j ≤ 4) ∧ (ByAt w0 (.slice ra rn rc) (((intsT t).drop j).flatMap encI1)) ∧ (W1.ownsRow n1 TDI 1 (.slice la j lc) j (((intsT t).take j).map (Value.int .i64))) ∧ (n1 ≤ W1.heap.size) ∧ nn_ = 4 - j) (n := 4 - 0) ?_ ?_
  · exact ⟨0, a, (bytesT t).length, c, none, 0, Fits.out ⟨rfl, rfl, rfl, rfl, trivial⟩, E, Br, Nat.zero_le _, h, World.ownsRow_nil _ _ _ _, (by omega), rfl⟩
  · clear E Br
    rintro _ _ W1 ⟨j, ra, rn, rc, la, lc, ⟨j1, rfl⟩, E, Br, hj, hR, hO, hsz, rfl⟩
    refine Wp_seq_region ?_
    refine WpL_val rfl rfl (by decide) (r_lss (k := .i64) (a := ((j : Nat) : Int)) (b := 4) rfl rfl) ?_
    refine WpL_nil ?_
    refine Wp_seq ?_
    refine Wp_cond (b := decide ((((j : Nat) : Int) : Int) < 4)) rfl (fun hlt => ?_) (fun hlt => ?_)
    · have khlt := hlt
      replace hlt := of_decide_eq_true hlt
      obtain ⟨x, hx⟩ := get_of_lt (l := intsT t) (i := j) (by omega)
      have hxo := hok x (List.mem_of_getElem? hx)
      have hdr : (intsT t).drop j = x :: (intsT t).drop (j + 1) := drop_cons hx
      rw [hdr, List.flatMap_cons] at hR
      have hrl : rn = (encI1 x).length + (((intsT t).drop (j + 1)).flatMap encI1).length := by have h9 := (SlAt.cap hR).2; rw [List.length_map, List.length_append] at h9; omega
      have hrc2 := (SlAt.cap hR).1
      have hx1 := encN_pos (x + 1).toNat
      replace hx1 : 0 < (encI1 x).length := hx1
      obtain ⟨sz, hszx⟩ : ∃ sz, sz = (encI1 x).length := ⟨_, rfl⟩
      have hsz10 := encI1_len hxo.2
      have hn9 := number_x (W1) _ x _ (hR.ext E) hxo
      rw [← hszx] at hn9 hx1 hrl hsz10
      refine Wp_skip ?_
      refine thn_normal ?_
      refine Wp_seq ?_
      refine Wp_block ?_
      refine Wp_seq_region ?_
      refine WpL_val rfl rfl (by decide) (r_move (v := (.slice ra rn rc)) rfl) ?_
      refine WpL_enter rfl rfl (by decide) (r_callF (vs := [(.slice ra rn rc)]) Try.func84 nm84 bd84 rfl) (hn9) ?_
      rintro _ w19 ⟨rfl, X19⟩
      replace Br := X19.keep Br
      replace hO := own_ext hO X19
      replace hsz := Nat.le_trans hsz X19.size
      replace E := E.ext X19
      refine WpL_val rfl rfl (by decide) (r_move (v := (.tuple #[(.int .i64 x), (.int .i64 ((sz : Nat) : Int))])) rfl) ?_
      refine WpL_val rfl rfl (by decide) (r_extract (vs := #[(.int .i64 x), (.int .i64 ((sz : Nat) : Int))]) (v := (.int .i64 x)) rfl rfl) ?_
      refine WpL_val rfl rfl (by decide) (r_extract (vs := #[(.int .i64 x), (.int .i64 ((sz : Nat) : Int))]) (v := (.int .i64 ((sz : Nat) : Int))) rfl rfl) ?_
      refine WpL_val rfl rfl (by decide) (r_assign (v := (.int .i64 x)) rfl) ?_
      refine WpL_val rfl rfl (by decide) (r_assign (v := (.int .i64 ((sz : Nat) : Int))) rfl) ?_
      refine WpL_nil ?_
      refine Wp_seq ?_
      refine Wp_seq_region ?_
      refine WpL_val rfl rfl (by decide) (r_move (v := (.int .i64 ((sz : Nat) : Int))) rfl) ?_
      refine WpL_val rfl rfl (by decide) (r_eql (k := .i64) (a := ((sz : Nat) : Int)) (b := 0) rfl rfl) ?_
      refine WpL_nil ?_
      have hc3 : (decide ((((sz : Nat) : Int) : Int) = 0)) = false := decide_eq_false (by omega)
      refine Wp_cond_false (congrArg Value.bool hc3) ?_
      refine Wp_skip ?_
      refine thn_normal ?_
      obtain ⟨ra2, hra2⟩ : ∃ a', (if rc = sz then ra else ra.map (·.add (sz * 1))) = a' := ⟨_, rfl⟩
      obtain ⟨z0, hz0⟩ : ∃ z0, z0 = (w19).heap.size := ⟨_, rfl⟩
      have hz_4 : w0.heap.size ≤ w19.heap.size := E.size
      have lz_4_br : br < w19.heap.size := Br.lt
      obtain ⟨Fs4, hFs4⟩ : ∃ Fs : List FctS, Fs = [(fun _ _ v _ => v = (.slice la j lc)), (fun _ _ v _ => v = (.int .i64 x)), (fun _ _ => litF TDI #[.int .i64 x] z0), (fun _ _ => appF n1 TDI 1 (j + 1) (((intsT t).take j).map (Value.int .i64) ++ [.int .i64 x]) (.slice la j lc) z0), (fun _ _ v _ => v = (.slice ra rn rc)), (fun _ _ v _ => v = (.int .i64 ((sz : Nat) : Int))), (fun _ _ v _ => v = (.slice ra2 (rn - sz) (rc - sz))), (fun _ _ => appF n1 TDI 1 (j + 1) (((intsT t).take j).map (Value.int .i64) ++ [.int .i64 x]) (.slice la j lc) z0), (fun _ _ v _ => v = undef)] := ⟨_, rfl⟩
      refine Wp_dagS (MsL [(3, (fun y => (Value.slice la j lc).ownBlock = some y))]) [true, true, true, true, true, true, true, true, false] [8] [25, 26, 27, 28, 29, 30, 31, 4, 124] [[], [], [1], [0, 2], [], [], [4, 5], [0, 1, 2, 3], []] [[], [], [1], [0, 2, 1], [], [], [4, 5], [0, 1, 2, 3], []] Fs4 hFs4 (by kernel_rfl) mixed (by kernel_rfl) (by kernel_rfl) (by kernel_rfl) (by kernel_rfl) ?_ ?_
      · intro wd X0
        refine DagStepsS.cons (StabS.eq) (LocS.const) (fun S s' w' hi hN X U V H => Or.inl ⟨Guarded_none rfl, ?_⟩) ?_
        · replace X := X.mono (M' := none1) (fun y _ h => by
              obtain ⟨j, hj, h⟩ := h
              rcases MsL_or h with ⟨rfl, h0⟩ | h0
              · exact Bool.noConfusion (hj.symm.trans (hN 3 rfl))
              exact h0.elim)
          exact DoesT_pure (r_move (v := (.slice la j lc)) (V 7 4 rfl (hN 7 rfl))) rfl
        refine DagStepsS.cons (StabS.eq) (LocS.const) (fun S s' w' hi hN X U V H => Or.inl ⟨Guarded_none rfl, ?_⟩) ?_
        · replace X := X.mono (M' := none1) (fun y _ h => by
              obtain ⟨j, hj, h⟩ := h
              rcases MsL_or h with ⟨rfl, h0⟩ | h0
              · exact Bool.noConfusion (hj.symm.trans (hN 3 rfl))
              exact h0.elim)
          exact DoesT_pure (r_move (v := (.int .i64 x)) (U 5 rfl)) rfl
        refine DagStepsS.cons (StabS.chg (U := (fun y => (fun y => (Value.slice la j lc).ownBlock = some y) y)) (litF_chg (fun y h => by have := (hO.lt y h).2; omega)) (fun p y hp hw h => by
              rcases MsL_or h with ⟨rfl, h0⟩ | h0
              · exact h0
              exact h0.elim)) (LocS.const) (fun S s' w' hi hN X U V H => Or.inl ⟨Guarded_none rfl, ?_⟩) ?_
        · replace X := X.mono (M' := none1) (fun y _ h => by
              obtain ⟨j, hj, h⟩ := h
              rcases MsL_or h with ⟨rfl, h0⟩ | h0
              · exact Bool.noConfusion (hj.symm.trans (hN 3 rfl))
              exact h0.elim)
          have e26 : s' 26 = (.int .i64 x) := (H 1 rfl).2 26 (fun _ _ v _ => v = (.int .i64 x)) rfl (by rw [hFs4]; rfl)
          exact DoesT_lit (hs := z0) Try.underlying22 siz3 zer3 e26 (by decide) (by decide) (by kernel_rfl) (by have := X0.size; have := X.size; omega)
        refine DagStepsS.cons (StabS.chg (U := none1) (appF_ext _ _ _ _ _ _ _) (fun p y hp hw h => by
              rcases MsL_or h with ⟨rfl, h0⟩ | h0
              · exact absurd rfl hp
              exact h0.elim)) (LocS.const) (fun S s' w' hi hN X U V H => Or.inl ⟨Guarded_none rfl, ?_⟩) ?_
        · replace X := X.mono (M' := none1) (fun y _ h => by
              obtain ⟨j, hj, h⟩ := h
              rcases MsL_or h with ⟨rfl, h0⟩ | h0
              · exact Bool.noConfusion (hj.symm.trans hi)
              exact h0.elim)
          have e25 : s' 25 = (.slice la j lc) := (H 0 rfl).2 25 (fun _ _ v _ => v = (.slice la j lc)) rfl (by rw [hFs4]; rfl)
          obtain ⟨b27, e27, B27, g27⟩ := (show ((fun _ _ => litF TDI #[.int .i64 x] z0) : FctS) S s' (s' 27) w' from (H 2 rfl).2 27 (fun _ _ => litF TDI #[.int .i64 x] z0) rfl (by rw [hFs4]; rfl))
          exact DoesT_append (hs := z0) Try.underlying22 siz3 byt3 zer3 rfl (by decide) e25 (own_ext (own_ext hO X0) X) e27 rfl (B27.cells rfl) (by simp [Value.oneCell']) (by unfold maxLen; omega) (by omega) (by have := X0.size; have := X.size; omega) (fun y h => .inl ⟨rfl, h⟩) (by have := X0.size; have := X.size; omega)
        refine DagStepsS.cons (StabS.eq) (LocS.const) (fun S s' w' hi hN X U V H => Or.inl ⟨Guarded_none rfl, ?_⟩) ?_
        · replace X := X.mono (M' := (fun y => (fun y => (Value.slice la j lc).ownBlock = some y) y)) (fun y _ h => by
              obtain ⟨j, hj, h⟩ := h
              rcases MsL_or h with ⟨rfl, h0⟩ | h0
              · exact h0
              exact h0.elim)
          exact DoesT_pure (r_move (v := (.slice ra rn rc)) (U 0 rfl)) rfl
        refine DagStepsS.cons (StabS.eq) (LocS.const) (fun S s' w' hi hN X U V H => Or.inl ⟨Guarded_none rfl, ?_⟩) ?_
        · replace X := X.mono (M' := (fun y => (fun y => (Value.slice la j lc).ownBlock = some y) y)) (fun y _ h => by
              obtain ⟨j, hj, h⟩ := h
              rcases MsL_or h with ⟨rfl, h0⟩ | h0
              · exact h0
              exact h0.elim)
          exact DoesT_pure (r_move (v := (.int .i64 ((sz : Nat) : Int))) (U 6 rfl)) rfl
        refine DagStepsS.cons (StabS.eq) (LocS.const) (fun S s' w' hi hN X U V H => Or.inl ⟨Guarded_none rfl, ?_⟩) ?_
        · replace X := X.mono (M' := (fun y => (fun y => (Value.slice la j lc).ownBlock = some y) y)) (fun y _ h => by
              obtain ⟨j, hj, h⟩ := h
              rcases MsL_or h with ⟨rfl, h0⟩ | h0
              · exact h0
              exact h0.elim)
          have e29 : s' 29 = (.slice ra rn rc) := (H 4 rfl).2 29 (fun _ _ v _ => v = (.slice ra rn rc)) rfl (by rw [hFs4]; rfl)
          have e30 : s' 30 = (.int .i64 ((sz : Nat) : Int)) := (H 5 rfl).2 30 (fun _ _ v _ => v = (.int .i64 ((sz : Nat) : Int))) rfl (by rw [hFs4]; rfl)
          exact DoesT_pure (r_sliceLo (a := ra) (len := rn) (cap := rc) (lo := sz) (l := ((sz : Nat) : Int)) (n' := rn - sz) (c' := rc - sz) Try.underlying62 siz5 e29 e30 rfl (by omega) hra2 rfl rfl) rfl
        refine DagStepsS.cons (StabS.chg (U := none1) (appF_ext _ _ _ _ _ _ _) (fun p y hp hw h => by
              rcases MsL_or h with ⟨rfl, h0⟩ | h0
              · exact Bool.noConfusion (show true = false from hw)
              exact h0.elim)) (LocS.const) (fun S s' w' hi hN X U V H => Or.inl ⟨Guarded_none rfl, ?_⟩) ?_
        · replace X := X.mono (M' := (fun y => (fun y => (Value.slice la j lc).ownBlock = some y) y)) (fun y _ h => by
              obtain ⟨j, hj, h⟩ := h
              rcases MsL_or h with ⟨rfl, h0⟩ | h0
              · exact h0
              exact h0.elim)
          exact DoesT_pure (r_assign (v := s' 28) rfl) ((H 3 rfl).2 28 (fun _ _ => appF n1 TDI 1 (j + 1) (((intsT t).take j).map (Value.int .i64) ++ [.int .i64 x]) (.slice la j lc) z0) rfl (by rw [hFs4]; rfl))
        refine DagStepsS.tail ?_
        exact DagStepsS.nil
      · intro s' wd4 w4 X0 X4 U H
        replace X4 := X4.mono (M' := (fun y => (fun y => (Value.slice la j lc).ownBlock = some y) y)) (fun y _ h => by
            obtain ⟨j, hj, h⟩ := h
            rcases MsL_or h with ⟨rfl, h0⟩ | h0
            · exact h0
            exact h0.elim)
        obtain ⟨⟨a28, c28, e28⟩, O28, D28⟩ := (show ((fun _ _ => appF n1 TDI 1 (j + 1) (((intsT t).take j).map (Value.int .i64) ++ [.int .i64 x]) (.slice la j lc) z0) : FctS) (allS [true, true, true, true, true, true, true, true, false]) s' (s' 28) w4 from H 3 rfl 28 (fun _ _ => appF n1 TDI 1 (j + 1) (((intsT t).take j).map (Value.int .i64) ++ [.int .i64 x]) (.slice la j lc) z0) rfl (by rw [hFs4]; rfl))
        have e31 : s' 31 = (.slice ra2 (rn - sz) (rc - sz)) := H 6 rfl 31 (fun _ _ v _ => v = (.slice ra2 (rn - sz) (rc - sz))) rfl (by rw [hFs4]; rfl)
        obtain ⟨⟨a4, c4, e4⟩, O4, D4⟩ := (show ((fun _ _ => appF n1 TDI 1 (j + 1) (((intsT t).take j).map (Value.int .i64) ++ [.int .i64 x]) (.slice la j lc) z0) : FctS) (allS [true, true, true, true, true, true, true, true, false]) s' (s' 4) w4 from H 7 rfl 4 (fun _ _ => appF n1 TDI 1 (j + 1) (((intsT t).take j).map (Value.int .i64) ++ [.int .i64 x]) (.slice la j lc) z0) rfl (by rw [hFs4]; rfl))
        obtain ⟨j4, rfl⟩ := Fits.out (σ := s') (l := [(2, (.pointer (some ⟨br, 0, none⟩))), (15, (.int .i64 ((j : Nat) : Int))), (31, (.slice ra2 (rn - sz) (rc - sz))), (4, (.slice a4 (j + 1) c4))]) ⟨U 2 rfl, U 15 rfl, e31, e4, trivial⟩
        clear U H
        replace Br := Chg.keep X4 (fun h => by have := (hO.lt _ h).1; omega) (X0.keep Br)
        have hXm := X4
        replace E := (E.ext X0).step X4 (fun y hy h => by have := (hO.lt y h).1; omega)
        rw [e4] at O4
        refine WpL_val rfl rfl (by decide) (r_assign (v := (.slice ra2 (rn - sz) (rc - sz))) rfl) ?_
        refine WpL_nil ?_
        refine inB_normal ?_
        refine thn_normal ?_
        refine Wp_region ?_
        refine WpL_val rfl rfl (by decide) (r_add (k := .i64) (a := ((j : Nat) : Int)) (b := 1) (c := ((j : Nat) : Int) + 1) rfl rfl (wI64 (by omega))) ?_
        refine WpL_val rfl rfl (by decide) (r_move (v := (.int .i64 (((j : Nat) : Int) + 1))) rfl) ?_
        refine WpL_nil ?_
        refine thn_normal ?_
        exact ⟨4 - (j + 1), by omega, j + 1, ra2, rn - sz, rc - sz, a4, c4, Fits.out ⟨rfl, rfl, rfl, rfl, trivial⟩, E, Br, (by omega), by_cut hR hszx.symm hra2 rfl rfl, (by rw [take_snoc' hx, List.map_append]; exact O4), Nat.le_trans hsz (Nat.le_trans X0.size hXm.size), rfl⟩
    · have khlt := hlt
      replace hlt := of_decide_eq_false hlt
      have hj4 : j = 4 := by omega
      subst hj4
      have ht4 : (intsT t).take 4 = [t.start, ((t.cols : Nat) : Int), ((t.bs.length : Nat) : Int), ((t.ow.length : Nat) : Int)] := rfl
      have hd4 : (intsT t).drop 4 = t.acc ++ (natV t.bs ++ (t.ow ++ t.nx)) := rfl
      rw [ht4] at hO
      rw [hd4] at hR
      obtain ⟨sb, rfl, hsb1, hsc⟩ := own_cells hO (by omega)
      refine Wp_exit ?_
      refine thn_exit ?_
      refine thn_exit ?_
      refine inB_here ?_
      refine thn_normal ?_
      have hz_5 : w0.heap.size ≤ W1.heap.size := E.size
      have lz_5_br : br < W1.heap.size := Br.lt
      refine Wp_seq ?_
      obtain ⟨Fs5, hFs5⟩ : ∃ Fs : List FctS, Fs = [(fun _ _ v _ => v = (.slice (some ⟨sb, 0, none⟩) 4 lc)), (fun _ _ v _ => v = (.pointer (some ⟨sb, 2, none⟩))), (fun _ _ v _ => v = (.int .i64 ((t.bs.length : Nat) : Int))), (fun _ _ v _ => v = (.slice (some ⟨sb, 0, none⟩) 4 lc)), (fun _ _ v _ => v = (.pointer (some ⟨sb, 3, none⟩))), (fun _ _ v _ => v = (.int .i64 ((t.ow.length : Nat) : Int))), (fun _ _ v _ => v = (.int .i64 ((t.bs.length : Nat) : Int))), (fun _ _ v _ => v = undef)] := ⟨_, rfl⟩
      refine Wp_dagS (MsL []) [true, true, true, true, true, true, true, false] [7] [33, 34, 35, 36, 37, 38, 7, 123] [[], [0], [1], [], [3], [4], [0, 1, 2], []] [[], [0], [1, 0], [], [3], [4, 3], [0, 1, 2], []] Fs5 hFs5 (by kernel_rfl) mixed (by kernel_rfl) (by kernel_rfl) (by kernel_rfl) (by kernel_rfl) ?_ ?_
      · intro wd X0
        refine DagStepsS.cons (StabS.eq) (LocS.const) (fun S s' w' hi hN X U V H => Or.inl ⟨Guarded_none rfl, ?_⟩) ?_
        · replace X := X.mono (M' := none1) (fun y _ h => by
              obtain ⟨j, hj, h⟩ := h
              exact h.elim)
          exact DoesT_pure (r_move (v := (.slice (some ⟨sb, 0, none⟩) 4 lc)) (U 4 rfl)) rfl
        refine DagStepsS.cons (StabS.eq) (LocS.const) (fun S s' w' hi hN X U V H => Or.inl ⟨Guarded_none rfl, ?_⟩) ?_
        · replace X := X.mono (M' := none1) (fun y _ h => by
              obtain ⟨j, hj, h⟩ := h
              exact h.elim)
          have e33 : s' 33 = (.slice (some ⟨sb, 0, none⟩) 4 lc) := (H 0 rfl).2 33 (fun _ _ v _ => v = (.slice (some ⟨sb, 0, none⟩) 4 lc)) rfl (by rw [hFs5]; rfl)
          exact DoesT_pure (r_indexSlice (b := sb) (o := 0) (len := 4) (cap := lc) (i := 2) (o' := 2) e33 rfl rfl Try.underlying22 siz3 (by omega) (by omega)) rfl
        refine DagStepsS.cons (StabS.eq) (LocS.const) (fun S s' w' hi hN X U V H => Or.inl ⟨Guarded_none rfl, ?_⟩) ?_
        · replace X := X.mono (M' := none1) (fun y _ h => by
              obtain ⟨j, hj, h⟩ := h
              exact h.elim)
          have e34 : s' 34 = (.pointer (some ⟨sb, 2, none⟩)) := (H 1 rfl).2 34 (fun _ _ v _ => v = (.pointer (some ⟨sb, 2, none⟩))) rfl (by rw [hFs5]; rfl)
          exact DoesT_pure (r_load (v := (.int .i64 ((t.bs.length : Nat) : Int))) e34 flat3 ((Ext.trans X0 X).cell (hsc 2 _ rfl))) rfl
        refine DagStepsS.cons (StabS.eq) (LocS.const) (fun S s' w' hi hN X U V H => Or.inl ⟨Guarded_none rfl, ?_⟩) ?_
        · replace X := X.mono (M' := none1) (fun y _ h => by
              obtain ⟨j, hj, h⟩ := h
              exact h.elim)
          exact DoesT_pure (r_move (v := (.slice (some ⟨sb, 0, none⟩) 4 lc)) (U 4 rfl)) rfl
        refine DagStepsS.cons (StabS.eq) (LocS.const) (fun S s' w' hi hN X U V H => Or.inl ⟨Guarded_none rfl, ?_⟩) ?_
        · replace X := X.mono (M' := none1) (fun y _ h => by
              obtain ⟨j, hj, h⟩ := h
              exact h.elim)
          have e36 : s' 36 = (.slice (some ⟨sb, 0, none⟩) 4 lc) := (H 3 rfl).2 36 (fun _ _ v _ => v = (.slice (some ⟨sb, 0, none⟩) 4 lc)) rfl (by rw [hFs5]; rfl)
          exact DoesT_pure (r_indexSlice (b := sb) (o := 0) (len := 4) (cap := lc) (i := 3) (o' := 3) e36 rfl rfl Try.underlying22 siz3 (by omega) (by omega)) rfl
        refine DagStepsS.cons (StabS.eq) (LocS.const) (fun S s' w' hi hN X U V H => Or.inl ⟨Guarded_none rfl, ?_⟩) ?_
        · replace X := X.mono (M' := none1) (fun y _ h => by
              obtain ⟨j, hj, h⟩ := h
              exact h.elim)
          have e37 : s' 37 = (.pointer (some ⟨sb, 3, none⟩)) := (H 4 rfl).2 37 (fun _ _ v _ => v = (.pointer (some ⟨sb, 3, none⟩))) rfl (by rw [hFs5]; rfl)
          exact DoesT_pure (r_load (v := (.int .i64 ((t.ow.length : Nat) : Int))) e37 flat3 ((Ext.trans X0 X).cell (hsc 3 _ rfl))) rfl
        refine DagStepsS.cons (StabS.eq) (LocS.const) (fun S s' w' hi hN X U V H => Or.inl ⟨Guarded_none rfl, ?_⟩) ?_
        · replace X := X.mono (M' := none1) (fun y _ h => by
              obtain ⟨j, hj, h⟩ := h
              exact h.elim)
          have e35 : s' 35 = (.int .i64 ((t.bs.length : Nat) : Int)) := (H 2 rfl).2 35 (fun _ _ v _ => v = (.int .i64 ((t.bs.length : Nat) : Int))) rfl (by rw [hFs5]; rfl)
          exact DoesT_pure (r_assign (v := (.int .i64 ((t.bs.length : Nat) : Int))) e35) rfl
        refine DagStepsS.tail ?_
        exact DagStepsS.nil
      · intro s' wd5 w5 X0 X5 U H
        replace X5 := X5.mono (M' := none1) (fun y _ h => by
            obtain ⟨j, hj, h⟩ := h
            exact h.elim)
        have e38 : s' 38 = (.int .i64 ((t.ow.length : Nat) : Int)) := H 5 rfl 38 (fun _ _ v _ => v = (.int .i64 ((t.ow.length : Nat) : Int))) rfl (by rw [hFs5]; rfl)
        have e7 : s' 7 = (.int .i64 ((t.bs.length : Nat) : Int)) := H 6 rfl 7 (fun _ _ v _ => v = (.int .i64 ((t.bs.length : Nat) : Int))) rfl (by rw [hFs5]; rfl)
        obtain ⟨j5, rfl⟩ := Fits.out (σ := s') (l := [(0, (.slice ra rn rc)), (2, (.pointer (some ⟨br, 0, none⟩))), (4, (.slice (some ⟨sb, 0, none⟩) 4 lc)), (38, (.int .i64 ((t.ow.length : Nat) : Int))), (7, (.int .i64 ((t.bs.length : Nat) : Int)))]) ⟨U 0 rfl, U 2 rfl, U 4 rfl, e38, e7, trivial⟩
        clear U H
        replace Br := (X0.trans X5).keep Br
        replace X5 := X0.trans X5
        have hXn := X5
        replace E := E.ext X5
        replace hsc := hsc.ext hXn
        refine WpL_val rfl rfl (by decide) (r_assign (v := (.int .i64 ((t.ow.length : Nat) : Int))) rfl) ?_
        refine WpL_nil ?_
        refine thn_normal ?_
        refine Wp_seq ?_
        refine Wp_seq_region ?_
        refine WpL_val rfl rfl (by decide) (r_move (v := (.int .i64 ((t.bs.length : Nat) : Int))) rfl) ?_
        obtain ⟨e6, he6⟩ : ∃ e, (decide ((((t.bs.length : Nat) : Int) : Int) < 0)) = e := ⟨_, rfl⟩
        refine WpL_val rfl rfl (by decide) ((r_lss (k := .i64) (a := ((t.bs.length : Nat) : Int)) (b := 0) rfl rfl).trans (by rw [he6]; try rfl)) ?_
        refine WpL_val rfl rfl (by decide) (r_move (v := (.bool e6)) rfl) ?_
        refine WpL_guard_any (oj := _) (gv := (.bool e6)) (u := (bif e6 then undef else (.int .i64 ((t.ow.length : Nat) : Int)))) rfl rfl (by decide) (by decide) rfl (by cases e6 <;> first | exact Or.inr ⟨Or.inl rfl, rfl⟩ | exact Or.inr ⟨Or.inr rfl, rfl⟩ | exact Or.inl ⟨rfl, r_move (v := (.int .i64 ((t.ow.length : Nat) : Int))) rfl⟩) ?_
        obtain ⟨e7, he7⟩ : ∃ e, (decide ((((t.ow.length : Nat) : Int) : Int) < 0)) = e := ⟨_, rfl⟩
        refine WpL_guard_any (oj := _) (gv := (.bool e6)) (u := (bif e6 then undef else (.bool e7))) rfl rfl (by decide) (by decide) rfl (by cases e6 <;> first | exact Or.inr ⟨Or.inl rfl, rfl⟩ | exact Or.inr ⟨Or.inr rfl, rfl⟩ | exact Or.inl ⟨rfl, (r_lss (k := .i64) (a := ((t.ow.length : Nat) : Int)) (b := 0) rfl rfl).trans (by rw [he7]; try rfl)⟩) ?_
        obtain ⟨e8, he8⟩ : ∃ e, (e6 || e7) = e := ⟨_, rfl⟩
        refine WpL_val rfl rfl (by decide) (r_pick (b := e6) (v := .bool e8) rfl (by rw [← he8]; cases e6 <;> rfl)) ?_
        refine WpL_nil ?_
        subst he8
        subst he7
        subst he6
        have hc9 : (((decide ((((t.bs.length : Nat) : Int) : Int) < 0)) || (decide ((((t.ow.length : Nat) : Int) : Int) < 0)))) = false := by simp only [Bool.or_eq_false_iff, decide_eq_false_iff_not]; omega
        refine Wp_cond_false (congrArg Value.bool hc9) ?_
        refine Wp_skip ?_
        refine thn_normal ?_
        refine Wp_seq ?_
        refine Wp_seq_region ?_
        refine WpL_val rfl rfl (by decide) (r_move (v := (.int .i64 ((t.bs.length : Nat) : Int))) rfl) ?_
        obtain ⟨e10, he10⟩ : ∃ e, (decide ((200 : Int) < ((t.bs.length : Nat) : Int))) = e := ⟨_, rfl⟩
        refine WpL_val rfl rfl (by decide) ((r_gtr (k := .i64) (a := ((t.bs.length : Nat) : Int)) (b := 200) rfl rfl).trans (by rw [he10]; try rfl)) ?_
        refine WpL_val rfl rfl (by decide) (r_move (v := (.bool e10)) rfl) ?_
        refine WpL_guard_any (oj := _) (gv := (.bool e10)) (u := (bif e10 then undef else (.int .i64 ((t.ow.length : Nat) : Int)))) rfl rfl (by decide) (by decide) rfl (by cases e10 <;> first | exact Or.inr ⟨Or.inl rfl, rfl⟩ | exact Or.inr ⟨Or.inr rfl, rfl⟩ | exact Or.inl ⟨rfl, r_move (v := (.int .i64 ((t.ow.length : Nat) : Int))) rfl⟩) ?_
        obtain ⟨e11, he11⟩ : ∃ e, (decide ((3200 : Int) < ((t.ow.length : Nat) : Int))) = e := ⟨_, rfl⟩
        refine WpL_guard_any (oj := _) (gv := (.bool e10)) (u := (bif e10 then undef else (.bool e11))) rfl rfl (by decide) (by decide) rfl (by cases e10 <;> first | exact Or.inr ⟨Or.inl rfl, rfl⟩ | exact Or.inr ⟨Or.inr rfl, rfl⟩ | exact Or.inl ⟨rfl, (r_gtr (k := .i64) (a := ((t.ow.length : Nat) : Int)) (b := 3200) rfl rfl).trans (by rw [he11]; try rfl)⟩) ?_
        obtain ⟨e12, he12⟩ : ∃ e, (e10 || e11) = e := ⟨_, rfl⟩
        refine WpL_val rfl rfl (by decide) (r_pick (b := e10) (v := .bool e12) rfl (by rw [← he12]; cases e10 <;> rfl)) ?_
        refine WpL_nil ?_
        subst he12
        subst he11
        subst he10
        have hc13 : (((decide ((200 : Int) < ((t.bs.length : Nat) : Int))) || (decide ((3200 : Int) < ((t.ow.length : Nat) : Int))))) = false := by simp only [Bool.or_eq_false_iff, decide_eq_false_iff_not]; omega
        refine Wp_cond_false (congrArg Value.bool hc13) ?_
        refine Wp_skip ?_
        refine thn_normal ?_
        have hz_14 : w0.heap.size ≤ w5.heap.size := E.size
        have lz_14_br : br < w5.heap.size := Br.lt
        refine Wp_seq ?_
        obtain ⟨Fs14, hFs14⟩ : ∃ Fs : List FctS, Fs = [(fun _ _ v _ => v = (.slice (some ⟨sb, 0, none⟩) 4 lc)), (fun _ _ v _ => v = (.pointer (some ⟨sb, 0, none⟩))), (fun _ _ v _ => v = (.int .i64 t.start)), (fun _ _ v _ => v = (.slice (some ⟨sb, 0, none⟩) 4 lc)), (fun _ _ v _ => v = (.pointer (some ⟨sb, 1, none⟩))), (fun _ _ v _ => v = (.int .i64 ((t.cols : Nat) : Int))), (fun _ _ v _ => v = (.agg #[(.int .i64 t.start), (.int .i64 ((t.cols : Nat) : Int)), (.slice none 0 0), (.slice none 0 0), (.slice none 0 0), (.slice none 0 0)])), (fun _ _ => alF 58 #[(.int .i64 0), (.int .i64 0), (.slice none 0 0), (.slice none 0 0), (.slice none 0 0), (.slice none 0 0)] w5.heap.size), (fun _ _ v _ => v = undef)] := ⟨_, rfl⟩
        refine Wp_dagS (MsL []) [true, true, true, true, true, true, true, true, false] [8] [53, 54, 55, 56, 57, 58, 59, 9, 124] [[], [0], [1], [], [3], [4], [2, 5], [], []] [[], [0], [1, 0], [], [3], [4, 3], [2, 1, 0, 5, 4, 3], [], []] Fs14 hFs14 (by kernel_rfl) mixed (by kernel_rfl) (by kernel_rfl) (by kernel_rfl) (by kernel_rfl) ?_ ?_
        · intro wd X0
          refine DagStepsS.cons (StabS.eq) (LocS.const) (fun S s' w' hi hN X U V H => Or.inl ⟨Guarded_none rfl, ?_⟩) ?_
          · replace X := X.mono (M' := none1) (fun y _ h => by
                obtain ⟨j, hj, h⟩ := h
                exact h.elim)
            exact DoesT_pure (r_move (v := (.slice (some ⟨sb, 0, none⟩) 4 lc)) (U 4 rfl)) rfl
          refine DagStepsS.cons (StabS.eq) (LocS.const) (fun S s' w' hi hN X U V H => Or.inl ⟨Guarded_none rfl, ?_⟩) ?_
          · replace X := X.mono (M' := none1) (fun y _ h => by
                obtain ⟨j, hj, h⟩ := h
                exact h.elim)
            have e53 : s' 53 = (.slice (some ⟨sb, 0, none⟩) 4 lc) := (H 0 rfl).2 53 (fun _ _ v _ => v = (.slice (some ⟨sb, 0, none⟩) 4 lc)) rfl (by rw [hFs14]; rfl)
            exact DoesT_pure (r_indexSlice (b := sb) (o := 0) (len := 4) (cap := lc) (i := 0) (o' := 0) e53 rfl rfl Try.underlying22 siz3 (by omega) (by omega)) rfl
          refine DagStepsS.cons (StabS.eq) (LocS.const) (fun S s' w' hi hN X U V H => Or.inl ⟨Guarded_none rfl, ?_⟩) ?_
          · replace X := X.mono (M' := none1) (fun y _ h => by
                obtain ⟨j, hj, h⟩ := h
                exact h.elim)
            have e54 : s' 54 = (.pointer (some ⟨sb, 0, none⟩)) := (H 1 rfl).2 54 (fun _ _ v _ => v = (.pointer (some ⟨sb, 0, none⟩))) rfl (by rw [hFs14]; rfl)
            exact DoesT_pure (r_load (v := (.int .i64 t.start)) e54 flat3 ((Ext.trans X0 X).cell (hsc 0 _ rfl))) rfl
          refine DagStepsS.cons (StabS.eq) (LocS.const) (fun S s' w' hi hN X U V H => Or.inl ⟨Guarded_none rfl, ?_⟩) ?_
          · replace X := X.mono (M' := none1) (fun y _ h => by
                obtain ⟨j, hj, h⟩ := h
                exact h.elim)
            exact DoesT_pure (r_move (v := (.slice (some ⟨sb, 0, none⟩) 4 lc)) (U 4 rfl)) rfl
          refine DagStepsS.cons (StabS.eq) (LocS.const) (fun S s' w' hi hN X U V H => Or.inl ⟨Guarded_none rfl, ?_⟩) ?_
          · replace X := X.mono (M' := none1) (fun y _ h => by
                obtain ⟨j, hj, h⟩ := h
                exact h.elim)
            have e56 : s' 56 = (.slice (some ⟨sb, 0, none⟩) 4 lc) := (H 3 rfl).2 56 (fun _ _ v _ => v = (.slice (some ⟨sb, 0, none⟩) 4 lc)) rfl (by rw [hFs14]; rfl)
            exact DoesT_pure (r_indexSlice (b := sb) (o := 0) (len := 4) (cap := lc) (i := 1) (o' := 1) e56 rfl rfl Try.underlying22 siz3 (by omega) (by omega)) rfl
          refine DagStepsS.cons (StabS.eq) (LocS.const) (fun S s' w' hi hN X U V H => Or.inl ⟨Guarded_none rfl, ?_⟩) ?_
          · replace X := X.mono (M' := none1) (fun y _ h => by
                obtain ⟨j, hj, h⟩ := h
                exact h.elim)
            have e57 : s' 57 = (.pointer (some ⟨sb, 1, none⟩)) := (H 4 rfl).2 57 (fun _ _ v _ => v = (.pointer (some ⟨sb, 1, none⟩))) rfl (by rw [hFs14]; rfl)
            exact DoesT_pure (r_load (v := (.int .i64 ((t.cols : Nat) : Int))) e57 flat3 ((Ext.trans X0 X).cell (hsc 1 _ rfl))) rfl
          refine DagStepsS.cons (StabS.eq) (LocS.const) (fun S s' w' hi hN X U V H => Or.inl ⟨Guarded_none rfl, ?_⟩) ?_
          · replace X := X.mono (M' := none1) (fun y _ h => by
                obtain ⟨j, hj, h⟩ := h
                exact h.elim)
            have e55 : s' 55 = (.int .i64 t.start) := (H 2 rfl).2 55 (fun _ _ v _ => v = (.int .i64 t.start)) rfl (by rw [hFs14]; rfl)
            have e58 : s' 58 = (.int .i64 ((t.cols : Nat) : Int)) := (H 5 rfl).2 58 (fun _ _ v _ => v = (.int .i64 ((t.cols : Nat) : Int))) rfl (by rw [hFs14]; rfl)
            exact DoesT_pure (r_build (ps := [(0, (.int .i64 t.start)), (1, (.int .i64 ((t.cols : Nat) : Int)))]) (v := (.agg #[(.int .i64 t.start), (.int .i64 ((t.cols : Nat) : Int)), (.slice none 0 0), (.slice none 0 0), (.slice none 0 0), (.slice none 0 0)])) (bld2 e55 e58) (by kernel_rfl)) rfl
          refine DagStepsS.cons (StabS.chg (U := none1) (fun v w w' x h => alF_ext _ _ _ v w w' x h) (fun p y hp hw h => by
                exact h.elim)) (LocS.const) (fun S s' w' hi hN X U V H => Or.inl ⟨Guarded_none rfl, ?_⟩) ?_
          · replace X := X.mono (M' := none1) (fun y _ h => by
                obtain ⟨j, hj, h⟩ := h
                exact h.elim)
            exact DoesT_alloc (c := #[(.int .i64 0), (.int .i64 0), (.slice none 0 0), (.slice none 0 0), (.slice none 0 0), (.slice none 0 0)]) zer58 rfl (by have := X0.size; have := X.size; omega)
          refine DagStepsS.tail ?_
          exact DagStepsS.nil
        · intro s' wd14 w14 X0 X14 U H
          replace X14 := X14.mono (M' := none1) (fun y _ h => by
              obtain ⟨j, hj, h⟩ := h
              exact h.elim)
          have e59 : s' 59 = (.agg #[(.int .i64 t.start), (.int .i64 ((t.cols : Nat) : Int)), (.slice none 0 0), (.slice none 0 0), (.slice none 0 0), (.slice none 0 0)]) := H 6 rfl 59 (fun _ _ v _ => v = (.agg #[(.int .i64 t.start), (.int .i64 ((t.cols : Nat) : Int)), (.slice none 0 0), (.slice none 0 0), (.slice none 0 0), (.slice none 0 0)])) rfl (by rw [hFs14]; rfl)
          obtain ⟨b9, e9, B9, g9⟩ := (show ((fun _ _ => alF 58 #[(.int .i64 0), (.int .i64 0), (.slice none 0 0), (.slice none 0 0), (.slice none 0 0), (.slice none 0 0)] w5.heap.size) : FctS) (allS [true, true, true, true, true, true, true, true, false]) s' (s' 9) w14 from H 7 rfl 9 (fun _ _ => alF 58 #[(.int .i64 0), (.int .i64 0), (.slice none 0 0), (.slice none 0 0), (.slice none 0 0), (.slice none 0 0)] w5.heap.size) rfl (by rw [hFs14]; rfl))
          obtain ⟨j14, rfl⟩ := Fits.out (σ := s') (l := [(0, (.slice ra rn rc)), (2, (.pointer (some ⟨br, 0, none⟩))), (7, (.int .i64 ((t.bs.length : Nat) : Int))), (8, (.int .i64 ((t.ow.length : Nat) : Int))), (59, (.agg #[(.int .i64 t.start), (.int .i64 ((t.cols : Nat) : Int)), (.slice none 0 0), (.slice none 0 0), (.slice none 0 0), (.slice none 0 0)])), (9, (.pointer (some ⟨b9, 0, none⟩)))]) ⟨U 0 rfl, U 2 rfl, U 7 rfl, U 8 rfl, e59, e9, trivial⟩
          clear U H
          replace Br := (X0.trans X14).keep Br
          replace X14 := X0.trans X14
          replace E := E.ext X14
          refine s_storeAgg (b := b9) (o := 0) (c' := #[(.int .i64 t.start), (.int .i64 ((t.cols : Nat) : Int)), (.slice none 0 0), (.slice none 0 0), (.slice none 0 0), (.slice none 0 0)]) rfl rfl (by simp [Value.oneCell']) siz58 rfl B9 (by simp) rfl ?_
          intro w15 S15
          replace Br := S15.keep (by omega) Br
          replace E := S15.step E (by first | exact Or.inl (by omega) | exact Or.inr rfl | exact Or.inr (by assumption) | exact Or.inr (by simp) | exact Or.inr (by omega) | exact Or.inr (by dsimp only; omega))
          replace B9 := S15.blk
          refine WpL_nil ?_
          refine thn_normal ?_
          refine Wp_seq ?_
          refine Wp_seq_region ?_
          refine WpL_val rfl rfl (by decide) (r_fieldAddr (b := b9) (o := 0) (o' := 2) rfl Try.underlying58 rfl siz22 rfl) ?_
          refine WpL_val rfl rfl (by decide) (r_move (v := (.int .i64 ((t.bs.length : Nat) : Int))) rfl) ?_
          refine WpL_val rfl rfl (by decide) (r_build (ps := [(0, (.pointer (some ⟨b9, 2, none⟩))), (1, (.int .i64 ((t.bs.length : Nat) : Int)))]) (v := (.agg #[(.pointer (some ⟨b9, 2, none⟩)), (.int .i64 ((t.bs.length : Nat) : Int))])) rfl (by kernel_rfl)) ?_
          refine WpL_val rfl rfl (by decide) (r_fieldAddr (b := b9) (o := 0) (o' := 3) rfl Try.underlying58 rfl siz22 rfl) ?_
          refine WpL_val rfl rfl (by decide) (r_move (v := (.int .i64 ((t.bs.length : Nat) : Int))) rfl) ?_
          refine WpL_val rfl rfl (by decide) (r_build (ps := [(0, (.pointer (some ⟨b9, 3, none⟩))), (1, (.int .i64 ((t.bs.length : Nat) : Int)))]) (v := (.agg #[(.pointer (some ⟨b9, 3, none⟩)), (.int .i64 ((t.bs.length : Nat) : Int))])) rfl (by kernel_rfl)) ?_
          refine WpL_val rfl rfl (by decide) (r_fieldAddr (b := b9) (o := 0) (o' := 4) rfl Try.underlying58 rfl siz22 rfl) ?_
          refine WpL_val rfl rfl (by decide) (r_move (v := (.int .i64 ((t.ow.length : Nat) : Int))) rfl) ?_
          refine WpL_val rfl rfl (by decide) (r_build (ps := [(0, (.pointer (some ⟨b9, 4, none⟩))), (1, (.int .i64 ((t.ow.length : Nat) : Int)))]) (v := (.agg #[(.pointer (some ⟨b9, 4, none⟩)), (.int .i64 ((t.ow.length : Nat) : Int))])) rfl (by kernel_rfl)) ?_
          refine WpL_val rfl rfl (by decide) (r_fieldAddr (b := b9) (o := 0) (o' := 5) rfl Try.underlying58 rfl siz22 rfl) ?_
          refine WpL_val rfl rfl (by decide) (r_move (v := (.int .i64 ((t.ow.length : Nat) : Int))) rfl) ?_
          refine WpL_val rfl rfl (by decide) (r_build (ps := [(0, (.pointer (some ⟨b9, 5, none⟩))), (1, (.int .i64 ((t.ow.length : Nat) : Int)))]) (v := (.agg #[(.pointer (some ⟨b9, 5, none⟩)), (.int .i64 ((t.ow.length : Nat) : Int))])) rfl (by kernel_rfl)) ?_
          refine s_buildSlice (ps := [(0, (.agg #[(.pointer (some ⟨b9, 2, none⟩)), (.int .i64 ((t.bs.length : Nat) : Int))])), (1, (.agg #[(.pointer (some ⟨b9, 3, none⟩)), (.int .i64 ((t.bs.length : Nat) : Int))])), (2, (.agg #[(.pointer (some ⟨b9, 4, none⟩)), (.int .i64 ((t.ow.length : Nat) : Int))])), (3, (.agg #[(.pointer (some ⟨b9, 5, none⟩)), (.int .i64 ((t.ow.length : Nat) : Int))]))]) (c := #[(.pointer (some ⟨b9, 2, none⟩)), (.int .i64 ((t.bs.length : Nat) : Int)), (.pointer (some ⟨b9, 3, none⟩)), (.int .i64 ((t.bs.length : Nat) : Int)), (.pointer (some ⟨b9, 4, none⟩)), (.int .i64 ((t.ow.length : Nat) : Int)), (.pointer (some ⟨b9, 5, none⟩)), (.int .i64 ((t.ow.length : Nat) : Int))]) (by decide) rfl Try.underlying115 siz114 zer114 (by decide) (by decide) (by kernel_rfl) ?_
          intro bq wq Nq
          have Fq := Nq.ge E
          have Oq_br := Nq.lt Br
          have Oq_b9 := Nq.lt B9
          replace Br := Nq.keep Br
          replace B9 := Nq.keep B9
          replace E := E.ext Nq.ext
          have Bq := Nq.blk
          refine WpL_val rfl rfl (by decide) (r_lenSlice (ad := some ⟨bq, 0, none⟩) (n := 4) (cap := 4) Try.underlying115 rfl) ?_
          refine WpL_val rfl rfl (by decide) (r_move (v := (.int .i64 0)) rfl) ?_
          refine WpL_nil ?_
          refine Wp_block ?_
          obtain ⟨n2, hn2⟩ : ∃ n2, n2 = (wq).heap.size := ⟨_, rfl⟩
          have hb9 : b9 < n2 ∧ bq < n2 ∧ br < n2 := ⟨by rw [hn2]; exact B9.lt, by rw [hn2]; exact Bq.lt, by rw [hn2]; exact Br.lt⟩
          have hn20 : w0.heap.size ≤ n2 := by rw [hn2]; exact E.size
          refine Wp_loop (fun nn_ σ W16 => ∃ (i : Nat) (ra : Option Addr) (rn rc : Nat) (sl : List Value), (∃ jj_, σ = upds jj_ [(2, (.pointer (some ⟨br, 0, none⟩))), (9, (.pointer (some ⟨b9, 0, none⟩))), (72, (.slice (some ⟨bq, 0, none⟩) 4 4)), (73, (.int .i64 4)), (74, (.int .i64 ((i : Nat) : Int))), (0, (.slice ra rn rc))]) ∧ Chg none1 w0 W16 ∧ Blk W16 br #[(.int .i64 0), (.int .i64 0), (.slice none 0 0), (.slice none 0 0), (.slice none 0 0), (.slice none 0 0)] 58 ∧ Blk W16 b9 (([Value.int .i64 t.start, Value.int .i64 ((t.cols : Nat) : Int)] ++ sl).toArray) 58 ∧ Blk W16 bq #[(.pointer (some ⟨b9, 2, none⟩)), (.int .i64 ((t.bs.length : Nat) : Int)), (.pointer (some ⟨b9, 3, none⟩)), (.int .i64 ((t.bs.length : Nat) : Int)), (.pointer (some ⟨b9, 4, none⟩)), (.int .i64 ((t.ow.length : Nat) : Int)), (.pointer (some ⟨b9, 5, none⟩)), (.int .i64 ((t.ow.length : Nat) : Int))] 114 ∧ (i ≤ 4) ∧ (ByAt w0 (.slice ra rn rc) ((((T4 t).drop i).flatten).flatMap encI1)) ∧ (FldOwn W16 n2 sl ((T4 t).take i ++ List.replicate (4 - i) [])) ∧ (n2 ≤ W16.heap.size) ∧ nn_ = 4 - i) (n := 4 - 0) ?_ ?_
          · exact ⟨0, ra, rn, rc, List.replicate 4 (.slice none 0 0), Fits.out ⟨rfl, rfl, rfl, rfl, rfl, rfl, trivial⟩, E, Br, B9, Bq, Nat.zero_le _, (by rw [show ((T4 t).drop 0).flatten = t.acc ++ (natV t.bs ++ (t.ow ++ t.nx)) by simp [T4]]; exact hR), FldOwn.start _ _, (by omega), rfl⟩
          · clear E Br B9 Bq
            rintro _ _ W16 ⟨i, ra, rn, rc, sl, ⟨j16, rfl⟩, E, Br, B9, Bq, hi, hR, hF, hsz, rfl⟩
            refine Wp_seq_region ?_
            refine WpL_val rfl rfl (by decide) (r_lss (k := .i64) (a := ((i : Nat) : Int)) (b := 4) rfl rfl) ?_
            refine WpL_nil ?_
            refine Wp_seq ?_
            refine Wp_cond (b := decide ((((i : Nat) : Int) : Int) < 4)) rfl (fun hlt => ?_) (fun hlt => ?_)
            · have khlt := hlt
              replace hlt := of_decide_eq_true hlt
              obtain ⟨T, hT⟩ := get_of_lt (l := T4 t) (i := i) (by show i < 4; omega)
              have hcl := T4_len hg hT
              have hr4 := rows4 Bq (i := i) (by omega)
              rw [hcl] at hr4
              have hdT := drop_cons hT
              rw [hdT, List.flatten_cons] at hR
              refine Wp_skip ?_
              refine thn_normal ?_
              refine Wp_seq ?_
              refine Wp_block ?_
              refine Wp_seq_region ?_
              refine WpL_val rfl rfl (by decide) (r_indexSlice (b := bq) (o := 0) (len := 4) (cap := 4) (i := i) (o' := 0 + i * 2) rfl rfl rfl Try.underlying115 siz114 (by omega) (by omega)) ?_
              refine WpL_val rfl rfl (by decide) (r_loadAgg (vs := [(.pointer (some ⟨b9, 2 + i, none⟩)), (.int .i64 ((T.length : Nat) : Int))]) rfl agg114 siz114 rfl (hr4)) ?_
              obtain ⟨z1, hz1⟩ : ∃ z1, z1 = (W16).heap.size := ⟨_, rfl⟩
              have hz1l : ∀ b, FldB sl b → b < z1 := fun b hb => by rw [hz1]; exact (hF.lt hb).2
              have hz1b : b9 < z1 ∧ bq < z1 ∧ br < z1 := ⟨by rw [hz1]; exact B9.lt, by rw [hz1]; exact Bq.lt, by rw [hz1]; exact Br.lt⟩
              have hz1n : n2 ≤ z1 := by omega
              refine s_allocStore (v := (.agg #[(.pointer (some ⟨b9, 2 + i, none⟩)), (.int .i64 ((T.length : Nat) : Int))])) (c := #[(.pointer (some ⟨b9, 2 + i, none⟩)), (.int .i64 ((T.length : Nat) : Int))]) (n := 2) (by decide) zer114 rfl siz114 rfl rfl rfl (by simp [Value.oneCell']) ?_
              intro bu wu Nu
              have Fu := Nu.ge E
              have Ou_br := Nu.lt Br
              have Ou_b9 := Nu.lt B9
              have Ou_bq := Nu.lt Bq
              replace Br := Nu.keep Br
              replace B9 := Nu.keep B9
              replace Bq := Nu.keep Bq
              replace hF := hF.ext Nu.ext
              replace hsz := Nat.le_trans hsz Nu.ext.size
              replace E := E.ext Nu.ext
              have Bu := Nu.blk
              refine WpL_nil ?_
              refine Wp_seq_region ?_
              refine WpL_val rfl rfl (by decide) (r_fieldAddr (b := bu) (o := 0) (o' := 1) rfl Try.underlying114 rfl siz3 rfl) ?_
              refine WpL_val rfl rfl (by decide) (r_load (v := (.int .i64 ((T.length : Nat) : Int))) rfl flat3 (Bu.cell rfl)) ?_
              refine WpL_val rfl rfl (by decide) (r_move (v := (.int .i64 0)) rfl) ?_
              refine WpL_nil ?_
              refine Wp_block ?_
              have hbuz : z1 ≤ bu := by have := Nu.eq; omega
              refine Wp_loop (fun nn_ σ W18 => ∃ (k : Nat) (ra : Option Addr) (rn rc : Nat) (sl : List Value), (∃ jj_, σ = upds jj_ [(2, (.pointer (some ⟨br, 0, none⟩))), (9, (.pointer (some ⟨b9, 0, none⟩))), (11, (.pointer (some ⟨bu, 0, none⟩))), (72, (.slice (some ⟨bq, 0, none⟩) 4 4)), (73, (.int .i64 4)), (74, (.int .i64 ((i : Nat) : Int))), (79, (.int .i64 ((T.length : Nat) : Int))), (80, (.int .i64 ((k : Nat) : Int))), (0, (.slice ra rn rc))]) ∧ Chg none1 w0 W18 ∧ Blk W18 br #[(.int .i64 0), (.int .i64 0), (.slice none 0 0), (.slice none 0 0), (.slice none 0 0), (.slice none 0 0)] 58 ∧ Blk W18 b9 (([Value.int .i64 t.start, Value.int .i64 ((t.cols : Nat) : Int)] ++ sl).toArray) 58 ∧ Blk W18 bq #[(.pointer (some ⟨b9, 2, none⟩)), (.int .i64 ((t.bs.length : Nat) : Int)), (.pointer (some ⟨b9, 3, none⟩)), (.int .i64 ((t.bs.length : Nat) : Int)), (.pointer (some ⟨b9, 4, none⟩)), (.int .i64 ((t.ow.length : Nat) : Int)), (.pointer (some ⟨b9, 5, none⟩)), (.int .i64 ((t.ow.length : Nat) : Int))] 114 ∧ Blk W18 bu #[(.pointer (some ⟨b9, 2 + i, none⟩)), (.int .i64 ((T.length : Nat) : Int))] 114 ∧ (k ≤ T.length) ∧ (ByAt w0 (.slice ra rn rc) ((T.drop k ++ ((T4 t).drop (i + 1)).flatten).flatMap encI1)) ∧ (FldOwn W18 n2 sl (((T4 t).take i ++ List.replicate (4 - i) []).set i (T.take k))) ∧ (∀ b, FldB sl b → b ≠ bu) ∧ (n2 ≤ W18.heap.size) ∧ nn_ = T.length - k) (n := T.length - 0) ?_ ?_
              · exact ⟨0, ra, rn, rc, sl, Fits.out ⟨rfl, rfl, rfl, rfl, rfl, rfl, rfl, rfl, rfl, trivial⟩, E, Br, B9, Bq, Bu, Nat.zero_le _, hR, (by rw [List.take_zero, T4_set0 (by omega)]; exact hF), (fun b hb e => by have := hz1l b hb; omega), hsz, rfl⟩
              · clear E Br B9 Bq Bu
                rintro _ _ W18 ⟨k, ra, rn, rc, sl, ⟨j18, rfl⟩, E, Br, B9, Bq, Bu, hk, hR, hF, hap, hsz, rfl⟩
                refine Wp_seq_region ?_
                refine WpL_val rfl rfl (by decide) (r_lss (k := .i64) (a := ((k : Nat) : Int)) (b := ((T.length : Nat) : Int)) rfl rfl) ?_
                refine WpL_nil ?_
                refine Wp_seq ?_
                refine Wp_cond (b := decide ((((k : Nat) : Int) : Int) < ((T.length : Nat) : Int))) rfl (fun hlt2 => ?_) (fun hlt2 => ?_)
                · have khlt2 := hlt2
                  replace hlt2 := of_decide_eq_true hlt2
                  obtain ⟨x, hx⟩ := get_of_lt (l := T) (i := k) (by omega)
                  have hxo := hok x (T4_mem hT x (List.mem_of_getElem? hx))
                  rw [drop_cons hx, List.cons_append, List.flatMap_cons] at hR
                  have hrl : rn = (encI1 x).length + ((T.drop (k + 1) ++ ((T4 t).drop (i + 1)).flatten).flatMap encI1).length := by have h9 := (SlAt.cap hR).2; rw [List.length_map, List.length_append] at h9; omega
                  have hrc2 := (SlAt.cap hR).1
                  have hx1 := encN_pos (x + 1).toNat
                  replace hx1 : 0 < (encI1 x).length := hx1
                  obtain ⟨sz, hszx⟩ : ∃ sz, sz = (encI1 x).length := ⟨_, rfl⟩
                  have hsz10 := encI1_len hxo.2
                  have hn9 := number_x (W18) _ x _ (hR.ext E) hxo
                  rw [← hszx] at hn9 hx1 hrl hsz10
                  refine Wp_skip ?_
                  refine thn_normal ?_
                  refine Wp_seq ?_
                  refine Wp_block ?_
                  refine Wp_seq_region ?_
                  refine WpL_val rfl rfl (by decide) (r_move (v := (.slice ra rn rc)) rfl) ?_
                  refine WpL_enter rfl rfl (by decide) (r_callF (vs := [(.slice ra rn rc)]) Try.func84 nm84 bd84 rfl) (hn9) ?_
                  rintro _ w19 ⟨rfl, X19⟩
                  replace Br := X19.keep Br
                  replace B9 := X19.keep B9
                  replace Bq := X19.keep Bq
                  replace Bu := X19.keep Bu
                  replace hF := hF.ext X19
                  replace hsz := Nat.le_trans hsz X19.size
                  replace E := E.ext X19
                  refine WpL_val rfl rfl (by decide) (r_move (v := (.tuple #[(.int .i64 x), (.int .i64 ((sz : Nat) : Int))])) rfl) ?_
                  refine WpL_val rfl rfl (by decide) (r_extract (vs := #[(.int .i64 x), (.int .i64 ((sz : Nat) : Int))]) (v := (.int .i64 x)) rfl rfl) ?_
                  refine WpL_val rfl rfl (by decide) (r_extract (vs := #[(.int .i64 x), (.int .i64 ((sz : Nat) : Int))]) (v := (.int .i64 ((sz : Nat) : Int))) rfl rfl) ?_
                  refine WpL_val rfl rfl (by decide) (r_assign (v := (.int .i64 x)) rfl) ?_
                  refine WpL_val rfl rfl (by decide) (r_assign (v := (.int .i64 ((sz : Nat) : Int))) rfl) ?_
                  refine WpL_nil ?_
                  refine Wp_seq ?_
                  refine Wp_seq_region ?_
                  refine WpL_val rfl rfl (by decide) (r_move (v := (.int .i64 ((sz : Nat) : Int))) rfl) ?_
                  refine WpL_val rfl rfl (by decide) (r_eql (k := .i64) (a := ((sz : Nat) : Int)) (b := 0) rfl rfl) ?_
                  refine WpL_nil ?_
                  have hc20 : (decide ((((sz : Nat) : Int) : Int) = 0)) = false := decide_eq_false (by omega)
                  refine Wp_cond_false (congrArg Value.bool hc20) ?_
                  refine Wp_skip ?_
                  refine thn_normal ?_
                  obtain ⟨ra2, hra2⟩ : ∃ a', (if rc = sz then ra else ra.map (·.add (sz * 1))) = a' := ⟨_, rfl⟩
                  obtain ⟨z0, hz0⟩ : ∃ z0, z0 = (w19).heap.size := ⟨_, rfl⟩
                  have hslen : sl.length = 4 := by rw [hF.len, List.length_set, List.length_append, List.length_take, List.length_replicate]; show min i 4 + _ = 4; omega
                  obtain ⟨vi, hvi⟩ := get_of_lt (l := sl) (i := i) (by omega)
                  have hlsi : (((T4 t).take i ++ List.replicate (4 - i) []).set i (T.take k))[i]? = some (T.take k) := by rw [List.getElem?_set, if_pos rfl, if_pos (by rw [List.length_append, List.length_take, List.length_replicate]; show i < min i 4 + _; omega)]
                  have hOi := hF.own i vi _ hvi hlsi
                  obtain ⟨va, vc, rfl⟩ := own_form hOi
                  rw [List.length_take, Nat.min_eq_left hk] at hOi hvi
                  have hc9 : ([Value.int .i64 t.start, Value.int .i64 ((t.cols : Nat) : Int)] ++ sl).toArray[2 + i]? = some (.slice va k vc) := by rw [List.getElem?_toArray, List.getElem?_append_right (by simp), show 2 + i - [Value.int .i64 t.start, Value.int .i64 ((t.cols : Nat) : Int)].length = i by simp]; exact hvi
                  have hvb : ∀ b, (Value.slice va k vc).ownBlock = some b → n2 ≤ b ∧ b < z0 ∧ b ≠ bu := fun b hb => ⟨(hOi.lt b hb).1, by rw [hz0]; exact (hOi.lt b hb).2, hap b ⟨i, _, hvi, hb⟩⟩
                  have hqz : bu < z0 ∧ bq < z0 := ⟨by rw [hz0]; exact Bu.lt, by rw [hz0]; exact Bq.lt⟩
                  have hTl : T.length ≤ 3200 := by have h8 := T4_len hg hT; split at h8 <;> omega
                  have hz_21 : w0.heap.size ≤ w19.heap.size := E.size
                  have lz_21_br : br < w19.heap.size := Br.lt
                  have lz_21_b9 : b9 < w19.heap.size := B9.lt
                  have lz_21_bq : bq < w19.heap.size := Bq.lt
                  have lz_21_bu : bu < w19.heap.size := Bu.lt
                  obtain ⟨Fs21, hFs21⟩ : ∃ Fs : List FctS, Fs = [(fun _ _ v _ => v = (.pointer (some ⟨bu, 0, none⟩))), (fun _ _ v _ => v = (.pointer (some ⟨b9, 2 + i, none⟩))), (fun _ _ v _ => v = (.pointer (some ⟨bu, 0, none⟩))), (fun _ _ v _ => v = (.pointer (some ⟨b9, 2 + i, none⟩))), (fun _ _ v _ => v = (.pointer (some ⟨b9, 2 + i, none⟩))), (fun _ _ v _ => v = (.slice va k vc)), (fun _ _ v _ => v = (.int .i64 x)), (fun _ _ => litF TDI #[.int .i64 x] z0), (fun _ _ => appF n2 TDI 1 (k + 1) ((T.take k).map (Value.int .i64) ++ [.int .i64 x]) (.slice va k vc) z0), (fun _ _ v _ => v = (.slice ra rn rc)), (fun _ _ v _ => v = (.int .i64 ((sz : Nat) : Int))), (fun _ _ v _ => v = (.slice ra2 (rn - sz) (rc - sz))), (fun _ _ v _ => v = (.pointer (some ⟨b9, 2 + i, none⟩))), (fun S s v w => Blk w b9 (([Value.int .i64 t.start, Value.int .i64 ((t.cols : Nat) : Int)] ++ sl.set i (s 98)).toArray) TDfaT), (fun _ _ v _ => v = undef)] := ⟨_, rfl⟩
                  refine Wp_dagS (MsL [(8, (fun y => (Value.slice va k vc).ownBlock = some y)), (13, (fun y => y = b9))]) [true, true, true, true, true, true, true, true, true, true, true, true, true, true, false] [14] [90, 91, 92, 93, 94, 95, 96, 97, 98, 99, 100, 101, 102, 129, 130] [[], [0], [], [2], [3], [4], [], [6], [5, 7], [], [], [9, 10], [0, 1, 2, 3, 4, 5, 6, 7, 8], [0, 1, 2, 3, 4, 5, 6, 7, 8, 12], []] [[], [0], [], [2], [3, 2], [4, 3, 2], [], [6], [5, 4, 3, 2, 7, 6], [], [], [9, 10], [0, 1, 2, 3, 4, 5, 6, 7, 8], [0, 1, 2, 3, 4, 5, 6, 7, 8, 12], []] Fs21 hFs21 (by kernel_rfl) mixed (by kernel_rfl) (by kernel_rfl) (by kernel_rfl) (by kernel_rfl) ?_ ?_
                  · intro wd X0
                    refine DagStepsS.cons (StabS.eq) (LocS.const) (fun S s' w' hi hN X U V H => Or.inl ⟨Guarded_none rfl, ?_⟩) ?_
                    · replace X := X.mono (M' := (fun y => (fun y => (Value.slice va k vc).ownBlock = some y) y)) (fun y _ h => by
                          obtain ⟨j, hj, h⟩ := h
                          rcases MsL_or h with ⟨rfl, h0⟩ | h0
                          · exact h0
                          rcases MsL_or h0 with ⟨rfl, h1⟩ | h1
                          · exact Bool.noConfusion (hj.symm.trans (hN 13 rfl))
                          exact h1.elim)
                      exact DoesT_pure (r_fieldAddr (b := bu) (o := 0) (o' := 0) (U 11 rfl) Try.underlying114 rfl siz113 rfl) rfl
                    refine DagStepsS.cons (StabS.eq) (LocS.const) (fun S s' w' hi hN X U V H => Or.inl ⟨Guarded_none rfl, ?_⟩) ?_
                    · replace X := X.mono (M' := (fun y => (fun y => (Value.slice va k vc).ownBlock = some y) y)) (fun y _ h => by
                          obtain ⟨j, hj, h⟩ := h
                          rcases MsL_or h with ⟨rfl, h0⟩ | h0
                          · exact h0
                          rcases MsL_or h0 with ⟨rfl, h1⟩ | h1
                          · exact Bool.noConfusion (hj.symm.trans (hN 13 rfl))
                          exact h1.elim)
                      have e90 : s' 90 = (.pointer (some ⟨bu, 0, none⟩)) := (H 0 rfl).2 90 (fun _ _ v _ => v = (.pointer (some ⟨bu, 0, none⟩))) rfl (by rw [hFs21]; rfl)
                      exact DoesT_pure (r_load (v := (.pointer (some ⟨b9, 2 + i, none⟩))) e90 flat113 ((Chg.keep X (fun h => (hvb _ h).2.2 rfl) (X0.keep Bu)).cell rfl)) rfl
                    refine DagStepsS.cons (StabS.eq) (LocS.const) (fun S s' w' hi hN X U V H => Or.inl ⟨Guarded_none rfl, ?_⟩) ?_
                    · replace X := X.mono (M' := none1) (fun y _ h => by
                          obtain ⟨j, hj, h⟩ := h
                          rcases MsL_or h with ⟨rfl, h0⟩ | h0
                          · exact Bool.noConfusion (hj.symm.trans (hN 8 rfl))
                          rcases MsL_or h0 with ⟨rfl, h1⟩ | h1
                          · exact Bool.noConfusion (hj.symm.trans (hN 13 rfl))
                          exact h1.elim)
                      exact DoesT_pure (r_fieldAddr (b := bu) (o := 0) (o' := 0) (U 11 rfl) Try.underlying114 rfl siz113 rfl) rfl
                    refine DagStepsS.cons (StabS.eq) (LocS.const) (fun S s' w' hi hN X U V H => Or.inl ⟨Guarded_none rfl, ?_⟩) ?_
                    · replace X := X.mono (M' := none1) (fun y _ h => by
                          obtain ⟨j, hj, h⟩ := h
                          rcases MsL_or h with ⟨rfl, h0⟩ | h0
                          · exact Bool.noConfusion (hj.symm.trans (hN 8 rfl))
                          rcases MsL_or h0 with ⟨rfl, h1⟩ | h1
                          · exact Bool.noConfusion (hj.symm.trans (hN 13 rfl))
                          exact h1.elim)
                      have e92 : s' 92 = (.pointer (some ⟨bu, 0, none⟩)) := (H 2 rfl).2 92 (fun _ _ v _ => v = (.pointer (some ⟨bu, 0, none⟩))) rfl (by rw [hFs21]; rfl)
                      exact DoesT_pure (r_load (v := (.pointer (some ⟨b9, 2 + i, none⟩))) e92 flat113 (((X0.trans X).keep Bu).cell rfl)) rfl
                    refine DagStepsS.cons (StabS.eq) (LocS.const) (fun S s' w' hi hN X U V H => Or.inl ⟨Guarded_none rfl, ?_⟩) ?_
                    · replace X := X.mono (M' := none1) (fun y _ h => by
                          obtain ⟨j, hj, h⟩ := h
                          rcases MsL_or h with ⟨rfl, h0⟩ | h0
                          · exact Bool.noConfusion (hj.symm.trans (hN 8 rfl))
                          rcases MsL_or h0 with ⟨rfl, h1⟩ | h1
                          · exact Bool.noConfusion (hj.symm.trans (hN 13 rfl))
                          exact h1.elim)
                      have e93 : s' 93 = (.pointer (some ⟨b9, 2 + i, none⟩)) := (H 3 rfl).2 93 (fun _ _ v _ => v = (.pointer (some ⟨b9, 2 + i, none⟩))) rfl (by rw [hFs21]; rfl)
                      exact DoesT_pure (r_nilCheck (a := ⟨b9, 2 + i, none⟩) e93) rfl
                    refine DagStepsS.cons (StabS.eq) (LocS.const) (fun S s' w' hi hN X U V H => Or.inl ⟨Guarded_none rfl, ?_⟩) ?_
                    · replace X := X.mono (M' := none1) (fun y _ h => by
                          obtain ⟨j, hj, h⟩ := h
                          rcases MsL_or h with ⟨rfl, h0⟩ | h0
                          · exact Bool.noConfusion (hj.symm.trans (hN 8 rfl))
                          rcases MsL_or h0 with ⟨rfl, h1⟩ | h1
                          · exact Bool.noConfusion (hj.symm.trans (hN 13 rfl))
                          exact h1.elim)
                      have e94 : s' 94 = (.pointer (some ⟨b9, 2 + i, none⟩)) := (H 4 rfl).2 94 (fun _ _ v _ => v = (.pointer (some ⟨b9, 2 + i, none⟩))) rfl (by rw [hFs21]; rfl)
                      exact DoesT_pure (r_load (v := (.slice va k vc)) e94 flat22 ((Ext.trans X0 X).cell (B9.cell hc9))) rfl
                    refine DagStepsS.cons (StabS.eq) (LocS.const) (fun S s' w' hi hN X U V H => Or.inl ⟨Guarded_none rfl, ?_⟩) ?_
                    · replace X := X.mono (M' := none1) (fun y _ h => by
                          obtain ⟨j, hj, h⟩ := h
                          rcases MsL_or h with ⟨rfl, h0⟩ | h0
                          · exact Bool.noConfusion (hj.symm.trans (hN 8 rfl))
                          rcases MsL_or h0 with ⟨rfl, h1⟩ | h1
                          · exact Bool.noConfusion (hj.symm.trans (hN 13 rfl))
                          exact h1.elim)
                      exact DoesT_pure (r_move (v := (.int .i64 x)) (U 12 rfl)) rfl
                    refine DagStepsS.cons (StabS.chg (U := (fun y => (fun y => (Value.slice va k vc).ownBlock = some y) y ∨ ((fun y => y = b9) y))) (litF_chg (fun y h => h.elim (fun h => (hvb y h).2.1) (fun h => by have h' : y = b9 := h; omega))) (fun p y hp hw h => by
                          rcases MsL_or h with ⟨rfl, h0⟩ | h0
                          · exact (Or.inl h0)
                          rcases MsL_or h0 with ⟨rfl, h1⟩ | h1
                          · exact (Or.inr h1)
                          exact h1.elim)) (LocS.const) (fun S s' w' hi hN X U V H => Or.inl ⟨Guarded_none rfl, ?_⟩) ?_
                    · replace X := X.mono (M' := none1) (fun y _ h => by
                          obtain ⟨j, hj, h⟩ := h
                          rcases MsL_or h with ⟨rfl, h0⟩ | h0
                          · exact Bool.noConfusion (hj.symm.trans (hN 8 rfl))
                          rcases MsL_or h0 with ⟨rfl, h1⟩ | h1
                          · exact Bool.noConfusion (hj.symm.trans (hN 13 rfl))
                          exact h1.elim)
                      have e96 : s' 96 = (.int .i64 x) := (H 6 rfl).2 96 (fun _ _ v _ => v = (.int .i64 x)) rfl (by rw [hFs21]; rfl)
                      exact DoesT_lit (hs := z0) Try.underlying22 siz3 zer3 e96 (by decide) (by decide) (by kernel_rfl) (by have := X0.size; have := X.size; omega)
                    refine DagStepsS.cons (StabS.chg (U := (fun y => (fun y => y = b9) y)) (appF_chg (fun y hy h => by have h' : y = b9 := h; omega)) (fun p y hp hw h => by
                          rcases MsL_or h with ⟨rfl, h0⟩ | h0
                          · exact absurd rfl hp
                          rcases MsL_or h0 with ⟨rfl, h1⟩ | h1
                          · exact h1
                          exact h1.elim)) (LocS.const) (fun S s' w' hi hN X U V H => Or.inl ⟨Guarded_none rfl, ?_⟩) ?_
                    · replace X := X.mono (M' := none1) (fun y _ h => by
                          obtain ⟨j, hj, h⟩ := h
                          rcases MsL_or h with ⟨rfl, h0⟩ | h0
                          · exact Bool.noConfusion (hj.symm.trans hi)
                          rcases MsL_or h0 with ⟨rfl, h1⟩ | h1
                          · exact Bool.noConfusion (hj.symm.trans (hN 13 rfl))
                          exact h1.elim)
                      have e95 : s' 95 = (.slice va k vc) := (H 5 rfl).2 95 (fun _ _ v _ => v = (.slice va k vc)) rfl (by rw [hFs21]; rfl)
                      obtain ⟨b97, e97, B97, g97⟩ := (show ((fun _ _ => litF TDI #[.int .i64 x] z0) : FctS) S s' (s' 97) w' from (H 7 rfl).2 97 (fun _ _ => litF TDI #[.int .i64 x] z0) rfl (by rw [hFs21]; rfl))
                      exact DoesT_append (hs := z0) Try.underlying22 siz3 byt3 zer3 rfl (by decide) e95 (own_ext (own_ext hOi X0) X) e97 rfl (B97.cells rfl) (by simp [Value.oneCell']) (by unfold maxLen; omega) (by omega) (by have := X0.size; have := X.size; omega) (fun y h => .inl ⟨rfl, h⟩) (by have := X0.size; have := X.size; omega)
                    refine DagStepsS.cons (StabS.eq) (LocS.const) (fun S s' w' hi hN X U V H => Or.inl ⟨Guarded_none rfl, ?_⟩) ?_
                    · replace X := X.mono (M' := (fun y => (fun y => (Value.slice va k vc).ownBlock = some y) y ∨ ((fun y => y = b9) y))) (fun y _ h => by
                          obtain ⟨j, hj, h⟩ := h
                          rcases MsL_or h with ⟨rfl, h0⟩ | h0
                          · exact (Or.inl h0)
                          rcases MsL_or h0 with ⟨rfl, h1⟩ | h1
                          · exact (Or.inr h1)
                          exact h1.elim)
                      exact DoesT_pure (r_move (v := (.slice ra rn rc)) (U 0 rfl)) rfl
                    refine DagStepsS.cons (StabS.eq) (LocS.const) (fun S s' w' hi hN X U V H => Or.inl ⟨Guarded_none rfl, ?_⟩) ?_
                    · replace X := X.mono (M' := (fun y => (fun y => (Value.slice va k vc).ownBlock = some y) y ∨ ((fun y => y = b9) y))) (fun y _ h => by
                          obtain ⟨j, hj, h⟩ := h
                          rcases MsL_or h with ⟨rfl, h0⟩ | h0
                          · exact (Or.inl h0)
                          rcases MsL_or h0 with ⟨rfl, h1⟩ | h1
                          · exact (Or.inr h1)
                          exact h1.elim)
                      exact DoesT_pure (r_move (v := (.int .i64 ((sz : Nat) : Int))) (U 13 rfl)) rfl
                    refine DagStepsS.cons (StabS.eq) (LocS.const) (fun S s' w' hi hN X U V H => Or.inl ⟨Guarded_none rfl, ?_⟩) ?_
                    · replace X := X.mono (M' := (fun y => (fun y => (Value.slice va k vc).ownBlock = some y) y ∨ ((fun y => y = b9) y))) (fun y _ h => by
                          obtain ⟨j, hj, h⟩ := h
                          rcases MsL_or h with ⟨rfl, h0⟩ | h0
                          · exact (Or.inl h0)
                          rcases MsL_or h0 with ⟨rfl, h1⟩ | h1
                          · exact (Or.inr h1)
                          exact h1.elim)
                      have e99 : s' 99 = (.slice ra rn rc) := (H 9 rfl).2 99 (fun _ _ v _ => v = (.slice ra rn rc)) rfl (by rw [hFs21]; rfl)
                      have e100 : s' 100 = (.int .i64 ((sz : Nat) : Int)) := (H 10 rfl).2 100 (fun _ _ v _ => v = (.int .i64 ((sz : Nat) : Int))) rfl (by rw [hFs21]; rfl)
                      exact DoesT_pure (r_sliceLo (a := ra) (len := rn) (cap := rc) (lo := sz) (l := ((sz : Nat) : Int)) (n' := rn - sz) (c' := rc - sz) Try.underlying62 siz5 e99 e100 rfl (by omega) hra2 rfl rfl) rfl
                    refine DagStepsS.cons (StabS.eq) (LocS.const) (fun S s' w' hi hN X U V H => Or.inl ⟨Guarded_none rfl, ?_⟩) ?_
                    · replace X := X.mono (M' := (fun y => (fun y => (Value.slice va k vc).ownBlock = some y) y)) (fun y _ h => by
                          obtain ⟨j, hj, h⟩ := h
                          rcases MsL_or h with ⟨rfl, h0⟩ | h0
                          · exact h0
                          rcases MsL_or h0 with ⟨rfl, h1⟩ | h1
                          · exact Bool.noConfusion (hj.symm.trans (hN 13 rfl))
                          exact h1.elim)
                      have e91 : s' 91 = (.pointer (some ⟨b9, 2 + i, none⟩)) := (H 1 rfl).2 91 (fun _ _ v _ => v = (.pointer (some ⟨b9, 2 + i, none⟩))) rfl (by rw [hFs21]; rfl)
                      exact DoesT_pure (r_nilCheck (a := ⟨b9, 2 + i, none⟩) e91) rfl
                    refine DagStepsS.cons (fun p hp hw S σ v w w' _ _ x h => x.keep (fun h => by rcases MsL_or h with ⟨rfl, _⟩ | h; exact Bool.noConfusion (show true = false from hw); rcases MsL_or h with ⟨rfl, _⟩ | h; exact hp rfl; exact h) h) (fun S s1 s2 h v w h2 => by have h9 := h 8 98 rfl rfl; rw [h9]; exact h2) (fun S s' w' hi hN X U V H => Or.inl ⟨Guarded_none rfl, ?_⟩) ?_
                    · replace X := X.mono (M' := (fun y => (fun y => (Value.slice va k vc).ownBlock = some y) y)) (fun y _ h => by
                          obtain ⟨j, hj, h⟩ := h
                          rcases MsL_or h with ⟨rfl, h0⟩ | h0
                          · exact h0
                          rcases MsL_or h0 with ⟨rfl, h1⟩ | h1
                          · exact Bool.noConfusion (hj.symm.trans hi)
                          exact h1.elim)
                      have e102 : s' 102 = (.pointer (some ⟨b9, 2 + i, none⟩)) := (H 12 rfl).2 102 (fun _ _ v _ => v = (.pointer (some ⟨b9, 2 + i, none⟩))) rfl (by rw [hFs21]; rfl)
                      obtain ⟨⟨a98, c98, e98⟩, O98, D98⟩ := (show ((fun _ _ => appF n2 TDI 1 (k + 1) ((T.take k).map (Value.int .i64) ++ [.int .i64 x]) (.slice va k vc) z0) : FctS) S s' (s' 98) w' from (H 8 rfl).2 98 (fun _ _ => appF n2 TDI 1 (k + 1) ((T.take k).map (Value.int .i64) ++ [.int .i64 x]) (.slice va k vc) z0) rfl (by rw [hFs21]; rfl))
                      exact DoesT_store (b := b9) (o := 2 + i) (v := .slice a98 (k + 1) c98) e102 e98 rfl siz22 (Chg.keep X (fun h => by have := hvb _ h; omega) (X0.keep B9)) (by simp; omega) (.inr (.inl ⟨rfl, rfl⟩)) (fun w9 h => by have h2 := h.blk; rw [tab_set] at h2; show Blk w9 b9 (([Value.int .i64 t.start, Value.int .i64 ((t.cols : Nat) : Int)] ++ sl.set i (s' 98)).toArray) _; rw [e98]; exact h2)
                    refine DagStepsS.tail ?_
                    exact DagStepsS.nil
                  · intro s' wd21 w21 X0 X21 U H
                    replace X21 := X21.mono (M' := (fun y => (fun y => (Value.slice va k vc).ownBlock = some y) y ∨ ((fun y => y = b9) y))) (fun y _ h => by
                        obtain ⟨j, hj, h⟩ := h
                        rcases MsL_or h with ⟨rfl, h0⟩ | h0
                        · exact (Or.inl h0)
                        rcases MsL_or h0 with ⟨rfl, h1⟩ | h1
                        · exact (Or.inr h1)
                        exact h1.elim)
                    obtain ⟨⟨a98, c98, e98⟩, O98, D98⟩ := (show ((fun _ _ => appF n2 TDI 1 (k + 1) ((T.take k).map (Value.int .i64) ++ [.int .i64 x]) (.slice va k vc) z0) : FctS) (allS [true, true, true, true, true, true, true, true, true, true, true, true, true, true, false]) s' (s' 98) w21 from H 8 rfl 98 (fun _ _ => appF n2 TDI 1 (k + 1) ((T.take k).map (Value.int .i64) ++ [.int .i64 x]) (.slice va k vc) z0) rfl (by rw [hFs21]; rfl))
                    have e101 : s' 101 = (.slice ra2 (rn - sz) (rc - sz)) := H 11 rfl 101 (fun _ _ v _ => v = (.slice ra2 (rn - sz) (rc - sz))) rfl (by rw [hFs21]; rfl)
                    obtain B129 := (show ((fun S s v w => Blk w b9 (([Value.int .i64 t.start, Value.int .i64 ((t.cols : Nat) : Int)] ++ sl.set i (s 98)).toArray) TDfaT) : FctS) (allS [true, true, true, true, true, true, true, true, true, true, true, true, true, true, false]) s' (s' 129) w21 from H 13 rfl 129 (fun S s v w => Blk w b9 (([Value.int .i64 t.start, Value.int .i64 ((t.cols : Nat) : Int)] ++ sl.set i (s 98)).toArray) TDfaT) rfl (by rw [hFs21]; rfl))
                    obtain ⟨j21, rfl⟩ := Fits.out (σ := s') (l := [(2, (.pointer (some ⟨br, 0, none⟩))), (9, (.pointer (some ⟨b9, 0, none⟩))), (11, (.pointer (some ⟨bu, 0, none⟩))), (72, (.slice (some ⟨bq, 0, none⟩) 4 4)), (73, (.int .i64 4)), (74, (.int .i64 ((i : Nat) : Int))), (79, (.int .i64 ((T.length : Nat) : Int))), (80, (.int .i64 ((k : Nat) : Int))), (101, (.slice ra2 (rn - sz) (rc - sz)))]) ⟨U 2 rfl, U 9 rfl, U 11 rfl, U 72 rfl, U 73 rfl, U 74 rfl, U 79 rfl, U 80 rfl, e101, trivial⟩
                    clear U H
                    replace Br := Chg.keep X21 (fun h => h.elim (fun h => by have := hvb _ h; omega) (fun h => by dsimp only at h; omega)) (X0.keep Br)
                    replace Bq := Chg.keep X21 (fun h => h.elim (fun h => by have := hvb _ h; omega) (fun h => by dsimp only at h; omega)) (X0.keep Bq)
                    replace Bu := Chg.keep X21 (fun h => h.elim (fun h => (hvb _ h).2.2 rfl) (fun h => by dsimp only at h; omega)) (X0.keep Bu)
                    have hXm := X21
                    replace E := (E.ext X0).step X21 (fun y hy h => h.elim (fun h => by have := hvb y h; omega) (fun h => by have h' : y = b9 := h; omega))
                    rw [e98] at B129 O98 D98
                    have hF2 := hF.grow (l' := T.take (k + 1)) hvi (v' := .slice a98 (k + 1) c98) (by rw [take_snoc' hx, List.map_append]; exact O98) (by rw [List.length_take]; omega) (Chg.trans (Ext.chg X0) hXm) (fun b h => h.elim (fun h => .inl h) (fun h => .inr (by have h' : b = b9 := h; omega))) D98 hz0
                    rw [List.set_set] at hF2
                    have hz2 := Nat.le_trans hsz (Nat.le_trans X0.size hXm.size)
                    have hap2 : ∀ b, FldB (sl.set i (.slice a98 (k + 1) c98)) b → b ≠ bu := fun b hb => by rcases fldB_set hvi D98 hb with h9 | h9; exact hap b h9; omega
                    refine WpL_val rfl rfl (by decide) (r_assign (v := (.slice ra2 (rn - sz) (rc - sz))) rfl) ?_
                    refine WpL_nil ?_
                    refine inB_normal ?_
                    refine thn_normal ?_
                    refine Wp_region ?_
                    refine WpL_val rfl rfl (by decide) (r_add (k := .i64) (a := ((k : Nat) : Int)) (b := 1) (c := ((k : Nat) : Int) + 1) rfl rfl (wI64 (by omega))) ?_
                    refine WpL_val rfl rfl (by decide) (r_move (v := (.int .i64 (((k : Nat) : Int) + 1))) rfl) ?_
                    refine WpL_nil ?_
                    refine thn_normal ?_
                    exact ⟨T.length - (k + 1), by omega, k + 1, ra2, rn - sz, rc - sz, sl.set i (.slice a98 (k + 1) c98), Fits.out ⟨rfl, rfl, rfl, rfl, rfl, rfl, rfl, rfl, rfl, trivial⟩, E, Br, B129, Bq, Bu, (by omega), by_cut hR hszx.symm hra2 rfl rfl, hF2, hap2, hz2, rfl⟩
                · have khlt2 := hlt2
                  replace hlt2 := of_decide_eq_false hlt2
                  have hkT : k = T.length := by omega
                  subst hkT
                  rw [List.take_length, T4_next hT] at hF
                  rw [List.drop_length, List.nil_append] at hR
                  refine Wp_exit ?_
                  refine thn_exit ?_
                  refine thn_exit ?_
                  refine inB_here ?_
                  refine inB_normal ?_
                  refine thn_normal ?_
                  refine Wp_region ?_
                  refine WpL_val rfl rfl (by decide) (r_add (k := .i64) (a := ((i : Nat) : Int)) (b := 1) (c := ((i : Nat) : Int) + 1) rfl rfl (wI64 (by omega))) ?_
                  refine WpL_val rfl rfl (by decide) (r_move (v := (.int .i64 (((i : Nat) : Int) + 1))) rfl) ?_
                  refine WpL_nil ?_
                  refine thn_normal ?_
                  exact ⟨4 - (i + 1), by omega, i + 1, ra, rn, rc, sl, Fits.out ⟨rfl, rfl, rfl, rfl, rfl, rfl, trivial⟩, E, Br, B9, Bq, (by omega), hR, hF, hsz, rfl⟩
            · have khlt := hlt
              replace hlt := of_decide_eq_false hlt
              have hi4 : i = 4 := by omega
              subst hi4
              have hrn : rn = 0 := by have h9 := (SlAt.cap hR).2; simpa [T4] using h9.symm
              have hF4 : FldOwn (W16) n2 sl (T4 t) := by simpa [T4] using hF
              obtain ⟨xa, xc, ya, yc, za, zc, ua, uc, rfl, hTab⟩ := hF4.tab
              refine Wp_exit ?_
              refine thn_exit ?_
              refine thn_exit ?_
              refine inB_here ?_
              refine thn_normal ?_
              refine Wp_seq ?_
              refine Wp_seq_region ?_
              refine WpL_val rfl rfl (by decide) (r_move (v := (.slice ra rn rc)) rfl) ?_
              refine WpL_val rfl rfl (by decide) (r_lenSlice (ad := ra) (n := rn) (cap := rc) Try.underlying62 rfl) ?_
              refine WpL_val rfl rfl (by decide) (r_gtr (k := .i64) (a := ((rn : Nat) : Int)) (b := 0) rfl rfl) ?_
              refine WpL_nil ?_
              have hc22 : (decide ((0 : Int) < ((rn : Nat) : Int))) = false := decide_eq_false (by omega)
              refine Wp_cond_false (congrArg Value.bool hc22) ?_
              refine Wp_skip ?_
              refine thn_normal ?_
              refine Wp_seq ?_
              refine Wp_seq_region ?_
              refine WpL_val rfl rfl (by decide) (r_loadAgg (vs := [(.int .i64 t.start), (.int .i64 ((t.cols : Nat) : Int)), (.slice xa t.acc.length xc), (.slice ya t.bs.length yc), (.slice za t.ow.length zc), (.slice ua t.nx.length uc)]) rfl agg58 siz58 rfl (B9.cells rfl)) ?_
              refine WpL_enter rfl rfl (by decide) (r_callF (vs := [(.agg #[(.int .i64 t.start), (.int .i64 ((t.cols : Nat) : Int)), (.slice xa t.acc.length xc), (.slice ya t.bs.length yc), (.slice za t.ow.length zc), (.slice ua t.nx.length uc)])]) Try.func44 nm44 bd44 rfl) (tcheck_c _ t _ hTab hg) ?_
              rintro _ w49 ⟨rfl, X49⟩
              replace Br := X49.keep Br
              replace B9 := X49.keep B9
              replace Bq := X49.keep Bq
              replace E := E.ext X49
              replace hF4 := hF4.ext X49
              refine WpL_val rfl rfl (by decide) (r_assign (v := (.int .i64 0)) rfl) ?_
              refine WpL_nil ?_
              refine Wp_seq_region ?_
              refine WpL_val rfl rfl (by decide) (r_move (v := (.int .i64 0)) rfl) ?_
              refine WpL_val rfl rfl (by decide) (r_neq (k := .i64) (a := 0) (b := 0) rfl rfl) ?_
              refine WpL_nil ?_
              refine Wp_cond_false rfl ?_
              refine Wp_skip ?_
              refine thn_normal ?_
              refine Wp_seq_region ?_
              refine WpL_val rfl rfl (by decide) (r_loadAgg (vs := [(.int .i64 t.start), (.int .i64 ((t.cols : Nat) : Int)), (.slice xa t.acc.length xc), (.slice ya t.bs.length yc), (.slice za t.ow.length zc), (.slice ua t.nx.length uc)]) rfl agg58 siz58 rfl (B9.cells rfl)) ?_
              refine s_storeAgg (b := br) (o := 0) (c' := #[(.int .i64 t.start), (.int .i64 ((t.cols : Nat) : Int)), (.slice xa t.acc.length xc), (.slice ya t.bs.length yc), (.slice za t.ow.length zc), (.slice ua t.nx.length uc)]) rfl rfl (by simp [Value.oneCell']) siz58 rfl Br (by simp) rfl ?_
              intro w23 S23
              replace hF4 := hF4.chg S23.chg fun b hb h => by have := (hF4.lt hb).1; have h' : b = br := h; omega
              replace B9 := S23.keep (by omega) B9
              replace Bq := S23.keep (by omega) Bq
              replace E := S23.step E (by first | exact Or.inl (by omega) | exact Or.inr rfl | exact Or.inr (by assumption) | exact Or.inr (by simp) | exact Or.inr (by omega) | exact Or.inr (by dsimp only; omega))
              replace Br := S23.blk
              refine WpL_val rfl rfl (by decide) (r_assign (v := (.int .i64 0)) rfl) ?_
              refine WpL_nil ?_
              refine Wp_ret ?_
              refine fin_agg_tmp Try.results43 (vs := [(.int .i64 t.start), (.int .i64 ((t.cols : Nat) : Int)), (.slice xa t.acc.length xc), (.slice ya t.bs.length yc), (.slice za t.ow.length zc), (.slice ua t.nx.length uc)]) (b := br) (v' := (.int .i64 0)) rfl agg58 siz58 rfl (Br.cells rfl) rfl ?_
              exact ⟨⟨_, rfl, hF4.tabAt⟩, E⟩
end Go.Proofs
namespace Go.Proofs
open Go Go.Eng Go.Sort
set_option maxRecDepth 100000
--BEGIN
structure BSt (α : Type) where
  work : List α
  ws : List (List Nat)
  i : Nat
  x : Nat
section
variable {α : Type} [DecidableEq α]
def nextB (c : Nat) (stp : α → Nat → Option α) (tgt : α → Bool) (s : BSt α) : Option (BSt α) :=
  match s.work[s.i]?, s.ws[s.i]? with
  | some a, some v =>
    if s.x = 0 ∧ tgt a = true then none
    else if s.x < c then match stp a s.x with
      | none => some { s with x := s.x + 1 }
      | some b => if b ∈ s.work then some { s with x := s.x + 1 } else some ⟨s.work ++ [b], s.ws ++ [v ++ [s.x]], s.i, s.x + 1⟩
    else some { s with i := s.i + 1, x := 0 }
  | _, _ => none
def iterB (c : Nat) (stp : α → Nat → Option α) (tgt : α → Bool) : Nat → BSt α → Option (BSt α)
  | 0, s => some s
  | k + 1, s => (iterB c stp tgt k s).bind (nextB c stp tgt)
def ReachB (c : Nat) (stp : α → Nat → Option α) (tgt : α → Bool) (a0 : α) (s : BSt α) : Prop := ∃ k, iterB c stp tgt k ⟨[a0], [[]], 0, 0⟩ = some s
theorem ReachB.step {c : Nat} {stp : α → Nat → Option α} {tgt : α → Bool} {a0 : α} {s t : BSt α} (h : ReachB c stp tgt a0 s) (hn : nextB c stp tgt s = some t) : ReachB c stp tgt a0 t := by
  obtain ⟨k, hk⟩ := h
  exact ⟨k + 1, by simp only [iterB, hk, Option.bind_some, hn]⟩
variable {c : Nat} {stp : α → Nat → Option α} {tgt : α → Bool} {work : List α} {ws : List (List Nat)} {i x : Nat} {a b : α} {v : List Nat}
end
/-- The nodes of the list: a pair, where it comes from, and the symbol. -/
structure NdOf (work : List (Int × Int)) (ps : List (Nat × Nat)) (nds : List (Int × Int × Int × Int)) : Prop where
  len : nds.length = work.length
  at' : ∀ (k : Nat) p, work[k]? = some p → ∃ f y, nds[k]? = some (p.1, p.2, f, y) ∧ (k = 0 → f = -1) ∧ (0 < k → ∀ j z, ps[k]? = some (j, z) → f = ((j : Nat) : Int) ∧ y = ((z : Nat) : Int))
theorem NdOf.start (p : Int × Int) (q : Nat × Nat) : NdOf [p] [q] [(p.1, p.2, -1, -1)] := ⟨rfl, fun k r h => by
  obtain ⟨rfl, rfl⟩ := one_get h
  exact ⟨-1, -1, rfl, fun _ => rfl, fun h => by omega⟩⟩
theorem NdOf.push {work : List (Int × Int)} {ps : List (Nat × Nat)} {nds : List (Int × Int × Int × Int)} (h : NdOf work ps nds) (hp : ps.length = work.length) (h0 : 0 < work.length) (p : Int × Int) (i x : Nat) : NdOf (work ++ [p]) (ps ++ [(i, x)]) (nds ++ [(p.1, p.2, ((i : Nat) : Int), ((x : Nat) : Int))]) := by
  refine ⟨by simp [h.len], fun k r hr => ?_⟩
  rcases snoc_get hr with h1 | ⟨h1, h2⟩
  · obtain ⟨f, y, h3, h4, h5⟩ := h.at' k r h1
    refine ⟨f, y, by rw [List.getElem?_append_left (lt_of_get h3)]; exact h3, h4, fun hk j z hj => h5 hk j z ?_⟩
    rwa [List.getElem?_append_left (by have := lt_of_get h1; omega)] at hj
  · subst h2
    refine ⟨((i : Nat) : Int), ((x : Nat) : Int), by rw [h1, ← h.len]; simp, fun hk => by omega, fun _ j z hj => ?_⟩
    rw [h1, ← hp] at hj
    simp at hj
    exact ⟨by rw [hj.1], by rw [hj.2]⟩
end Go.Proofs
namespace Go.Proofs
open Go Go.Eng Go.Sort
set_option maxRecDepth 100000
--BEGIN
def stR (d : Dfa) : Bool := decide ((0 : Int) ≤ d.start) && decide (d.start < ((d.next.length : Nat) : Int))
def accR (x : Int) : Bool := decide ((-1 : Int) ≤ x)
def rngR (n : Nat) (x : Int) : Bool := decide ((-1 : Int) ≤ x) && decide (x < ((n : Nat) : Int))
def okR (d : Dfa) (k : Nat) : Bool := stR d && ((d.accept.take k).all accR && (d.next.take k).all (fun r => r.all (rngR d.next.length)))
theorem okR_bad {d : Dfa} (hl : d.accept.length = d.next.length) (ha : d.accept ≠ []) (hr : ∀ row ∈ d.next, row ≠ []) : okR d d.next.length = !(bad0 d || d.next.any (badRow d.next.length)) := by
  have e1 : d.accept.take d.next.length = d.accept := by rw [← hl, List.take_length]
  rw [Bool.eq_iff_iff, Bool.not_eq_true', Bool.or_eq_false_iff]
  unfold okR bad0 stR
  rw [List.take_length, e1]
  simp only [Bool.and_eq_true, Bool.or_eq_false_iff, decide_eq_true_eq, decide_eq_false_iff_not, List.all_eq_true, List.any_eq_false, Int.not_lt, Int.not_le]
  have h1 := minL_lt ha (z := -1)
  constructor
  · rintro ⟨⟨h2, h3⟩, h4, h5⟩
    refine ⟨⟨⟨h2, h3⟩, h1.2 fun x hx => by simpa [accR] using h4 x hx⟩, fun row hrow => ?_⟩
    have h6 := h5 row hrow
    simp only [rngR, Bool.and_eq_true, decide_eq_true_eq] at h6
    have h7 := (minL_lt (hr row hrow) (z := -1)).2 fun x hx => (h6 x hx).1
    have h8 := (maxL_lt (hr row hrow) (z := ((d.next.length : Nat) : Int))).2 fun x hx => (h6 x hx).2
    unfold badRow
    simp only [Bool.or_eq_true, decide_eq_true_eq]
    omega
  · rintro ⟨⟨⟨h2, h3⟩, h4⟩, h5⟩
    refine ⟨⟨h2, h3⟩, fun x hx => by simpa [accR] using h1.1 h4 x hx, fun row hrow x hx => ?_⟩
    have h6 := h5 row hrow
    unfold badRow at h6
    simp only [Bool.or_eq_true, decide_eq_true_eq, not_or, Int.not_lt, Int.not_le] at h6
    have h7 := (minL_lt (hr row hrow) (z := -1)).1 h6.1 x hx
    have h8 := (maxL_lt (hr row hrow) (z := ((d.next.length : Nat) : Int))).1 h6.2 x hx
    simp only [rngR, Bool.and_eq_true, decide_eq_true_eq]
    exact ⟨h7, h8⟩
--END
theorem okD_of_check {d : Dfa} (h : checkD d = 0) : OkD d.next.length (colsD d) d ∧ (1 ≤ d.next.length ∧ d.next.length ≤ 200) ∧ (1 ≤ colsD d ∧ colsD d ≤ 16) := by
  unfold checkD at h
  split at h
  · omega
  split at h
  · omega
  split at h
  · omega
  split at h
  · omega
  rename_i h1 h2 h3 h4
  split at h
  · omega
  rename_i h5
  have hr : ∀ row ∈ d.next, row.length = colsD d ∧ row ≠ [] := fun row hrow => by
    have h6 := (List.any_eq_false.1 (Bool.eq_false_iff.2 h4)) row hrow
    unfold formRow at h6
    simp only [Bool.or_eq_true, decide_eq_true_eq, not_or] at h6
    exact ⟨by omega, fun e => by rw [e] at h6; simp at h6⟩
  have hne : d.accept ≠ [] := fun e => by have e2 : d.accept.length = 0 := by rw [e]; rfl
                                          omega
  have h7 := okR_bad (d := d) (by omega) hne (fun row hrow => (hr row hrow).2)
  rw [Bool.eq_false_iff.2 h5] at h7
  unfold okR stR at h7
  rw [List.take_length, show d.accept.take d.next.length = d.accept from by rw [show d.next.length = d.accept.length from by omega, List.take_length]] at h7
  simp only [Bool.not_false, Bool.and_eq_true, decide_eq_true_eq, List.all_eq_true] at h7
  obtain ⟨⟨h8, h9⟩, h10, h11⟩ := h7
  obtain ⟨row0, hrow0⟩ := get_of_lt (l := d.next) (i := 0) (by omega)
  have hc0 : colsD d = row0.length := by unfold colsD; cases hq : d.next with | nil => rw [hq] at hrow0; simp at hrow0 | cons y l => rw [hq] at hrow0; simp at hrow0; simp [hrow0]
  have h12 := List.length_pos_iff.2 (hr row0 (List.mem_of_getElem? hrow0)).2
  refine ⟨⟨rfl, by omega, ⟨h8, h9⟩, fun x hx => by simpa [accR] using h10 x hx, fun row hrow => ⟨(hr row hrow).1, fun x hx => ?_⟩⟩, by omega, by omega⟩
  have h13 := h11 row hrow x hx
  simpa [rngR] using h13
end Go.Proofs
namespace Go.Proofs
open Go Go.Eng Go.Sort
set_option maxRecDepth 100000
def tabVs (t : Tab) (aa ba oa na : Option Addr) (ac bc oc nc : Nat) : List Value := [.int .i64 t.start, .int .i64 ((t.cols : Nat) : Int), .slice aa t.acc.length ac, .slice ba t.bs.length bc, .slice oa t.ow.length oc, .slice na t.nx.length nc]
theorem pack_f (w0 : World) (n c : Nat) (d : Dfa) (vs : List Value) (hd : DfaAt w0 d vs) (h : OkD n c d) (hn : 1 ≤ n ∧ n ≤ 200) (hc : 1 ≤ c ∧ c ≤ 16) :
    Ret Try.prog 40 #[.agg vs.toArray] w0 fun r w => (∃ (t : Tab) (aa ba oa na : Option Addr) (ac bc oc nc : Nat), r = .tuple #[.agg #[.int .i64 t.start, .int .i64 ((t.cols : Nat) : Int), .slice aa t.acc.length ac, .slice ba t.bs.length bc, .slice oa t.ow.length oc, .slice na t.nx.length nc], .int .i64 0] ∧
      TabAt w t (tabVs t aa ba oa na ac bc oc nc) ∧ GoodT t ∧ unT t = d ∧ ∀ v ∈ tabVs t aa ba oa na ac bc oc nc, NewV w0.heap.size v) ∧ Ext w0 w := by
  refine (pack_e w0 n c d vs hd h hn hc).mono ?_
  rintro r w ⟨⟨owner, nxt, bs, aa, ba, oa, na, ac, bc, oc, nc, rfl, hT, hg, hb, _, _, hat, hN1, hN2, hN3, hN4⟩, e⟩
  refine ⟨⟨⟨d.start, c, d.accept, bs, owner, nxt⟩, aa, ba, oa, na, ac, bc, oc, nc, rfl, hT, hg, ?_, ?_⟩, e⟩
  rotate_left
  · intro v hv
    simp only [tabVs, List.mem_cons, List.not_mem_nil, or_false] at hv
    rcases hv with rfl | rfl | rfl | rfl | rfl | rfl
    · intro b h; cases h
    · intro b h; cases h
    · exact hN1
    · exact hN2
    · exact hN3
    · exact hN4
  obtain ⟨h1, h2, h3, h4, h5⟩ := h
  have hnext : (List.range bs.length).map (rowT ⟨d.start, c, d.accept, bs, owner, nxt⟩) = d.next := by
    apply List.ext_getElem?
    intro s
    rcases Nat.lt_or_ge s n with hs | hs
    · obtain ⟨row, hrow⟩ := get_of_lt (l := d.next) (i := s) (by omega)
      rw [List.getElem?_map, List.getElem?_range (by omega), hrow]
      show some (rowT _ s) = some row
      congr 1
      have hrl := (h5 row (List.mem_of_getElem? hrow)).1
      apply List.ext_getElem?
      intro k
      rcases Nat.lt_or_ge k c with hk | hk
      · obtain ⟨x, hx⟩ := get_of_lt (l := row) (i := k) (by omega)
        unfold rowT
        rw [List.getElem?_map, List.getElem?_range hk, hx]
        show some (atT owner nxt bs s k) = some x
        rw [hat s k row x hrow hx]
      · rw [List.getElem?_eq_none (by rw [rowT_len]; exact hk), List.getElem?_eq_none (by omega)]
    · rw [List.getElem?_eq_none (by simp; omega), List.getElem?_eq_none (by omega)]
  show (⟨d.start, d.accept, _⟩ : Dfa) = d
  rw [hnext]
theorem pack_bad (w0 : World) (d : Dfa) (vs : List Value) (hd : DfaAt w0 d vs) (h : checkD d ≠ 0) :
    Ret Try.prog 40 #[.agg vs.toArray] w0 fun r w => r = .tuple #[.agg #[.int .i64 0, .int .i64 0, .slice none 0 0, .slice none 0 0, .slice none 0 0, .slice none 0 0], .int .i64 (checkD d)] ∧ Ext w0 w := by
  obtain ⟨aa, ac, na, nc, rfl, _, _⟩ := id hd
  refine Ret_of Try.func40 rfl Try.ntmps40 (Nat.le_of_ble_eq_true rfl) ?_
  have E : Chg none1 w0 w0 := Chg.refl _ _
  refine Wp_seq_region ?_
  refine s_box (v := (.agg #[(.int .i64 d.start), (.slice aa d.accept.length ac), (.slice na d.next.length nc)])) (c := #[(.int .i64 d.start), (.slice aa d.accept.length ac), (.slice na d.next.length nc)]) (by decide) rfl rfl ?_
  intro bp wp Np
  have Fp := Np.ge E
  replace E := E.ext Np.ext
  have Bp := Np.blk
  refine s_alloc (c := #[(.int .i64 0), (.int .i64 0), (.slice none 0 0), (.slice none 0 0), (.slice none 0 0), (.slice none 0 0)]) (by decide) zer58 rfl ?_
  intro bq wq Nq
  have Fq := Nq.ge E
  have Oq_bp := Nq.lt Bp
  replace Bp := Nq.keep Bp
  replace E := E.ext Nq.ext
  have Bq := Nq.blk
  refine WpL_val rfl rfl (by decide) (r_assign (v := (.int .i64 0)) rfl) ?_
  refine WpL_nil ?_
  refine Wp_seq ?_
  refine Wp_seq_region ?_
  refine WpL_val rfl rfl (by decide) (r_loadAgg (vs := [(.int .i64 d.start), (.slice aa d.accept.length ac), (.slice na d.next.length nc)]) rfl agg25 siz25 rfl (Bp.cells rfl)) ?_
  refine WpL_enter rfl rfl (by decide) (r_callF (vs := [(.agg #[(.int .i64 d.start), (.slice aa d.accept.length ac), (.slice na d.next.length nc)])]) Try.func50 nm50 bd50 rfl) (dcheck_c _ d _ (hd.ext E)) ?_
  rintro _ w9 ⟨rfl, X9⟩
  replace Bp := X9.keep Bp
  replace Bq := X9.keep Bq
  replace E := E.ext X9
  refine WpL_val rfl rfl (by decide) (r_assign (v := (.int .i64 (checkD d))) rfl) ?_
  refine WpL_nil ?_
  refine Wp_seq_region ?_
  refine WpL_val rfl rfl (by decide) (r_move (v := (.int .i64 (checkD d))) rfl) ?_
  refine WpL_val rfl rfl (by decide) (r_neq (k := .i64) (a := checkD d) (b := 0) rfl rfl) ?_
  refine WpL_nil ?_
  have hc1 : (decide ((checkD d : Int) ≠ 0)) = true := decide_eq_true h
  refine Wp_cond_true (congrArg Value.bool hc1) ?_
  refine Wp_seq_region ?_
  refine WpL_val rfl rfl (by decide) (r_build (ps := []) (v := (.agg #[(.int .i64 0), (.int .i64 0), (.slice none 0 0), (.slice none 0 0), (.slice none 0 0), (.slice none 0 0)])) rfl (by kernel_rfl)) ?_
  refine WpL_val rfl rfl (by decide) (r_move (v := (.int .i64 (checkD d))) rfl) ?_
  refine s_storeAgg (b := bq) (o := 0) (c' := #[(.int .i64 0), (.int .i64 0), (.slice none 0 0), (.slice none 0 0), (.slice none 0 0), (.slice none 0 0)]) rfl rfl (by simp [Value.oneCell']) siz58 rfl Bq (by simp) rfl ?_
  intro w2 S2
  replace Bp := S2.keep (by omega) Bp
  replace E := S2.step E (by first | exact Or.inl (by omega) | exact Or.inr rfl | exact Or.inr (by assumption) | exact Or.inr (by simp) | exact Or.inr (by omega) | exact Or.inr (by dsimp only; omega))
  replace Bq := S2.blk
  refine WpL_val rfl rfl (by decide) (r_assign (v := (.int .i64 (checkD d))) rfl) ?_
  refine WpL_nil ?_
  refine Wp_ret ?_
  refine thn_ret ?_
  refine fin_agg_tmp Try.results40 (vs := [(.int .i64 0), (.int .i64 0), (.slice none 0 0), (.slice none 0 0), (.slice none 0 0), (.slice none 0 0)]) (b := bq) (v' := (.int .i64 (checkD d))) rfl agg58 siz58 rfl (Bq.cells rfl) rfl ?_
  exact ⟨rfl, E⟩
theorem SlAt.chg {M : Nat → Prop} {w w' : World} {k : Nat} {v : Value} {rows : List (List Value)} (h : SlAt w k v rows) (c : Chg M w w') (hM : ∀ b, v.ownBlock = some b → ¬ M b) : SlAt w' k v rows := by
  obtain ⟨a, cap, hv, hl, hc, h⟩ := h
  refine ⟨a, cap, hv, hl, hc, ?_⟩
  rcases h with h | ⟨b, o, ha, h⟩
  · exact .inl h
  · exact .inr ⟨b, o, ha, fun i r hr => (h i r hr).chg c (hM b (by rw [hv, ha]; rfl))⟩
theorem TabAt.put {M : Nat → Prop} {w w' : World} {t : Tab} {s : Nat} {aa ba oa na : Option Addr} {ac bc oc nc : Nat} (h : TabAt w t (tabVs t aa ba oa na ac bc oc nc)) (hN : ∀ v ∈ tabVs t aa ba oa na ac bc oc nc, NewV s v) (c : Chg M w w') (hM : ∀ b, s ≤ b → ¬ M b) : TabAt w' t (tabVs t aa ba oa na ac bc oc nc) := by
  obtain ⟨a1, c1, a2, c2, a3, c3, a4, c4, he, h1, h2, h3, h4⟩ := h
  simp only [tabVs, List.cons.injEq, Value.slice.injEq, true_and, and_true] at he
  obtain ⟨⟨rfl, rfl⟩, ⟨rfl, rfl⟩, ⟨rfl, rfl⟩, rfl, rfl⟩ := he
  have hn : ∀ v ∈ tabVs t aa ba oa na ac bc oc nc, ∀ b, v.ownBlock = some b → ¬ M b := fun v hv b hb => hM b (hN v hv b hb)
  exact ⟨_, _, _, _, _, _, _, _, rfl, SlAt.chg h1 c (hn _ (by simp [tabVs])), SlAt.chg h2 c (hn _ (by simp [tabVs])), SlAt.chg h3 c (hn _ (by simp [tabVs])), SlAt.chg h4 c (hn _ (by simp [tabVs]))⟩
def dfaR (d : Dfa) : Fct := fun v w => ∃ l : List Value, v = .agg l.toArray ∧ DfaAt w d l
theorem dfaR_ext (d : Dfa) : ∀ v w w', Ext w w' → dfaR d v w → dfaR d v w' := by
  rintro v w w' x ⟨l, h1, h2⟩
  exact ⟨l, h1, h2.ext x⟩
theorem unpack_f (w0 : World) (t : Tab) (d : Dfa) (vs : List Value) (h : TabAt w0 t vs) (hg : GoodT t) (he : unT t = d) : Ret Try.prog 41 #[.agg vs.toArray] w0 fun r w => (∃ aa ac na nc, r = .tuple #[.agg #[.int .i64 d.start, .slice aa d.accept.length ac, .slice na d.next.length nc], .int .i64 0] ∧ DfaAt w d [.int .i64 d.start, .slice aa d.accept.length ac, .slice na d.next.length nc]) ∧ Ext w0 w := by
  refine (unpack_c w0 t vs h hg).mono ?_
  rintro r w ⟨⟨dv, rfl, hD⟩, e⟩
  rw [he] at hD
  have hD' := hD
  obtain ⟨aa, ac, na, nc, rfl, _, _⟩ := hD'
  exact ⟨⟨aa, ac, na, nc, rfl, hD⟩, e⟩
theorem tab_acc {t : Tab} {d : Dfa} (hU : unT t = d) (hW : ∀ x ∈ d.accept, x ≤ 9223372036854775807) : ∀ x ∈ t.acc, x ≤ 9223372036854775807 := fun x hx => by
  subst hU
  exact hW x hx
theorem eq_same (w0 : World) (d : Dfa) (av bv : List Value) (ha : DfaAt w0 d av) (hb : DfaAt w0 d bv) (hn : d.next.length ≤ 20000) :
    Ret Try.prog 25 #[.agg av.toArray, .agg bv.toArray] w0 fun v w => v = .bool true ∧ Ext w0 w :=
  (equalD_c w0 d d av bv ha hb hn).mono fun v w h => ⟨h.1.trans (by simp), h.2⟩
theorem read_f (w0 : World) (v : Value) (t : Tab) (h : ByAt w0 v (bytesT t)) (hg : GoodT t) (hW : ∀ x ∈ t.acc, x ≤ 9223372036854775807) :
    Ret Try.prog 43 #[v] w0 fun r w => (∃ (aa ba oa na : Option Addr) (ac bc oc nc : Nat), r = .tuple #[.agg #[.int .i64 t.start, .int .i64 ((t.cols : Nat) : Int), .slice aa t.acc.length ac, .slice ba t.bs.length bc, .slice oa t.ow.length oc, .slice na t.nx.length nc], .int .i64 0] ∧ TabAt w t (tabVs t aa ba oa na ac bc oc nc)) ∧ Ext w0 w := by
  refine (read_c w0 v t h hg hW).mono ?_
  rintro r w ⟨⟨vs, rfl, hT⟩, e⟩
  have hT' := hT
  obtain ⟨aa, ac, ba, bc, oa, oc, na, nc, rfl, _⟩ := hT'
  exact ⟨⟨aa, ba, oa, na, ac, bc, oc, nc, rfl, hT⟩, e⟩
set_option maxHeartbeats 2000000 in
theorem packback_c (w0 : World) (d : Dfa) (dv : List Value) (hd : DfaAt w0 d dv) (hW : ∀ x ∈ d.accept, x ≤ 9223372036854775807) :
    Ret Try.prog 9 #[.agg dv.toArray] w0 fun r w => r = .bool true ∧ Ext w0 w := by
  obtain ⟨aa, ac, na, nc, rfl, _, _⟩ := id hd
  refine Ret_of Try.func9 rfl Try.ntmps9 (Nat.le_of_ble_eq_true rfl) ?_
  have E : Chg none1 w0 w0 := Chg.refl _ _
  refine Wp_seq_region ?_
  refine s_box (v := (.agg #[(.int .i64 d.start), (.slice aa d.accept.length ac), (.slice na d.next.length nc)])) (c := #[(.int .i64 d.start), (.slice aa d.accept.length ac), (.slice na d.next.length nc)]) (by decide) rfl rfl ?_
  intro bd wd Nd
  have Fd := Nd.ge E
  replace E := E.ext Nd.ext
  have Bd := Nd.blk
  refine WpL_val rfl rfl (by decide) (r_assign (v := (.bool false)) rfl) ?_
  refine WpL_nil ?_
  refine Wp_seq_region ?_
  refine WpL_enter rfl rfl (by decide) (r_callF (vs := []) Try.func27 nm27 bd27 rfl) (evn_d _) ?_
  rintro _ w9 ⟨⟨ea, ec, ma, mc, rfl, hev⟩, X9⟩
  replace Bd := X9.keep Bd
  replace E := E.ext X9
  refine WpL_enter rfl rfl (by decide) (r_callF (vs := [(.agg #[(.int .i64 0), (.slice ea 2 ec), (.slice ma 2 mc)])]) Try.func40 nm40 bd40 rfl) (pack_f _ 2 1 evnD _ hev evn_ok (by omega) (by omega)) ?_
  rintro _ w19 ⟨⟨t0, xa, ya, za, ua, xc, yc, zc, uc, rfl, hT0, hG0, hU0, _⟩, X19⟩
  replace Bd := X19.keep Bd
  replace E := E.ext X19
  refine WpL_val rfl rfl (by decide) (r_move (v := (.tuple #[(.agg #[(.int .i64 t0.start), (.int .i64 ((t0.cols : Nat) : Int)), (.slice xa t0.acc.length xc), (.slice ya t0.bs.length yc), (.slice za t0.ow.length zc), (.slice ua t0.nx.length uc)]), (.int .i64 0)])) rfl) ?_
  refine WpL_val rfl rfl (by decide) (r_extract (vs := #[(.agg #[(.int .i64 t0.start), (.int .i64 ((t0.cols : Nat) : Int)), (.slice xa t0.acc.length xc), (.slice ya t0.bs.length yc), (.slice za t0.ow.length zc), (.slice ua t0.nx.length uc)]), (.int .i64 0)]) (v := (.agg #[(.int .i64 t0.start), (.int .i64 ((t0.cols : Nat) : Int)), (.slice xa t0.acc.length xc), (.slice ya t0.bs.length yc), (.slice za t0.ow.length zc), (.slice ua t0.nx.length uc)])) rfl rfl) ?_
  refine WpL_val rfl rfl (by decide) (r_extract (vs := #[(.agg #[(.int .i64 t0.start), (.int .i64 ((t0.cols : Nat) : Int)), (.slice xa t0.acc.length xc), (.slice ya t0.bs.length yc), (.slice za t0.ow.length zc), (.slice ua t0.nx.length uc)]), (.int .i64 0)]) (v := (.int .i64 0)) rfl rfl) ?_
  refine s_allocStore (v := (.agg #[(.int .i64 t0.start), (.int .i64 ((t0.cols : Nat) : Int)), (.slice xa t0.acc.length xc), (.slice ya t0.bs.length yc), (.slice za t0.ow.length zc), (.slice ua t0.nx.length uc)])) (c := #[(.int .i64 t0.start), (.int .i64 ((t0.cols : Nat) : Int)), (.slice xa t0.acc.length xc), (.slice ya t0.bs.length yc), (.slice za t0.ow.length zc), (.slice ua t0.nx.length uc)]) (n := 6) (by decide) zer58 rfl siz58 rfl rfl rfl (by simp [Value.oneCell']) ?_
  intro bt wt Nt
  have Ft := Nt.ge E
  have Ot_bd := Nt.lt Bd
  replace Bd := Nt.keep Bd
  replace E := E.ext Nt.ext
  have Bt := Nt.blk
  refine WpL_val rfl rfl (by decide) (r_assign (v := (.int .i64 0)) rfl) ?_
  refine WpL_nil ?_
  refine Wp_seq ?_
  refine Wp_seq_region ?_
  refine WpL_val rfl rfl (by decide) (r_loadAgg (vs := [(.int .i64 t0.start), (.int .i64 ((t0.cols : Nat) : Int)), (.slice xa t0.acc.length xc), (.slice ya t0.bs.length yc), (.slice za t0.ow.length zc), (.slice ua t0.nx.length uc)]) rfl agg58 siz58 rfl (Bt.cells rfl)) ?_
  have hT1 := hT0.ext Nt.ext
  refine WpL_enter rfl rfl (by decide) (r_callF (vs := [(.agg #[(.int .i64 t0.start), (.int .i64 ((t0.cols : Nat) : Int)), (.slice xa t0.acc.length xc), (.slice ya t0.bs.length yc), (.slice za t0.ow.length zc), (.slice ua t0.nx.length uc)])]) Try.func41 nm41 bd41 rfl) (unpack_f _ t0 evnD _ hT1 hG0 hU0) ?_
  rintro _ w29 ⟨⟨ba, bc, ca, cc, rfl, hD0⟩, X29⟩
  replace Bd := X29.keep Bd
  replace Bt := X29.keep Bt
  replace E := E.ext X29
  skip
  refine WpL_val rfl rfl (by decide) (r_move (v := (.tuple #[(.agg #[(.int .i64 evnD.start), (.slice ba evnD.accept.length bc), (.slice ca evnD.next.length cc)]), (.int .i64 0)])) rfl) ?_
  refine WpL_val rfl rfl (by decide) (r_extract (vs := #[(.agg #[(.int .i64 evnD.start), (.slice ba evnD.accept.length bc), (.slice ca evnD.next.length cc)]), (.int .i64 0)]) (v := (.agg #[(.int .i64 evnD.start), (.slice ba evnD.accept.length bc), (.slice ca evnD.next.length cc)])) rfl rfl) ?_
  refine WpL_val rfl rfl (by decide) (r_extract (vs := #[(.agg #[(.int .i64 evnD.start), (.slice ba evnD.accept.length bc), (.slice ca evnD.next.length cc)]), (.int .i64 0)]) (v := (.int .i64 0)) rfl rfl) ?_
  refine s_allocStore (v := (.agg #[(.int .i64 evnD.start), (.slice ba evnD.accept.length bc), (.slice ca evnD.next.length cc)])) (c := #[(.int .i64 evnD.start), (.slice ba evnD.accept.length bc), (.slice ca evnD.next.length cc)]) (n := 3) (by decide) zer25 rfl siz25 rfl rfl rfl (by simp [Value.oneCell']) ?_
  intro bx wx Nx
  have Fx := Nx.ge E
  have Ox_bd := Nx.lt Bd
  have Ox_bt := Nx.lt Bt
  replace Bd := Nx.keep Bd
  replace Bt := Nx.keep Bt
  replace hD0 := hD0.ext Nx.ext
  replace E := E.ext Nx.ext
  have Bx := Nx.blk
  refine WpL_val rfl rfl (by decide) (r_assign (v := (.int .i64 0)) rfl) ?_
  refine WpL_nil ?_
  have hz_1 : w0.heap.size ≤ wx.heap.size := E.size
  have lz_1_bd : bd < wx.heap.size := Bd.lt
  have lz_1_bt : bt < wx.heap.size := Bt.lt
  have lz_1_bx : bx < wx.heap.size := Bx.lt
  refine Wp_seq ?_
  obtain ⟨Fs1, hFs1⟩ : ∃ Fs : List FctS, Fs = [(fun _ _ v _ => v = (.int .i64 0)), (fun _ _ v _ => v = (.bool false)), (fun _ _ v _ => v = (.bool false)), (fun _ _ v _ => v = (.int .i64 0)), (fun _ _ v _ => v = (.bool false)), (fun _ _ v _ => v = (.bool false)), (fun _ _ v _ => v = (.bool false)), (fun _ _ v _ => v = (.agg #[(.int .i64 evnD.start), (.slice ba evnD.accept.length bc), (.slice ca evnD.next.length cc)])), (fun _ _ => dfaR evnD), (fun _ _ v _ => v = (.bool true)), (fun _ _ v _ => v = (.bool false)), (fun _ _ v _ => v = (.bool false))] := ⟨_, rfl⟩
  refine Wp_dagS (MsL []) [true, true, true, true, true, true, true, true, true, true, true, true] [] [25, 26, 27, 28, 29, 30, 31, 32, 33, 34, 35, 36] [[], [0], [1], [2], [2, 3], [2, 4], [2, 5], [6], [6], [6, 7, 8], [6, 9], [6, 10]] [[], [0], [1, 0], [2, 1, 0], [2, 1, 0, 3], [2, 1, 0, 4, 3], [2, 1, 0, 5, 4, 3], [6, 2, 1, 0, 5, 4, 3], [6, 2, 1, 0, 5, 4, 3], [6, 2, 1, 0, 5, 4, 3, 7, 8], [6, 2, 1, 0, 5, 4, 3, 9, 7, 8], [6, 2, 1, 0, 5, 4, 3, 10, 9, 7, 8]] Fs1 hFs1 (by kernel_rfl) mixed (by kernel_rfl) (by kernel_rfl) (by kernel_rfl) (by kernel_rfl) ?_ ?_
  · intro wd X0
    refine DagStepsS.cons (StabS.eq) (LocS.const) (fun S s' w' hi hN X U V H => Or.inl ⟨Guarded_none rfl, ?_⟩) ?_
    · replace X := X.mono (M' := none1) (fun y _ h => by
          obtain ⟨j, hj, h⟩ := h
          exact h.elim)
      exact DoesT_pure (r_move (v := (.int .i64 0)) (U 4 rfl)) rfl
    refine DagStepsS.cons (StabS.eq) (LocS.const) (fun S s' w' hi hN X U V H => Or.inl ⟨Guarded_none rfl, ?_⟩) ?_
    · replace X := X.mono (M' := none1) (fun y _ h => by
          obtain ⟨j, hj, h⟩ := h
          exact h.elim)
      have e25 : s' 25 = (.int .i64 0) := (H 0 rfl).2 25 (fun _ _ v _ => v = (.int .i64 0)) rfl (by rw [hFs1]; rfl)
      exact DoesT_pure (r_neq (k := .i64) (a := 0) (b := 0) e25 rfl) rfl
    refine DagStepsS.cons (StabS.eq) (LocS.const) (fun S s' w' hi hN X U V H => Or.inl ⟨Guarded_none rfl, ?_⟩) ?_
    · replace X := X.mono (M' := none1) (fun y _ h => by
          obtain ⟨j, hj, h⟩ := h
          exact h.elim)
      have e26 : s' 26 = (.bool false) := (H 1 rfl).2 26 (fun _ _ v _ => v = (.bool false)) rfl (by rw [hFs1]; rfl)
      exact DoesT_pure (r_move (v := (.bool false)) e26) rfl
    refine DagStepsS.cons (StabS.eq) (LocS.const) (fun S s' w' hi hN X U V H => Or.inl ⟨Guarded_some rfl rfl (d := 27) ((H 2 rfl).2 27 (fun _ _ v _ => v = (.bool false)) rfl (by rw [hFs1]; rfl)), ?_⟩) ?_
    · replace X := X.mono (M' := none1) (fun y _ h => by
          obtain ⟨j, hj, h⟩ := h
          exact h.elim)
      exact DoesT_pure (r_move (v := (.int .i64 0)) (U 6 rfl)) rfl
    refine DagStepsS.cons (StabS.eq) (LocS.const) (fun S s' w' hi hN X U V H => Or.inl ⟨Guarded_some rfl rfl (d := 27) ((H 2 rfl).2 27 (fun _ _ v _ => v = (.bool false)) rfl (by rw [hFs1]; rfl)), ?_⟩) ?_
    · replace X := X.mono (M' := none1) (fun y _ h => by
          obtain ⟨j, hj, h⟩ := h
          exact h.elim)
      have e28 : s' 28 = (.int .i64 0) := (H 3 rfl).2 28 (fun _ _ v _ => v = (.int .i64 0)) rfl (by rw [hFs1]; rfl)
      exact DoesT_pure (r_neq (k := .i64) (a := 0) (b := 0) e28 rfl) rfl
    refine DagStepsS.cons (StabS.eq) (LocS.const) (fun S s' w' hi hN X U V H => Or.inl ⟨Guarded_none rfl, ?_⟩) ?_
    · replace X := X.mono (M' := none1) (fun y _ h => by
          obtain ⟨j, hj, h⟩ := h
          exact h.elim)
      have e27 : s' 27 = (.bool false) := (H 2 rfl).2 27 (fun _ _ v _ => v = (.bool false)) rfl (by rw [hFs1]; rfl)
      have e29 : s' 29 = (.bool false) := (H 4 rfl).2 29 (fun _ _ v _ => v = (.bool false)) rfl (by rw [hFs1]; rfl)
      exact DoesT_pure (r_pick (b := false) (v := (.bool false)) e27 e29) rfl
    refine DagStepsS.cons (StabS.eq) (LocS.const) (fun S s' w' hi hN X U V H => Or.inl ⟨Guarded_none rfl, ?_⟩) ?_
    · replace X := X.mono (M' := none1) (fun y _ h => by
          obtain ⟨j, hj, h⟩ := h
          exact h.elim)
      have e30 : s' 30 = (.bool false) := (H 5 rfl).2 30 (fun _ _ v _ => v = (.bool false)) rfl (by rw [hFs1]; rfl)
      exact DoesT_pure (r_move (v := (.bool false)) e30) rfl
    refine DagStepsS.cons (StabS.eq) (LocS.const) (fun S s' w' hi hN X U V H => Or.inl ⟨Guarded_some rfl rfl (d := 31) ((H 6 rfl).2 31 (fun _ _ v _ => v = (.bool false)) rfl (by rw [hFs1]; rfl)), ?_⟩) ?_
    · replace X := X.mono (M' := none1) (fun y _ h => by
          obtain ⟨j, hj, h⟩ := h
          exact h.elim)
      exact DoesT_pure (r_loadAgg (vs := [(.int .i64 evnD.start), (.slice ba evnD.accept.length bc), (.slice ca evnD.next.length cc)]) (U 5 rfl) agg25 siz25 rfl (((X0.trans X).keep Bx).cells rfl)) rfl
    refine DagStepsS.cons (StabS.chg (U := none1) (dfaR_ext _) (fun p y hp hw h => by
          exact h.elim)) (LocS.const) (fun S s' w' hi hN X U V H => Or.inl ⟨Guarded_some rfl rfl (d := 31) ((H 6 rfl).2 31 (fun _ _ v _ => v = (.bool false)) rfl (by rw [hFs1]; rfl)), ?_⟩) ?_
    · replace X := X.mono (M' := none1) (fun y _ h => by
          obtain ⟨j, hj, h⟩ := h
          exact h.elim)
      exact DoesT_callE (r_callF (vs := []) Try.func27 nm27 bd27 rfl) ((evn_d _).mono (fun v w h => ⟨(by obtain ⟨⟨a, b, c, e, h1, h2⟩, _⟩ := h; exact ⟨_, h1, h2⟩ : dfaR evnD v w), h.2⟩))
    refine DagStepsS.cons (StabS.eq) (LocS.const) (fun S s' w' hi hN X U V H => Or.inl ⟨Guarded_some rfl rfl (d := 31) ((H 6 rfl).2 31 (fun _ _ v _ => v = (.bool false)) rfl (by rw [hFs1]; rfl)), ?_⟩) ?_
    · replace X := X.mono (M' := none1) (fun y _ h => by
          obtain ⟨j, hj, h⟩ := h
          exact h.elim)
      have e32 : s' 32 = (.agg #[(.int .i64 evnD.start), (.slice ba evnD.accept.length bc), (.slice ca evnD.next.length cc)]) := (H 7 rfl).2 32 (fun _ _ v _ => v = (.agg #[(.int .i64 evnD.start), (.slice ba evnD.accept.length bc), (.slice ca evnD.next.length cc)])) rfl (by rw [hFs1]; rfl)
      obtain ⟨l33, e33, h33⟩ := (show ((fun _ _ => dfaR evnD) : FctS) S s' (s' 33) w' from (H 8 rfl).2 33 (fun _ _ => dfaR evnD) rfl (by rw [hFs1]; rfl))
      exact DoesT_callE (r_callF (vs := [(.agg #[(.int .i64 evnD.start), (.slice ba evnD.accept.length bc), (.slice ca evnD.next.length cc)]), (.agg l33.toArray)]) Try.func25 nm25 bd25 (lst2 e32 e33)) ((equalD_c _ evnD evnD _ _ (hD0.ext (Ext.trans X0 X)) h33 (by decide)).mono (fun v w h => ⟨h.1.trans (by simp), h.2⟩))
    refine DagStepsS.cons (StabS.eq) (LocS.const) (fun S s' w' hi hN X U V H => Or.inl ⟨Guarded_some rfl rfl (d := 31) ((H 6 rfl).2 31 (fun _ _ v _ => v = (.bool false)) rfl (by rw [hFs1]; rfl)), ?_⟩) ?_
    · replace X := X.mono (M' := none1) (fun y _ h => by
          obtain ⟨j, hj, h⟩ := h
          exact h.elim)
      have e34 : s' 34 = (.bool true) := (H 9 rfl).2 34 (fun _ _ v _ => v = (.bool true)) rfl (by rw [hFs1]; rfl)
      exact DoesT_pure (r_not (b := true) e34) rfl
    refine DagStepsS.cons (StabS.eq) (LocS.const) (fun S s' w' hi hN X U V H => Or.inl ⟨Guarded_none rfl, ?_⟩) ?_
    · replace X := X.mono (M' := none1) (fun y _ h => by
          obtain ⟨j, hj, h⟩ := h
          exact h.elim)
      have e31 : s' 31 = (.bool false) := (H 6 rfl).2 31 (fun _ _ v _ => v = (.bool false)) rfl (by rw [hFs1]; rfl)
      have e35 : s' 35 = (.bool false) := (H 10 rfl).2 35 (fun _ _ v _ => v = (.bool false)) rfl (by rw [hFs1]; rfl)
      exact DoesT_pure (r_pick (b := false) (v := (.bool false)) e31 e35) rfl
    exact DagStepsS.nil
  · intro s' wd1 w1 X0 X1 U H
    replace X1 := X1.mono (M' := none1) (fun y _ h => by
        obtain ⟨j, hj, h⟩ := h
        exact h.elim)
    have e36 : s' 36 = (.bool false) := H 11 rfl 36 (fun _ _ v _ => v = (.bool false)) rfl (by rw [hFs1]; rfl)
    obtain ⟨j1, rfl⟩ := Fits.out (σ := s') (l := [(1, (.pointer (some ⟨bd, 0, none⟩))), (3, (.pointer (some ⟨bt, 0, none⟩))), (36, (.bool false))]) ⟨U 1 rfl, U 3 rfl, e36, trivial⟩
    clear U H
    replace Bd := (X0.trans X1).keep Bd
    replace Bt := (X0.trans X1).keep Bt
    replace Bx := (X0.trans X1).keep Bx
    replace hD0 := hD0.ext (X0.trans X1)
    replace X1 := X0.trans X1
    replace E := E.ext X1
    refine WpL_nil ?_
    refine thn_normal ?_
    rcases Bool.eq_false_or_eq_true (decide (checkD d = 0)) with hc | hc
    · have khc := hc
      replace khc := of_decide_eq_true khc
      obtain ⟨okd, hn1, hc1⟩ := okD_of_check khc
      obtain ⟨s0, hs0⟩ : ∃ s0, s0 = (w1).heap.size := ⟨_, rfl⟩
      have hbs0 : bt < s0 := by rw [hs0]; exact Bt.lt
      refine Wp_cond_false rfl ?_
      refine Wp_skip ?_
      refine thn_normal ?_
      refine Wp_seq ?_
      refine Wp_seq_region ?_
      refine WpL_val rfl rfl (by decide) (r_loadAgg (vs := [(.int .i64 d.start), (.slice aa d.accept.length ac), (.slice na d.next.length nc)]) rfl agg25 siz25 rfl (Bd.cells rfl)) ?_
      refine WpL_enter rfl rfl (by decide) (r_callF (vs := [(.agg #[(.int .i64 d.start), (.slice aa d.accept.length ac), (.slice na d.next.length nc)])]) Try.func40 nm40 bd40 rfl) (pack_f _ _ _ d _ (hd.ext E) okd hn1 hc1) ?_
      rintro _ w39 ⟨⟨t, xa, ya, za, ua, xc, yc, zc, uc, rfl, hT, hG, hU, hNw⟩, X39⟩
      replace Bd := X39.keep Bd
      replace Bt := X39.keep Bt
      replace Bx := X39.keep Bx
      replace E := E.ext X39
      rw [← hs0] at hNw
      have hWt : ∀ z ∈ t.acc, z ≤ 9223372036854775807 := tab_acc hU hW
      refine WpL_val rfl rfl (by decide) (r_move (v := (.tuple #[(.agg #[(.int .i64 t.start), (.int .i64 ((t.cols : Nat) : Int)), (.slice xa t.acc.length xc), (.slice ya t.bs.length yc), (.slice za t.ow.length zc), (.slice ua t.nx.length uc)]), (.int .i64 0)])) rfl) ?_
      refine WpL_val rfl rfl (by decide) (r_extract (vs := #[(.agg #[(.int .i64 t.start), (.int .i64 ((t.cols : Nat) : Int)), (.slice xa t.acc.length xc), (.slice ya t.bs.length yc), (.slice za t.ow.length zc), (.slice ua t.nx.length uc)]), (.int .i64 0)]) (v := (.agg #[(.int .i64 t.start), (.int .i64 ((t.cols : Nat) : Int)), (.slice xa t.acc.length xc), (.slice ya t.bs.length yc), (.slice za t.ow.length zc), (.slice ua t.nx.length uc)])) rfl rfl) ?_
      refine WpL_val rfl rfl (by decide) (r_extract (vs := #[(.agg #[(.int .i64 t.start), (.int .i64 ((t.cols : Nat) : Int)), (.slice xa t.acc.length xc), (.slice ya t.bs.length yc), (.slice za t.ow.length zc), (.slice ua t.nx.length uc)]), (.int .i64 0)]) (v := (.int .i64 0)) rfl rfl) ?_
      refine s_storeAgg (b := bt) (o := 0) (c' := #[(.int .i64 t.start), (.int .i64 ((t.cols : Nat) : Int)), (.slice xa t.acc.length xc), (.slice ya t.bs.length yc), (.slice za t.ow.length zc), (.slice ua t.nx.length uc)]) rfl rfl (by simp [Value.oneCell']) siz58 rfl Bt (by simp) rfl ?_
      intro w2 S2
      replace hT := hT.put hNw S2.chg (fun b hb h => by have h' : b = bt := h; omega)
      replace Bd := S2.keep (by omega) Bd
      replace Bx := S2.keep (by omega) Bx
      replace E := S2.step E (by first | exact Or.inl (by omega) | exact Or.inr rfl | exact Or.inr (by assumption) | exact Or.inr (by simp) | exact Or.inr (by omega) | exact Or.inr (by dsimp only; omega))
      replace Bt := S2.blk
      refine WpL_val rfl rfl (by decide) (r_assign (v := (.int .i64 0)) rfl) ?_
      refine WpL_nil ?_
      refine Wp_seq_region ?_
      refine WpL_val rfl rfl (by decide) (r_move (v := (.int .i64 0)) rfl) ?_
      refine WpL_val rfl rfl (by decide) (r_neq (k := .i64) (a := 0) (b := 0) rfl rfl) ?_
      refine WpL_nil ?_
      refine Wp_cond_false rfl ?_
      refine Wp_skip ?_
      refine thn_normal ?_
      refine Wp_seq_region ?_
      refine WpL_val rfl rfl (by decide) (r_loadAgg (vs := [(.int .i64 t.start), (.int .i64 ((t.cols : Nat) : Int)), (.slice xa t.acc.length xc), (.slice ya t.bs.length yc), (.slice za t.ow.length zc), (.slice ua t.nx.length uc)]) rfl agg58 siz58 rfl (Bt.cells rfl)) ?_
      refine WpL_enter rfl rfl (by decide) (r_callF (vs := [(.agg #[(.int .i64 t.start), (.int .i64 ((t.cols : Nat) : Int)), (.slice xa t.acc.length xc), (.slice ya t.bs.length yc), (.slice za t.ow.length zc), (.slice ua t.nx.length uc)])]) Try.func41 nm41 bd41 rfl) (unpack_f _ t d _ hT hG hU) ?_
      rintro _ w49 ⟨⟨ya1, yc1, ya2, yc2, rfl, hD1⟩, X49⟩
      replace Bd := X49.keep Bd
      replace Bt := X49.keep Bt
      replace Bx := X49.keep Bx
      replace hT := hT.ext X49
      replace E := E.ext X49
      refine WpL_val rfl rfl (by decide) (r_move (v := (.tuple #[(.agg #[(.int .i64 d.start), (.slice ya1 d.accept.length yc1), (.slice ya2 d.next.length yc2)]), (.int .i64 0)])) rfl) ?_
      refine WpL_val rfl rfl (by decide) (r_extract (vs := #[(.agg #[(.int .i64 d.start), (.slice ya1 d.accept.length yc1), (.slice ya2 d.next.length yc2)]), (.int .i64 0)]) (v := (.agg #[(.int .i64 d.start), (.slice ya1 d.accept.length yc1), (.slice ya2 d.next.length yc2)])) rfl rfl) ?_
      refine WpL_val rfl rfl (by decide) (r_extract (vs := #[(.agg #[(.int .i64 d.start), (.slice ya1 d.accept.length yc1), (.slice ya2 d.next.length yc2)]), (.int .i64 0)]) (v := (.int .i64 0)) rfl rfl) ?_
      refine s_allocStore (v := (.agg #[(.int .i64 d.start), (.slice ya1 d.accept.length yc1), (.slice ya2 d.next.length yc2)])) (c := #[(.int .i64 d.start), (.slice ya1 d.accept.length yc1), (.slice ya2 d.next.length yc2)]) (n := 3) (by decide) zer25 rfl siz25 rfl rfl rfl (by simp [Value.oneCell']) ?_
      intro bm wm Nm
      have Fm := Nm.ge E
      have Om_bd := Nm.lt Bd
      have Om_bt := Nm.lt Bt
      have Om_bx := Nm.lt Bx
      replace Bd := Nm.keep Bd
      replace Bt := Nm.keep Bt
      replace Bx := Nm.keep Bx
      replace hT := hT.ext Nm.ext
      replace hD1 := hD1.ext Nm.ext
      replace E := E.ext Nm.ext
      have Bm := Nm.blk
      refine WpL_val rfl rfl (by decide) (r_assign (v := (.int .i64 0)) rfl) ?_
      refine WpL_nil ?_
      refine Wp_seq_region ?_
      refine WpL_val rfl rfl (by decide) (r_loadAgg (vs := [(.int .i64 t.start), (.int .i64 ((t.cols : Nat) : Int)), (.slice xa t.acc.length xc), (.slice ya t.bs.length yc), (.slice za t.ow.length zc), (.slice ua t.nx.length uc)]) rfl agg58 siz58 rfl (Bt.cells rfl)) ?_
      refine WpL_enter rfl rfl (by decide) (r_callF (vs := [(.agg #[(.int .i64 t.start), (.int .i64 ((t.cols : Nat) : Int)), (.slice xa t.acc.length xc), (.slice ya t.bs.length yc), (.slice za t.ow.length zc), (.slice ua t.nx.length uc)])]) Try.func42 nm42 bd42 rfl) (bytes_c _ t _ hT hG hWt) ?_
      rintro _ w59 ⟨⟨za1, zc1, rfl, hB⟩, X59⟩
      replace Bd := X59.keep Bd
      replace Bt := X59.keep Bt
      replace Bx := X59.keep Bx
      replace Bm := X59.keep Bm
      replace hT := hT.ext X59
      replace hD1 := hD1.ext X59
      replace E := E.ext X59
      refine WpL_val rfl rfl (by decide) (r_move (v := (.tuple #[(.slice za1 ((bytesT t).length) zc1), (.int .i64 0)])) rfl) ?_
      refine WpL_val rfl rfl (by decide) (r_extract (vs := #[(.slice za1 ((bytesT t).length) zc1), (.int .i64 0)]) (v := (.slice za1 ((bytesT t).length) zc1)) rfl rfl) ?_
      refine WpL_val rfl rfl (by decide) (r_extract (vs := #[(.slice za1 ((bytesT t).length) zc1), (.int .i64 0)]) (v := (.int .i64 0)) rfl rfl) ?_
      refine WpL_val rfl rfl (by decide) (r_assign (v := (.slice za1 ((bytesT t).length) zc1)) rfl) ?_
      refine WpL_val rfl rfl (by decide) (r_assign (v := (.int .i64 0)) rfl) ?_
      refine WpL_nil ?_
      refine Wp_seq_region ?_
      refine WpL_val rfl rfl (by decide) (r_move (v := (.slice za1 ((bytesT t).length) zc1)) rfl) ?_
      refine WpL_enter rfl rfl (by decide) (r_callF (vs := [(.slice za1 ((bytesT t).length) zc1)]) Try.func43 nm43 bd43 rfl) (read_f _ _ t hB hG hWt) ?_
      rintro _ w69 ⟨⟨pa, qa, ra, sa, pc, qc, rc, sc, rfl, hT2⟩, X69⟩
      replace Bd := X69.keep Bd
      replace Bt := X69.keep Bt
      replace Bx := X69.keep Bx
      replace Bm := X69.keep Bm
      replace hT := hT.ext X69
      replace hD1 := hD1.ext X69
      replace E := E.ext X69
      refine WpL_val rfl rfl (by decide) (r_move (v := (.tuple #[(.agg #[(.int .i64 t.start), (.int .i64 ((t.cols : Nat) : Int)), (.slice pa t.acc.length pc), (.slice qa t.bs.length qc), (.slice ra t.ow.length rc), (.slice sa t.nx.length sc)]), (.int .i64 0)])) rfl) ?_
      refine WpL_val rfl rfl (by decide) (r_extract (vs := #[(.agg #[(.int .i64 t.start), (.int .i64 ((t.cols : Nat) : Int)), (.slice pa t.acc.length pc), (.slice qa t.bs.length qc), (.slice ra t.ow.length rc), (.slice sa t.nx.length sc)]), (.int .i64 0)]) (v := (.agg #[(.int .i64 t.start), (.int .i64 ((t.cols : Nat) : Int)), (.slice pa t.acc.length pc), (.slice qa t.bs.length qc), (.slice ra t.ow.length rc), (.slice sa t.nx.length sc)])) rfl rfl) ?_
      refine WpL_val rfl rfl (by decide) (r_extract (vs := #[(.agg #[(.int .i64 t.start), (.int .i64 ((t.cols : Nat) : Int)), (.slice pa t.acc.length pc), (.slice qa t.bs.length qc), (.slice ra t.ow.length rc), (.slice sa t.nx.length sc)]), (.int .i64 0)]) (v := (.int .i64 0)) rfl rfl) ?_
      refine s_allocStore (v := (.agg #[(.int .i64 t.start), (.int .i64 ((t.cols : Nat) : Int)), (.slice pa t.acc.length pc), (.slice qa t.bs.length qc), (.slice ra t.ow.length rc), (.slice sa t.nx.length sc)])) (c := #[(.int .i64 t.start), (.int .i64 ((t.cols : Nat) : Int)), (.slice pa t.acc.length pc), (.slice qa t.bs.length qc), (.slice ra t.ow.length rc), (.slice sa t.nx.length sc)]) (n := 6) (by decide) zer58 rfl siz58 rfl rfl rfl (by simp [Value.oneCell']) ?_
      intro bp wp Np
      have Fp := Np.ge E
      have Op_bd := Np.lt Bd
      have Op_bt := Np.lt Bt
      have Op_bx := Np.lt Bx
      have Op_bm := Np.lt Bm
      replace Bd := Np.keep Bd
      replace Bt := Np.keep Bt
      replace Bx := Np.keep Bx
      replace Bm := Np.keep Bm
      replace hT := hT.ext Np.ext
      replace hD1 := hD1.ext Np.ext
      replace hT2 := hT2.ext Np.ext
      replace E := E.ext Np.ext
      have Bp := Np.blk
      refine WpL_val rfl rfl (by decide) (r_assign (v := (.int .i64 0)) rfl) ?_
      refine WpL_nil ?_
      refine Wp_seq_region ?_
      refine WpL_val rfl rfl (by decide) (r_loadAgg (vs := [(.int .i64 t.start), (.int .i64 ((t.cols : Nat) : Int)), (.slice pa t.acc.length pc), (.slice qa t.bs.length qc), (.slice ra t.ow.length rc), (.slice sa t.nx.length sc)]) rfl agg58 siz58 rfl (Bp.cells rfl)) ?_
      refine WpL_enter rfl rfl (by decide) (r_callF (vs := [(.agg #[(.int .i64 t.start), (.int .i64 ((t.cols : Nat) : Int)), (.slice pa t.acc.length pc), (.slice qa t.bs.length qc), (.slice ra t.ow.length rc), (.slice sa t.nx.length sc)])]) Try.func41 nm41 bd41 rfl) (unpack_f _ t d _ hT2 hG hU) ?_
      rintro _ w79 ⟨⟨za3, zc3, za4, zc4, rfl, hD2⟩, X79⟩
      replace Bd := X79.keep Bd
      replace Bt := X79.keep Bt
      replace Bx := X79.keep Bx
      replace Bm := X79.keep Bm
      replace Bp := X79.keep Bp
      replace hT := hT.ext X79
      replace hD1 := hD1.ext X79
      replace hT2 := hT2.ext X79
      replace E := E.ext X79
      refine WpL_val rfl rfl (by decide) (r_move (v := (.tuple #[(.agg #[(.int .i64 d.start), (.slice za3 d.accept.length zc3), (.slice za4 d.next.length zc4)]), (.int .i64 0)])) rfl) ?_
      refine WpL_val rfl rfl (by decide) (r_extract (vs := #[(.agg #[(.int .i64 d.start), (.slice za3 d.accept.length zc3), (.slice za4 d.next.length zc4)]), (.int .i64 0)]) (v := (.agg #[(.int .i64 d.start), (.slice za3 d.accept.length zc3), (.slice za4 d.next.length zc4)])) rfl rfl) ?_
      refine WpL_val rfl rfl (by decide) (r_extract (vs := #[(.agg #[(.int .i64 d.start), (.slice za3 d.accept.length zc3), (.slice za4 d.next.length zc4)]), (.int .i64 0)]) (v := (.int .i64 0)) rfl rfl) ?_
      refine s_allocStore (v := (.agg #[(.int .i64 d.start), (.slice za3 d.accept.length zc3), (.slice za4 d.next.length zc4)])) (c := #[(.int .i64 d.start), (.slice za3 d.accept.length zc3), (.slice za4 d.next.length zc4)]) (n := 3) (by decide) zer25 rfl siz25 rfl rfl rfl (by simp [Value.oneCell']) ?_
      intro bk wk Nk
      have Fk := Nk.ge E
      have Ok_bd := Nk.lt Bd
      have Ok_bt := Nk.lt Bt
      have Ok_bx := Nk.lt Bx
      have Ok_bm := Nk.lt Bm
      have Ok_bp := Nk.lt Bp
      replace Bd := Nk.keep Bd
      replace Bt := Nk.keep Bt
      replace Bx := Nk.keep Bx
      replace Bm := Nk.keep Bm
      replace Bp := Nk.keep Bp
      replace hT := hT.ext Nk.ext
      replace hD1 := hD1.ext Nk.ext
      replace hT2 := hT2.ext Nk.ext
      replace hD2 := hD2.ext Nk.ext
      replace E := E.ext Nk.ext
      have Bk := Nk.blk
      refine WpL_val rfl rfl (by decide) (r_assign (v := (.int .i64 0)) rfl) ?_
      refine WpL_nil ?_
      refine Wp_seq_region ?_
      refine WpL_val rfl rfl (by decide) (r_loadAgg (vs := [(.int .i64 t.start), (.int .i64 ((t.cols : Nat) : Int)), (.slice xa t.acc.length xc), (.slice ya t.bs.length yc), (.slice za t.ow.length zc), (.slice ua t.nx.length uc)]) rfl agg58 siz58 rfl (Bt.cells rfl)) ?_
      refine WpL_enter rfl rfl (by decide) (r_callF (vs := [(.agg #[(.int .i64 t.start), (.int .i64 ((t.cols : Nat) : Int)), (.slice xa t.acc.length xc), (.slice ya t.bs.length yc), (.slice za t.ow.length zc), (.slice ua t.nx.length uc)])]) Try.func44 nm44 bd44 rfl) (tcheck_c _ t _ hT hG) ?_
      rintro _ w89 ⟨rfl, X89⟩
      replace Bd := X89.keep Bd
      replace Bt := X89.keep Bt
      replace Bx := X89.keep Bx
      replace Bm := X89.keep Bm
      replace Bp := X89.keep Bp
      replace Bk := X89.keep Bk
      replace hT := hT.ext X89
      replace hD1 := hD1.ext X89
      replace hT2 := hT2.ext X89
      replace hD2 := hD2.ext X89
      replace E := E.ext X89
      refine WpL_val rfl rfl (by decide) (r_eql (k := .i64) (a := 0) (b := 0) rfl rfl) ?_
      refine WpL_val rfl rfl (by decide) (r_move (v := (.bool true)) rfl) ?_
      refine WpL_guard_yes (oj := _) rfl rfl (by decide) rfl ?_
      refine WpL_val rfl rfl (by decide) (r_move (v := (.int .i64 0)) rfl) ?_
      refine WpL_guard_yes (oj := _) rfl rfl (by decide) rfl ?_
      refine WpL_val rfl rfl (by decide) (r_move (v := (.int .i64 0)) rfl) ?_
      refine WpL_guard_yes (oj := _) rfl rfl (by decide) rfl ?_
      refine WpL_val rfl rfl (by decide) (r_move (v := (.int .i64 0)) rfl) ?_
      refine WpL_guard_yes (oj := _) rfl rfl (by decide) rfl ?_
      refine WpL_val rfl rfl (by decide) (r_move (v := (.int .i64 0)) rfl) ?_
      refine WpL_guard_yes (oj := _) rfl rfl (by decide) rfl ?_
      refine s_buildSlice (ps := [(0, (.int .i64 0)), (1, (.int .i64 0)), (2, (.int .i64 0)), (3, (.int .i64 0))]) (c := #[(.int .i64 0), (.int .i64 0), (.int .i64 0), (.int .i64 0)]) (by decide) rfl Try.underlying85 siz26 zer26 (by decide) (by decide) (by kernel_rfl) ?_
      intro bg wg Ng
      have Fg := Ng.ge E
      have Og_bd := Ng.lt Bd
      have Og_bt := Ng.lt Bt
      have Og_bx := Ng.lt Bx
      have Og_bm := Ng.lt Bm
      have Og_bp := Ng.lt Bp
      have Og_bk := Ng.lt Bk
      replace Bd := Ng.keep Bd
      replace Bt := Ng.keep Bt
      replace Bx := Ng.keep Bx
      replace Bm := Ng.keep Bm
      replace Bp := Ng.keep Bp
      replace Bk := Ng.keep Bk
      replace hT := hT.ext Ng.ext
      replace hD1 := hD1.ext Ng.ext
      replace hT2 := hT2.ext Ng.ext
      replace hD2 := hD2.ext Ng.ext
      replace E := E.ext Ng.ext
      have Bg := Ng.blk
      refine WpL_guard_yes (oj := _) rfl rfl (by decide) rfl ?_
      refine WpL_enter rfl rfl (by decide) (r_callF (vs := [(.slice (some ⟨bg, 0, none⟩) 4 4)]) Try.func24 nm24 bd24 rfl) (good_c _ _ [0, 0, 0, 0] (ints_own (l := [0, 0, 0, 0]) (rest := []) Bg (by decide) (by decide))) ?_
      rintro _ w99 ⟨rfl, X99⟩
      replace Bd := X99.keep Bd
      replace Bt := X99.keep Bt
      replace Bx := X99.keep Bx
      replace Bm := X99.keep Bm
      replace Bp := X99.keep Bp
      replace Bk := X99.keep Bk
      replace Bg := X99.keep Bg
      replace hT := hT.ext X99
      replace hD1 := hD1.ext X99
      replace hT2 := hT2.ext X99
      replace hD2 := hD2.ext X99
      replace E := E.ext X99
      refine WpL_val rfl rfl (by decide) (r_pick (b := true) (v := (.bool true)) rfl rfl) ?_
      refine WpL_val rfl rfl (by decide) (r_move (v := (.bool true)) rfl) ?_
      refine WpL_guard_yes (oj := _) rfl rfl (by decide) rfl ?_
      refine WpL_val rfl rfl (by decide) (r_loadAgg (vs := [(.int .i64 d.start), (.slice ya1 d.accept.length yc1), (.slice ya2 d.next.length yc2)]) rfl agg25 siz25 rfl (Bm.cells rfl)) ?_
      refine WpL_guard_yes (oj := _) rfl rfl (by decide) rfl ?_
      refine WpL_val rfl rfl (by decide) (r_loadAgg (vs := [(.int .i64 d.start), (.slice aa d.accept.length ac), (.slice na d.next.length nc)]) rfl agg25 siz25 rfl (Bd.cells rfl)) ?_
      refine WpL_guard_yes (oj := _) rfl rfl (by decide) rfl ?_
      refine WpL_enter rfl rfl (by decide) (r_callF (vs := [(.agg #[(.int .i64 d.start), (.slice ya1 d.accept.length yc1), (.slice ya2 d.next.length yc2)]), (.agg #[(.int .i64 d.start), (.slice aa d.accept.length ac), (.slice na d.next.length nc)])]) Try.func25 nm25 bd25 rfl) (eq_same _ d _ _ hD1 (hd.ext E) (by omega)) ?_
      rintro _ w109 ⟨rfl, X109⟩
      replace Bd := X109.keep Bd
      replace Bt := X109.keep Bt
      replace Bx := X109.keep Bx
      replace Bm := X109.keep Bm
      replace Bp := X109.keep Bp
      replace Bk := X109.keep Bk
      replace Bg := X109.keep Bg
      replace hT := hT.ext X109
      replace hD1 := hD1.ext X109
      replace hT2 := hT2.ext X109
      replace hD2 := hD2.ext X109
      replace E := E.ext X109
      refine WpL_val rfl rfl (by decide) (r_pick (b := true) (v := (.bool true)) rfl rfl) ?_
      refine WpL_val rfl rfl (by decide) (r_move (v := (.bool true)) rfl) ?_
      refine WpL_guard_yes (oj := _) rfl rfl (by decide) rfl ?_
      refine WpL_val rfl rfl (by decide) (r_loadAgg (vs := [(.int .i64 d.start), (.slice za3 d.accept.length zc3), (.slice za4 d.next.length zc4)]) rfl agg25 siz25 rfl (Bk.cells rfl)) ?_
      refine WpL_guard_yes (oj := _) rfl rfl (by decide) rfl ?_
      refine WpL_val rfl rfl (by decide) (r_loadAgg (vs := [(.int .i64 d.start), (.slice aa d.accept.length ac), (.slice na d.next.length nc)]) rfl agg25 siz25 rfl (Bd.cells rfl)) ?_
      refine WpL_guard_yes (oj := _) rfl rfl (by decide) rfl ?_
      refine WpL_enter rfl rfl (by decide) (r_callF (vs := [(.agg #[(.int .i64 d.start), (.slice za3 d.accept.length zc3), (.slice za4 d.next.length zc4)]), (.agg #[(.int .i64 d.start), (.slice aa d.accept.length ac), (.slice na d.next.length nc)])]) Try.func25 nm25 bd25 rfl) (eq_same _ d _ _ hD2 (hd.ext E) (by omega)) ?_
      rintro _ w119 ⟨rfl, X119⟩
      replace Bd := X119.keep Bd
      replace Bt := X119.keep Bt
      replace Bx := X119.keep Bx
      replace Bm := X119.keep Bm
      replace Bp := X119.keep Bp
      replace Bk := X119.keep Bk
      replace Bg := X119.keep Bg
      replace hT := hT.ext X119
      replace hD1 := hD1.ext X119
      replace hT2 := hT2.ext X119
      replace hD2 := hD2.ext X119
      replace E := E.ext X119
      refine WpL_val rfl rfl (by decide) (r_pick (b := true) (v := (.bool true)) rfl rfl) ?_
      refine WpL_val rfl rfl (by decide) (r_assign (v := (.bool true)) rfl) ?_
      refine WpL_nil ?_
      refine Wp_ret ?_
      refine fin_tmp Try.results9 (v := (.bool true)) rfl ?_
      exact ⟨rfl, E⟩
    · have khc := hc
      replace khc := of_decide_eq_false khc
      have khc2 : checkD d ≠ 0 := of_decide_eq_false hc
      refine Wp_cond_false rfl ?_
      refine Wp_skip ?_
      refine thn_normal ?_
      refine Wp_seq ?_
      refine Wp_seq_region ?_
      refine WpL_val rfl rfl (by decide) (r_loadAgg (vs := [(.int .i64 d.start), (.slice aa d.accept.length ac), (.slice na d.next.length nc)]) rfl agg25 siz25 rfl (Bd.cells rfl)) ?_
      refine WpL_enter rfl rfl (by decide) (r_callF (vs := [(.agg #[(.int .i64 d.start), (.slice aa d.accept.length ac), (.slice na d.next.length nc)])]) Try.func40 nm40 bd40 rfl) (pack_bad _ d _ (hd.ext E) khc2) ?_
      rintro _ w39 ⟨rfl, X39⟩
      replace Bd := X39.keep Bd
      replace Bt := X39.keep Bt
      replace Bx := X39.keep Bx
      replace E := E.ext X39
      refine WpL_val rfl rfl (by decide) (r_move (v := (.tuple #[(.agg #[(.int .i64 0), (.int .i64 0), (.slice none 0 0), (.slice none 0 0), (.slice none 0 0), (.slice none 0 0)]), (.int .i64 (checkD d))])) rfl) ?_
      refine WpL_val rfl rfl (by decide) (r_extract (vs := #[(.agg #[(.int .i64 0), (.int .i64 0), (.slice none 0 0), (.slice none 0 0), (.slice none 0 0), (.slice none 0 0)]), (.int .i64 (checkD d))]) (v := (.agg #[(.int .i64 0), (.int .i64 0), (.slice none 0 0), (.slice none 0 0), (.slice none 0 0), (.slice none 0 0)])) rfl rfl) ?_
      refine WpL_val rfl rfl (by decide) (r_extract (vs := #[(.agg #[(.int .i64 0), (.int .i64 0), (.slice none 0 0), (.slice none 0 0), (.slice none 0 0), (.slice none 0 0)]), (.int .i64 (checkD d))]) (v := (.int .i64 (checkD d))) rfl rfl) ?_
      refine s_storeAgg (b := bt) (o := 0) (c' := #[(.int .i64 0), (.int .i64 0), (.slice none 0 0), (.slice none 0 0), (.slice none 0 0), (.slice none 0 0)]) rfl rfl (by simp [Value.oneCell']) siz58 rfl Bt (by simp) rfl ?_
      intro w3 S3
      replace Bd := S3.keep (by omega) Bd
      replace Bx := S3.keep (by omega) Bx
      replace E := S3.step E (by first | exact Or.inl (by omega) | exact Or.inr rfl | exact Or.inr (by assumption) | exact Or.inr (by simp) | exact Or.inr (by omega) | exact Or.inr (by dsimp only; omega))
      replace Bt := S3.blk
      refine WpL_val rfl rfl (by decide) (r_assign (v := (.int .i64 (checkD d))) rfl) ?_
      refine WpL_nil ?_
      refine Wp_seq_region ?_
      refine WpL_val rfl rfl (by decide) (r_move (v := (.int .i64 (checkD d))) rfl) ?_
      refine WpL_val rfl rfl (by decide) (r_neq (k := .i64) (a := checkD d) (b := 0) rfl rfl) ?_
      refine WpL_nil ?_
      have hc4 : (decide ((checkD d : Int) ≠ 0)) = true := decide_eq_true khc2
      refine Wp_cond_true (congrArg Value.bool hc4) ?_
      refine Wp_seq_region ?_
      refine WpL_val rfl rfl (by decide) (r_fieldAddr (b := bt) (o := 0) (o' := 3) rfl Try.underlying58 rfl siz22 rfl) ?_
      refine WpL_val rfl rfl (by decide) (r_load (v := (.slice none 0 0)) rfl flat22 (Bt.cell rfl)) ?_
      refine WpL_val rfl rfl (by decide) (r_lenSlice (ad := none) (n := 0) (cap := 0) Try.underlying22 rfl) ?_
      refine WpL_val rfl rfl (by decide) (r_eql (k := .i64) (a := 0) (b := 0) rfl rfl) ?_
      refine WpL_val rfl rfl (by decide) (r_assign (v := (.bool true)) rfl) ?_
      refine WpL_nil ?_
      refine Wp_ret ?_
      refine thn_ret ?_
      refine fin_tmp Try.results9 (v := (.bool true)) rfl ?_
      exact ⟨rfl, E⟩
end Go.Proofs
namespace Go.Proofs
open Go Go.Eng
set_option maxRecDepth 100000
section
variable {H : Type} {enc : TypeId × Value → H} {P : Program} {w : World} {base : Nat} {spare : Nat → Bool} {held : Bool}
theorem cells_at {a : Addr} {k : Nat} {cs : List Value} (hk : 0 < k) (h : w.cells? base a k = some cs) : ∃ b o, a = ⟨b, o, none⟩ ∧ cs.length = k ∧ CellsAt w b o cs := by
  obtain ⟨h1, h2, h3⟩ := World.cells?_some h
  obtain ⟨b, o, s⟩ := a
  have hlen : cs.length = k := by first | exact h2 | exact h1 | omega
  have h0 := h3 0 (by omega)
  have hs : s = none := by
    cases s with
    | none => rfl
    | some s =>
      exfalso
      have hc : ∃ v, w.cell? ⟨b, o, some s⟩ = some v := ⟨_, by simpa [Addr.add, List.getElem?_eq_getElem (show 0 < cs.length by omega)] using h0⟩
      obtain ⟨v, hv⟩ := hc
      simp [World.cell?] at hv
      cases hh : w.heap[b]? <;> simp [hh] at hv
      split at hv <;> simp at hv
  subst hs
  refine ⟨b, o, rfl, hlen, fun i v hv => ?_⟩
  have := h3 i (by have := lt_of_get hv; omega)
  rw [Addr.add_lit] at this
  rw [this, hv]
theorem rows_map {α : Type} {f : α → List Value} : ∀ {rows : List (List Value)}, (∀ r ∈ rows, ∃ y, r = f y) → ∃ l : List α, rows = l.map f
  | [], _ => ⟨[], rfl⟩
  | r :: rows, h => by
    obtain ⟨y, hy⟩ := h r (by simp)
    obtain ⟨l, hl⟩ := rows_map (rows := rows) (f := f) fun r' hr' => h r' (List.mem_cons_of_mem _ hr')
    exact ⟨y :: l, by rw [hy, hl]; rfl⟩
/-- A slice, if each of its elements is read. -/
theorem open_rows {t e k fuel : Nat} {cs : List Value} {x : DataW H × List MemPlace} {R : List Value → Prop} (ht : P.underlying t = some (.slice e)) (hc : P.cellsOf e = k) (hk : 0 < k)
    (h : DataW.trod enc P w base spare held fuel t cs = some x) (hR : ∀ n cs' y, n < fuel → DataW.trod enc P w base spare held n e cs' = some y → R cs') :
    ∃ a rows cap, cs = [.slice a rows.length cap] ∧ SlAt w k (.slice a rows.length cap) rows ∧ (∀ r ∈ rows, R r ∧ r.length = k) ∧ rows.length ≤ cap ∧ cap ≤ maxLen := by
  rcases DataW.trod_slice ht h with ⟨rfl, _⟩ | ⟨a, len, cap, elems, rest, n, rfl, rfl, _, hb, hl, hm, hlen, hel, _, _⟩
  · exact ⟨none, [], 0, rfl, SlAt.nil _ _ _ _, by simp, by simp, by simp [maxLen]⟩
  · have each : ∀ i, i < len → ∃ cs', w.cells? base (a.add (i * k)) k = some cs' ∧ R cs' := by
      intro i hi
      have := hel i hi
      rw [List.getElem?_eq_getElem (by omega), hc, Option.bind_eq_some_iff] at this
      obtain ⟨cs', h1, h2⟩ := this
      exact ⟨cs', h1, hR n cs' _ (by omega) h2⟩
    have fam : ∀ m, m ≤ len → ∃ rows : List (List Value), rows.length = m ∧ ∀ i r, rows[i]? = some r → w.cells? base (a.add (i * k)) k = some r ∧ R r := by
      intro m
      induction m with
      | zero => intro _; exact ⟨[], rfl, by simp⟩
      | succ m ih =>
        intro hm
        obtain ⟨rows, h1, h2⟩ := ih (by omega)
        obtain ⟨cs', h3, h4⟩ := each m (by omega)
        refine ⟨rows ++ [cs'], by simp [h1], fun i r hr => ?_⟩
        rcases Nat.lt_or_ge i rows.length with hi | hi
        · rw [List.getElem?_append_left hi] at hr; exact h2 i r hr
        · rw [List.getElem?_append_right hi] at hr
          have hi' := lt_of_get hr
          simp at hi'
          obtain rfl : i = m := by omega
          simp [h1] at hr
          subst hr
          exact ⟨h3, h4⟩
    obtain ⟨rows, hrl, hrows⟩ := fam len (Nat.le_refl _)
    have hmax : rows.length ≤ 9223372036854775807 := by simp only [maxLen] at hm; omega
    refine ⟨some a, rows, cap, by rw [hrl], ⟨some a, cap, rfl, hmax, by omega, ?_⟩, ?_, by omega, hm⟩
    · rcases Nat.eq_zero_or_pos len with h0 | h0
      · left; exact List.eq_nil_of_length_eq_zero (by omega)
      · right
        obtain ⟨r0, hr0⟩ := get_of_lt (l := rows) (i := 0) (by omega)
        have h1 := (hrows 0 r0 hr0).1
        have hz : a.add (0 * k) = a := by simp [Addr.add]
        rw [hz] at h1
        obtain ⟨b, o, rfl, _, _⟩ := cells_at hk h1
        refine ⟨b, o, rfl, fun i r hr => ?_⟩
        have h2 := (hrows i r hr).1
        rw [Addr.add_lit] at h2
        obtain ⟨b', o', he, _, h3⟩ := cells_at hk h2
        cases he
        exact h3
    · intro r hr
      obtain ⟨i, hi⟩ := List.mem_iff_getElem?.1 hr
      have h2 := hrows i r hi
      obtain ⟨_, _, _, h3, _⟩ := cells_at hk h2.1
      exact ⟨h2.2, h3⟩
theorem open_intsL {t e fuel : Nat} {cs : List Value} {x : DataW H × List MemPlace} (ht : P.underlying t = some (.slice e)) (he : P.underlying e = some (.int .i64)) (hc : P.cellsOf e = 1)
    (h : DataW.trod enc P w base spare held fuel t cs = some x) : ∃ a l cap, cs = [.slice a l.length cap] ∧ IntsAt w (.slice a l.length cap) l := by
  obtain ⟨a, rows, cap, rfl, h1, h2, _⟩ := open_rows (R := fun cs => ∃ n : Int, cs = intV n) ht hc (by decide) h (fun n cs' y _ hy => by
    obtain ⟨m, rfl, _⟩ := DataW.trod_int he hy; exact ⟨m, rfl⟩)
  obtain ⟨l, rfl⟩ := rows_map fun r hr => (h2 r hr).1
  exact ⟨a, l, cap, by simp, by simpa [IntsAt] using h1⟩
end
end Go.Proofs
namespace Go.Proofs
open Go Go.Eng
set_option maxRecDepth 100000
section
variable {H : Type} {enc : TypeId × Value → H} {w : World} {base : Nat} {spare : Nat → Bool} {held : Bool}
theorem cellsOne9 : Try.prog.cellsOf 3 = 1 := by kernel_rfl
theorem cellsRow9 : Try.prog.cellsOf 22 = 1 := by kernel_rfl
theorem cellsRows9 : Try.prog.cellsOf 23 = 1 := by kernel_rfl
theorem cellsDfa9 : Try.prog.cellsOf 25 = 3 := by kernel_rfl
theorem intss_rows : ∀ (rows : List (List Value)), (∀ r ∈ rows, ∃ a l cap, r = [.slice a (List.length (α := Int) l) cap] ∧ IntsAt w (.slice a l.length cap) l) →
    ∃ (vs : List Value) (ll : List (List Int)), rows = vs.map (fun x => [x]) ∧ vs.length = ll.length ∧ ∀ (i : Nat) u l, vs[i]? = some u → ll[i]? = some l → IntsAt w u l
  | [], _ => ⟨[], [], rfl, rfl, fun i u l h => by simp at h⟩
  | r :: rows, h => by
    obtain ⟨a, l, cap, rfl, h1⟩ := h r (by simp)
    obtain ⟨vs, ll, h3, h4, h5⟩ := intss_rows rows fun r hr => h r (by simp [hr])
    refine ⟨.slice a l.length cap :: vs, l :: ll, by rw [h3]; rfl, by simp [h4], fun i u q hu hq => ?_⟩
    cases i with
    | zero => simp at hu hq; subst hu; subst hq; exact h1
    | succ i => exact h5 i u q (by simpa using hu) (by simpa using hq)
theorem open_intss {fuel : Nat} {cs : List Value} {x : DataW H × List MemPlace} (h : DataW.trod enc Try.prog w base spare held fuel 23 cs = some x) : ∃ a ll cap, cs = [.slice a (List.length (α := List Int) ll) cap] ∧ IntssAt w (.slice a ll.length cap) ll := by
  obtain ⟨a, rows, cap, rfl, h1, h2, _⟩ := open_rows (R := fun cs => ∃ a l cap, cs = [.slice a (List.length (α := Int) l) cap] ∧ IntsAt w (.slice a l.length cap) l) Try.underlying23 cellsRow9 (by decide) h (fun n cs' y _ hy => open_intsL Try.underlying22 Try.underlying3 cellsOne9 hy)
  obtain ⟨vs, ll, rfl, h7, h8⟩ := intss_rows rows fun r hr => (h2 r hr).1
  exact ⟨a, ll, cap, by simp [h7], vs, by simpa [h7] using h1, h7, h8⟩
theorem rows_mapW : ∀ {rows : List (List Value)}, (∀ r ∈ rows, ∃ n : Int, r = intV n ∧ n ≤ 9223372036854775807) → ∃ l : List Int, rows = l.map intV ∧ ∀ x ∈ l, x ≤ 9223372036854775807
  | [], _ => ⟨[], rfl, fun x hx => by cases hx⟩
  | r :: rows, h => by
    obtain ⟨n, rfl, h1⟩ := h r (by simp)
    obtain ⟨l, rfl, h2⟩ := rows_mapW (rows := rows) fun r hr => h r (by simp [hr])
    exact ⟨n :: l, rfl, fun x hx => by rcases List.mem_cons.1 hx with rfl | hx; exact h1; exact h2 x hx⟩
theorem open_intsW {fuel : Nat} {cs : List Value} {x : DataW H × List MemPlace} (h : DataW.trod enc Try.prog w base spare held fuel 22 cs = some x) : ∃ a l cap, cs = [.slice a (List.length (α := Int) l) cap] ∧ IntsAt w (.slice a l.length cap) l ∧ ∀ x ∈ l, x ≤ 9223372036854775807 := by
  obtain ⟨a, rows, cap, rfl, h1, h2, _⟩ := open_rows (R := fun cs => ∃ n : Int, cs = intV n ∧ n ≤ 9223372036854775807) Try.underlying22 cellsOne9 (by decide) h (fun n cs' y _ hy => by
    obtain ⟨m, rfl, _, hw⟩ := DataW.trod_int Try.underlying3 hy
    refine ⟨m, rfl, ?_⟩
    simp only [Lit.wf, Bool.and_eq_true, decide_eq_true_eq] at hw
    exact hw.2)
  obtain ⟨l, rfl, h3⟩ := rows_mapW fun r hr => (h2 r hr).1
  exact ⟨a, l, cap, by simp, by simpa [IntsAt] using h1, h3⟩
theorem open_dfaW {fuel : Nat} {cs : List Value} {x : DataW H × List MemPlace} (h : DataW.trod enc Try.prog w base spare held fuel 25 cs = some x) : ∃ d : Dfa, DfaAt w d cs ∧ ∀ x ∈ d.accept, x ≤ 9223372036854775807 := by
  obtain ⟨xs, n, rfl, _, hl, hx, hf⟩ := DataW.trod_struct Try.underlying25 h
  rw [cellsDfa9] at hl
  match cs, hl with
  | [c0, c1, c2], _ =>
    have h0 : DataW.trod enc Try.prog w base spare held n 3 (([c0, c1, c2].drop 0).take (Try.prog.cellsOf 3)) = xs[0]? := hf 0 _ rfl
    have h1 : DataW.trod enc Try.prog w base spare held n 22 (([c0, c1, c2].drop 1).take (Try.prog.cellsOf 22)) = xs[1]? := hf 1 _ rfl
    have h2 : DataW.trod enc Try.prog w base spare held n 23 (([c0, c1, c2].drop 2).take (Try.prog.cellsOf 23)) = xs[2]? := hf 2 _ rfl
    simp only [cellsOne9, cellsRow9, cellsRows9, List.drop, List.take] at h0 h1 h2
    rw [List.getElem?_eq_getElem (by rw [hx]; decide)] at h0 h1 h2
    obtain ⟨st, e0, _⟩ := DataW.trod_int Try.underlying3 h0
    obtain ⟨aa, la, ac, e1, ha, hw⟩ := open_intsW h1
    obtain ⟨na, ln, nc, e2, hn⟩ := open_intss h2
    simp at e0 e1 e2
    subst e0; subst e1; subst e2
    exact ⟨⟨st, la, ln⟩, ⟨aa, ac, na, nc, rfl, ha, hn⟩, hw⟩
end
end Go.Proofs
