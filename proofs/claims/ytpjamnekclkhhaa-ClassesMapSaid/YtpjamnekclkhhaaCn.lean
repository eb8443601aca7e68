/- A list of lists whose members are joined one by one and stored back. -/
import Derived.Test.YtpjamnekclkhhaaCm
namespace Go.Proofs
open Go Go.Eng Go.Sort

def InO (vo : Value) (w : World) (u : Value) (l : List Sp) : Prop := (∃ a c, u = .slice a l.length c) ∧ SlIn (fun b => vo.ownBlock ≠ some b) w 2 u (l.map spanV)
theorem own_ino {w : World} {base : Nat} {vo v : Value} {l : List Sp} (h : w.ownsRow base TSp 2 v l.length (l.map spanV).flatten) (hb : ∀ b, v.ownBlock = some b → vo.ownBlock ≠ some b) : InO vo w v l := by
  obtain ⟨a, c, rfl⟩ := own_form h
  refine ⟨⟨a, c, rfl⟩, ?_⟩
  rcases Nat.eq_zero_or_pos l.length with h0 | h0
  · have := List.eq_nil_of_length_eq_zero h0
    subst this
    exact SlIn.nil _ _ _ _ _
  · have hS : OwnS w base (.slice a l.length c) l := ⟨⟨a, c, rfl⟩, h⟩
    have hat := hS.at
    obtain ⟨g, rfl, _, _⟩ := own_cells h h0
    exact SlIn.mk hat (hb g rfl)
structure JSt (w : World) (base : Nat) (vo : Value) (us : List Value) (outs cs : List (List Sp)) (k : Nat) : Prop where
  o : w.ownsRow base TSs 1 vo outs.length us
  len : us.length = outs.length
  cl : cs.length = k
  don : ∀ (i : Nat) u c, i < k → us[i]? = some u → cs[i]? = some c → InO vo w u c
  rst : ∀ (i : Nat) u l, k ≤ i → us[i]? = some u → outs[i]? = some l → InO vo w u l
  jn : ∀ (i : Nat) q c, outs[i]? = some q → cs[i]? = some c → JoinOf q c
theorem CSt.join {w : World} {base : Nat} {vo : Value} {vs : List Value} {outs : List (List Sp)} (h : CSt w base vo vs outs) : JSt w base vo vs outs [] 0 :=
  ⟨h.o, h.len, rfl, fun i u c hi => absurd hi (Nat.not_lt_zero _), fun i u l _ hu hl => own_ino (h.inn i u l hu hl) fun b hb => h.apo i u b hu hb, fun i q c _ hc => by simp at hc⟩
theorem InO.ext {vo u : Value} {w w' : World} {l : List Sp} (h : InO vo w u l) (e : Ext w w') : InO vo w' u l := ⟨h.1, h.2.chg e fun _ _ f => f⟩
theorem JSt.ext {w w' : World} {base k : Nat} {vo : Value} {us : List Value} {outs cs : List (List Sp)} (h : JSt w base vo us outs cs k) (e : Ext w w') : JSt w' base vo us outs cs k :=
  ⟨own_ext h.o e, h.len, h.cl, fun i u c hi hu hc => (h.don i u c hi hu hc).ext e, fun i u l hi hu hl => (h.rst i u l hi hu hl).ext e, h.jn⟩
theorem JSt.step {w w2 : World} {base n1 g cap k n : Nat} {u' : Value} {us : List Value} {outs cs : List (List Sp)} {q c' : List Sp} {cur : Array Value} (h : JSt w base (.slice (some ⟨g, 0, none⟩) n cap) us outs cs k) (hn : n = outs.length) (hq : outs[k]? = some q)
    (hO : OwnS w n1 u' c') (hn1 : g < n1) (hj : JoinOf q c') (hB : Blk w g cur TSs) (P2 : Put w w2 g (cur.setIfInBounds k u') TSs) : JSt w2 base (.slice (some ⟨g, 0, none⟩) n cap) (us.set k u') outs (cs ++ [c']) (k + 1) := by
  have hkl := lt_of_get hq
  have hin : InO (.slice (some ⟨g, 0, none⟩) n cap) w u' c' := own_ino hO.2 fun b hb e => by cases e; have := (hO.2.lt g hb).1; omega
  have hput : ∀ u l, InO (.slice (some ⟨g, 0, none⟩) n cap) w u l → InO (.slice (some ⟨g, 0, none⟩) n cap) w2 u l := fun u l h1 => ⟨h1.1, h1.2.chg P2.chg fun b hb e => hb (by rw [e]; rfl)⟩
  have ho := h.o
  rw [← hn] at ho
  have ho2 := own_write ho hB (i := k) (by omega) P2.blk
  have hset : ∀ (i : Nat) u, (us.set k u')[i]? = some u → (i = k ∧ u = u') ∨ (i ≠ k ∧ us[i]? = some u) := by
    intro i u hu
    rw [List.getElem?_set] at hu
    split at hu
    · rename_i he
      split at hu
      · exact .inl ⟨he.symm, (Option.some.inj hu).symm⟩
      · cases hu
    · rename_i he
      exact .inr ⟨fun e => he e.symm, hu⟩
  refine ⟨by rw [← hn]; exact ho2, by simp [h.len], by simp [h.cl], ?_, ?_, ?_⟩
  · intro i u c hi hu hc
    rcases hset i u hu with ⟨rfl, rfl⟩ | ⟨h1, h2⟩
    · rw [List.getElem?_append_right (by have := h.cl; omega), h.cl, Nat.sub_self] at hc
      simp at hc
      subst hc
      exact hput _ _ hin
    · rw [List.getElem?_append_left (by have := h.cl; omega)] at hc
      exact hput _ _ (h.don i u c (by omega) h2 hc)
  · intro i u l hi hu hl
    rcases hset i u hu with ⟨rfl, rfl⟩ | ⟨h1, h2⟩
    · omega
    · exact hput _ _ (h.rst i u l (by omega) h2 hl)
  · intro i r c hr hc
    rcases Nat.lt_or_ge i k with h1 | h1
    · rw [List.getElem?_append_left (by have := h.cl; omega)] at hc
      exact h.jn i r c hr hc
    · rw [List.getElem?_append_right (by have := h.cl; omega)] at hc
      have h2 := lt_of_get hc
      simp at h2
      have h3 := h.cl
      obtain rfl : i = k := by omega
      rw [h3, Nat.sub_self] at hc
      simp at hc
      subst hc
      rw [hq] at hr
      cases hr
      exact hj
theorem JSt.done {w : World} {base k : Nat} {vo : Value} {us : List Value} {outs cs : List (List Sp)} (h : JSt w base vo us outs cs k) (hk : k = outs.length) : SpssAt w vo cs := by
  refine ⟨us, ?_, by rw [h.len, h.cl, hk], fun i u l hu hl => (h.don i u l (by have := lt_of_get hl; have := h.cl; omega) hu hl).2.at⟩
  have ho := h.o
  rw [show us = (us.map fun x => [x]).flatten by simp [List.flatten_eq_flatMap, List.flatMap_map]] at ho
  exact own_slat ho (by intro r hr; simp only [List.mem_map] at hr; obtain ⟨x, _, rfl⟩ := hr; rfl) (by simp [h.len]) (by decide)
theorem join_ex (o : List Sp) : ∃ c, JoinOf o c := by
  let le : Sp → Sp → Bool := fun s t => decide (s.1 ≤ t.1)
  refine ⟨_, o.mergeSort le, List.mergeSort_perm o le, ?_, rfl⟩
  have := List.pairwise_mergeSort (le := le) (fun a b c h1 h2 => by simp [le] at *; omega) (fun a b => by simp [le]; omega) o
  exact this.imp fun h => by simpa [le] using h
theorem joins_ex : ∀ outs : List (List Sp), ∃ cs : List (List Sp), cs.length = outs.length ∧ ∀ (k : Nat) o c, outs[k]? = some o → cs[k]? = some c → JoinOf o c
  | [] => ⟨[], rfl, fun k o c h => by simp at h⟩
  | o :: outs => by
    obtain ⟨c, hc⟩ := join_ex o
    obtain ⟨cs, h1, h2⟩ := joins_ex outs
    refine ⟨c :: cs, by simp [h1], fun k q r hq hr => ?_⟩
    cases k with
    | zero => simp at hq hr; subst hq; subst hr; exact hc
    | succ k => exact h2 k q r (by simpa using hq) (by simpa using hr)
theorem cls_large {ll : List (List Sp)} {p : List Int} {ks : List (List Bool)} {outs : List (List Sp)} {o c : List Sp} {k : Nat} (h : GInv ll p p.length ks outs) (hp : PcsOf ll.flatten p) (ho : outs[k]? = some o) (hj : JoinOf o c) (hc : 16 < c.length) : ∃ cs, clsL ll cs ∧ largeB cs := by
  obtain ⟨cs, h1, h2⟩ := joins_ex outs
  refine ⟨cs, h.done hp h1 h2, .inl ?_⟩
  obtain ⟨d, hd⟩ := get_of_lt (l := cs) (i := k) (by have := lt_of_get ho; omega)
  refine ⟨d, List.mem_of_getElem? hd, ?_⟩
  have hv := (h.ok k o ho).1
  rw [IsSet.eq (IsSet.join (h2 k o d ho hd) hv).1 (IsSet.join hj hv).1 fun _ _ _ => rfl]
  exact hc
end Go.Proofs
