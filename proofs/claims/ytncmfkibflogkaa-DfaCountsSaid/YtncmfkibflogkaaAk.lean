/- An automaton while it is made: its rows and its results, two slices of one's own that grow side by side. -/
import Derived.Test.YtncmfkibflogkaaAd
import Derived.Test.YtncmfkibflogkaaDagX
namespace Go.Proofs
open Go Go.Eng Go.Sort
set_option maxRecDepth 100000

def OutB (E N : Value) (vs : List Value) (b : Nat) : Prop := E.ownBlock = some b ∨ N.ownBlock = some b ∨ ∃ (i : Nat) (v : Value), vs[i]? = some v ∧ v.ownBlock = some b
structure OutSt (w : World) (base : Nat) (E N : Value) (vs : List Value) (acc : List Int) (rows : List (List Int)) : Prop where
  e : w.ownsRow base TDI 1 E acc.length (acc.map (Value.int .i64))
  n : LSt TDIs TDI 1 w base N vs (rows.map iRow)
  en : ∀ b, E.ownBlock = some b → N.ownBlock ≠ some b
  ei : ∀ (i : Nat) v b, vs[i]? = some v → v.ownBlock = some b → E.ownBlock ≠ some b
theorem OutSt.start (w : World) (base : Nat) : OutSt w base (.slice none 0 0) (.slice none 0 0) [] [] [] :=
  ⟨World.ownsRow_nil _ _ _ _, LSt.start _ _ _ _ _, (fun b h => by cases h), fun i v b h => by simp at h⟩
theorem OutSt.lt {w : World} {base : Nat} {E N : Value} {vs : List Value} {acc : List Int} {rows : List (List Int)} (h : OutSt w base E N vs acc rows) {b : Nat} (hb : OutB E N vs b) : base ≤ b ∧ b < w.heap.size := by
  rcases hb with h1 | h1 | ⟨i, v, h1, h2⟩
  · exact h.e.lt b h1
  · exact h.n.o.lt b h1
  · obtain ⟨p, hp⟩ := get_of_lt (l := rows.map iRow) (i := i) (by have := lt_of_get h1; have := h.n.len; omega)
    exact (h.n.inn i v p h1 hp).lt b h2
theorem OutSt.chg {M : Nat → Prop} {w w' : World} {base : Nat} {E N : Value} {vs : List Value} {acc : List Int} {rows : List (List Int)} (h : OutSt w base E N vs acc rows) (c : Chg M w w') (hM : ∀ b, OutB E N vs b → ¬ M b) : OutSt w' base E N vs acc rows :=
  ⟨own_chg h.e c fun b hb => hM b (.inl hb), ⟨own_chg h.n.o c fun b hb => hM b (.inr (.inl hb)), h.n.len, fun i v p hv hp => own_chg (h.n.inn i v p hv hp) c fun b hb => hM b (.inr (.inr ⟨i, v, hv, hb⟩)), h.n.apo⟩, h.en, h.ei⟩
theorem OutSt.ext {w w' : World} {base : Nat} {E N : Value} {vs : List Value} {acc : List Int} {rows : List (List Int)} (h : OutSt w base E N vs acc rows) (c : Ext w w') : OutSt w' base E N vs acc rows := h.chg c fun _ _ f => f
/-- A row and a result are added. -/
theorem OutSt.push {w w' : World} {base bu m : Nat} {E E' N N' u : Value} {vs : List Value} {acc row : List Int} {rows : List (List Int)} {y : Int} (h : OutSt w base E N vs acc rows) (hu : w.ownsRow bu TDI 1 u m (row.map (Value.int .i64))) (hm : m = row.length) (hb : base ≤ bu) (hbu : ∀ b, OutB E N vs b → b < bu)
    (C : Chg (fun b => N.ownBlock = some b ∨ E.ownBlock = some b) w w') (ON : w'.ownsRow base TDIs 1 N' (rows.length + 1) (vs ++ [u])) (WN : ∀ k, N'.ownBlock = some k → N.ownBlock = some k ∨ w.heap.size ≤ k)
    (OE : w'.ownsRow base TDI 1 E' (acc.length + 1) ((acc ++ [y]).map (Value.int .i64))) (WE : ∀ k, E'.ownBlock = some k → E.ownBlock = some k ∨ w.heap.size ≤ k) (ap : ∀ b, N'.ownBlock = some b → E'.ownBlock ≠ some b) : OutSt w' base E' N' (vs ++ [u]) (acc ++ [y]) (rows ++ [row]) := by
  have hul := fun b (hb' : u.ownBlock = some b) => hu.lt b hb'
  have hold : ∀ (i : Nat) v, (vs ++ [u])[i]? = some v → vs[i]? = some v ∨ (i = vs.length ∧ v = u) := fun i v hv => by
    rcases Nat.lt_or_ge i vs.length with h1 | h1
    · left; rwa [List.getElem?_append_left h1] at hv
    · right
      rw [List.getElem?_append_right h1] at hv
      have h2 := lt_of_get hv
      simp at h2
      rw [show i - vs.length = 0 by omega] at hv
      simp at hv
      exact ⟨by omega, hv.symm⟩
  have hin : ∀ (i : Nat) v b, (vs ++ [u])[i]? = some v → v.ownBlock = some b → N.ownBlock ≠ some b ∧ E.ownBlock ≠ some b ∧ b < w.heap.size := fun i v b hv hb' => by
    rcases hold i v hv with h1 | ⟨_, rfl⟩
    · exact ⟨fun e => h.n.apo i v b h1 hb' e, h.ei i v b h1 hb', (h.lt (.inr (.inr ⟨i, v, h1, hb'⟩))).2⟩
    · have := hul b hb'
      exact ⟨fun e => by have := hbu b (.inr (.inl e)); omega, fun e => by have := hbu b (.inl e); omega, this.2⟩
  have hap2 : ∀ (i : Nat) v b, (vs ++ [u])[i]? = some v → v.ownBlock = some b → N'.ownBlock ≠ some b ∧ E'.ownBlock ≠ some b := fun i v b hv hb' => by
    obtain ⟨h1, h2, h3⟩ := hin i v b hv hb'
    exact ⟨fun e => by rcases WN b e with h4 | h4; exact h1 h4; omega, fun e => by rcases WE b e with h4 | h4; exact h2 h4; omega⟩
  refine ⟨by rw [List.length_append]; exact OE, ⟨by simpa using ON, by simp [h.n.len], fun i v p hv hp => ?_, fun i v b hv hb' => (hap2 i v b hv hb').1⟩, fun b hb' e => ap b e hb', fun i v b hv hb' => (hap2 i v b hv hb').2⟩
  rw [List.map_append] at hp
  rcases hold i v hv with h1 | ⟨h1, rfl⟩
  · rw [List.getElem?_append_left (by have := lt_of_get h1; have := h.n.len; omega)] at hp
    exact own_chg (h.n.inn i v p h1 hp) C fun b hb' hC => by
      obtain ⟨h2, h3, _⟩ := hin i v b hv hb'
      rcases hC with h4 | h4
      · exact h2 h4
      · exact h3 h4
  · have hl := h.n.len
    rw [h1, hl, List.getElem?_append_right (Nat.le_refl _), Nat.sub_self] at hp
    simp [iRow] at hp
    subst hp
    rw [hm] at hu
    exact own_low (own_chg hu C fun b hb' hC => by
      obtain ⟨h2, h3, _⟩ := hin i v b hv hb'
      rcases hC with h4 | h4
      · exact h2 h4
      · exact h3 h4) hb
/-! Facts in regions where both grow. -/
theorem litF_stab {c1 c2 i e hs : Nat} {M1 M2 : Nat → Prop} {cc : Array Value} {ws : List Nat} (h1 : ∀ y, M1 y → y < hs) (h2 : ∀ y, M2 y → y < hs) : StabX (two c1 c2 M1 M2) i ws (fun _ => litF e cc hs) := by
  rintro p _ _ σ v w w' x ⟨b, h3, h4, h5⟩
  exact ⟨b, h3, x.keep (fun h => by rcases two_or h with h | h; have := h1 b h.2; omega; have := h2 b h.2; omega) h4, h5⟩
theorem appF_st1 {c1 c2 base e size n hs : Nat} {M1 M2 : Nat → Prop} {xs : List Value} {old : Value} {ws : List Nat} (h : ∀ k, (old.ownBlock = some k ∨ hs ≤ k) → ¬ M2 k) : StabX (two c1 c2 M1 M2) c1 ws (fun _ => appF base e size n xs old hs) := by
  rintro p hp _ σ v w w' x ⟨h1, h2, h3⟩
  rcases two_ext x with h4 | h4 | h4
  · exact absurd h4.1 hp
  · exact ⟨h1, own_chg h2 h4.2 (fun k hk => h k (h3 k hk)), h3⟩
  · exact ⟨h1, own_ext h2 h4, h3⟩
theorem appF_st2 {c1 c2 base e size n hs t : Nat} {M1 M2 : Nat → Prop} {xs : List Value} {old : Value} {ws : List Nat} (hw : ws.contains c1 = true) : StabX (two c1 c2 M1 M2) c2 ws (fun s v w => appF base e size n xs old hs v w ∧ ∀ b, (s t).ownBlock = some b → v.ownBlock ≠ some b) := by
  rintro p hp hpw σ v w w' x ⟨⟨h1, h2, h3⟩, h4⟩
  rcases two_ext x with h5 | h5 | h5
  · rw [h5.1, hw] at hpw; cases hpw
  · exact absurd h5.1 hp
  · exact ⟨⟨h1, own_ext h2 h5, h3⟩, h4⟩
theorem DoesT_weakD {M : Nat → Prop} {P : Program} {N : Nat} {o : Oper} {R R' : Fct} {σ : Env} {w : World} (h : DoesT M P N o R σ w) (hr : ∀ v w, R v w → R' v w) : DoesT M P N o R' σ w := fun a ha he Q K hK => h a ha he Q K fun v w2 hx2 h2 => hK v w2 hx2 (hr v w2 h2)
theorem app_two {M : Nat → Prop} {P : Program} {N : Nat} {o : Oper} {σ : Env} {w : World} {b1 e1 s1 n1 b2 e2 s2 n2 hs : Nat} {xs ys : List Value} {old old' u : Value} (h : appF b1 e1 s1 n1 ys old' hs u w) (hd : DoesT M P N o (appF b2 e2 s2 n2 xs old w.heap.size) σ w) (h4 : hs ≤ w.heap.size) (hap : ∀ k, (old'.ownBlock = some k ∨ hs ≤ k) → old.ownBlock ≠ some k) (ho : ∀ v, valOf o v = v := by intro v; rfl) :
    DoesT M P N o (fun v w => appF b2 e2 s2 n2 xs old hs (valOf o v) w ∧ ∀ b, u.ownBlock = some b → (valOf o v).ownBlock ≠ some b) σ w := by
  refine DoesT_weakD hd ?_
  rintro v w2 ⟨h1, h2, h3⟩
  rw [ho v]
  refine ⟨⟨h1, h2, fun k hk => (h3 k hk).imp id (fun h => Nat.le_trans h4 h)⟩, fun k hk hv => ?_⟩
  obtain ⟨_, h5, h6⟩ := h
  rcases h3 k hv with h7 | h7
  · exact hap k (h6 k hk) h7
  · have := (h5.lt k hk).2; omega
theorem own_exact {w : World} {b base n : Nat} {row : List Int} (h : Blk w b (row.map (Value.int .i64)).toArray TDI) (hb : base ≤ b) (hn : row.length = n) (hl : n ≤ 9223372036854775807 := by omega) : w.ownsRow base TDI 1 (.slice (some ⟨b, 0, none⟩) n n) n (row.map (Value.int .i64)) :=
  ⟨by simp [hn], .inr ⟨b, n, _, rfl, hb, h, Nat.le_refl _, hl, by simp [hn], by simp only [Nat.mul_one]; exact List.take_of_length_le (by simp [hn])⟩⟩
theorem OutSt.intss {w : World} {base : Nat} {E N : Value} {vs : List Value} {acc : List Int} {rows : List (List Int)} (h : OutSt w base E N vs acc rows) : IntssAt w N rows := by
  have hl : vs.length = rows.length := by simpa using h.n.len
  refine ⟨vs, ?_, hl, fun i u l hu hl => ?_⟩
  · have ho := h.n.o
    rw [show vs = (vs.map fun x => [x]).flatten by simp [List.flatten_eq_flatMap, List.flatMap_map]] at ho
    exact own_slat ho (by intro r hr; simp only [List.mem_map] at hr; obtain ⟨x, _, rfl⟩ := hr; rfl) (by simp [hl]) (by decide)
  · exact own_intsD (h.n.inn i u (iRow l) hu (by rw [List.getElem?_map, hl]; rfl)) rfl
end Go.Proofs
