/- A list of lists that are all one's own: its own cells hold slices, each of its own block. Keys of a map made of marks. -/
import Derived.Test.YtpjamnekclkhhaaLc
import Derived.Test.YtpjamnekclkhhaaMq
import Derived.Laws.BytesArg
namespace Go.Proofs
open Go Go.Eng Go.Sort

abbrev TSs : Nat := 23
structure CSt (w : World) (base : Nat) (vo : Value) (vs : List Value) (outs : List (List Sp)) : Prop where
  o : w.ownsRow base TSs 1 vo outs.length vs
  len : vs.length = outs.length
  inn : ∀ (i : Nat) v l, vs[i]? = some v → outs[i]? = some l → w.ownsRow base TSp 2 v l.length (l.map spanV).flatten
  ap : ∀ (i j : Nat) v u b, vs[i]? = some v → vs[j]? = some u → v.ownBlock = some b → u.ownBlock = some b → i = j
  apo : ∀ (i : Nat) v b, vs[i]? = some v → v.ownBlock = some b → vo.ownBlock ≠ some b
theorem CSt.start (w : World) (base : Nat) : CSt w base (.slice none 0 0) [] [] :=
  ⟨World.ownsRow_nil _ _ _ _, rfl, fun i v l h => by simp at h, fun i j v u b h => by simp at h, fun i v b h => by simp at h⟩
theorem CSt.some {w : World} {base : Nat} {vo : Value} {vs : List Value} {outs : List (List Sp)} (h : CSt w base vo vs outs) {i : Nat} {v : Value} (hv : vs[i]? = some v) : ∃ l, outs[i]? = some l :=
  get_of_lt (by have := lt_of_get hv; have := h.len; omega)
theorem CSt.chg {M : Nat → Prop} {w w' : World} {base : Nat} {vo : Value} {vs : List Value} {outs : List (List Sp)} (h : CSt w base vo vs outs) (c : Chg M w w') (hM : ∀ b, base ≤ b → b < w.heap.size → ¬ M b) : CSt w' base vo vs outs :=
  ⟨own_chg h.o c fun k hk => hM k (h.o.lt k hk).1 (h.o.lt k hk).2, h.len, fun i v l hv hl => own_chg (h.inn i v l hv hl) c fun k hk => hM k ((h.inn i v l hv hl).lt k hk).1 ((h.inn i v l hv hl).lt k hk).2, h.ap, h.apo⟩
theorem CSt.ext {w w' : World} {base : Nat} {vo : Value} {vs : List Value} {outs : List (List Sp)} (h : CSt w base vo vs outs) (c : Ext w w') : CSt w' base vo vs outs := h.chg c fun _ _ _ f => f
theorem CSt.push {w w' : World} {base : Nat} {vo v' : Value} {vs : List Value} {outs : List (List Sp)} (h : CSt w base vo vs outs) (Ov : w'.ownsRow base TSs 1 v' (outs.length + 1) (vs ++ [.slice none 0 0])) (Cv : Chg (fun x => vo.ownBlock = .some x) w w')
    (Wv : ∀ k, v'.ownBlock = .some k → vo.ownBlock = .some k ∨ w.heap.size ≤ k) : CSt w' base v' (vs ++ [.slice none 0 0]) (outs ++ [[]]) := by
  have hold : ∀ (i : Nat) v, (vs ++ [.slice none 0 0])[i]? = .some v → vs[i]? = .some v ∨ (i = vs.length ∧ v = .slice none 0 0) := by
    intro i v hv
    rcases Nat.lt_or_ge i vs.length with h1 | h1
    · left; rwa [List.getElem?_append_left h1] at hv
    · right
      rw [List.getElem?_append_right h1] at hv
      have h2 := lt_of_get hv
      simp at h2
      obtain rfl : i = vs.length := by omega
      simp at hv
      exact ⟨rfl, hv.symm⟩
  refine ⟨by simpa using Ov, by simp [h.len], ?_, ?_, ?_⟩
  · intro i v l hv hl
    rcases hold i v hv with h1 | ⟨h1, rfl⟩
    · rw [List.getElem?_append_left (by have := lt_of_get h1; have := h.len; omega)] at hl
      exact own_chg (h.inn i v l h1 hl) Cv fun k hk => h.apo i v k h1 hk
    · rw [h1, h.len] at hl
      simp at hl
      subst hl
      exact World.ownsRow_nil _ _ _ _
  · intro i j v u b hv hu hb hb'
    rcases hold i v hv with h1 | ⟨_, rfl⟩
    · rcases hold j u hu with h2 | ⟨_, rfl⟩
      · exact h.ap i j v u b h1 h2 hb hb'
      · cases hb'
    · cases hb
  · intro i v b hv hb hb'
    rcases hold i v hv with h1 | ⟨_, rfl⟩
    · rcases Wv b hb' with h2 | h2
      · exact h.apo i v b h1 hb h2
      · obtain ⟨l, hl⟩ := h.some h1
        have := ((h.inn i v l h1 hl).lt b hb).2
        omega
    · cases hb
/-- One list grows, and its new slice is stored in the outer one. -/
theorem CSt.grow {w w' w2 : World} {base g cap k n : Nat} {v v' : Value} {vs : List Value} {outs : List (List Sp)} {l : List Sp} {x : Sp} {cur : Array Value} (h : CSt w base (.slice (.some ⟨g, 0, none⟩) n cap) vs outs) (hn : n = outs.length) (hv : vs[k]? = .some v) (hl : outs[k]? = .some l)
    (Ov : w'.ownsRow base TSp 2 v' (l.length + 1) ((l ++ [x]).map spanV).flatten) (Cv : Chg (fun x => v.ownBlock = .some x) w w') (Wv : ∀ k, v'.ownBlock = .some k → v.ownBlock = .some k ∨ w.heap.size ≤ k)
    (hB : Blk w' g cur TSs) (P2 : Put w' w2 g (cur.setIfInBounds k v') TSs) : CSt w2 base (.slice (.some ⟨g, 0, none⟩) n cap) (vs.set k v') (outs.set k (l ++ [x])) := by
  have hkl := lt_of_get hv
  have hgv : v.ownBlock ≠ .some g := fun e => h.apo k v g hv e rfl
  have hgl := (h.o.lt g rfl).2
  have hv'g : v'.ownBlock ≠ .some g := fun e => by rcases Wv g e with h1 | h1; exact hgv h1; omega
  have ho1 : w'.ownsRow base TSs 1 (.slice (.some ⟨g, 0, none⟩) n cap) outs.length vs := own_chg h.o Cv fun q hq => by cases hq; exact hgv
  rw [← hn] at ho1
  have ho2 := own_write ho1 hB (i := k) (by have := h.len; omega) P2.blk
  have hset : ∀ (i : Nat) u, (vs.set k v')[i]? = .some u → (i = k ∧ u = v') ∨ (i ≠ k ∧ vs[i]? = .some u) := by
    intro i u hu
    rw [List.getElem?_set] at hu
    split at hu
    · rename_i he
      exact .inl ⟨he.symm, (Option.some.inj hu).symm⟩
    · rename_i he
      exact .inr ⟨fun e => he e.symm, hu⟩
  have hne : ∀ (i : Nat) u b, i ≠ k → vs[i]? = .some u → u.ownBlock = .some b → v.ownBlock ≠ .some b ∧ v'.ownBlock ≠ .some b ∧ b ≠ g := by
    intro i u b hi hu hb
    have h1 : v.ownBlock ≠ .some b := fun e => hi (h.ap i k u v b hu hv hb e)
    refine ⟨h1, fun e => ?_, fun e => h.apo i u b hu hb (by rw [e]; rfl)⟩
    rcases Wv b e with h2 | h2
    · exact h1 h2
    · obtain ⟨q, hq⟩ := h.some hu
      have := ((h.inn i u q hu hq).lt b hb).2
      omega
  refine ⟨by rw [List.length_set, ← hn]; exact ho2, by simp [h.len], ?_, ?_, ?_⟩
  · intro i u q hu hq
    rcases hset i u hu with ⟨rfl, rfl⟩ | ⟨h1, h2⟩
    · rw [List.getElem?_set] at hq
      rw [if_pos rfl, if_pos (by have := h.len; omega)] at hq
      have hq' := Option.some.inj hq
      subst hq'
      rw [List.length_append]
      exact own_chg Ov P2.chg fun b hb e => hv'g (e ▸ hb)
    · rw [List.getElem?_set, if_neg (fun e => h1 e.symm)] at hq
      exact own_chg (own_chg (h.inn i u q h2 hq) Cv fun b hb => (hne i u b h1 h2 hb).1) P2.chg fun b hb e => (hne i u b h1 h2 hb).2.2 e
  · intro i j u z b hu hz hb hb'
    rcases hset i u hu with ⟨rfl, rfl⟩ | ⟨h1, h2⟩ <;> rcases hset j z hz with ⟨rfl, rfl⟩ | ⟨h3, h4⟩
    · rfl
    · exact absurd hb (hne j z b h3 h4 hb').2.1
    · exact absurd hb' (hne i u b h1 h2 hb).2.1
    · exact h.ap i j u z b h2 h4 hb hb'
  · intro i u b hu hb
    rcases hset i u hu with ⟨rfl, rfl⟩ | ⟨h1, h2⟩
    · intro e; cases e; exact hv'g hb
    · exact h.apo i u b h2 hb
/-! Marks as the keys of a map. -/
def bitN (b : Bool) : Int := if b then 1 else 0
def encB (m : List Bool) : ByteArray := strOfNums (m.map bitN)
theorem encB_inj {m m' : List Bool} (h : encB m = encB m') : m = m' := by
  have h1 := congrArg (fun s => s.data.toList) h
  simp only [encB, strOfNums_data, List.map_map] at h1
  exact (List.map_inj_right (fun x y hxy => by cases x <;> cases y <;> first | rfl | (simp [bitN] at hxy; done) | (exact absurd hxy (by decide)))).1 h1
def keysM : List (List Bool) → Nat → List (ByteArray × Int)
  | [], _ => []
  | m :: ks, n => (encB m, ((n : Nat) : Int)) :: keysM ks (n + 1)
theorem keysM_snoc : ∀ (ks : List (List Bool)) (m : List Bool) (n : Nat), keysM (ks ++ [m]) n = keysM ks n ++ [(encB m, (((n + ks.length : Nat) : Nat) : Int))]
  | [], m, n => rfl
  | x :: ks, m, n => by
    show (encB x, _) :: keysM (ks ++ [m]) (n + 1) = (encB x, _) :: (keysM ks (n + 1) ++ _)
    rw [keysM_snoc ks m (n + 1), List.length_cons, show n + 1 + ks.length = n + (ks.length + 1) by omega]
theorem keysM_mem : ∀ {ks : List (List Bool)} {n : Nat} {q : ByteArray × Int}, q ∈ keysM ks n → ∃ (j : Nat) (m : List Bool), ks[j]? = some m ∧ q = (encB m, (((n + j : Nat) : Nat) : Int))
  | [], _, _, h => by cases h
  | x :: ks, n, q, h => by
    rcases List.mem_cons.1 h with h | h
    · exact ⟨0, x, rfl, h⟩
    · obtain ⟨j, m, h1, h2⟩ := keysM_mem h
      exact ⟨j + 1, m, h1, by rw [h2]; congr 2; omega⟩
theorem keysM_key : ∀ {ks : List (List Bool)} {n : Nat} {m : List Bool}, m ∈ ks → encB m ∈ (keysM ks n).map (·.1)
  | x :: ks, n, m, h => by
    rcases List.mem_cons.1 h with rfl | h
    · exact List.mem_cons_self
    · exact List.mem_cons_of_mem _ (keysM_key (n := n + 1) h)
theorem keysM_get {ks : List (List Bool)} {m : List Bool} {v : Int} (h : getM (keysM ks 0) (encB m) = some v) : ∃ j : Nat, v = ((j : Nat) : Int) ∧ ks[j]? = some m := by
  obtain ⟨j, m', h1, h2⟩ := keysM_mem (getM_some_mem h)
  simp only [Prod.mk.injEq, Nat.zero_add] at h2
  obtain rfl := encB_inj h2.1
  exact ⟨j, h2.2, h1⟩
theorem keysM_none {ks : List (List Bool)} {m : List Bool} (h : getM (keysM ks 0) (encB m) = none) : m ∉ ks ∧ putM (keysM ks 0) (encB m) ((ks.length : Nat) : Int) = keysM (ks ++ [m]) 0 := by
  refine ⟨fun hm => ?_, ?_⟩
  · have := getM_isSome.2 (keysM_key (n := 0) hm)
    rw [h] at this; cases this
  · rw [putM_none _ h, keysM_snoc, Nat.zero_add]
end Go.Proofs
