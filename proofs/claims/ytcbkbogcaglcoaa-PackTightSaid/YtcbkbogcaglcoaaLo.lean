/- Plain: packing row by row; and two slices of the call's own. -/
import Derived.Test.YtcbkbogcaglcoaaWq
namespace Go.Proofs
open Go Go.Eng

structure PSt (rows : List (List Int)) (order : List Nat) (cols j : Nat) (owner nxt : List Int) (bs : List Nat) : Prop where
  pk : Packed rows (allF rows (order.take j)) owner nxt bs
  ol : owner.length ≤ j * cols
  bl : bs.length = rows.length
  bm : ∀ b ∈ bs, b ≤ rows.length * cols
theorem PSt.start (rows : List (List Int)) (order : List Nat) (cols : Nat) : PSt rows order cols 0 [] [] (List.replicate rows.length 0) :=
  ⟨by simpa [allF] using Packed.nil rows _, by simp, by simp, fun b hb => by rw [(List.mem_replicate.1 hb).2]; exact Nat.zero_le _⟩
theorem getD_of {rows : List (List Int)} {s : Nat} {row : List Int} (h : rows[s]? = some row) : rows.getD s [] = row := by rw [List.getD_eq_getElem?_getD, h]; rfl
theorem PSt.skip {rows : List (List Int)} {order : List Nat} {cols j s : Nat} {owner nxt : List Int} {bs : List Nat} {row : List Int} (h : PSt rows order cols j owner nxt bs) (hs : order[j]? = some s) (hrow : rows[s]? = some row) (h0 : idxs row = []) : PSt rows order cols (j + 1) owner nxt bs := by
  refine ⟨?_, by have := h.ol; rw [Nat.succ_mul]; omega, h.bl, h.bm⟩
  have : rowF rows s = [] := by unfold rowF; rw [getD_of hrow, h0]; rfl
  rw [allF_take hs, this, List.append_nil]
  exact h.pk
structure QSt (rows : List (List Int)) (order : List Nat) (cols j s m : Nat) (row : List Int) (q : Nat) (owner nxt : List Int) (bs : List Nat) : Prop where
  pk : Packed rows (allF rows (order.take j) ++ (rowF rows s).take q) owner nxt bs
  hb : bs[s]? = some m
  fr : ∀ (i c : Nat), q ≤ i → (idxs row)[i]? = some c → freeB owner (m + c) = true
  mb : m ≤ j * cols
  ol : owner.length ≤ (j + 1) * cols
  bl : bs.length = rows.length
  bm : ∀ b ∈ bs, b ≤ rows.length * cols
theorem QSt.start {rows : List (List Int)} {order : List Nat} {cols j s m : Nat} {row owner nxt : List Int} {bs : List Nat} (h : PSt rows order cols j owner nxt bs) (hs : order[j]? = some s) (hnd : order.Nodup) (hsl : s < rows.length) (hm : m ≤ owner.length) (hj : j ≤ rows.length) (hfr : ∀ c ∈ idxs row, freeB owner (m + c) = true) : QSt rows order cols j s m row 0 owner nxt (bs.set s m) := by
  have hmj : m ≤ j * cols := Nat.le_trans hm h.ol
  refine ⟨?_, List.getElem?_set_self (by rw [h.bl]; exact hsl), fun i c _ hc => hfr c (List.mem_of_getElem? hc), hmj, by have := h.ol; rw [Nat.succ_mul]; omega, by rw [List.length_set, h.bl], fun b hb => ?_⟩
  · rw [List.take_zero, List.append_nil]
    refine h.pk.base (fun c hc => ?_) m
    rw [mem_allF] at hc
    obtain ⟨i, hi⟩ := List.getElem?_of_mem hc.1
    have hil : i < j := by have := lt_of_get hi; simp at this; omega
    rw [List.getElem?_take_of_lt hil] at hi
    have := (List.getElem?_inj (lt_of_get hi) hnd).1 (hi.trans hs.symm)
    omega
  · rcases List.mem_or_eq_of_mem_set hb with hb | rfl
    · exact h.bm b hb
    · exact Nat.le_trans hmj (Nat.mul_le_mul_right _ hj)
theorem freeB_pad {ow : List Int} {i : Nat} (h : freeB ow i = true) : freeB (ow ++ [-1]) i = true := by
  rw [freeB_iff] at h ⊢
  rcases h with h | ⟨x, h1, h2⟩
  · rcases Nat.lt_or_eq_of_le h with h1 | h1
    · left; simp; omega
    · right
      refine ⟨-1, ?_, by decide⟩
      rw [← h1, List.getElem?_append_right (Nat.le_refl _)]; simp
  · right
    exact ⟨x, by rw [List.getElem?_append_left (lt_of_get h1)]; exact h1, h2⟩
theorem QSt.pad {rows : List (List Int)} {order : List Nat} {cols j s m q c : Nat} {row owner nxt : List Int} {bs : List Nat} (h : QSt rows order cols j s m row q owner nxt bs) (hlen : owner.length ≤ m + c) (hc : c < cols) : QSt rows order cols j s m row q (owner ++ [-1]) (nxt ++ [-1]) bs :=
  ⟨h.pk.pad, h.hb, fun i c' hi hc' => freeB_pad (h.fr i c' hi hc'), h.mb, by have := h.mb; simp; rw [Nat.succ_mul]; omega, h.bl, h.bm⟩
theorem QSt.put {rows : List (List Int)} {order : List Nat} {cols j s m q c : Nat} {row owner nxt : List Int} {bs : List Nat} {x : Int} (h : QSt rows order cols j s m row q owner nxt bs) (hrow : rows[s]? = some row) (hq : (idxs row)[q]? = some c) (hx : row[c]? = some x) (hlen : m + c < owner.length) : QSt rows order cols j s m row (q + 1) (owner.set (m + c) ((s : Nat) : Int)) (nxt.set (m + c) x) bs := by
  have h0 : 0 ≤ x := by
    obtain ⟨y, h1, h2⟩ := mem_idxs.1 (List.mem_of_getElem? hq)
    rw [hx] at h1; cases h1; exact h2
  have hf := freeB_iff.1 (h.fr q c (Nat.le_refl _) hq)
  have hm1 : owner[m + c]? = some (-1) := by
    rcases hf with hf | ⟨y, h1, h2⟩
    · omega
    · rcases h.pk.slot (m + c) hlen with ⟨h3, _⟩ | ⟨s', c', b', x', row', _, _, _, h3, _⟩
      · exact h3
      · rw [h3] at h1; simp at h1; omega
  have hr : (rowF rows s)[q]? = some (s, c) := by unfold rowF; rw [getD_of hrow, List.getElem?_map, hq]; rfl
  refine ⟨?_, h.hb, fun i c' hi hc' => ?_, h.mb, by simpa using h.ol, h.bl, h.bm⟩
  · rw [List.take_add_one, hr, ← List.append_assoc]
    exact h.pk.put h.hb hm1 hrow hx h0
  · have hne : c' ≠ c := by
      intro he
      subst he
      have := (List.getElem?_inj (lt_of_get hc') (idxs_nodup row)).1 (hc'.trans hq.symm)
      omega
    have h4 := freeB_iff.1 (h.fr i c' (by omega) hc')
    refine freeB_iff.2 ?_
    rw [List.length_set]
    rcases h4 with h4 | ⟨y, h5, h6⟩
    · exact .inl h4
    · exact .inr ⟨y, by rw [List.getElem?_set_ne (by omega)]; exact h5, h6⟩
theorem QSt.done {rows : List (List Int)} {order : List Nat} {cols j s m : Nat} {row owner nxt : List Int} {bs : List Nat} (h : QSt rows order cols j s m row (idxs row).length owner nxt bs) (hs : order[j]? = some s) (hrow : rows[s]? = some row) : PSt rows order cols (j + 1) owner nxt bs := by
  refine ⟨?_, h.ol, h.bl, h.bm⟩
  have := h.pk
  have hl : (rowF rows s).length = (idxs row).length := by unfold rowF; rw [getD_of hrow, List.length_map]
  rw [← hl, List.take_length] at this
  rw [allF_take hs]; exact this

def ApartV (u v : Value) : Prop := ∀ y, u.ownBlock = some y → v.ownBlock ≠ some y
structure OSt (n2 : Nat) (B : Nat → Prop) (w : World) (vo vn : Value) (L : Nat) (owner nxt : List Int) : Prop where
  o : w.ownsRow n2 TI 1 vo L (owner.map (Value.int .i64))
  n : w.ownsRow n2 TI 1 vn L (nxt.map (Value.int .i64))
  ap : ApartV vo vn
  ob : ∀ b, vo.ownBlock = some b → ¬ B b
  nb : ∀ b, vn.ownBlock = some b → ¬ B b
  ol : owner.length = L
  nl : nxt.length = L
theorem OSt.start (n2 : Nat) (B : Nat → Prop) (w : World) : OSt n2 B w (.slice none 0 0) (.slice none 0 0) 0 [] [] :=
  ⟨World.ownsRow_nil _ _ _ _, World.ownsRow_nil _ _ _ _, (fun k h => by cases h), (fun k h => by cases h), (fun k h => by cases h), rfl, rfl⟩
section
variable {n2 L : Nat} {B B' M : Nat → Prop} {w w' : World} {vo vn : Value} {owner nxt : List Int}
theorem OSt.ext (h : OSt n2 B w vo vn L owner nxt) (e : Ext w w') : OSt n2 B w' vo vn L owner nxt := ⟨own_ext h.o e, own_ext h.n e, h.ap, h.ob, h.nb, h.ol, h.nl⟩
theorem OSt.chg (h : OSt n2 B w vo vn L owner nxt) (e : Chg M w w') (hM : ∀ y, M y → y < n2 ∨ B y) : OSt n2 B w' vo vn L owner nxt := by
  refine ⟨own_chg h.o e (fun k hk hm => ?_), own_chg h.n e (fun k hk hm => ?_), h.ap, h.ob, h.nb, h.ol, h.nl⟩
  · rcases hM k hm with h1 | h1
    · have := (h.o.lt k hk).1; omega
    · exact h.ob k hk h1
  · rcases hM k hm with h1 | h1
    · have := (h.n.lt k hk).1; omega
    · exact h.nb k hk h1
theorem OSt.new (h : OSt n2 B w vo vn L owner nxt) : ∀ y, w.heap.size ≤ y → vo.ownBlock ≠ some y ∧ vn.ownBlock ≠ some y := fun y hy => ⟨fun he => by have := h.o.lt y he; omega, fun he => by have := h.n.lt y he; omega⟩
theorem OSt.fresh (h : OSt n2 B w vo vn L owner nxt) (hb : ∀ y, B' y → B y ∨ (vo.ownBlock ≠ some y ∧ vn.ownBlock ≠ some y)) : OSt n2 B' w vo vn L owner nxt :=
  ⟨h.o, h.n, h.ap, fun y hy hB => (hb y hB).elim (h.ob y hy) (fun k => k.1 hy), fun y hy hB => (hb y hB).elim (h.nb y hy) (fun k => k.2 hy), h.ol, h.nl⟩
theorem OSt.pad {wb : World} {vo' vn' : Value} (h : OSt n2 B w vo vn L owner nxt) (O : wb.ownsRow n2 TI 1 vo' (L + 1) (owner.map (Value.int .i64) ++ [.int .i64 (-1)])) (D : ∀ k, vo'.ownBlock = some k → vo.ownBlock = some k ∨ w.heap.size ≤ k)
    (O' : wb.ownsRow n2 TI 1 vn' (L + 1) (nxt.map (Value.int .i64) ++ [.int .i64 (-1)])) (D' : ∀ k, vn'.ownBlock = some k → vn.ownBlock = some k ∨ w.heap.size ≤ k) (ap : ApartV vo' vn') (hB : ∀ y, B y → y < w.heap.size) : OSt n2 B wb vo' vn' (L + 1) (owner ++ [-1]) (nxt ++ [-1]) := by
  refine ⟨by simpa using O, by simpa using O', ap, fun k hk hm => ?_, fun k hk hm => ?_, by simp [h.ol], by simp [h.nl]⟩
  · rcases D k hk with h1 | h1
    · exact h.ob k h1 hm
    · have := hB k hm; omega
  · rcases D' k hk with h1 | h1
    · exact h.nb k h1 hm
    · have := hB k hm; omega
end
theorem own_ints {w : World} {base n : Nat} {v : Value} {l : List Int} (h : w.ownsRow base TI 1 v n (l.map (Value.int .i64))) (hn : l.length = n) : IntsAt w v l := by
  rw [← flat_intV] at h
  exact own_slat h (by intro r hr; simp only [List.mem_map] at hr; obtain ⟨p, _, rfl⟩ := hr; rfl) (by simpa using hn) (by decide)
theorem own_blk {w : World} {base n c : Nat} {a : Option Addr} {l : List Int} (h : w.ownsRow base TI 1 (.slice a n c) n (l.map (Value.int .i64))) (hn : 0 < n) : ∃ g rest, a = some ⟨g, 0, none⟩ ∧ base ≤ g ∧ n ≤ c ∧ c ≤ maxLen ∧ (l.map (Value.int .i64) ++ rest).length = c ∧ Blk w g (l.map (Value.int .i64) ++ rest).toArray TI := by
  rcases h.2 with ⟨h1, rfl⟩ | ⟨g, cap, cur, hv, hb, hgg, hnc, hcm, hcs, htake⟩
  · omega
  · simp only [Value.slice.injEq] at hv
    obtain ⟨rfl, _, rfl⟩ := hv
    have e1 : l.map (Value.int .i64) ++ cur.toList.drop (n * 1) = cur.toList := by rw [← htake, List.take_append_drop]
    refine ⟨g, cur.toList.drop (n * 1), rfl, hb, hnc, hcm, by rw [e1]; simpa using hcs, ?_⟩
    rw [e1]
    exact hgg
theorem blk_own {w : World} {base g n c : Nat} {l : List Int} {rest : List Value} (h : Blk w g (l.map (Value.int .i64) ++ rest).toArray TI) (hb : base ≤ g) (hn : l.length = n) (hc : n ≤ c) (hm : c ≤ maxLen) (hl : (l.map (Value.int .i64) ++ rest).length = c) : w.ownsRow base TI 1 (.slice (some ⟨g, 0, none⟩) n c) n (l.map (Value.int .i64)) :=
  ⟨by simpa using hn, .inr ⟨g, c, _, rfl, hb, h, hc, hm, by simpa using hl, by simp [← hn]⟩⟩
theorem natV_mem {x : Int} {l : List Nat} (h : x ∈ natV l) : ∃ s, s ∈ l ∧ x = ((s : Nat) : Int) := by
  simp only [natV, List.mem_map] at h
  obtain ⟨s, h1, h2⟩ := h
  exact ⟨s, h1, h2.symm⟩
theorem natV_get {l : List Nat} {i s : Nat} (h : l[i]? = some s) : (natV l)[i]? = some ((s : Nat) : Int) := by simp [natV, h]
theorem natV_set {l : List Nat} {i s : Nat} : (natV l).set i ((s : Nat) : Int) = natV (l.set i s) := by simp [natV, List.map_set]
theorem natV_perm {l' : List Int} {l : List Nat} (h : List.Perm l' (natV l)) : ∃ o : List Nat, l' = natV o ∧ List.Perm o l := by
  have h1 : l' = natV (l'.map Int.toNat) := by
    unfold natV
    rw [List.map_map]
    have : ∀ x ∈ l', ((fun n : Nat => ((n : Nat) : Int)) ∘ Int.toNat) x = x := fun x hx => by
      obtain ⟨s, _, rfl⟩ := natV_mem (h.mem_iff.1 hx)
      simp
    conv => lhs; rw [← List.map_id l']
    exact (List.map_congr_left this).symm
  refine ⟨l'.map Int.toNat, h1, ?_⟩
  have h2 := h.map Int.toNat
  have h3 : (natV l).map Int.toNat = l := by
    unfold natV
    rw [List.map_map]
    conv => rhs; rw [← List.map_id l]
    exact List.map_congr_left fun x _ => by simp
  rwa [h3] at h2
theorem row_free {owner : List Int} {m : Nat} {is : List Nat} (hm : owner.length ≤ m) : (natV is).any (fun x => !freeB owner (m + x.toNat)) = false := by
  rw [List.any_eq_false]
  intro x hx
  obtain ⟨s, _, rfl⟩ := natV_mem hx
  have : freeB owner (m + ((s : Nat) : Int).toNat) = true := freeB_iff.2 (.inl (by simp; omega))
  rw [this]; simp
theorem any_free {owner : List Int} {m : Nat} {is : List Nat} (h : (natV is).any (fun x => !freeB owner (m + x.toNat)) = false) : ∀ c ∈ is, freeB owner (m + c) = true := by
  intro c hc
  rw [List.any_eq_false] at h
  have := h ((c : Nat) : Int) (List.mem_map.2 ⟨c, hc, rfl⟩)
  simpa using this
end Go.Proofs
