/- Contracts: automata made out of raw numbers. -/
import Derived.Test.YtncmfkibflogkaaDa
import Derived.Test.YtncmfkibflogkaaSt
import Derived.Test.YtncmfkibflogkaaOwn
namespace Go.Proofs
open Go Go.Eng
set_option maxRecDepth 100000

abbrev TI : Nat := 3
abbrev TL : Nat := 22
/-- The lists of an automaton while it is made: each is in blocks of its own, below a bound. -/
def MStP (base top : Nat) (vals : List Value) (D : Nat → Prop) (w : World) (va vn : Value) (ka kn : Nat) (acc : List Int) (rows : List (List Int)) : Prop :=
  w.ownsRow base TI 1 va ka (acc.map (Value.int .i64)) ∧ w.ownsRow base TL 1 vn kn vals ∧ vals.length = rows.length ∧ (∀ (i : Nat) (u : Value) (l : List Int), vals[i]? = some u → rows[i]? = some l → SlIn D w 1 u (l.map intV)) ∧
    (∀ y, va.ownBlock = some y → vn.ownBlock ≠ some y) ∧ (∀ y, D y → (base ≤ y ∧ y < top) ∧ va.ownBlock ≠ some y ∧ vn.ownBlock ≠ some y) ∧ (∀ y, va.ownBlock = some y ∨ vn.ownBlock = some y → y < top) ∧ top ≤ w.heap.size
def MSt (base top : Nat) (w : World) (va vn : Value) (ka kn : Nat) (acc : List Int) (rows : List (List Int)) : Prop :=
  ∃ (vals : List Value) (D : Nat → Prop), MStP base top vals D w va vn ka kn acc rows
theorem MSt.chg {base top : Nat} {w w' : World} {va vn : Value} {ka kn : Nat} {acc : List Int} {rows : List (List Int)} {M : Nat → Prop} (h : MSt base top w va vn ka kn acc rows) (c : Chg M w w') (hM : ∀ y, M y → y < base ∨ top ≤ y) : MSt base top w' va vn ka kn acc rows := by
  obtain ⟨vals, D, h1, h2, h3, h4, h5, h6, h7, h8⟩ := h
  have hb : ∀ y, base ≤ y → y < top → ¬ M y := fun y h hlt hm => by have := hM y hm; omega
  exact ⟨vals, D, own_chg h1 c (fun q hq => hb q (h1.lt q hq).1 (h7 q (.inl hq))), own_chg h2 c (fun q hq => hb q (h2.lt q hq).1 (h7 q (.inr hq))), h3, fun i u l hu hl => (h4 i u l hu hl).chg c (fun y hy => hb y (h6 y hy).1.1 (h6 y hy).1.2), h5, h6, h7, Nat.le_trans h8 c.size⟩
theorem MSt.ext {base top : Nat} {w w' : World} {va vn : Value} {ka kn : Nat} {acc : List Int} {rows : List (List Int)} (h : MSt base top w va vn ka kn acc rows) (c : Ext w w') : MSt base top w' va vn ka kn acc rows := h.chg c fun y f => f.elim
theorem MSt.up {base top top' : Nat} {w : World} {va vn : Value} {ka kn : Nat} {acc : List Int} {rows : List (List Int)} (h : MSt base top w va vn ka kn acc rows) (h1 : top ≤ top') (h2 : top' ≤ w.heap.size) : MSt base top' w va vn ka kn acc rows := by
  obtain ⟨vals, D, a1, a2, a3, a4, a5, a6, a7, a8⟩ := h
  exact ⟨vals, D, a1, a2, a3, a4, a5, fun y hy => ⟨⟨(a6 y hy).1.1, Nat.lt_of_lt_of_le (a6 y hy).1.2 h1⟩, (a6 y hy).2⟩, fun y hy => Nat.lt_of_lt_of_le (a7 y hy) h1, h2⟩
theorem MSt.acc {base top : Nat} {w w' : World} {va va' vn : Value} {ka kn ka' : Nat} {acc acc' : List Int} {rows : List (List Int)} (h : MSt base top w va vn ka kn acc rows) (O : w'.ownsRow base TI 1 va' ka' (acc'.map (Value.int .i64))) (C : Chg (fun y => va.ownBlock = some y) w w') (hD : ∀ k, va'.ownBlock = some k → va.ownBlock = some k ∨ w.heap.size ≤ k) : MSt base w'.heap.size w' va' vn ka' kn acc' rows := by
  obtain ⟨vals, D, h1, h2, h3, h4, h5, h6, h7, h8⟩ := h
  have hs := C.size
  refine ⟨vals, D, O, own_chg h2 C (fun q hq hm => h5 q hm hq), h3, fun i u l hu hl => (h4 i u l hu hl).chg C (fun y hy hm => (h6 y hy).2.1 hm), fun y hy hn => ?_, fun y hy => ⟨⟨(h6 y hy).1.1, by have := (h6 y hy).1.2; omega⟩, fun hv => ?_, (h6 y hy).2.2⟩, fun y hy => ?_, Nat.le_refl _⟩
  · rcases hD y hy with h | h
    · exact h5 y h hn
    · have := (h2.lt y hn).2; omega
  · rcases hD y hv with h | h
    · exact (h6 y hy).2.1 h
    · have := (h6 y hy).1.2; omega
  · rcases hy with hy | hy
    · exact (O.lt y hy).2
    · have := h7 y (.inr hy); omega
theorem MSt.nxt {base top : Nat} {w w' : World} {va vn vn' u : Value} {ka kn kn' b : Nat} {acc : List Int} {rows : List (List Int)} {row : List Int} {vals : List Value} {D : Nat → Prop} (h : MStP base top vals D w va vn ka kn acc rows) (O : w'.ownsRow base TL 1 vn' kn' (vals ++ [u])) (C : Chg (fun y => vn.ownBlock = some y) w w') (hD : ∀ k, vn'.ownBlock = some k → vn.ownBlock = some k ∨ w.heap.size ≤ k)
    (hu : SlIn (fun y => y = b) w 1 u (row.map intV)) (hb : base ≤ b ∧ b < w.heap.size) (hb1 : top ≤ b) : MSt base w'.heap.size w' va vn' ka kn' acc (rows ++ [row]) := by
  obtain ⟨h1, h2, h3, h4, h5, h6, h7, h8⟩ := h
  have hs := C.size
  have hO := O
  have hb2 : vn.ownBlock ≠ some b := fun h => by have := h7 b (.inr h); omega
  have hb3 : va.ownBlock ≠ some b := fun h => by have := h7 b (.inl h); omega
  refine ⟨vals ++ [u], fun y => D y ∨ y = b, own_chg h1 C (fun q hq hm => h5 q hq hm), hO, by simp [h3], fun i v l hv hl => ?_, fun y hy hn => ?_, fun y hy => ?_, fun y hy => ?_, Nat.le_refl _⟩
  · rcases Nat.lt_or_ge i vals.length with hi | hi
    · rw [List.getElem?_append_left hi] at hv
      rw [List.getElem?_append_left (by omega)] at hl
      exact ((h4 i v l hv hl).chg C (fun y hy hm => (h6 y hy).2.2 hm)).mono (fun y hy => .inl hy)
    · rw [List.getElem?_append_right hi] at hv
      rw [List.getElem?_append_right (by omega), ← h3] at hl
      have hi0 : i - vals.length = 0 := by
        rcases Nat.eq_zero_or_pos (i - vals.length) with h | h
        · exact h
        · rw [List.getElem?_eq_none (by simp; omega)] at hv; cases hv
      rw [hi0] at hv hl
      simp at hv hl
      subst hv; subst hl
      exact (hu.chg C (fun y hy hm => by have hy' : y = b := hy; subst hy'; exact hb2 hm)).mono (fun y hy => .inr hy)
  · rcases hD y hn with h | h
    · exact h5 y hy h
    · have := (h1.lt y hy).2; omega
  · rcases hy with hy | hy
    · refine ⟨⟨(h6 y hy).1.1, by have := (h6 y hy).1.2; omega⟩, (h6 y hy).2.1, fun hn => ?_⟩
      rcases hD y hn with h | h
      · exact (h6 y hy).2.2 h
      · have := (h6 y hy).1.2; omega
    · subst hy
      refine ⟨⟨hb.1, by omega⟩, hb3, fun hn => ?_⟩
      rcases hD y hn with h | h
      · exact hb2 h
      · omega
  · rcases hy with hy | hy
    · have := h7 y (.inl hy); omega
    · exact (hO.lt y hy).2
theorem MSt.nil (base : Nat) (w : World) : MSt base 0 w (.slice none 0 0) (.slice none 0 0) 0 0 [] [] :=
  ⟨[], fun _ => False, World.ownsRow_nil _ _ _ _, World.ownsRow_nil _ _ _ _, rfl, fun i u l h => by simp at h, (fun y h => by simp [Value.ownBlock] at h), (fun y f => False.elim f), (fun y h => by simp [Value.ownBlock] at h), Nat.zero_le _⟩
theorem MSt.done {base top : Nat} {w : World} {aa na : Option Addr} {ac nc n : Nat} {start : Int} {acc : List Int} {rows : List (List Int)} (h : MSt base top w (.slice aa n ac) (.slice na n nc) n n acc rows) (hacc : acc.length = n) (hrows : rows.length = n) : DfaAt w ⟨start, acc, rows⟩ [.int .i64 start, .slice aa n ac, .slice na n nc] := by
  obtain ⟨vals, D, h1, h2, h3, h4, _, _⟩ := h
  refine ⟨aa, ac, na, nc, by rw [hacc, hrows], ?_, vals, ?_, h3, fun i u l hu hl => (h4 i u l hu hl).at⟩
  · have h5 : w.ownsRow base TI 1 (.slice aa n ac) n (acc.map intV).flatten := by rw [flat_intV]; exact h1
    have := own_slat h5 (by intro r hr; simp only [List.mem_map] at hr; obtain ⟨p, _, rfl⟩ := hr; rfl) (by simpa using hacc) (by decide)
    simp only [hacc]; exact this
  · have h5 : w.ownsRow base TL 1 (.slice na n nc) n (vals.map fun x => [x]).flatten := by
      have e : (vals.map fun x => [x]).flatten = vals := by
        clear h2 h3 h4
        induction vals with
        | nil => rfl
        | cons v vs ih => rw [List.map_cons, List.flatten_cons, ih]; rfl
      rw [e]; exact h2
    have := own_slat h5 (by intro r hr; simp only [List.mem_map] at hr; obtain ⟨p, _, rfl⟩ := hr; rfl) (by simp; omega) (by decide)
    simp only [hrows]; exact this
theorem StrAt.chg {wb w w' : World} {bs : Nat} {l : List Int} {M : Nat → Prop} (h : StrAt wb w bs l) (c : Chg M w w') (hm : ¬ M bs) : StrAt wb w' bs l := let ⟨a, cc, h1, h2⟩ := h; ⟨a, cc, c.keep hm h1, h2⟩
/-- A slice of one's own, with its block. -/
theorem own_slin {w : World} {base n : Nat} {a : Option Addr} {c : Nat} {l : List Int} (h : w.ownsRow base TI 1 (.slice a n c) n (l.map (Value.int .i64))) (hn : l.length = n) (h0 : 0 < n) : ∃ b, (base ≤ b ∧ b < w.heap.size) ∧ SlIn (fun y => y = b) w 1 (.slice a n c) (l.map intV) := by
  have h5 : w.ownsRow base TI 1 (.slice a n c) n (l.map intV).flatten := by rw [flat_intV]; exact h
  have h6 := own_slat h5 (by intro r hr; simp only [List.mem_map] at hr; obtain ⟨p, _, rfl⟩ := hr; rfl) (by simpa using hn) (by decide)
  obtain ⟨g, rfl, h7, _⟩ := own_cells h5 h0
  exact ⟨g, h5.lt g rfl, SlIn.mk h6 rfl⟩

def rndF (wb : World) (bs : Nat) (n : Int) : Fct := fun v w => ∃ x l', v = .int .i64 x ∧ 0 ≤ x ∧ x < n ∧ StrAt wb w bs l'
theorem rndF_ext (wb : World) (bs : Nat) (n : Int) : ∀ v w w', Ext w w' → rndF wb bs n v w → rndF wb bs n v w' := by
  rintro v w w' e ⟨x, l', h1, h2, h3, h4⟩
  exact ⟨x, l', h1, h2, h3, h4.ext e⟩
def numF (lo hi : Int) : Fct := fun v _ => ∃ x, v = .int .i64 x ∧ lo ≤ x ∧ x < hi
def cellF (n0 : Nat) (lo hi : Int) : Fct := fun v w => ∃ b x, v = .slice (some ⟨b, 0, none⟩) 1 1 ∧ Blk w b #[.int .i64 x] TI ∧ n0 ≤ b ∧ lo ≤ x ∧ x < hi
theorem cellF_chg {n0 bs : Nat} (h0 : bs < n0) (lo hi : Int) : ∀ v w w', Chg (fun y => y = bs) w w' → cellF n0 lo hi v w → cellF n0 lo hi v w' := by
  rintro v w w' e ⟨b, x, h1, h2, h3, h4⟩
  exact ⟨b, x, h1, Chg.keep e (fun h => by have h' : b = bs := h; omega) h2, h3, h4⟩
theorem DoesT_cell {M : Nat → Prop} {N : Nat} {σ : Env} {w : World} {dst : Option Tmp} {ty : TypeId} {pos : String} {af : Array Edge} {g : Option (Nat × Bool)} {x : Operand} {n lo hi : Int} (hx : ev σ x = .int .i64 n) (h1 : lo ≤ n) (h2 : n < hi) {n0 : Nat} (h0 : n0 ≤ w.heap.size) :
    DoesT M Try.prog N ⟨dst, .buildSlice 22 1 #[(0, x)], ty, pos, af, g⟩ (cellF n0 lo hi) σ w := by
  have hn := New.mk' w #[.int .i64 n] TI
  exact DoesT_val (run_buildSlice (parts := [(0, x)]) (ps := [(0, .int .i64 n)]) (by simp only [List.map, hx]) Try.underlying22 siz3 zer3 (by decide) (by decide) (by kernel_rfl)) (Ext.chg hn.ext) ⟨_, _, rfl, hn.blk, h0, h1, h2⟩

def okDfa (n c : Nat) (d : Dfa) : Prop := d.next.length = n ∧ d.accept.length = n ∧ (0 ≤ d.start ∧ d.start < n) ∧ (∀ x ∈ d.accept, -1 ≤ x ∧ x < 2) ∧ (∀ row ∈ d.next, row.length = c ∧ ∀ x ∈ row, -1 ≤ x ∧ x < n)

set_option maxHeartbeats 4000000 in
theorem mkDfa_m (w0 : World) (v : Value) (l : List Int) (hl : IntsAt w0 v l) : Ret Try.prog 36 #[v] w0 fun r w => ∃ n c d aa ac na nc base top, (1 ≤ n ∧ n ≤ 6) ∧ (1 ≤ c ∧ c ≤ 3) ∧ okDfa n c d ∧ r = .agg #[.int .i64 d.start, .slice aa n ac, .slice na n nc] ∧ w0.heap.size ≤ base ∧ MSt base top w (.slice aa n ac) (.slice na n nc) n n d.accept d.next ∧ Ext w0 w := by
  obtain ⟨a, c, rfl⟩ := SlAt.form hl
  simp only [List.length_map] at hl ⊢
  refine Ret_of Try.func36 rfl Try.ntmps36 (Nat.le_of_ble_eq_true rfl) ?_
  have E : Chg none1 w0 w0 := Chg.refl _ _
  refine Wp_seq_region ?_
  refine s_alloc (c := #[(.int .i64 0), (.slice none 0 0), (.slice none 0 0)]) (by decide) zer25 rfl ?_
  intro br wr Nr
  have Fr := Nr.ge E
  replace E := E.ext Nr.ext
  have Br := Nr.blk
  refine WpL_nil ?_
  refine Wp_seq_region ?_
  refine WpL_val rfl rfl (by decide) (r_move (v := (.slice a l.length c)) rfl) ?_
  refine WpL_val rfl rfl (by decide) (r_build (ps := [(0, (.slice a l.length c))]) (v := (.agg #[(.slice a l.length c)])) rfl (by kernel_rfl)) ?_
  refine s_box (v := (.agg #[(.slice a l.length c)])) (c := #[(.slice a l.length c)]) (by decide) rfl rfl ?_
  intro bs ws Ns
  have Fs := Ns.ge E
  have Os_br := Ns.lt Br
  replace Br := Ns.keep Br
  replace E := E.ext Ns.ext
  have Bs := Ns.blk
  refine WpL_val rfl rfl (by decide) (r_assign (v := (.pointer (some ⟨bs, 0, none⟩))) rfl) ?_
  refine WpL_nil ?_
  refine Wp_seq_region ?_
  refine WpL_val rfl rfl (by decide) (r_move (v := (.pointer (some ⟨bs, 0, none⟩))) rfl) ?_
  have hrs : br < bs := by omega
  have hS0 : StrAt wr ws bs l := ⟨a, c, Bs, hl.ext Nr.ext⟩
  have hwr : wr.heap.size ≤ bs := by have := Ns.eq; omega
  have hbrr : br < wr.heap.size := by have := Nr.blk.lt; omega
  have E2 : Chg none1 wr ws := Ns.ext
  refine WpL_enter rfl rfl (by decide) (r_callF (vs := [(.pointer (some ⟨bs, 0, none⟩)), (.int .i64 6)]) Try.func70 nm70 bd70 rfl) (next_c wr _ bs l 6 (by decide) (by decide) E2 hwr hS0) ?_
  rintro _ w9 ⟨x1, l1, rfl, hx1a, hx1b, hS1, C1⟩
  replace Br := C1.keep (by omega) Br
  replace E := E.step C1 (by intro x hx hm; omega)
  replace E2 := E2.step C1 (by intro x hx hm; omega)
  refine WpL_val rfl rfl (by decide) (r_add (k := .i64) (a := 1) (b := x1) (c := 1 + x1) rfl rfl (wI64 (by omega))) ?_
  refine WpL_val rfl rfl (by decide) (r_move (v := (.pointer (some ⟨bs, 0, none⟩))) rfl) ?_
  refine WpL_enter rfl rfl (by decide) (r_callF (vs := [(.pointer (some ⟨bs, 0, none⟩)), (.int .i64 3)]) Try.func70 nm70 bd70 rfl) (next_c wr _ bs l1 3 (by decide) (by decide) E2 hwr hS1) ?_
  rintro _ w19 ⟨x2, l2, rfl, hx2a, hx2b, hS2, C2⟩
  replace Br := C2.keep (by omega) Br
  replace E := E.step C2 (by intro x hx hm; omega)
  replace E2 := E2.step C2 (by intro x hx hm; omega)
  refine WpL_val rfl rfl (by decide) (r_add (k := .i64) (a := 1) (b := x2) (c := 1 + x2) rfl rfl (wI64 (by omega))) ?_
  refine WpL_val rfl rfl (by decide) (r_assign (v := (.int .i64 (1 + x1))) rfl) ?_
  refine WpL_val rfl rfl (by decide) (r_assign (v := (.int .i64 (1 + x2))) rfl) ?_
  refine WpL_nil ?_
  refine Wp_seq_region ?_
  refine WpL_val rfl rfl (by decide) (r_move (v := (.pointer (some ⟨bs, 0, none⟩))) rfl) ?_
  refine WpL_val rfl rfl (by decide) (r_move (v := (.int .i64 (1 + x1))) rfl) ?_
  refine WpL_enter rfl rfl (by decide) (r_callF (vs := [(.pointer (some ⟨bs, 0, none⟩)), (.int .i64 (1 + x1))]) Try.func70 nm70 bd70 rfl) (next_c wr _ bs l2 (1 + x1) (by omega) (by omega) E2 hwr hS2) ?_
  rintro _ w29 ⟨x3, l3, rfl, hx3a, hx3b, hS3, C3⟩
  replace Br := C3.keep (by omega) Br
  replace E := E.step C3 (by intro x hx hm; omega)
  replace E2 := E2.step C3 (by intro x hx hm; omega)
  obtain ⟨n, hn⟩ : ∃ n : Nat, (n : Int) = 1 + x1 := ⟨(1 + x1).toNat, by omega⟩
  obtain ⟨cc, hcc⟩ : ∃ cc : Nat, (cc : Int) = 1 + x2 := ⟨(1 + x2).toNat, by omega⟩
  refine WpL_val rfl rfl (by decide) (r_build (ps := [(0, (.int .i64 x3))]) (v := (.agg #[(.int .i64 x3), (.slice none 0 0), (.slice none 0 0)])) rfl (by kernel_rfl)) ?_
  refine s_allocStore (v := (.agg #[(.int .i64 x3), (.slice none 0 0), (.slice none 0 0)])) (c := #[(.int .i64 x3), (.slice none 0 0), (.slice none 0 0)]) (n := 3) (by decide) zer25 rfl siz25 rfl rfl rfl (by simp [Value.oneCell']) ?_
  intro bd wd Nd
  have Fd := Nd.ge E
  have Fd_E2 := Nd.ge E2
  have Od_br := Nd.lt Br
  replace Br := Nd.keep Br
  replace E := E.ext Nd.ext
  have Bd := Nd.blk
  replace E2 := E2.ext Nd.ext
  refine WpL_nil ?_
  refine Wp_seq ?_
  refine Wp_seq_region ?_
  refine WpL_val rfl rfl (by decide) (r_move (v := (.int .i64 (1 + x1))) rfl) ?_
  refine WpL_val rfl rfl (by decide) (r_move (v := (.int .i64 0)) rfl) ?_
  refine WpL_nil ?_
  refine Wp_block ?_
  obtain ⟨base, hbase⟩ : ∃ base, base = wd.heap.size := ⟨_, rfl⟩
  have hbd : bd < base := by rw [hbase]; exact Bd.lt
  have hwb : w0.heap.size ≤ base := by rw [hbase]; exact E.size
  have hbs1 : bs < bd := by have := Nd.eq; have := hS3.lt; omega
  have hS4 := hS3.ext Nd.ext
  refine Wp_loop (fun nn_ σ W1 => ∃ (k : Nat) (va : Option Addr) (vc : Nat) (na : Option Addr) (nc : Nat) (acc : List Int) (rows : List (List Int)) (ls : List Int) (top : Nat), (∃ jj_, σ = upds jj_ [(2, (.pointer (some ⟨br, 0, none⟩))), (3, (.pointer (some ⟨bs, 0, none⟩))), (4, (.int .i64 (1 + x1))), (5, (.int .i64 (1 + x2))), (6, (.pointer (some ⟨bd, 0, none⟩))), (21, (.int .i64 (1 + x1))), (22, (.int .i64 ((k : Nat) : Int)))]) ∧ Chg none1 w0 W1 ∧ Chg none1 wr W1 ∧ Blk W1 br #[(.int .i64 0), (.slice none 0 0), (.slice none 0 0)] 25 ∧ Blk W1 bd (#[(.int .i64 x3), (.slice va k vc), (.slice na k nc)]) 25 ∧ (k ≤ n) ∧ (MSt base top W1 (.slice va k vc) (.slice na k nc) k k acc rows) ∧ (acc.length = k ∧ ∀ x ∈ acc, -1 ≤ x ∧ x < 2) ∧ (rows.length = k ∧ ∀ row ∈ rows, row.length = cc ∧ ∀ x ∈ row, -1 ≤ x ∧ x < (n : Int)) ∧ (StrAt wr W1 bs ls) ∧ (base ≤ W1.heap.size) ∧ nn_ = n - k) (n := n - 0) ?_ ?_
  · exact ⟨0, none, 0, none, 0, [], [], l3, 0, Fits.out ⟨rfl, rfl, rfl, rfl, rfl, rfl, rfl, trivial⟩, E, E2, Br, Bd, Nat.zero_le _, MSt.nil _ _, ⟨rfl, by simp⟩, ⟨rfl, by simp⟩, hS4, (by omega), rfl⟩
  · clear E E2 Br Bd
    rintro _ _ W1 ⟨k, va, vc, na, nc, acc, rows, ls, top, ⟨j1, rfl⟩, E, E2, Br, Bd, hk, hM, hacc, hrows, hS, hbsz, rfl⟩
    refine Wp_seq_region ?_
    refine WpL_val rfl rfl (by decide) (r_lss (k := .i64) (a := ((k : Nat) : Int)) (b := 1 + x1) rfl rfl) ?_
    refine WpL_nil ?_
    refine Wp_seq ?_
    refine Wp_cond (b := decide ((((k : Nat) : Int) : Int) < 1 + x1)) rfl (fun hlt => ?_) (fun hlt => ?_)
    · have khlt := hlt
      replace hlt := of_decide_eq_true hlt
      refine Wp_skip ?_
      refine thn_normal ?_
      refine Wp_seq ?_
      refine Wp_block ?_
      refine Wp_seq ?_
      obtain ⟨Fs3, hFs3⟩ : ∃ Fs : List (FactT ((fun y => y = bs))), Fs = [.eq (.pointer (some ⟨bd, 1, none⟩)), .eq (.slice va k vc), .eq (.pointer (some ⟨bs, 0, none⟩)), .own (rndF wr bs 3) (rndF_ext _ _ _), .gen (numF (-1) 2) (fun _ _ _ _ h => h), .gen (cellF base (-1) 2) (cellF_chg (by omega) _ _)] := ⟨_, rfl⟩
      refine Wp_dagT ((fun y => y = bs)) 6 3 [24, 25, 26, 27, 28, 29] [[], [0], [], [2], [3], [4]] Fs3 hFs3 rfl mixed (by kernel_rfl) (by kernel_rfl) (by kernel_rfl) ?_ ?_
      · intro wd X0
        refine DagStepsT.cons (fun s' w' X U H => ?_) ?_
        · exact DoesT_val (r_fieldAddr (b := bd) (o := 0) (o' := 1) (U 6 rfl) Try.underlying25 rfl siz22 rfl) (Chg.refl _ _) rfl
        refine DagStepsT.cons (fun s' w' X U H => ?_) ?_
        · have e24 : s' 24 = (.pointer (some ⟨bd, 1, none⟩)) := H 0 rfl 24 (.eq (.pointer (some ⟨bd, 1, none⟩))) rfl (by rw [hFs3]; rfl)
          exact DoesT_val (r_load (v := (.slice va k vc)) e24 flat22 ((Chg.keep X (fun h => by have h' : bd = bs := h; omega) (X0.keep Bd)).cell rfl)) (Chg.refl _ _) rfl
        refine DagStepsT.cons (fun s' w' X U H => ?_) ?_
        · exact DoesT_val (r_move (v := (.pointer (some ⟨bs, 0, none⟩))) (U 3 rfl)) (Chg.refl _ _) rfl
        refine DagStepsT.cons (fun s' w' X U H => ?_) ?_
        · have e26 : s' 26 = (.pointer (some ⟨bs, 0, none⟩)) := H 2 rfl 26 (.eq (.pointer (some ⟨bs, 0, none⟩))) rfl (by rw [hFs3]; rfl)
          exact DoesT_enter (r_callF (vs := [(.pointer (some ⟨bs, 0, none⟩)), (.int .i64 3)]) Try.func70 nm70 bd70 (lst2 e26 rfl)) ((next_c wr _ bs ls 3 (by decide) (by decide) ((Ext.trans E2 X0).trans X) hwr ((hS.ext X0).ext X)).mono (fun v w h => by obtain ⟨x, l', h1, h2, h3, h4, h5⟩ := h; exact ⟨⟨x, l', h1, h2, h3, h4⟩, h5⟩))
        refine DagStepsT.cons (fun s' w' X U H => ?_) ?_
        · obtain ⟨x27, m27, e27, p27, q27, s27⟩ := (show (.own (rndF wr bs 3) (rndF_ext _ _ _) : FactT ((fun y => y = bs))).In (s' 27) w' from H 3 rfl 27 (.own (rndF wr bs 3) (rndF_ext _ _ _)) rfl (by rw [hFs3]; rfl))
          exact DoesT_val (r_sub (k := .i64) (a := x27) (b := 1) (c := x27 - 1) e27 rfl (wI64 (by omega))) (Chg.refl _ _) ⟨_, rfl, by omega, by omega⟩
        refine DagStepsT.cons (fun s' w' X U H => ?_) ?_
        · obtain ⟨x28, e28, p28, q28⟩ := (show (.gen (numF (-1) 2) (fun _ _ _ _ h => h) : FactT ((fun y => y = bs))).In (s' 28) w' from H 4 rfl 28 (.gen (numF (-1) 2) (fun _ _ _ _ h => h)) rfl (by rw [hFs3]; rfl))
          exact DoesT_cell (n0 := base) (lo := -1) (hi := 2) (x := .tmp 28) e28 p28 q28 (by have := X0.size; have := X.size; omega)
        exact DagStepsT.nil
      · intro s' wd3 w3 X0 X3 U H
        have e25 : s' 25 = (.slice va k vc) := H 1 25 (.eq (.slice va k vc)) rfl (by rw [hFs3]; rfl)
        obtain ⟨x27, m27, e27, p27, q27, s27⟩ := (show (.own (rndF wr bs 3) (rndF_ext _ _ _) : FactT ((fun y => y = bs))).In (s' 27) w3 from H 3 27 (.own (rndF wr bs 3) (rndF_ext _ _ _)) rfl (by rw [hFs3]; rfl))
        obtain ⟨b29, y29, e29, B29, g29, p29, q29⟩ := (show (.gen (cellF base (-1) 2) (cellF_chg (by omega) _ _) : FactT ((fun y => y = bs))).In (s' 29) w3 from H 5 29 (.gen (cellF base (-1) 2) (cellF_chg (by omega) _ _)) rfl (by rw [hFs3]; rfl))
        obtain ⟨j3, rfl⟩ := Fits.out (σ := s') (l := [(2, (.pointer (some ⟨br, 0, none⟩))), (3, (.pointer (some ⟨bs, 0, none⟩))), (4, (.int .i64 (1 + x1))), (5, (.int .i64 (1 + x2))), (6, (.pointer (some ⟨bd, 0, none⟩))), (21, (.int .i64 (1 + x1))), (22, (.int .i64 ((k : Nat) : Int))), (25, (.slice va k vc)), (29, (.slice (some ⟨b29, 0, none⟩) 1 1))]) ⟨U 2 rfl, U 3 rfl, U 4 rfl, U 5 rfl, U 6 rfl, U 21 rfl, U 22 rfl, e25, e29, trivial⟩
        clear U H
        replace Br := Chg.keep X3 (fun h => by have h' : br = bs := h; omega) (X0.keep Br)
        replace Bd := Chg.keep X3 (fun h => by have h' : bd = bs := h; omega) (X0.keep Bd)
        have hM1 := (hM.ext X0).chg X3 (fun y h => .inl (by have h' : y = bs := h; omega))
        have hbsz1 : base ≤ (w3).heap.size := by have := X0.size; have := X3.size; omega
        replace E := (E.ext X0).step X3 (fun y hy h => by have h' : y = bs := h; omega)
        replace E2 := (E2.ext X0).step X3 (fun y hy h => by have h' : y = bs := h; omega)
        obtain ⟨vals1, D1, hA1, hMr⟩ := hM1
        have hM1 : MSt base top (w3) (.slice va k vc) (.slice na k nc) k k acc rows := ⟨vals1, D1, hA1, hMr⟩
        refine s_append (base := base) (n := k) (m := 1) (xs := acc.map (Value.int .i64)) (news := [.int .i64 y29]) (size := 1) (bytes := 8) (v := (.slice va k vc)) (by decide) Try.underlying22 siz3 byt3 zer3 rfl (by decide) rfl hA1 rfl (rfl) (B29.cells rfl) (by simp [Value.oneCell']) (by unfold maxLen; omega) (by omega) (hbsz1) ?_
        intro v9 w39 Ov9 Cv9 Dv9
        replace Br := Cv9.keep (fun h => by have := (hA1.lt _ h).1; omega) Br
        replace Bd := Cv9.keep (fun h => by have := (hA1.lt _ h).1; omega) Bd
        replace E := E.step Cv9 (fun x hx h => absurd (hA1.lt x h).1 (by omega))
        replace E2 := E2.step Cv9 (fun x hx h => absurd (hA1.lt x h).1 (by omega))
        obtain ⟨va2, vc2, rfl⟩ := own_form Ov9
        have hM2 := MSt.acc (acc' := acc ++ [y29]) hM1 (by simpa using Ov9) Cv9 Dv9
        obtain ⟨top2, htop2⟩ : ∃ top2, top2 = w39.heap.size := ⟨_, rfl⟩
        rw [← htop2] at hM2
        have hbsz2 := Nat.le_trans hbsz1 Cv9.size
        have hS2' : StrAt wr w39 bs m27 := by obtain ⟨sa, sc, h1, h2⟩ := s27; exact ⟨sa, sc, Chg.keep Cv9 (fun h => by have := (hA1.lt _ h).1; omega) h1, h2⟩
        have htop3 : top2 ≤ (w39).heap.size := by omega
        refine WpL_val rfl rfl (by decide) (r_fieldAddr (b := bd) (o := 0) (o' := 1) rfl Try.underlying25 rfl siz22 rfl) ?_
        refine s_store (b := bd) (o := 1) (c' := #[(.int .i64 x3), (.slice va2 (k + 1) vc2), (.slice na k nc)]) (v := (.slice va2 (k + 1) vc2)) rfl rfl rfl siz22 Bd (by simp) rfl ?_
        intro w4 S4
        replace hM2 := hM2.chg S4.chg (fun y h => .inl (by have h' : y = bd := h; omega))
        replace hS2' := hS2'.chg S4.chg (fun h => by have h' : bs = bd := h; omega)
        replace hbsz2 := Nat.le_trans hbsz2 S4.chg.size
        replace htop3 := Nat.le_trans htop3 S4.chg.size
        replace Br := S4.keep (by omega) Br
        replace E := S4.step E (by first | exact Or.inl (by omega) | exact Or.inr rfl | exact Or.inr (by assumption) | exact Or.inr (by simp) | exact Or.inr (by omega) | exact Or.inr (by dsimp only; omega))
        replace E2 := S4.step E2 (Or.inl (by omega))
        replace Bd := S4.blk
        refine WpL_nil ?_
        refine thn_normal ?_
        refine Wp_seq_region ?_
        refine WpL_val rfl rfl (by decide) (r_assign (v := (.slice none 0 0)) rfl) ?_
        refine WpL_nil ?_
        refine Wp_seq ?_
        refine Wp_seq_region ?_
        refine WpL_val rfl rfl (by decide) (r_move (v := (.int .i64 (1 + x2))) rfl) ?_
        refine WpL_val rfl rfl (by decide) (r_move (v := (.int .i64 0)) rfl) ?_
        refine WpL_nil ?_
        refine Wp_block ?_
        obtain ⟨base2, hbase2⟩ : ∃ base2, base2 = (w4).heap.size := ⟨_, rfl⟩
        refine Wp_loop (fun nn_ σ W5 => ∃ (j : Nat) (ra : Option Addr) (rc : Nat) (row : List Int) (lt : List Int), (∃ jj_, σ = upds jj_ [(2, (.pointer (some ⟨br, 0, none⟩))), (3, (.pointer (some ⟨bs, 0, none⟩))), (4, (.int .i64 (1 + x1))), (5, (.int .i64 (1 + x2))), (6, (.pointer (some ⟨bd, 0, none⟩))), (21, (.int .i64 (1 + x1))), (22, (.int .i64 ((k : Nat) : Int))), (32, (.int .i64 (1 + x2))), (33, (.int .i64 ((j : Nat) : Int))), (7, (.slice ra j rc))]) ∧ Chg none1 w0 W5 ∧ Chg none1 wr W5 ∧ Blk W5 br #[(.int .i64 0), (.slice none 0 0), (.slice none 0 0)] 25 ∧ Blk W5 bd #[(.int .i64 x3), (.slice va2 (k + 1) vc2), (.slice na k nc)] 25 ∧ (j ≤ cc) ∧ (MSt base top2 W5 (.slice va2 (k + 1) vc2) (.slice na k nc) (k + 1) k (acc ++ [y29]) rows) ∧ (W5.ownsRow base2 TI 1 (.slice ra j rc) j (row.map (Value.int .i64))) ∧ (row.length = j ∧ ∀ x ∈ row, -1 ≤ x ∧ x < (n : Int)) ∧ (StrAt wr W5 bs lt) ∧ (base2 ≤ W5.heap.size) ∧ nn_ = cc - j) (n := cc - 0) ?_ ?_
        · exact ⟨0, none, 0, [], m27, Fits.out ⟨rfl, rfl, rfl, rfl, rfl, rfl, rfl, rfl, rfl, rfl, trivial⟩, E, E2, Br, Bd, Nat.zero_le _, hM2, World.ownsRow_nil _ _ _ _, ⟨rfl, by simp⟩, hS2', (by omega), rfl⟩
        · clear E E2 Br Bd
          rintro _ _ W5 ⟨j, ra, rc, row, lt, ⟨j5, rfl⟩, E, E2, Br, Bd, hj, hMj, hR, hrow, hSj, hsz2, rfl⟩
          refine Wp_seq_region ?_
          refine WpL_val rfl rfl (by decide) (r_lss (k := .i64) (a := ((j : Nat) : Int)) (b := 1 + x2) rfl rfl) ?_
          refine WpL_nil ?_
          refine Wp_seq ?_
          refine Wp_cond (b := decide ((((j : Nat) : Int) : Int) < 1 + x2)) rfl (fun hltj => ?_) (fun hltj => ?_)
          · have khltj := hltj
            replace hltj := of_decide_eq_true hltj
            refine Wp_skip ?_
            refine thn_normal ?_
            refine Wp_seq ?_
            refine Wp_block ?_
            refine Wp_region ?_
            refine WpL_val rfl rfl (by decide) (r_move (v := (.slice ra j rc)) rfl) ?_
            refine WpL_val rfl rfl (by decide) (r_move (v := (.pointer (some ⟨bs, 0, none⟩))) rfl) ?_
            refine WpL_val rfl rfl (by decide) (r_move (v := (.int .i64 (1 + x1))) rfl) ?_
            refine WpL_val rfl rfl (by decide) (r_add (k := .i64) (a := 1 + x1) (b := 1) (c := (1 + x1) + 1) rfl rfl (wI64 (by omega))) ?_
            refine WpL_enter rfl rfl (by decide) (r_callF (vs := [(.pointer (some ⟨bs, 0, none⟩)), (.int .i64 ((1 + x1) + 1))]) Try.func70 nm70 bd70 rfl) (next_c wr _ bs lt (1 + x1 + 1) (by omega) (by omega) E2 hwr hSj) ?_
            rintro _ w49 ⟨x4, l4, rfl, hx4a, hx4b, hS5, C5⟩
            replace Br := C5.keep (by omega) Br
            replace Bd := C5.keep (by omega) Bd
            replace E := E.step C5 (by intro x hx hm; omega)
            replace E2 := E2.step C5 (by intro x hx hm; omega)
            have hR1 := own_chg hR C5 (fun q hq h => by have h' : q = bs := h; have := (hR.lt q hq).1; omega)
            have hMj1 := hMj.chg C5 (fun y h => .inl (by have h' : y = bs := h; omega))
            have hsz3 := Nat.le_trans hsz2 C5.size
            refine WpL_val rfl rfl (by decide) (r_sub (k := .i64) (a := x4) (b := 1) (c := x4 - 1) rfl rfl (wI64 (by omega))) ?_
            refine s_buildSlice (ps := [(0, (.int .i64 (x4 - 1)))]) (c := #[(.int .i64 (x4 - 1))]) (by decide) rfl Try.underlying22 siz3 zer3 (by decide) (by decide) (by kernel_rfl) ?_
            intro bq wq Nq
            have Fq := Nq.ge E
            have Fq_E2 := Nq.ge E2
            have Oq_br := Nq.lt Br
            have Oq_bd := Nq.lt Bd
            replace Br := Nq.keep Br
            replace Bd := Nq.keep Bd
            replace hR1 := own_ext hR1 Nq.ext
            replace hMj1 := hMj1.ext Nq.ext
            replace hsz3 := Nat.le_trans hsz3 Nq.ext.size
            replace hS5 := hS5.ext Nq.ext
            replace E := E.ext Nq.ext
            have Bq := Nq.blk
            replace E2 := E2.ext Nq.ext
            refine s_append (base := base2) (n := j) (m := 1) (xs := row.map (Value.int .i64)) (news := [(.int .i64 (x4 - 1))]) (size := 1) (bytes := 8) (v := (.slice ra j rc)) (by decide) Try.underlying22 siz3 byt3 zer3 rfl (by decide) rfl hR1 rfl (rfl) (Bq.cells rfl) (by simp [Value.oneCell']) (by unfold maxLen; omega) (by omega) (hsz3) ?_
            intro v8 w59 Ov8 Cv8 Dv8
            replace Br := Cv8.keep (fun h => by have := (hR1.lt _ h).1; omega) Br
            replace Bd := Cv8.keep (fun h => by have := (hR1.lt _ h).1; omega) Bd
            replace E := E.step Cv8 (fun x hx h => absurd (hR1.lt x h).1 (by omega))
            replace E2 := E2.step Cv8 (fun x hx h => absurd (hR1.lt x h).1 (by omega))
            obtain ⟨ra2, rc2, rfl⟩ := own_form Ov8
            refine WpL_val rfl rfl (by decide) (r_assign (v := (.slice ra2 (j + 1) rc2)) rfl) ?_
            refine WpL_nil ?_
            refine inB_normal ?_
            refine thn_normal ?_
            refine Wp_region ?_
            refine WpL_val rfl rfl (by decide) (r_add (k := .i64) (a := ((j : Nat) : Int)) (b := 1) (c := ((j : Nat) : Int) + 1) rfl rfl (wI64 (by omega))) ?_
            refine WpL_val rfl rfl (by decide) (r_move (v := (.int .i64 (((j : Nat) : Int) + 1))) rfl) ?_
            refine WpL_nil ?_
            refine thn_normal ?_
            exact ⟨cc - (j + 1), by omega, j + 1, ra2, rc2, row ++ [x4 - 1], l4, Fits.out ⟨rfl, rfl, rfl, rfl, rfl, rfl, rfl, rfl, rfl, rfl, trivial⟩, E, E2, Br, Bd, (by omega), hMj1.chg Cv8 (fun y h => .inr (by have := (hR1.lt y h).1; omega)), (by simpa using Ov8), ⟨by simp [hrow.1], by intro x hx; simp at hx; rcases hx with h | h; exact hrow.2 x h; omega⟩, (by obtain ⟨sa, sc, h1, h2⟩ := hS5; exact ⟨sa, sc, Chg.keep Cv8 (fun h => by have := (hR1.lt _ h).1; omega) h1, h2⟩), Nat.le_trans hsz3 Cv8.size, rfl⟩
          · have khltj := hltj
            replace hltj := of_decide_eq_false hltj
            have hjc : j = cc := by omega
            obtain ⟨hrl, hrr⟩ := hrow
            obtain ⟨rb, hrb, hsl⟩ := own_slin hR hrl (by omega)
            have hsz4 : rb < (W5).heap.size ∧ base ≤ (W5).heap.size := ⟨hrb.2, by omega⟩
            refine Wp_exit ?_
            refine thn_exit ?_
            refine thn_exit ?_
            refine inB_here ?_
            refine thn_normal ?_
            refine Wp_region ?_
            refine WpL_val rfl rfl (by decide) (r_fieldAddr (b := bd) (o := 0) (o' := 2) rfl Try.underlying25 rfl siz23 rfl) ?_
            refine WpL_val rfl rfl (by decide) (r_load (v := (.slice na k nc)) rfl flat23 (Bd.cell rfl)) ?_
            refine WpL_val rfl rfl (by decide) (r_move (v := (.slice ra j rc)) rfl) ?_
            refine s_buildSlice (ps := [(0, (.slice ra j rc))]) (c := #[(.slice ra j rc)]) (by decide) rfl Try.underlying23 siz22 zer22 (by decide) (by decide) (by kernel_rfl) ?_
            intro bq wq Nq
            have Fq := Nq.ge E
            have Fq_E2 := Nq.ge E2
            have Oq_br := Nq.lt Br
            have Oq_bd := Nq.lt Bd
            replace Br := Nq.keep Br
            replace Bd := Nq.keep Bd
            replace hMj := hMj.ext Nq.ext
            replace hsl := SlIn.chg hsl Nq.ext (fun _ _ f => f)
            replace hSj := hSj.ext Nq.ext
            replace hsz4 := And.intro (Nat.lt_of_lt_of_le hsz4.1 Nq.ext.size) (Nat.le_trans hsz4.2 Nq.ext.size)
            replace E := E.ext Nq.ext
            have Bq := Nq.blk
            replace E2 := E2.ext Nq.ext
            obtain ⟨vals, D, hMP⟩ := hMj
            have hN := hMP.2.1
            refine s_append (base := base) (n := k) (m := 1) (xs := vals) (news := [(.slice ra j rc)]) (size := 1) (bytes := 24) (v := (.slice na k nc)) (by decide) Try.underlying23 siz22 byt22 zer22 rfl (by decide) rfl hN rfl (rfl) (Bq.cells rfl) (by simp [Value.oneCell']) (by unfold maxLen; omega) (by omega) (hsz4.2) ?_
            intro v7 w69 Ov7 Cv7 Dv7
            replace Br := Cv7.keep (fun h => by have := (hN.lt _ h).1; omega) Br
            replace Bd := Cv7.keep (fun h => by have := (hN.lt _ h).1; omega) Bd
            replace E := E.step Cv7 (fun x hx h => absurd (hN.lt x h).1 (by omega))
            replace E2 := E2.step Cv7 (fun x hx h => absurd (hN.lt x h).1 (by omega))
            obtain ⟨na2, nc2, rfl⟩ := own_form Ov7
            have hM9 := MSt.nxt hMP Ov7 Cv7 Dv7 hsl ⟨by omega, hsz4.1⟩ (by omega)
            obtain ⟨top4, htop4⟩ : ∃ top4, top4 = w69.heap.size := ⟨_, rfl⟩
            rw [← htop4] at hM9
            have hS9 := hSj.chg Cv7 (fun h => by have := (hN.lt _ h).1; omega)
            have hsz9 : base ≤ w69.heap.size := Nat.le_trans hsz4.2 Cv7.size
            refine WpL_val rfl rfl (by decide) (r_fieldAddr (b := bd) (o := 0) (o' := 2) rfl Try.underlying25 rfl siz23 rfl) ?_
            refine s_store (b := bd) (o := 2) (c' := #[(.int .i64 x3), (.slice va2 (k + 1) vc2), (.slice na2 (k + 1) nc2)]) (v := (.slice na2 (k + 1) nc2)) rfl rfl rfl siz23 Bd (by simp) rfl ?_
            intro w7 S7
            replace hM9 := hM9.chg S7.chg (fun y h => .inl (by have h' : y = bd := h; omega))
            replace hS9 := hS9.chg S7.chg (fun h => by have h' : bs = bd := h; omega)
            replace hsz9 := Nat.le_trans hsz9 S7.chg.size
            replace Br := S7.keep (by omega) Br
            replace E := S7.step E (by first | exact Or.inl (by omega) | exact Or.inr rfl | exact Or.inr (by assumption) | exact Or.inr (by simp) | exact Or.inr (by omega) | exact Or.inr (by dsimp only; omega))
            replace E2 := S7.step E2 (Or.inl (by omega))
            replace Bd := S7.blk
            refine WpL_nil ?_
            refine inB_normal ?_
            refine thn_normal ?_
            refine Wp_region ?_
            refine WpL_val rfl rfl (by decide) (r_add (k := .i64) (a := ((k : Nat) : Int)) (b := 1) (c := ((k : Nat) : Int) + 1) rfl rfl (wI64 (by omega))) ?_
            refine WpL_val rfl rfl (by decide) (r_move (v := (.int .i64 (((k : Nat) : Int) + 1))) rfl) ?_
            refine WpL_nil ?_
            refine thn_normal ?_
            exact ⟨n - (k + 1), by omega, k + 1, va2, vc2, na2, nc2, acc ++ [y29], rows ++ [row], lt, top4, Fits.out ⟨rfl, rfl, rfl, rfl, rfl, rfl, rfl, trivial⟩, E, E2, Br, Bd, (by omega), hM9, ⟨by simp [hacc.1], by intro x hx; simp at hx; rcases hx with h | h; exact hacc.2 x h; omega⟩, ⟨by simp [hrows.1], by intro r hr; simp at hr; rcases hr with h | h; exact hrows.2 r h; subst h; exact ⟨by omega, hrr⟩⟩, hS9, hsz9, rfl⟩
    · have khlt := hlt
      replace hlt := of_decide_eq_false hlt
      have hkn : k = n := by omega
      have hDone := MSt.done (start := x3) hM hacc.1 hrows.1
      refine Wp_exit ?_
      refine thn_exit ?_
      refine thn_exit ?_
      refine inB_here ?_
      refine thn_normal ?_
      refine Wp_seq_region ?_
      refine WpL_val rfl rfl (by decide) (r_loadAgg (vs := [(.int .i64 x3), (.slice va k vc), (.slice na k nc)]) rfl agg25 siz25 rfl (Bd.cells rfl)) ?_
      refine s_storeAgg (b := br) (o := 0) (c' := #[(.int .i64 x3), (.slice va k vc), (.slice na k nc)]) rfl rfl (by simp [Value.oneCell']) siz25 rfl Br (by simp) rfl ?_
      intro w8 S8
      replace hM := hM.chg S8.chg (fun y h => .inl (by have h' : y = br := h; omega))
      replace Bd := S8.keep (by omega) Bd
      replace E := S8.step E (by first | exact Or.inl (by omega) | exact Or.inr rfl | exact Or.inr (by assumption) | exact Or.inr (by simp) | exact Or.inr (by omega) | exact Or.inr (by dsimp only; omega))
      replace Br := S8.blk
      refine WpL_nil ?_
      refine Wp_ret ?_
      refine fin_agg Try.results36 (vs := [(.int .i64 x3), (.slice va k vc), (.slice na k nc)]) (b := br) rfl agg25 siz25 rfl (Br.cells rfl) ?_
      rw [hkn] at hM
      exact ⟨n, cc, ⟨x3, acc, rows⟩, va, vc, na, nc, base, top, ⟨by omega, by omega⟩, ⟨by omega, by omega⟩, ⟨by rw [← hkn]; exact hrows.1, by rw [← hkn]; exact hacc.1, ⟨hx3a, by show x3 < (n : Int); omega⟩, hacc.2, hrows.2⟩, by rw [hkn], hwb, hM, E⟩
theorem mkDfa_c (w0 : World) (v : Value) (l : List Int) (hl : IntsAt w0 v l) : Ret Try.prog 36 #[v] w0 fun r w => ∃ n c d vs, (1 ≤ n ∧ n ≤ 6) ∧ (1 ≤ c ∧ c ≤ 3) ∧ okDfa n c d ∧ r = .agg vs.toArray ∧ DfaAt w d vs ∧ Ext w0 w :=
  (mkDfa_m w0 v l hl).mono fun r w h => by
    obtain ⟨n, c, d, aa, ac, na, nc, base, top, h1, h2, h3, h4, _, h5, h6⟩ := h
    exact ⟨n, c, d, [.int .i64 d.start, .slice aa n ac, .slice na n nc], h1, h2, h3, h4, MSt.done (start := d.start) h5 h3.2.1 h3.1, h6⟩
end Go.Proofs
