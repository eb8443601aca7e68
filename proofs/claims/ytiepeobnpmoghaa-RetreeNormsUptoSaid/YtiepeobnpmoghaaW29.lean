/- Contracts: the normal form of an expression of one's own, made in place. -/
import Derived.Test.YtiepeobnpmoghaaW28
namespace Go.Proofs
open Go Go.Eng
set_option maxRecDepth 100000

theorem RowsIn.chg {S M : Nat → Prop} {w w' : World} (c : Chg M w w') (hm : ∀ b, S b → ¬ M b) : ∀ {ts : List Re} {rows : List (List Value)}, RowsIn S w ts rows → RowsIn S w' ts rows
  | [], _, h => h
  | t :: ts, rows, h => by
    obtain ⟨r, rs, h1, h2, h3⟩ := h
    exact ⟨r, rs, h1, ReIn.chg c hm t h2, RowsIn.chg c hm h3⟩
theorem RowsIn.mono {S S' : Nat → Prop} {w : World} (hs : ∀ b, S b → S' b) : ∀ {ts : List Re} {rows : List (List Value)}, RowsIn S w ts rows → RowsIn S' w ts rows
  | [], _, h => h
  | t :: ts, rows, h => by
    obtain ⟨r, rs, h1, h2, h3⟩ := h
    exact ⟨r, rs, h1, ReIn.mono hs t h2, RowsIn.mono hs h3⟩
theorem SlIn.lt {S : Nat → Prop} {w : World} {v : Value} {l : List (Int × Int)} (h : SlIn S w 2 v (l.map spanV)) : SlIn (fun b => S b ∧ b < w.heap.size) w 2 v (l.map spanV) := by
  obtain ⟨a, cap, h1, h2, h3, h4⟩ := h
  refine ⟨a, cap, h1, h2, h3, ?_⟩
  rcases h4 with h | ⟨b, o, hb, h5, h6⟩
  · exact .inl h
  · cases l with
    | nil => exact .inl rfl
    | cons s r =>
      have := h6 0 (spanV s) rfl 0 _ rfl
      exact .inr ⟨b, o, ⟨hb, World.block_lt_of_cell? w _ this⟩, h5, h6⟩
mutual
theorem ReIn.lt {S : Nat → Prop} {w : World} : ∀ (t : Re) {vs : List Value}, ReIn S w t vs → ReIn (fun b => S b ∧ b < w.heap.size) w t vs
  | .mk k set args mn mx ng, vs, h => by
    simp only [ReIn] at h ⊢
    obtain ⟨sa, sc, aa, ac, hv, hs, hl, ha⟩ := h
    refine ⟨sa, sc, aa, ac, hv, SlIn.lt hs, hl, ?_⟩
    rcases ha with h | ⟨b, o, hb, h1, h2⟩
    · exact .inl h
    · match args, h2 with
      | [], _ => exact .inl rfl
      | t :: ts, h2 =>
        have h3 := h2
        simp only [ResIn] at h3
        obtain ⟨⟨us, h4, h5⟩, _⟩ := h3
        obtain ⟨_, _, _, _, rfl, _⟩ := h5.form
        have := h4 0 _ rfl
        exact .inr ⟨b, o, ⟨hb, World.block_lt_of_cell? w _ this⟩, h1, ResIn.lt (t :: ts) h2⟩
theorem ResIn.lt {S : Nat → Prop} {w : World} {b : Nat} : ∀ (ts : List Re) {o : Nat}, ResIn S w b o ts → ResIn (fun b => S b ∧ b < w.heap.size) w b o ts
  | [], _, _ => by simp only [ResIn]
  | t :: ts, o, h => by
    simp only [ResIn] at h ⊢
    obtain ⟨⟨vs, h1, h2⟩, h3⟩ := h
    exact ⟨⟨vs, h1, ReIn.lt t h2⟩, ResIn.lt ts h3⟩
end
theorem RsIn.lt {S : Nat → Prop} {w : World} {v : Value} {ts : List Re} (h : RsIn S w v ts) : RsIn (fun b => S b ∧ b < w.heap.size) w v ts := by
  obtain ⟨aa, ac, h1, h2, h3⟩ := h
  refine ⟨aa, ac, h1, h2, ?_⟩
  rcases h3 with h | ⟨b, o, hb, h4, h5⟩
  · exact .inl h
  · match ts, h5 with
    | [], _ => exact .inl rfl
    | t :: ts, h5 =>
      have h6 := h5
      simp only [ResIn] at h6
      obtain ⟨⟨us, h7, h8⟩, _⟩ := h6
      obtain ⟨_, _, _, _, rfl, _⟩ := h8.form
      have := h7 0 _ rfl
      exact .inr ⟨b, o, ⟨hb, World.block_lt_of_cell? w _ this⟩, h4, ResIn.lt (t :: ts) h5⟩

theorem okRe_arg {t : Re} (h : okRe t) {i : Nat} {x : Re} (hx : t.args[i]? = some x) : okRe x := by
  cases t with
  | mk k set args mn mx ng => exact (okRes_iff args).1 (okRe_args h) x (List.mem_of_getElem? hx)
theorem normT_eq (t : Re) : normT t = normN t.kind t.set (normTs t.args) t.mn t.mx t.neg := by cases t; rfl
section
variable {k : Int} {set : List (Int × Int)} {y : Re} {r : List Re} {mn mx : Int} {ng : Bool}
theorem normN_list (a : List Re) (hk : k = 3 ∨ k = 4 ∨ k = 7) : normN k set a mn mx ng = listT k a := by unfold normN; rw [if_pos hk]
theorem normN_56 (hk : k = 5 ∨ k = 6) : normN k set (y :: r) mn mx ng = if y.kind = 1 ∨ (k = 6 ∧ mx = 0) then emptyT else if y.kind = 0 ∧ (k = 5 ∨ mn = 0) then emptyT else if y.kind = 0 then noneT else if y.kind = 5 ∨ (k = 6 ∧ mn = 1 ∧ mx = 1) then y else .mk k set (y :: r) mn mx ng := by
  unfold normN; rw [if_neg (by omega), if_pos hk]
theorem normN_8 (hk : k = 8) : normN k set (y :: r) mn mx ng = if y.kind = 8 then y.args.headD noneT else .mk k set (y :: r) mn mx ng := by
  unfold normN; rw [if_neg (by omega), if_neg (by omega), if_pos hk]
theorem normN_10 (hk : k = 10) : normN k set (y :: r) mn mx ng = if (y.kind = 1 ∧ ng = true) ∨ (y.kind = 0 ∧ ng = false) then noneT else if y.kind = 1 ∨ y.kind = 0 then emptyT else .mk k set (y :: r) mn mx ng := by
  unfold normN; rw [if_neg (by omega), if_neg (by omega), if_neg (by omega), if_pos hk]
theorem normN_else (a : List Re) (h : k ≠ 3 ∧ k ≠ 4 ∧ k ≠ 7 ∧ k ≠ 5 ∧ k ≠ 6 ∧ k ≠ 8 ∧ k ≠ 10) : normN k set a mn mx ng = .mk k set a mn mx ng := by
  unfold normN; rw [if_neg (by omega), if_neg (by omega), if_neg (by omega), if_neg (by omega)]
end
theorem normTs_len (ts : List Re) : (normTs ts).length = ts.length := by rw [normTs_map, List.length_map]

/-- The arguments while they are made normal one by one. -/
def NSt (f : Re → Re) (Z L : Nat → Prop) (n0 : Nat) (w : World) (aa : Option Addr) (args : List Re) (k : Nat) : Prop :=
  args = [] ∨ ∃ (b : Nat) (rows : List (List Value)) (rest : List Value) (D K : Nat → Prop), aa = some ⟨b, 0, none⟩ ∧ L b ∧ Blk w b (rows.flatten ++ rest).toArray TRe ∧ RowsIn (fun y => Z y ∨ D y ∨ n0 ≤ y) w ((args.take k).map f) (rows.take k) ∧ Trees Z w (args.drop k) (rows.drop k) K ∧ rows.length = args.length ∧ (∀ r ∈ rows, r.length = 6) ∧ (∀ y, D y → L y ∧ y ≠ b ∧ ¬ K y) ∧ (∀ y, K y → L y ∧ y ≠ b)
theorem NSt.ext {f : Re → Re} {Z L : Nat → Prop} {n0 : Nat} {w w' : World} {aa : Option Addr} {args : List Re} {k : Nat} (h : NSt f Z L n0 w aa args k) (e : Ext w w') : NSt f Z L n0 w' aa args k := by
  rcases h with h | ⟨b, rows, rest, D, K, h1, h2, h3, h4, h5, h6⟩
  · exact .inl h
  · exact .inr ⟨b, rows, rest, D, K, h1, h2, e.keep h3, h4.ext e, Trees.ext e _ h5, h6⟩
theorem nst_step {f : Re → Re} {Z L D K L1 K2 : Nat → Prop} {n0 b k : Nat} {w1 w2 w3 : World} {args : List Re} {rows : List (List Value)} {rest : List Value} {x : Re} {vs' : List Value}
    (hz : ∀ y, Z y → ¬ L y) (hb : ∀ y, Z y ∨ L y → y < n0) (hLb : L b) (hx : args[k]? = some x)
    (hR : RowsIn (fun y => Z y ∨ D y ∨ n0 ≤ y) w1 ((args.take k).map f) (rows.take k)) (hT2 : Trees Z w1 (args.drop (k + 1)) (rows.drop (k + 1)) K2) (hl : rows.length = args.length) (h6 : ∀ r ∈ rows, r.length = 6)
    (hD : ∀ y, D y → L y ∧ y ≠ b ∧ ¬ K y) (hK : ∀ y, K y → L y ∧ y ≠ b) (h1 : ∀ y, L1 y → K y ∧ ¬ K2 y) (h2 : ∀ y, K2 y → K y)
    (C : Chg L1 w1 w2) (hv : ReIn (fun y => Z y ∨ L1 y ∨ n0 ≤ y) w2 (f x) vs') (P3 : Put w2 w3 b ((rows.set k vs').flatten ++ rest).toArray TRe) : NSt f Z L n0 w3 (some ⟨b, 0, none⟩) args (k + 1) := by
  have hk : k < args.length := lt_of_get hx
  have hbn := hb b (.inr hLb)
  have hLL : ∀ y, L1 y → L y := fun y hy => (hK y (h1 y hy).1).1
  refine .inr ⟨b, rows.set k vs', rest, fun y => D y ∨ L1 y, K2, rfl, hLb, P3.blk, ?_, ?_, by simpa using hl, ?_, ?_, fun y hy => hK y (h2 y hy)⟩
  · have e1 : (args.take (k + 1)).map f = (args.take k).map f ++ [f x] := by rw [List.take_add_one, hx]; simp
    have e2 : (rows.set k vs').take (k + 1) = rows.take k ++ [vs'] := by
      rw [List.take_add_one, List.take_set_of_le (Nat.le_refl _), List.getElem?_set_self (by omega)]; rfl
    rw [e1, e2]
    refine RowsIn.append (RowsIn.single ?_) ?_
    · refine ReIn.mono (S := fun y => Z y ∨ L1 y ∨ n0 ≤ y) (fun y hy => by rcases hy with h | h | h; exact .inl h; exact .inr (.inl (.inr h)); exact .inr (.inr h)) _ (ReIn.chg P3.chg (fun y hy he => ?_) _ hv)
      have he' : y = b := he
      subst he'
      rcases hy with h | h | h
      · exact hz y h hLb
      · exact (hK y (h1 y h).1).2 rfl
      · omega
    · refine RowsIn.mono (S := fun y => Z y ∨ D y ∨ n0 ≤ y) (fun y hy => by rcases hy with h | h | h; exact .inl h; exact .inr (.inl (.inl h)); exact .inr (.inr h)) (RowsIn.chg P3.chg (fun y hy he => ?_) (RowsIn.chg C (fun y hy he => ?_) hR))
      · have he' : y = b := he
        subst he'
        rcases hy with h | h | h
        · exact hz y h hLb
        · exact (hD y h).2.1 rfl
        · omega
      · rcases hy with h | h | h
        · exact hz y h (hLL y he)
        · exact (hD y h).2.2 (h1 y he).1
        · have := hb y (.inr (hLL y he)); omega
  · have e3 : (rows.set k vs').drop (k + 1) = rows.drop (k + 1) := by rw [List.drop_set_of_lt (by omega)]
    rw [e3]
    refine Trees.chg P3.chg (fun y hy he => ?_) _ (fun y hy he => ?_) (Trees.chg C (fun y hy he => hz y hy (hLL y he)) _ (fun y hy he => (h1 y he).2 hy) hT2)
    · have he' : y = b := he
      subst he'; exact hz y hy hLb
    · exact (hK y (h2 y hy)).2 he
  · intro r hr
    rcases List.mem_or_eq_of_mem_set hr with h | h
    · exact h6 r h
    · rw [h]; exact hv.len
  · intro y hy
    rcases hy with h | h
    · exact ⟨(hD y h).1, (hD y h).2.1, fun h3 => (hD y h).2.2 (h2 y h3)⟩
    · exact ⟨hLL y h, (hK y (h1 y h).1).2, (h1 y h).2⟩
theorem nst_start {f : Re → Re} {Z L : Nat → Prop} {n0 : Nat} {w : World} {aa : Option Addr} {args : List Re} (h : args = [] ∨ ∃ b rows rest L', L b ∧ aa = some ⟨b, 0, none⟩ ∧ Blk w b (rows.flatten ++ rest).toArray TRe ∧ (∀ r ∈ rows, r.length = 6) ∧ Trees Z w args rows L' ∧ (∀ x, L' x → L x ∧ x ≠ b)) : NSt f Z L n0 w aa args 0 := by
  rcases h with h | ⟨b, rows, rest, L', h1, h2, h3, h4, h5, h6⟩
  · exact .inl h
  · exact .inr ⟨b, rows, rest, fun _ => False, L', h2, h1, h3, rfl, h5, h5.len, h4, fun _ f => f.elim, h6⟩
theorem nst_end {f : Re → Re} {Z L : Nat → Prop} {n0 : Nat} {w : World} {aa : Option Addr} {ac : Nat} {args : List Re} (h : NSt f Z L n0 w aa args args.length) (hac : args.length ≤ ac ∧ ac ≤ 9223372036854775807) : RsIn (fun y => Z y ∨ L y ∨ n0 ≤ y) w (.slice aa args.length ac) (args.map f) := by
  refine ⟨aa, ac, by rw [List.length_map], by rw [List.length_map]; exact hac, ?_⟩
  rcases h with h | ⟨b, rows, rest, D, K, h1, h2, h3, h4, h5, h6, h7, h8, h9⟩
  · left; rw [h]; rfl
  · refine .inr ⟨b, 0, .inr (.inl h2), h1, resin_of fun i t ht => ?_⟩
    rw [List.take_length, List.take_of_length_le (by omega)] at h4
    obtain ⟨r, h10, h11⟩ := h4.get ht
    exact ⟨r, by rw [Nat.zero_add]; exact rows_at h3 h7 h10, ReIn.mono (fun y hy => by rcases hy with h | h | h; exact .inl h; exact .inr (.inl (h8 y h).1); exact .inr (.inr h)) t h11⟩
def normF (S : Nat → Prop) (t : Re) : Fct := fun v w => ∃ vs, v = .agg vs.toArray ∧ ReIn S w t vs
theorem normF_ext (S : Nat → Prop) (t : Re) : ∀ v w w', Ext w w' → normF S t v w → normF S t v w' := by
  rintro v w w' e ⟨vs, h1, h2⟩
  exact ⟨vs, h1, ReIn.ext e t h2⟩
theorem normF_mono {S S' : Nat → Prop} {t : Re} {v : Value} {w : World} (hs : ∀ y, S y → S' y) (h : normF S t v w) : normF S' t v w := by
  obtain ⟨vs, h1, h2⟩ := h
  exact ⟨vs, h1, ReIn.mono hs t h2⟩
theorem re_ret {S S' Z : Nat → Prop} {w w' : World} {k : Int} {set : List (Int × Int)} {a : List Re} {n bo : Nat} {mn mx : Int} {ng : Bool} {sa aa : Option Addr} {sc ac : Nat} (hs : SlIn Z w 2 (.slice sa set.length sc) (set.map spanV)) (hzs : ∀ y, Z y → S y) (h : RsIn S w (.slice aa n ac) a) (c : Chg (fun y => y = bo) w w') (hne : ∀ y, S y → ¬ y = bo) (hmo : ∀ y, S y → S' y) :
    ReIn S' w' (.mk k set a mn mx ng) [.int .i64 k, .slice sa set.length sc, .slice aa n ac, .int .i64 mn, .int .i64 mx, .bool ng] := by
  obtain ⟨aa', ac', h1, h2, h3⟩ := h
  simp only [Value.slice.injEq] at h1
  obtain ⟨rfl, rfl, rfl⟩ := h1
  refine ReIn.mono hmo _ (ReIn.chg c hne _ (ReIn.of (hs.mono hzs) h2 h3))

theorem drop_head {α : Type} {l r : List α} {k : Nat} {x : α} (h : l.drop k = x :: r) : l[k]? = some x ∧ r = l.drop (k + 1) := by
  have h1 : (l.drop k)[0]? = some x := by rw [h]; rfl
  rw [List.getElem?_drop] at h1
  have h2 : (l.drop k).drop 1 = r := by rw [h]; rfl
  rw [List.drop_drop] at h2
  exact ⟨by simpa using h1, h2.symm⟩
theorem headD_get {α : Type} {l : List α} {x d : α} (h : l[0]? = some x) : l.headD d = x := by
  cases l with
  | nil => simp at h
  | cons y r => simpa using h
theorem RowsIn.lt {S : Nat → Prop} {w : World} : ∀ {ts : List Re} {rows : List (List Value)}, RowsIn S w ts rows → RowsIn (fun b => S b ∧ b < w.heap.size) w ts rows
  | [], _, h => h
  | t :: ts, rows, h => by
    obtain ⟨r, rs, h1, h2, h3⟩ := h
    exact ⟨r, rs, h1, ReIn.lt t h2, RowsIn.lt h3⟩


set_option maxHeartbeats 4000000 in
theorem norm_c : ∀ (n : Nat) (t : Re) (w0 : World) (vs : List Value) (Z L : Nat → Prop), t.size ≤ n → t.size ≤ 1000000 → okRe t → Tree Z w0 t vs L → (∀ y, Z y → ¬ L y) → (∀ y, Z y ∨ L y → y < w0.heap.size) →
    Ret Try.prog 10 #[.agg vs.toArray] w0 fun v w => normF (fun y => Z y ∨ L y ∨ w0.heap.size ≤ y) (normT t) v w ∧ Chg L w0 w := by
  intro n
  induction n with
  | zero => intro t w0 vs Z L hn; have := t.size_pos; omega
  | succ n ih =>
  intro t w0 vs Z L hn hM hok hT hz hb
  obtain ⟨sa, sc, aa, ac, rfl, hset, hac, hta⟩ := hT.form
  refine Ret_of Try.func10 rfl Try.ntmps10 (Nat.le_of_ble_eq_true rfl) ?_
  have E : Chg L w0 w0 := Chg.refl _ _
  have E5 : Chg none1 w0 w0 := Chg.refl _ _
  refine Wp_seq_region ?_
  refine s_box (v := (.agg #[(.int .i64 t.kind), (.slice sa t.set.length sc), (.slice aa t.args.length ac), (.int .i64 t.mn), (.int .i64 t.mx), (.bool t.neg)])) (c := #[(.int .i64 t.kind), (.slice sa t.set.length sc), (.slice aa t.args.length ac), (.int .i64 t.mn), (.int .i64 t.mx), (.bool t.neg)]) (by decide) rfl rfl ?_
  intro br wr Nr
  have Fr := Nr.ge E
  have Fr_E5 := Nr.ge E5
  replace E := E.ext Nr.ext
  have Br := Nr.blk
  replace E5 := E5.ext Nr.ext
  refine s_alloc (c := #[(.int .i64 0), (.slice none 0 0), (.slice none 0 0), (.int .i64 0), (.int .i64 0), (.bool false)]) (by decide) zer25 rfl ?_
  intro bo wo No
  have Fo := No.ge E
  have Fo_E5 := No.ge E5
  have Oo_br := No.lt Br
  replace Br := No.keep Br
  replace E := E.ext No.ext
  have Bo := No.blk
  replace E5 := E5.ext No.ext
  refine WpL_nil ?_
  refine Wp_seq ?_
  refine Wp_seq_region ?_
  refine WpL_val rfl rfl (by decide) (r_fieldAddr (b := br) (o := 0) (o' := 2) rfl Try.underlying25 rfl siz23 rfl) ?_
  refine WpL_val rfl rfl (by decide) (r_load (v := (.slice aa t.args.length ac)) rfl flat23 (Br.cell rfl)) ?_
  refine WpL_val rfl rfl (by decide) (r_lenSlice (ad := aa) (n := t.args.length) (cap := ac) Try.underlying23 rfl) ?_
  refine WpL_val rfl rfl (by decide) (r_move (v := (.int .i64 0)) rfl) ?_
  refine WpL_nil ?_
  refine Wp_block ?_
  obtain ⟨n1, hn1⟩ : ∃ n1, n1 = wo.heap.size := ⟨_, rfl⟩
  have hbo : bo < n1 := by rw [hn1]; exact Bo.lt
  have hbr : br < n1 := by omega
  have hst : NSt normT Z L n1 wo aa t.args 0 := NSt.ext (nst_start hta) E5
  have hb1 : ∀ y, Z y ∨ L y → y < n1 := fun y hy => by have := hb y hy; omega
  have hne : ∀ y, Z y ∨ L y ∨ n1 ≤ y → ¬ y = bo := by
    rintro y (h | h | h) he
    · have := hb y (.inl h); omega
    · have := hb y (.inr h); omega
    · omega
  have hmo : ∀ y, Z y ∨ L y ∨ n1 ≤ y → Z y ∨ L y ∨ w0.heap.size ≤ y := by
    rintro y (h | h | h)
    · exact .inl h
    · exact .inr (.inl h)
    · exact .inr (.inr (by omega))
  refine Wp_loop (fun nn_ σ W1 => ∃ (k : Nat), (∃ jj_, σ = upds jj_ [(1, (.pointer (some ⟨br, 0, none⟩))), (2, (.pointer (some ⟨bo, 0, none⟩))), (12, (.slice aa t.args.length ac)), (13, (.int .i64 ((t.args.length : Nat) : Int))), (14, (.int .i64 ((k : Nat) : Int)))]) ∧ Chg L w0 W1 ∧ Blk W1 br #[(.int .i64 t.kind), (.slice sa t.set.length sc), (.slice aa t.args.length ac), (.int .i64 t.mn), (.int .i64 t.mx), (.bool t.neg)] 25 ∧ Blk W1 bo #[(.int .i64 0), (.slice none 0 0), (.slice none 0 0), (.int .i64 0), (.int .i64 0), (.bool false)] 25 ∧ (k ≤ t.args.length) ∧ (NSt normT Z L n1 W1 aa t.args k) ∧ (n1 ≤ W1.heap.size) ∧ nn_ = t.args.length - k) (n := t.args.length - 0) ?_ ?_
  · exact ⟨0, Fits.out ⟨rfl, rfl, rfl, rfl, rfl, trivial⟩, E, Br, Bo, Nat.zero_le _, hst, (by omega), rfl⟩
  · clear E Br Bo
    rintro _ _ W1 ⟨k, ⟨j1, rfl⟩, E, Br, Bo, hk, hst, hsz1, rfl⟩
    refine Wp_seq_region ?_
    refine WpL_val rfl rfl (by decide) (r_lss (k := .i64) (a := ((k : Nat) : Int)) (b := ((t.args.length : Nat) : Int)) rfl rfl) ?_
    refine WpL_nil ?_
    refine Wp_seq ?_
    refine Wp_cond (b := decide ((((k : Nat) : Int) : Int) < ((t.args.length : Nat) : Int))) rfl (fun hlt => ?_) (fun hlt => ?_)
    · have khlt := hlt
      replace hlt := of_decide_eq_true hlt
      obtain ⟨x, hx⟩ := get_of_lt (l := t.args) (i := k) (by omega)
      obtain ⟨b, rows, rest, D, K, rfl, hLb, hB, hR, hT, hl, h6, hD, hK⟩ := hst.resolve_left (fun h => by rw [h] at hx; simp at hx)
      have hbb := hb b (.inr hLb)
      rw [drop_cons hx] at hT
      simp only [Trees] at hT
      obtain ⟨xs, rs2, L1, K2, hrows, hTx, hT2, h1, h2⟩ := hT
      obtain ⟨hrx, rfl⟩ := drop_head hrows
      have hTx0 := hTx
      obtain ⟨sa2, sc2, aa2, ac2, rfl, _, _, _⟩ := hTx.form
      have hLL : ∀ y, L1 y → L y := fun y hy => (hK y (h1 y hy).1).1
      have E4 : Chg none1 W1 W1 := Chg.refl _ _
      refine Wp_skip ?_
      refine thn_normal ?_
      refine Wp_seq ?_
      refine Wp_block ?_
      refine Wp_seq_region ?_
      refine WpL_val rfl rfl (by decide) (r_move (v := (.int .i64 ((k : Nat) : Int))) rfl) ?_
      refine WpL_val rfl rfl (by decide) (r_indexSlice (b := b) (o := 0) (len := t.args.length) (cap := ac) (i := k) (o' := 0 + k * 6) rfl rfl rfl Try.underlying23 siz25 (by omega) (by omega)) ?_
      refine WpL_val rfl rfl (by decide) (r_loadAgg (vs := [(.int .i64 x.kind), (.slice sa2 x.set.length sc2), (.slice aa2 x.args.length ac2), (.int .i64 x.mn), (.int .i64 x.mx), (.bool x.neg)]) rfl agg25 siz25 rfl (by rw [Nat.zero_add]; exact rows_at hB h6 hrx)) ?_
      refine s_alloc (c := #[(.int .i64 0), (.slice none 0 0), (.slice none 0 0), (.int .i64 0), (.int .i64 0), (.bool false)]) (by decide) zer25 rfl ?_
      intro bs ws Ns
      have Fs := Ns.ge E
      have Fs_E4 := Ns.ge E4
      have Os_br := Ns.lt Br
      have Os_bo := Ns.lt Bo
      have Os_b := Ns.lt hB
      replace Br := Ns.keep Br
      replace Bo := Ns.keep Bo
      replace hB := Ns.keep hB
      replace E := E.ext Ns.ext
      have Bs := Ns.blk
      replace E4 := E4.ext Ns.ext
      refine WpL_val rfl rfl (by decide) (r_assign (v := (.int .i64 ((k : Nat) : Int))) rfl) ?_
      refine s_storeAgg (b := bs) (o := 0) (c' := #[(.int .i64 x.kind), (.slice sa2 x.set.length sc2), (.slice aa2 x.args.length ac2), (.int .i64 x.mn), (.int .i64 x.mx), (.bool x.neg)]) rfl rfl (by simp [Value.oneCell']) siz25 rfl Bs (by simp) rfl ?_
      intro w3 S3
      replace Br := S3.keep (by omega) Br
      replace Bo := S3.keep (by omega) Bo
      replace hB := S3.keep (by omega) hB
      replace E := S3.step E (by first | exact Or.inl (by omega) | exact Or.inr rfl | exact Or.inr (by assumption) | exact Or.inr (by simp) | exact Or.inr (by omega) | exact Or.inr (by dsimp only; omega))
      replace E4 := S3.step E4 (Or.inl (by omega))
      replace Bs := S3.blk
      refine WpL_nil ?_
      obtain ⟨Fs4, hFs4⟩ : ∃ Fs : List (FactT (L1)), Fs = [.eq (.pointer (some ⟨br, 2, none⟩)), .eq (.slice (some ⟨b, 0, none⟩) t.args.length ac), .eq (.int .i64 ((k : Nat) : Int)), .eq (.agg #[(.int .i64 x.kind), (.slice sa2 x.set.length sc2), (.slice aa2 x.args.length ac2), (.int .i64 x.mn), (.int .i64 x.mx), (.bool x.neg)]), .own (normF (fun y => Z y ∨ L1 y ∨ n1 ≤ y) (normT x)) (normF_ext _ _)] := ⟨_, rfl⟩
      refine Wp_dagT (L1) 5 4 [19, 20, 21, 22, 23] [[], [0], [], [], [3]] Fs4 hFs4 rfl mixed (by kernel_rfl) (by kernel_rfl) (by kernel_rfl) ?_ ?_
      · intro wd X0
        refine DagStepsT.cons (fun s' w' X U H => ?_) ?_
        · exact DoesT_val (r_fieldAddr (b := br) (o := 0) (o' := 2) (U 1 rfl) Try.underlying25 rfl siz23 rfl) (Chg.refl _ _) rfl
        refine DagStepsT.cons (fun s' w' X U H => ?_) ?_
        · have e19 : s' 19 = (.pointer (some ⟨br, 2, none⟩)) := H 0 rfl 19 (.eq (.pointer (some ⟨br, 2, none⟩))) rfl (by rw [hFs4]; rfl)
          exact DoesT_val (r_load (v := (.slice (some ⟨b, 0, none⟩) t.args.length ac)) e19 flat23 ((Chg.keep X (fun h => by have := hb br (.inr (hLL _ h)); omega) (X0.keep Br)).cell rfl)) (Chg.refl _ _) rfl
        refine DagStepsT.cons (fun s' w' X U H => ?_) ?_
        · exact DoesT_val (r_move (v := (.int .i64 ((k : Nat) : Int))) (U 3 rfl)) (Chg.refl _ _) rfl
        refine DagStepsT.cons (fun s' w' X U H => ?_) ?_
        · exact DoesT_val (r_loadAgg (vs := [(.int .i64 x.kind), (.slice sa2 x.set.length sc2), (.slice aa2 x.args.length ac2), (.int .i64 x.mn), (.int .i64 x.mx), (.bool x.neg)]) (U 4 rfl) agg25 siz25 rfl ((Chg.keep X (fun f => f) (X0.keep Bs)).cells rfl)) (Chg.refl _ _) rfl
        refine DagStepsT.cons (fun s' w' X U H => ?_) ?_
        · have e22 : s' 22 = (.agg #[(.int .i64 x.kind), (.slice sa2 x.set.length sc2), (.slice aa2 x.args.length ac2), (.int .i64 x.mn), (.int .i64 x.mx), (.bool x.neg)]) := H 3 rfl 22 (.eq (.agg #[(.int .i64 x.kind), (.slice sa2 x.set.length sc2), (.slice aa2 x.args.length ac2), (.int .i64 x.mn), (.int .i64 x.mx), (.bool x.neg)])) rfl (by rw [hFs4]; rfl)
          exact DoesT_enter (r_callF (vs := [(.agg #[(.int .i64 x.kind), (.slice sa2 x.set.length sc2), (.slice aa2 x.args.length ac2), (.int .i64 x.mn), (.int .i64 x.mx), (.bool x.neg)])]) Try.func10 nm10 bd10 (lst1 e22)) ((ih x _ _ Z L1 (by have := Re.size_arg hx; omega) (by have := Re.size_arg hx; omega) (okRe_arg hok hx) (Tree.ext ((Ext.trans E4 X0).trans X) x hTx0) (fun y hy h => hz y hy (hLL y h)) (fun y hy => by have := hb1 y (hy.imp id (hLL y)); have := E4.size; have := X0.size; have := X.size; omega)).mono (fun v w2 h => ⟨normF_mono (by rintro y (h | h | h); exact .inl h; exact .inr (.inl h); exact .inr (.inr (by have := E4.size; have := X0.size; have := X.size; omega))) h.1, h.2⟩))
        exact DagStepsT.nil
      · intro s' wd4 w4 X0 X4 U H
        have e19 : s' 19 = (.pointer (some ⟨br, 2, none⟩)) := H 0 19 (.eq (.pointer (some ⟨br, 2, none⟩))) rfl (by rw [hFs4]; rfl)
        have e20 : s' 20 = (.slice (some ⟨b, 0, none⟩) t.args.length ac) := H 1 20 (.eq (.slice (some ⟨b, 0, none⟩) t.args.length ac)) rfl (by rw [hFs4]; rfl)
        have e21 : s' 21 = (.int .i64 ((k : Nat) : Int)) := H 2 21 (.eq (.int .i64 ((k : Nat) : Int))) rfl (by rw [hFs4]; rfl)
        have e22 : s' 22 = (.agg #[(.int .i64 x.kind), (.slice sa2 x.set.length sc2), (.slice aa2 x.args.length ac2), (.int .i64 x.mn), (.int .i64 x.mx), (.bool x.neg)]) := H 3 22 (.eq (.agg #[(.int .i64 x.kind), (.slice sa2 x.set.length sc2), (.slice aa2 x.args.length ac2), (.int .i64 x.mn), (.int .i64 x.mx), (.bool x.neg)])) rfl (by rw [hFs4]; rfl)
        obtain ⟨v23, e23, r23⟩ := (show (.own (normF (fun y => Z y ∨ L1 y ∨ n1 ≤ y) (normT x)) (normF_ext _ _) : FactT (L1)).In (s' 23) _ from H 4 23 (.own (normF (fun y => Z y ∨ L1 y ∨ n1 ≤ y) (normT x)) (normF_ext _ _)) rfl (by rw [hFs4]; rfl))
        obtain ⟨j4, rfl⟩ := Fits.out (σ := s') (l := [(1, (.pointer (some ⟨br, 0, none⟩))), (2, (.pointer (some ⟨bo, 0, none⟩))), (3, (.int .i64 ((k : Nat) : Int))), (4, (.pointer (some ⟨bs, 0, none⟩))), (12, (.slice (some ⟨b, 0, none⟩) t.args.length ac)), (13, (.int .i64 ((t.args.length : Nat) : Int))), (14, (.int .i64 ((k : Nat) : Int))), (15, (.bool (decide ((((k : Nat) : Int) : Int) < ((t.args.length : Nat) : Int))))), (16, (.int .i64 ((k : Nat) : Int))), (17, (.pointer (some ⟨b, 0 + k * 6, none⟩))), (18, (.agg #[(.int .i64 x.kind), (.slice sa2 x.set.length sc2), (.slice aa2 x.args.length ac2), (.int .i64 x.mn), (.int .i64 x.mx), (.bool x.neg)])), (19, (.pointer (some ⟨br, 2, none⟩))), (20, (.slice (some ⟨b, 0, none⟩) t.args.length ac)), (21, (.int .i64 ((k : Nat) : Int))), (22, (.agg #[(.int .i64 x.kind), (.slice sa2 x.set.length sc2), (.slice aa2 x.args.length ac2), (.int .i64 x.mn), (.int .i64 x.mx), (.bool x.neg)])), (23, (.agg v23.toArray))]) ⟨U 1 rfl, U 2 rfl, U 3 rfl, U 4 rfl, U 12 rfl, U 13 rfl, U 14 rfl, U 15 rfl, U 16 rfl, U 17 rfl, U 18 rfl, e19, e20, e21, e22, e23, trivial⟩
        clear U H
        replace Br := Chg.keep X4 (fun h => by have := hb br (.inr (hLL _ h)); omega) (X0.keep Br)
        replace Bo := Chg.keep X4 (fun h => by have := hb bo (.inr (hLL _ h)); omega) (X0.keep Bo)
        replace hB := Chg.keep X4 (fun h => (hK b (h1 b h).1).2 rfl) (X0.keep hB)
        replace Bs := Chg.keep X4 (fun h => by have := hb bs (.inr (hLL _ h)); omega) (X0.keep Bs)
        have C12 := X4
        replace E := (E.ext X0).step X4 (fun y _ hy => hLL y hy)
        have hP3 : True := trivial
        refine WpL_val rfl rfl (by decide) (r_indexSlice (b := b) (o := 0) (len := t.args.length) (cap := ac) (i := k) (o' := 0 + k * 6) rfl rfl rfl Try.underlying23 siz25 (by omega) (by omega)) ?_
        refine s_storeAgg (b := b) (o := 0 + k * 6) (n := 6) (c' := ((rows.set k v23).flatten ++ rest).toArray) (vs := v23.toArray) rfl rfl (by simpa using ReAt.one (ReIn.at _ r23)) siz25 (by simpa using r23.len) hB (by have := rows_len h6; simp only [List.size_toArray, List.length_append]; omega) (by rw [Nat.zero_add]; exact congrArg List.toArray (rows_set (k := 6) (v := v23) (rows := rows) (i := k) (rest := rest) r23.len h6 (by omega))) ?_
        intro w5 S5
        replace hP3 := S5
        replace Br := S5.keep (by omega) Br
        replace Bo := S5.keep (by omega) Bo
        replace Bs := S5.keep (by omega) Bs
        replace E := S5.step E (by first | exact Or.inl (by omega) | exact Or.inr rfl | exact Or.inr (by assumption) | exact Or.inr (by simp) | exact Or.inr (by omega) | exact Or.inr (by dsimp only; omega))
        replace hB := S5.blk
        refine WpL_nil ?_
        refine inB_normal ?_
        refine thn_normal ?_
        refine Wp_region ?_
        refine WpL_val rfl rfl (by decide) (r_add (k := .i64) (a := ((k : Nat) : Int)) (b := 1) (c := ((k : Nat) : Int) + 1) rfl rfl (wI64 (by omega))) ?_
        refine WpL_val rfl rfl (by decide) (r_move (v := (.int .i64 (((k : Nat) : Int) + 1))) rfl) ?_
        refine WpL_nil ?_
        refine thn_normal ?_
        exact ⟨t.args.length - (k + 1), by omega, k + 1, Fits.out ⟨rfl, rfl, rfl, rfl, rfl, trivial⟩, E, Br, Bo, (by omega), nst_step hz hb1 hLb hx (RowsIn.ext (Ext.trans E4 X0) hR) (Trees.ext (Ext.trans E4 X0) _ hT2) hl h6 hD hK h1 h2 C12 r23 hP3, (by have := hP3.size; have := C12.size; have := X0.size; have := E4.size; omega), rfl⟩
    · have khlt := hlt
      replace hlt := of_decide_eq_false hlt
      have hkk : k = t.args.length := by omega
      subst hkk
      have E5 : Chg none1 W1 W1 := Chg.refl _ _
      refine Wp_exit ?_
      refine thn_exit ?_
      refine thn_exit ?_
      refine inB_here ?_
      refine thn_normal ?_
      refine Wp_seq_region ?_
      refine WpL_val rfl rfl (by decide) (r_build (ps := [(0, (.int .i64 1))]) (v := (.agg #[(.int .i64 1), (.slice none 0 0), (.slice none 0 0), (.int .i64 0), (.int .i64 0), (.bool false)])) rfl (by kernel_rfl)) ?_
      refine WpL_val rfl rfl (by decide) (r_build (ps := [(0, (.int .i64 0))]) (v := (.agg #[(.int .i64 0), (.slice none 0 0), (.slice none 0 0), (.int .i64 0), (.int .i64 0), (.bool false)])) rfl (by kernel_rfl)) ?_
      refine s_alloc (c := #[(.int .i64 0), (.slice none 0 0), (.slice none 0 0), (.int .i64 0), (.int .i64 0), (.bool false)]) (by decide) zer25 rfl ?_
      intro b6 w6 N6
      have F6 := N6.ge E
      have F6_E5 := N6.ge E5
      have O6_br := N6.lt Br
      have O6_bo := N6.lt Bo
      replace Br := N6.keep Br
      replace Bo := N6.keep Bo
      replace E := E.ext N6.ext
      have B6 := N6.blk
      replace E5 := E5.ext N6.ext
      refine s_alloc (c := #[(.int .i64 0), (.slice none 0 0), (.slice none 0 0), (.int .i64 0), (.int .i64 0), (.bool false)]) (by decide) zer25 rfl ?_
      intro b7 w7 N7
      have F7 := N7.ge E
      have F7_E5 := N7.ge E5
      have O7_br := N7.lt Br
      have O7_bo := N7.lt Bo
      have O7_b6 := N7.lt B6
      replace Br := N7.keep Br
      replace Bo := N7.keep Bo
      replace B6 := N7.keep B6
      replace E := E.ext N7.ext
      have B7 := N7.blk
      replace E5 := E5.ext N7.ext
      refine s_storeAgg (b := b6) (o := 0) (c' := #[(.int .i64 1), (.slice none 0 0), (.slice none 0 0), (.int .i64 0), (.int .i64 0), (.bool false)]) rfl rfl (by simp [Value.oneCell']) siz25 rfl B6 (by simp) rfl ?_
      intro w8 S8
      replace Br := S8.keep (by omega) Br
      replace Bo := S8.keep (by omega) Bo
      replace B7 := S8.keep (by omega) B7
      replace E := S8.step E (by first | exact Or.inl (by omega) | exact Or.inr rfl | exact Or.inr (by assumption) | exact Or.inr (by simp) | exact Or.inr (by omega) | exact Or.inr (by dsimp only; omega))
      replace E5 := S8.step E5 (Or.inl (by omega))
      replace B6 := S8.blk
      refine s_storeAgg (b := b7) (o := 0) (c' := #[(.int .i64 0), (.slice none 0 0), (.slice none 0 0), (.int .i64 0), (.int .i64 0), (.bool false)]) rfl rfl (by simp [Value.oneCell']) siz25 rfl B7 (by simp) rfl ?_
      intro w9 S9
      replace Br := S9.keep (by omega) Br
      replace Bo := S9.keep (by omega) Bo
      replace B6 := S9.keep (by omega) B6
      replace E := S9.step E (by first | exact Or.inl (by omega) | exact Or.inr rfl | exact Or.inr (by assumption) | exact Or.inr (by simp) | exact Or.inr (by omega) | exact Or.inr (by dsimp only; omega))
      replace E5 := S9.step E5 (Or.inl (by omega))
      replace B7 := S9.blk
      refine WpL_nil ?_
      refine Wp_seq ?_
      refine Wp_seq_region ?_
      refine WpL_val rfl rfl (by decide) (r_fieldAddr (b := br) (o := 0) (o' := 0) rfl Try.underlying25 rfl siz3 rfl) ?_
      refine WpL_val rfl rfl (by decide) (r_load (v := (.int .i64 t.kind)) rfl flat3 (Br.cell rfl)) ?_
      refine WpL_nil ?_
      refine Wp_block ?_
      refine Wp_seq ?_
      refine Wp_seq_region ?_
      refine WpL_val rfl rfl (by decide) (r_eql (k := .i64) (a := t.kind) (b := 3) rfl rfl) ?_
      refine WpL_val rfl rfl (by decide) (r_assign (v := (.bool (decide ((t.kind : Int) = 3)))) rfl) ?_
      refine WpL_nil ?_
      refine Wp_cond (b := decide ((t.kind : Int) = 3)) rfl (fun h3 => ?_) (fun h3 => ?_)
      · have kh3 := h3
        replace h3 := of_decide_eq_true h3
        refine Wp_skip ?_
        refine thn_normal ?_
        refine Wp_cond_true (congrArg Value.bool kh3) ?_
        refine Wp_seq_region ?_
        refine WpL_val rfl rfl (by decide) (r_fieldAddr (b := br) (o := 0) (o' := 0) rfl Try.underlying25 rfl siz3 rfl) ?_
        refine WpL_val rfl rfl (by decide) (r_load (v := (.int .i64 t.kind)) rfl flat3 (Br.cell rfl)) ?_
        refine WpL_val rfl rfl (by decide) (r_fieldAddr (b := br) (o := 0) (o' := 2) rfl Try.underlying25 rfl siz23 rfl) ?_
        refine WpL_val rfl rfl (by decide) (r_load (v := (.slice aa t.args.length ac)) rfl flat23 (Br.cell rfl)) ?_
        have hrs2 := (nst_end (NSt.ext hst E5) hac)
        rw [← normTs_map] at hrs2
        have hrs3 := hrs2.lt
        have hst2 : n1 ≤ (w9).heap.size := Nat.le_trans hsz1 E5.size
        refine WpL_enter rfl rfl (by decide) (r_callF (vs := [(.int .i64 t.kind), (.slice aa t.args.length ac)]) Try.func22 nm22 bd22 rfl) (list_c _ _ t.kind _ (normTs t.args) hrs3 (fun y hy => hy.2) (fun y hy hyk he => by have := okRe_len2 (ok_normTs t.args (okRe_args hok) y hy) (by omega); rw [he] at this; simp at this) (by have := size_normTs t.args; have := t.size_eq; omega)) ?_
        rintro _ w9 ⟨vs9, rfl, hre9, X9⟩
        replace Br := X9.keep Br
        replace Bo := X9.keep Bo
        replace B6 := X9.keep B6
        replace B7 := X9.keep B7
        replace E := E.ext X9
        replace E5 := E5.ext X9
        have hre90 := hre9
        obtain ⟨sa9, sc9, aa9, ac9, rfl, _, _, _⟩ := hre9.form
        have hC9 : Chg (fun y => y = bo) (w9) (w9) := Chg.refl _ _
        refine s_storeAgg (b := bo) (o := 0) (c' := #[(.int .i64 ((listT t.kind (normTs t.args)).kind)), (.slice sa9 ((listT t.kind (normTs t.args)).set.length) sc9), (.slice aa9 ((listT t.kind (normTs t.args)).args.length) ac9), (.int .i64 ((listT t.kind (normTs t.args)).mn)), (.int .i64 ((listT t.kind (normTs t.args)).mx)), (.bool ((listT t.kind (normTs t.args)).neg))]) rfl rfl (by simp [Value.oneCell']) siz25 rfl Bo (by simp) rfl ?_
        intro w11 S11
        replace hC9 := S11.chg
        replace Br := S11.keep (by omega) Br
        replace B6 := S11.keep (by omega) B6
        replace B7 := S11.keep (by omega) B7
        replace E := S11.step E (by first | exact Or.inl (by omega) | exact Or.inr rfl | exact Or.inr (by assumption) | exact Or.inr (by simp) | exact Or.inr (by omega) | exact Or.inr (by dsimp only; omega))
        replace Bo := S11.blk
        refine WpL_nil ?_
        refine Wp_ret ?_
        refine inB_ret ?_
        refine thn_ret ?_
        refine fin_agg Try.results10 (vs := [(.int .i64 ((listT t.kind (normTs t.args)).kind)), (.slice sa9 ((listT t.kind (normTs t.args)).set.length) sc9), (.slice aa9 ((listT t.kind (normTs t.args)).args.length) ac9), (.int .i64 ((listT t.kind (normTs t.args)).mn)), (.int .i64 ((listT t.kind (normTs t.args)).mx)), (.bool ((listT t.kind (normTs t.args)).neg))]) (b := bo) rfl agg25 siz25 rfl (Bo.cells rfl) ?_
        refine ⟨⟨_, rfl, ?_⟩, E⟩
        rw [normT_eq, normN_list _ (by omega)]
        refine ReIn.mono ?_ _ (ReIn.chg hC9 ?_ _ hre90)
        · rintro y (⟨h | h | h, _⟩ | h)
          · exact .inl h
          · exact .inr (.inl h)
          · exact .inr (.inr (by omega))
          · exact .inr (.inr (by omega))
        · rintro y (⟨h | h | h, _⟩ | h) he
          · have he' : y = bo := he
            have := hb y (.inl h); omega
          · have he' : y = bo := he
            have := hb y (.inr h); omega
          · have he' : y = bo := he
            omega
          · have he' : y = bo := he
            omega
      · have kh3 := h3
        replace h3 := of_decide_eq_false h3
        refine Wp_seq_region ?_
        refine WpL_val rfl rfl (by decide) (r_eql (k := .i64) (a := t.kind) (b := 4) rfl rfl) ?_
        refine WpL_val rfl rfl (by decide) (r_assign (v := (.bool (decide ((t.kind : Int) = 4)))) rfl) ?_
        refine WpL_nil ?_
        refine Wp_cond (b := decide ((t.kind : Int) = 4)) rfl (fun h4 => ?_) (fun h4 => ?_)
        · have kh4 := h4
          replace h4 := of_decide_eq_true h4
          refine Wp_skip ?_
          refine thn_normal ?_
          refine Wp_cond_true (congrArg Value.bool kh4) ?_
          refine Wp_seq_region ?_
          refine WpL_val rfl rfl (by decide) (r_fieldAddr (b := br) (o := 0) (o' := 0) rfl Try.underlying25 rfl siz3 rfl) ?_
          refine WpL_val rfl rfl (by decide) (r_load (v := (.int .i64 t.kind)) rfl flat3 (Br.cell rfl)) ?_
          refine WpL_val rfl rfl (by decide) (r_fieldAddr (b := br) (o := 0) (o' := 2) rfl Try.underlying25 rfl siz23 rfl) ?_
          refine WpL_val rfl rfl (by decide) (r_load (v := (.slice aa t.args.length ac)) rfl flat23 (Br.cell rfl)) ?_
          have hrs2 := (nst_end (NSt.ext hst E5) hac)
          rw [← normTs_map] at hrs2
          have hrs3 := hrs2.lt
          have hst2 : n1 ≤ (w9).heap.size := Nat.le_trans hsz1 E5.size
          refine WpL_enter rfl rfl (by decide) (r_callF (vs := [(.int .i64 t.kind), (.slice aa t.args.length ac)]) Try.func22 nm22 bd22 rfl) (list_c _ _ t.kind _ (normTs t.args) hrs3 (fun y hy => hy.2) (fun y hy hyk he => by have := okRe_len2 (ok_normTs t.args (okRe_args hok) y hy) (by omega); rw [he] at this; simp at this) (by have := size_normTs t.args; have := t.size_eq; omega)) ?_
          rintro _ w9 ⟨vs9, rfl, hre9, X9⟩
          replace Br := X9.keep Br
          replace Bo := X9.keep Bo
          replace B6 := X9.keep B6
          replace B7 := X9.keep B7
          replace E := E.ext X9
          replace E5 := E5.ext X9
          have hre90 := hre9
          obtain ⟨sa9, sc9, aa9, ac9, rfl, _, _, _⟩ := hre9.form
          have hC9 : Chg (fun y => y = bo) (w9) (w9) := Chg.refl _ _
          refine s_storeAgg (b := bo) (o := 0) (c' := #[(.int .i64 ((listT t.kind (normTs t.args)).kind)), (.slice sa9 ((listT t.kind (normTs t.args)).set.length) sc9), (.slice aa9 ((listT t.kind (normTs t.args)).args.length) ac9), (.int .i64 ((listT t.kind (normTs t.args)).mn)), (.int .i64 ((listT t.kind (normTs t.args)).mx)), (.bool ((listT t.kind (normTs t.args)).neg))]) rfl rfl (by simp [Value.oneCell']) siz25 rfl Bo (by simp) rfl ?_
          intro w13 S13
          replace hC9 := S13.chg
          replace Br := S13.keep (by omega) Br
          replace B6 := S13.keep (by omega) B6
          replace B7 := S13.keep (by omega) B7
          replace E := S13.step E (by first | exact Or.inl (by omega) | exact Or.inr rfl | exact Or.inr (by assumption) | exact Or.inr (by simp) | exact Or.inr (by omega) | exact Or.inr (by dsimp only; omega))
          replace Bo := S13.blk
          refine WpL_nil ?_
          refine Wp_ret ?_
          refine inB_ret ?_
          refine thn_ret ?_
          refine fin_agg Try.results10 (vs := [(.int .i64 ((listT t.kind (normTs t.args)).kind)), (.slice sa9 ((listT t.kind (normTs t.args)).set.length) sc9), (.slice aa9 ((listT t.kind (normTs t.args)).args.length) ac9), (.int .i64 ((listT t.kind (normTs t.args)).mn)), (.int .i64 ((listT t.kind (normTs t.args)).mx)), (.bool ((listT t.kind (normTs t.args)).neg))]) (b := bo) rfl agg25 siz25 rfl (Bo.cells rfl) ?_
          refine ⟨⟨_, rfl, ?_⟩, E⟩
          rw [normT_eq, normN_list _ (by omega)]
          refine ReIn.mono ?_ _ (ReIn.chg hC9 ?_ _ hre90)
          · rintro y (⟨h | h | h, _⟩ | h)
            · exact .inl h
            · exact .inr (.inl h)
            · exact .inr (.inr (by omega))
            · exact .inr (.inr (by omega))
          · rintro y (⟨h | h | h, _⟩ | h) he
            · have he' : y = bo := he
              have := hb y (.inl h); omega
            · have he' : y = bo := he
              have := hb y (.inr h); omega
            · have he' : y = bo := he
              omega
            · have he' : y = bo := he
              omega
        · have kh4 := h4
          replace h4 := of_decide_eq_false h4
          refine Wp_region ?_
          refine WpL_val rfl rfl (by decide) (r_eql (k := .i64) (a := t.kind) (b := 7) rfl rfl) ?_
          refine WpL_val rfl rfl (by decide) (r_assign (v := (.bool (decide ((t.kind : Int) = 7)))) rfl) ?_
          refine WpL_nil ?_
          refine thn_normal ?_
          refine Wp_cond (b := decide ((t.kind : Int) = 7)) rfl (fun h7 => ?_) (fun h7 => ?_)
          · have kh7 := h7
            replace h7 := of_decide_eq_true h7
            refine Wp_seq_region ?_
            refine WpL_val rfl rfl (by decide) (r_fieldAddr (b := br) (o := 0) (o' := 0) rfl Try.underlying25 rfl siz3 rfl) ?_
            refine WpL_val rfl rfl (by decide) (r_load (v := (.int .i64 t.kind)) rfl flat3 (Br.cell rfl)) ?_
            refine WpL_val rfl rfl (by decide) (r_fieldAddr (b := br) (o := 0) (o' := 2) rfl Try.underlying25 rfl siz23 rfl) ?_
            refine WpL_val rfl rfl (by decide) (r_load (v := (.slice aa t.args.length ac)) rfl flat23 (Br.cell rfl)) ?_
            have hrs2 := (nst_end (NSt.ext hst E5) hac)
            rw [← normTs_map] at hrs2
            have hrs3 := hrs2.lt
            have hst2 : n1 ≤ (w9).heap.size := Nat.le_trans hsz1 E5.size
            refine WpL_enter rfl rfl (by decide) (r_callF (vs := [(.int .i64 t.kind), (.slice aa t.args.length ac)]) Try.func22 nm22 bd22 rfl) (list_c _ _ t.kind _ (normTs t.args) hrs3 (fun y hy => hy.2) (fun y hy hyk he => by have := okRe_len2 (ok_normTs t.args (okRe_args hok) y hy) (by omega); rw [he] at this; simp at this) (by have := size_normTs t.args; have := t.size_eq; omega)) ?_
            rintro _ w9 ⟨vs9, rfl, hre9, X9⟩
            replace Br := X9.keep Br
            replace Bo := X9.keep Bo
            replace B6 := X9.keep B6
            replace B7 := X9.keep B7
            replace E := E.ext X9
            replace E5 := E5.ext X9
            have hre90 := hre9
            obtain ⟨sa9, sc9, aa9, ac9, rfl, _, _, _⟩ := hre9.form
            have hC9 : Chg (fun y => y = bo) (w9) (w9) := Chg.refl _ _
            refine s_storeAgg (b := bo) (o := 0) (c' := #[(.int .i64 ((listT t.kind (normTs t.args)).kind)), (.slice sa9 ((listT t.kind (normTs t.args)).set.length) sc9), (.slice aa9 ((listT t.kind (normTs t.args)).args.length) ac9), (.int .i64 ((listT t.kind (normTs t.args)).mn)), (.int .i64 ((listT t.kind (normTs t.args)).mx)), (.bool ((listT t.kind (normTs t.args)).neg))]) rfl rfl (by simp [Value.oneCell']) siz25 rfl Bo (by simp) rfl ?_
            intro w15 S15
            replace hC9 := S15.chg
            replace Br := S15.keep (by omega) Br
            replace B6 := S15.keep (by omega) B6
            replace B7 := S15.keep (by omega) B7
            replace E := S15.step E (by first | exact Or.inl (by omega) | exact Or.inr rfl | exact Or.inr (by assumption) | exact Or.inr (by simp) | exact Or.inr (by omega) | exact Or.inr (by dsimp only; omega))
            replace Bo := S15.blk
            refine WpL_nil ?_
            refine Wp_ret ?_
            refine inB_ret ?_
            refine thn_ret ?_
            refine fin_agg Try.results10 (vs := [(.int .i64 ((listT t.kind (normTs t.args)).kind)), (.slice sa9 ((listT t.kind (normTs t.args)).set.length) sc9), (.slice aa9 ((listT t.kind (normTs t.args)).args.length) ac9), (.int .i64 ((listT t.kind (normTs t.args)).mn)), (.int .i64 ((listT t.kind (normTs t.args)).mx)), (.bool ((listT t.kind (normTs t.args)).neg))]) (b := bo) rfl agg25 siz25 rfl (Bo.cells rfl) ?_
            refine ⟨⟨_, rfl, ?_⟩, E⟩
            rw [normT_eq, normN_list _ (by omega)]
            refine ReIn.mono ?_ _ (ReIn.chg hC9 ?_ _ hre90)
            · rintro y (⟨h | h | h, _⟩ | h)
              · exact .inl h
              · exact .inr (.inl h)
              · exact .inr (.inr (by omega))
              · exact .inr (.inr (by omega))
            · rintro y (⟨h | h | h, _⟩ | h) he
              · have he' : y = bo := he
                have := hb y (.inl h); omega
              · have he' : y = bo := he
                have := hb y (.inr h); omega
              · have he' : y = bo := he
                omega
              · have he' : y = bo := he
                omega
          · have kh7 := h7
            replace h7 := of_decide_eq_false h7
            refine Wp_seq ?_
            refine Wp_seq_region ?_
            refine WpL_val rfl rfl (by decide) (r_eql (k := .i64) (a := t.kind) (b := 5) rfl rfl) ?_
            refine WpL_val rfl rfl (by decide) (r_assign (v := (.bool (decide ((t.kind : Int) = 5)))) rfl) ?_
            refine WpL_nil ?_
            refine Wp_cond (b := decide ((t.kind : Int) = 5)) rfl (fun h5 => ?_) (fun h5 => ?_)
            · have kh5 := h5
              replace h5 := of_decide_eq_true h5
              have hl1 : t.args.length = 1 := okRe_one hok (by omega)
              obtain ⟨y, hy⟩ : ∃ y, normTs t.args = [y] := by have := normTs_len t.args; rw [hl1] at this; exact List.length_eq_one_iff.1 this
              have hoky : okRe y := ok_normTs t.args (okRe_args hok) y (by rw [hy]; simp)
              have hrs2 := nst_end (NSt.ext hst E5) hac
              rw [← normTs_map, hy] at hrs2
              obtain ⟨yb, yo, hyaa, hyc⟩ := hrs2.cells (by omega)
              subst hyaa
              obtain ⟨ys, hcy, hry⟩ := hyc 0 y rfl
              have hry0 := hry
              obtain ⟨ysa, ysc, yaa, yac, rfl, _, _, hya⟩ := hry.form
              refine Wp_skip ?_
              refine thn_normal ?_
              refine Wp_cond_true (congrArg Value.bool kh5) ?_
              refine Wp_seq_region ?_
              refine WpL_val rfl rfl (by decide) (r_fieldAddr (b := br) (o := 0) (o' := 2) rfl Try.underlying25 rfl siz23 rfl) ?_
              refine WpL_val rfl rfl (by decide) (r_load (v := (.slice (some ⟨yb, yo, none⟩) t.args.length ac)) rfl flat23 (Br.cell rfl)) ?_
              refine WpL_val rfl rfl (by decide) (r_indexSlice (b := yb) (o := yo) (len := t.args.length) (cap := ac) (i := 0) (o' := yo + 0 * 6) rfl rfl rfl Try.underlying23 siz25 (by omega) (by omega)) ?_
              refine WpL_val rfl rfl (by decide) (r_loadAgg (vs := [(.int .i64 y.kind), (.slice ysa y.set.length ysc), (.slice yaa y.args.length yac), (.int .i64 y.mn), (.int .i64 y.mx), (.bool y.neg)]) rfl agg25 siz25 rfl (hcy)) ?_
              refine s_allocStore (v := (.agg #[(.int .i64 y.kind), (.slice ysa y.set.length ysc), (.slice yaa y.args.length yac), (.int .i64 y.mn), (.int .i64 y.mx), (.bool y.neg)])) (c := #[(.int .i64 y.kind), (.slice ysa y.set.length ysc), (.slice yaa y.args.length yac), (.int .i64 y.mn), (.int .i64 y.mx), (.bool y.neg)]) (n := 6) (by decide) zer25 rfl siz25 rfl rfl rfl (by simp [Value.oneCell']) ?_
              intro bq wq Nq
              have Fq := Nq.ge E
              have Fq_E5 := Nq.ge E5
              have Oq_br := Nq.lt Br
              have Oq_bo := Nq.lt Bo
              have Oq_b6 := Nq.lt B6
              have Oq_b7 := Nq.lt B7
              replace Br := Nq.keep Br
              replace Bo := Nq.keep Bo
              replace B6 := Nq.keep B6
              replace B7 := Nq.keep B7
              replace hry0 := ReIn.ext Nq.ext y hry0
              replace E := E.ext Nq.ext
              have Bq := Nq.blk
              replace E5 := E5.ext Nq.ext
              refine WpL_nil ?_
              refine Wp_seq_region ?_
              refine WpL_val rfl rfl (by decide) (r_fieldAddr (b := br) (o := 0) (o' := 0) rfl Try.underlying25 rfl siz3 rfl) ?_
              refine WpL_val rfl rfl (by decide) (r_load (v := (.int .i64 t.kind)) rfl flat3 (Br.cell rfl)) ?_
              refine WpL_val rfl rfl (by decide) (r_eql (k := .i64) (a := t.kind) (b := 6) rfl rfl) ?_
              refine WpL_val rfl rfl (by decide) (r_assign (v := (.bool (decide ((t.kind : Int) = 6)))) rfl) ?_
              refine WpL_nil ?_
              refine Wp_block ?_
              refine Wp_seq_region ?_
              refine WpL_val rfl rfl (by decide) (r_fieldAddr (b := bq) (o := 0) (o' := 0) rfl Try.underlying25 rfl siz3 rfl) ?_
              refine WpL_val rfl rfl (by decide) (r_load (v := (.int .i64 y.kind)) rfl flat3 (Bq.cell rfl)) ?_
              obtain ⟨e17, he17⟩ : ∃ e, (decide ((y.kind : Int) = 1)) = e := ⟨_, rfl⟩
              refine WpL_val rfl rfl (by decide) ((r_eql (k := .i64) (a := y.kind) (b := 1) rfl rfl).trans (by rw [he17]; try rfl)) ?_
              refine WpL_val rfl rfl (by decide) (r_move (v := (.bool e17)) rfl) ?_
              obtain ⟨e18, he18⟩ : ∃ e, (decide ((t.kind : Int) = 6)) = e := ⟨_, rfl⟩
              refine WpL_guard_any (oj := _) (gv := (.bool e17)) (u := (bif e17 then undef else (.bool e18))) rfl rfl (by decide) (by decide) rfl (by cases e17 <;> first | exact Or.inr ⟨Or.inl rfl, rfl⟩ | exact Or.inr ⟨Or.inr rfl, rfl⟩ | exact Or.inl ⟨rfl, r_move (v := .bool e18) (congrArg Value.bool he18)⟩) ?_
              refine WpL_guard_any (oj := _) (gv := (.bool e17)) (u := (bif e17 then undef else (.bool e18))) rfl rfl (by decide) (by decide) rfl (by cases e17 <;> first | exact Or.inr ⟨Or.inl rfl, rfl⟩ | exact Or.inr ⟨Or.inr rfl, rfl⟩ | exact Or.inl ⟨rfl, r_move (v := (.bool e18)) rfl⟩) ?_
              refine WpL_guard_any (oj := _) (gv := (bif e17 then undef else (.bool e18))) (u := (bif e17 then undef else (bif e18 then (.pointer (some ⟨br, 4, none⟩)) else undef))) rfl rfl (by decide) (by decide) rfl (by cases e17 <;> cases e18 <;> first | exact Or.inr ⟨Or.inl rfl, rfl⟩ | exact Or.inr ⟨Or.inr rfl, rfl⟩ | exact Or.inl ⟨rfl, r_fieldAddr (b := br) (o := 0) (o' := 4) rfl Try.underlying25 rfl siz3 rfl⟩) ?_
              refine WpL_guard_any (oj := _) (gv := (bif e17 then undef else (.bool e18))) (u := (bif e17 then undef else (bif e18 then (.int .i64 t.mx) else undef))) rfl rfl (by decide) (by decide) rfl (by cases e17 <;> cases e18 <;> first | exact Or.inr ⟨Or.inl rfl, rfl⟩ | exact Or.inr ⟨Or.inr rfl, rfl⟩ | exact Or.inl ⟨rfl, r_load (v := (.int .i64 t.mx)) rfl flat3 (Br.cell rfl)⟩) ?_
              obtain ⟨e19, he19⟩ : ∃ e, (decide ((t.mx : Int) = 0)) = e := ⟨_, rfl⟩
              refine WpL_guard_any (oj := _) (gv := (bif e17 then undef else (.bool e18))) (u := (bif e17 then undef else (bif e18 then (.bool e19) else undef))) rfl rfl (by decide) (by decide) rfl (by cases e17 <;> cases e18 <;> first | exact Or.inr ⟨Or.inl rfl, rfl⟩ | exact Or.inr ⟨Or.inr rfl, rfl⟩ | exact Or.inl ⟨rfl, (r_eql (k := .i64) (a := t.mx) (b := 0) rfl rfl).trans (by rw [he19]; try rfl)⟩) ?_
              obtain ⟨e20, he20⟩ : ∃ e, (e18 && e19) = e := ⟨_, rfl⟩
              refine WpL_guard_any (oj := _) (gv := (.bool e17)) (u := (bif e17 then undef else (.bool e20))) rfl rfl (by decide) (by decide) rfl (by cases e17 <;> first | exact Or.inr ⟨Or.inl rfl, rfl⟩ | exact Or.inr ⟨Or.inr rfl, rfl⟩ | exact Or.inl ⟨rfl, r_pick (b := e18) (v := .bool e20) rfl (by rw [← he20]; cases e18 <;> rfl)⟩) ?_
              obtain ⟨e21, he21⟩ : ∃ e, (e17 || e20) = e := ⟨_, rfl⟩
              refine WpL_val rfl rfl (by decide) (r_pick (b := e17) (v := .bool e21) rfl (by rw [← he21]; cases e17 <;> rfl)) ?_
              refine WpL_val rfl rfl (by decide) (r_assign (v := (.bool e21)) rfl) ?_
              refine WpL_nil ?_
              subst he21
              subst he20
              subst he19
              subst he18
              subst he17
              refine Wp_cond (b := ((decide ((y.kind : Int) = 1)) || ((decide ((t.kind : Int) = 6)) && (decide ((t.mx : Int) = 0))))) rfl (fun c1 => ?_) (fun c1 => ?_)
              · have kc1 := c1
                refine Wp_seq_region ?_
                refine WpL_val rfl rfl (by decide) (r_loadAgg (vs := [(.int .i64 1), (.slice none 0 0), (.slice none 0 0), (.int .i64 0), (.int .i64 0), (.bool false)]) rfl agg25 siz25 rfl (B6.cells rfl)) ?_
                refine s_storeAgg (b := bo) (o := 0) (c' := #[(.int .i64 1), (.slice none 0 0), (.slice none 0 0), (.int .i64 0), (.int .i64 0), (.bool false)]) rfl rfl (by simp [Value.oneCell']) siz25 rfl Bo (by simp) rfl ?_
                intro w23 S23
                replace Br := S23.keep (by omega) Br
                replace B6 := S23.keep (by omega) B6
                replace B7 := S23.keep (by omega) B7
                replace Bq := S23.keep (by omega) Bq
                replace E := S23.step E (by first | exact Or.inl (by omega) | exact Or.inr rfl | exact Or.inr (by assumption) | exact Or.inr (by simp) | exact Or.inr (by omega) | exact Or.inr (by dsimp only; omega))
                replace Bo := S23.blk
                refine WpL_nil ?_
                refine Wp_ret ?_
                refine inB_ret ?_
                refine inB_ret ?_
                refine thn_ret ?_
                refine fin_agg Try.results10 (vs := [(.int .i64 1), (.slice none 0 0), (.slice none 0 0), (.int .i64 0), (.int .i64 0), (.bool false)]) (b := bo) rfl agg25 siz25 rfl (Bo.cells rfl) ?_
                refine ⟨⟨_, rfl, ?_⟩, E⟩
                have hN : normT t = emptyT := by rw [normT_eq, hy, normN_56 (by omega), if_pos (by simp at c1; omega)]
                rw [hN]
                exact re_empty _ _ _
              · have kc1 := c1
                refine Wp_seq_region ?_
                refine WpL_val rfl rfl (by decide) (r_fieldAddr (b := bq) (o := 0) (o' := 0) rfl Try.underlying25 rfl siz3 rfl) ?_
                refine WpL_val rfl rfl (by decide) (r_load (v := (.int .i64 y.kind)) rfl flat3 (Bq.cell rfl)) ?_
                obtain ⟨e24, he24⟩ : ∃ e, (decide ((y.kind : Int) = 0)) = e := ⟨_, rfl⟩
                refine WpL_val rfl rfl (by decide) ((r_eql (k := .i64) (a := y.kind) (b := 0) rfl rfl).trans (by rw [he24]; try rfl)) ?_
                refine WpL_val rfl rfl (by decide) (r_move (v := (.bool e24)) rfl) ?_
                obtain ⟨e25, he25⟩ : ∃ e, (decide ((t.kind : Int) = 6)) = e := ⟨_, rfl⟩
                refine WpL_guard_any (oj := _) (gv := (.bool e24)) (u := (bif e24 then (.bool e25) else undef)) rfl rfl (by decide) (by decide) rfl (by cases e24 <;> first | exact Or.inr ⟨Or.inl rfl, rfl⟩ | exact Or.inr ⟨Or.inr rfl, rfl⟩ | exact Or.inl ⟨rfl, r_move (v := .bool e25) (congrArg Value.bool he25)⟩) ?_
                obtain ⟨e26, he26⟩ : ∃ e, (!e25) = e := ⟨_, rfl⟩
                refine WpL_guard_any (oj := _) (gv := (.bool e24)) (u := (bif e24 then (.bool e26) else undef)) rfl rfl (by decide) (by decide) rfl (by cases e24 <;> first | exact Or.inr ⟨Or.inl rfl, rfl⟩ | exact Or.inr ⟨Or.inr rfl, rfl⟩ | exact Or.inl ⟨rfl, (r_not (b := e25) rfl).trans (by rw [he26]; try rfl)⟩) ?_
                refine WpL_guard_any (oj := _) (gv := (.bool e24)) (u := (bif e24 then (.bool e26) else undef)) rfl rfl (by decide) (by decide) rfl (by cases e24 <;> first | exact Or.inr ⟨Or.inl rfl, rfl⟩ | exact Or.inr ⟨Or.inr rfl, rfl⟩ | exact Or.inl ⟨rfl, r_move (v := (.bool e26)) rfl⟩) ?_
                refine WpL_guard_any (oj := _) (gv := (bif e24 then (.bool e26) else undef)) (u := (bif e24 then (bif e26 then undef else (.pointer (some ⟨br, 3, none⟩))) else undef)) rfl rfl (by decide) (by decide) rfl (by cases e24 <;> cases e26 <;> first | exact Or.inr ⟨Or.inl rfl, rfl⟩ | exact Or.inr ⟨Or.inr rfl, rfl⟩ | exact Or.inl ⟨rfl, r_fieldAddr (b := br) (o := 0) (o' := 3) rfl Try.underlying25 rfl siz3 rfl⟩) ?_
                refine WpL_guard_any (oj := _) (gv := (bif e24 then (.bool e26) else undef)) (u := (bif e24 then (bif e26 then undef else (.int .i64 t.mn)) else undef)) rfl rfl (by decide) (by decide) rfl (by cases e24 <;> cases e26 <;> first | exact Or.inr ⟨Or.inl rfl, rfl⟩ | exact Or.inr ⟨Or.inr rfl, rfl⟩ | exact Or.inl ⟨rfl, r_load (v := (.int .i64 t.mn)) rfl flat3 (Br.cell rfl)⟩) ?_
                obtain ⟨e27, he27⟩ : ∃ e, (decide ((t.mn : Int) = 0)) = e := ⟨_, rfl⟩
                refine WpL_guard_any (oj := _) (gv := (bif e24 then (.bool e26) else undef)) (u := (bif e24 then (bif e26 then undef else (.bool e27)) else undef)) rfl rfl (by decide) (by decide) rfl (by cases e24 <;> cases e26 <;> first | exact Or.inr ⟨Or.inl rfl, rfl⟩ | exact Or.inr ⟨Or.inr rfl, rfl⟩ | exact Or.inl ⟨rfl, (r_eql (k := .i64) (a := t.mn) (b := 0) rfl rfl).trans (by rw [he27]; try rfl)⟩) ?_
                obtain ⟨e28, he28⟩ : ∃ e, (e26 || e27) = e := ⟨_, rfl⟩
                refine WpL_guard_any (oj := _) (gv := (.bool e24)) (u := (bif e24 then (.bool e28) else undef)) rfl rfl (by decide) (by decide) rfl (by cases e24 <;> first | exact Or.inr ⟨Or.inl rfl, rfl⟩ | exact Or.inr ⟨Or.inr rfl, rfl⟩ | exact Or.inl ⟨rfl, r_pick (b := e26) (v := .bool e28) rfl (by rw [← he28]; cases e26 <;> rfl)⟩) ?_
                obtain ⟨e29, he29⟩ : ∃ e, (e24 && e28) = e := ⟨_, rfl⟩
                refine WpL_val rfl rfl (by decide) (r_pick (b := e24) (v := .bool e29) rfl (by rw [← he29]; cases e24 <;> rfl)) ?_
                refine WpL_val rfl rfl (by decide) (r_assign (v := (.bool e29)) rfl) ?_
                refine WpL_nil ?_
                subst he29
                subst he28
                subst he27
                subst he26
                subst he25
                subst he24
                refine Wp_cond (b := ((decide ((y.kind : Int) = 0)) && ((!(decide ((t.kind : Int) = 6))) || (decide ((t.mn : Int) = 0))))) rfl (fun c2 => ?_) (fun c2 => ?_)
                · have kc2 := c2
                  refine Wp_seq_region ?_
                  refine WpL_val rfl rfl (by decide) (r_loadAgg (vs := [(.int .i64 1), (.slice none 0 0), (.slice none 0 0), (.int .i64 0), (.int .i64 0), (.bool false)]) rfl agg25 siz25 rfl (B6.cells rfl)) ?_
                  refine s_storeAgg (b := bo) (o := 0) (c' := #[(.int .i64 1), (.slice none 0 0), (.slice none 0 0), (.int .i64 0), (.int .i64 0), (.bool false)]) rfl rfl (by simp [Value.oneCell']) siz25 rfl Bo (by simp) rfl ?_
                  intro w31 S31
                  replace Br := S31.keep (by omega) Br
                  replace B6 := S31.keep (by omega) B6
                  replace B7 := S31.keep (by omega) B7
                  replace Bq := S31.keep (by omega) Bq
                  replace E := S31.step E (by first | exact Or.inl (by omega) | exact Or.inr rfl | exact Or.inr (by assumption) | exact Or.inr (by simp) | exact Or.inr (by omega) | exact Or.inr (by dsimp only; omega))
                  replace Bo := S31.blk
                  refine WpL_nil ?_
                  refine Wp_ret ?_
                  refine inB_ret ?_
                  refine inB_ret ?_
                  refine thn_ret ?_
                  refine fin_agg Try.results10 (vs := [(.int .i64 1), (.slice none 0 0), (.slice none 0 0), (.int .i64 0), (.int .i64 0), (.bool false)]) (b := bo) rfl agg25 siz25 rfl (Bo.cells rfl) ?_
                  refine ⟨⟨_, rfl, ?_⟩, E⟩
                  have hN : normT t = emptyT := by rw [normT_eq, hy, normN_56 (by omega), if_neg (by simp at c1; omega), if_pos (by simp at c2; omega)]
                  rw [hN]
                  exact re_empty _ _ _
                · have kc2 := c2
                  refine Wp_seq_region ?_
                  refine WpL_val rfl rfl (by decide) (r_fieldAddr (b := bq) (o := 0) (o' := 0) rfl Try.underlying25 rfl siz3 rfl) ?_
                  refine WpL_val rfl rfl (by decide) (r_load (v := (.int .i64 y.kind)) rfl flat3 (Bq.cell rfl)) ?_
                  refine WpL_val rfl rfl (by decide) (r_eql (k := .i64) (a := y.kind) (b := 0) rfl rfl) ?_
                  refine WpL_val rfl rfl (by decide) (r_assign (v := (.bool (decide ((y.kind : Int) = 0)))) rfl) ?_
                  refine WpL_nil ?_
                  refine Wp_cond (b := decide ((y.kind : Int) = 0)) rfl (fun c3 => ?_) (fun c3 => ?_)
                  · have kc3 := c3
                    replace c3 := of_decide_eq_true c3
                    refine Wp_seq_region ?_
                    refine WpL_val rfl rfl (by decide) (r_loadAgg (vs := [(.int .i64 0), (.slice none 0 0), (.slice none 0 0), (.int .i64 0), (.int .i64 0), (.bool false)]) rfl agg25 siz25 rfl (B7.cells rfl)) ?_
                    refine s_storeAgg (b := bo) (o := 0) (c' := #[(.int .i64 0), (.slice none 0 0), (.slice none 0 0), (.int .i64 0), (.int .i64 0), (.bool false)]) rfl rfl (by simp [Value.oneCell']) siz25 rfl Bo (by simp) rfl ?_
                    intro w33 S33
                    replace Br := S33.keep (by omega) Br
                    replace B6 := S33.keep (by omega) B6
                    replace B7 := S33.keep (by omega) B7
                    replace Bq := S33.keep (by omega) Bq
                    replace E := S33.step E (by first | exact Or.inl (by omega) | exact Or.inr rfl | exact Or.inr (by assumption) | exact Or.inr (by simp) | exact Or.inr (by omega) | exact Or.inr (by dsimp only; omega))
                    replace Bo := S33.blk
                    refine WpL_nil ?_
                    refine Wp_ret ?_
                    refine inB_ret ?_
                    refine inB_ret ?_
                    refine thn_ret ?_
                    refine fin_agg Try.results10 (vs := [(.int .i64 0), (.slice none 0 0), (.slice none 0 0), (.int .i64 0), (.int .i64 0), (.bool false)]) (b := bo) rfl agg25 siz25 rfl (Bo.cells rfl) ?_
                    refine ⟨⟨_, rfl, ?_⟩, E⟩
                    have hN : normT t = noneT := by rw [normT_eq, hy, normN_56 (by omega), if_neg (by simp at c1; omega), if_neg (by simp at c2; omega), if_pos c3]
                    rw [hN]
                    exact re_empty _ _ _
                  · have kc3 := c3
                    replace c3 := of_decide_eq_false c3
                    refine Wp_seq ?_
                    refine Wp_seq_region ?_
                    refine WpL_val rfl rfl (by decide) (r_fieldAddr (b := bq) (o := 0) (o' := 0) rfl Try.underlying25 rfl siz3 rfl) ?_
                    refine WpL_val rfl rfl (by decide) (r_load (v := (.int .i64 y.kind)) rfl flat3 (Bq.cell rfl)) ?_
                    refine WpL_val rfl rfl (by decide) (r_eql (k := .i64) (a := y.kind) (b := 5) rfl rfl) ?_
                    refine WpL_val rfl rfl (by decide) (r_assign (v := (.bool (decide ((y.kind : Int) = 5)))) rfl) ?_
                    refine WpL_nil ?_
                    refine Wp_cond (b := decide ((y.kind : Int) = 5)) rfl (fun c4 => ?_) (fun c4 => ?_)
                    · have kc4 := c4
                      replace c4 := of_decide_eq_true c4
                      have hC9 : Chg (fun y => y = bo) (wq) (wq) := Chg.refl _ _
                      refine Wp_skip ?_
                      refine thn_normal ?_
                      refine Wp_cond_true (congrArg Value.bool kc4) ?_
                      refine Wp_seq_region ?_
                      refine WpL_val rfl rfl (by decide) (r_loadAgg (vs := [(.int .i64 y.kind), (.slice ysa y.set.length ysc), (.slice yaa y.args.length yac), (.int .i64 y.mn), (.int .i64 y.mx), (.bool y.neg)]) rfl agg25 siz25 rfl (Bq.cells rfl)) ?_
                      refine s_storeAgg (b := bo) (o := 0) (c' := #[(.int .i64 y.kind), (.slice ysa y.set.length ysc), (.slice yaa y.args.length yac), (.int .i64 y.mn), (.int .i64 y.mx), (.bool y.neg)]) rfl rfl (by simp [Value.oneCell']) siz25 rfl Bo (by simp) rfl ?_
                      intro w35 S35
                      replace hC9 := S35.chg
                      replace Br := S35.keep (by omega) Br
                      replace B6 := S35.keep (by omega) B6
                      replace B7 := S35.keep (by omega) B7
                      replace Bq := S35.keep (by omega) Bq
                      replace E := S35.step E (by first | exact Or.inl (by omega) | exact Or.inr rfl | exact Or.inr (by assumption) | exact Or.inr (by simp) | exact Or.inr (by omega) | exact Or.inr (by dsimp only; omega))
                      replace Bo := S35.blk
                      refine WpL_nil ?_
                      refine Wp_ret ?_
                      refine inB_ret ?_
                      refine inB_ret ?_
                      refine thn_ret ?_
                      refine fin_agg Try.results10 (vs := [(.int .i64 y.kind), (.slice ysa y.set.length ysc), (.slice yaa y.args.length yac), (.int .i64 y.mn), (.int .i64 y.mx), (.bool y.neg)]) (b := bo) rfl agg25 siz25 rfl (Bo.cells rfl) ?_
                      refine ⟨⟨_, rfl, ?_⟩, E⟩
                      have hN : normT t = y := by rw [normT_eq, hy, normN_56 (by omega), if_neg (by simp at c1; omega), if_neg (by simp at c2; omega), if_neg c3, if_pos (.inl c4)]
                      rw [hN]
                      exact ReIn.mono hmo _ (ReIn.chg hC9 hne _ hry0)
                    · have kc4 := c4
                      replace c4 := of_decide_eq_false c4
                      refine Wp_region ?_
                      obtain ⟨e36, he36⟩ : ∃ e, (decide ((t.kind : Int) = 6)) = e := ⟨_, rfl⟩
                      refine WpL_val rfl rfl (by decide) (r_move (v := .bool e36) (congrArg Value.bool he36)) ?_
                      refine WpL_val rfl rfl (by decide) (r_move (v := (.bool e36)) rfl) ?_
                      refine WpL_guard_any (oj := _) (gv := (.bool e36)) (u := (bif e36 then (.pointer (some ⟨br, 3, none⟩)) else undef)) rfl rfl (by decide) (by decide) rfl (by cases e36 <;> first | exact Or.inr ⟨Or.inl rfl, rfl⟩ | exact Or.inr ⟨Or.inr rfl, rfl⟩ | exact Or.inl ⟨rfl, r_fieldAddr (b := br) (o := 0) (o' := 3) rfl Try.underlying25 rfl siz3 rfl⟩) ?_
                      refine WpL_guard_any (oj := _) (gv := (.bool e36)) (u := (bif e36 then (.int .i64 t.mn) else undef)) rfl rfl (by decide) (by decide) rfl (by cases e36 <;> first | exact Or.inr ⟨Or.inl rfl, rfl⟩ | exact Or.inr ⟨Or.inr rfl, rfl⟩ | exact Or.inl ⟨rfl, r_load (v := (.int .i64 t.mn)) rfl flat3 (Br.cell rfl)⟩) ?_
                      obtain ⟨e37, he37⟩ : ∃ e, (decide ((t.mn : Int) = 1)) = e := ⟨_, rfl⟩
                      refine WpL_guard_any (oj := _) (gv := (.bool e36)) (u := (bif e36 then (.bool e37) else undef)) rfl rfl (by decide) (by decide) rfl (by cases e36 <;> first | exact Or.inr ⟨Or.inl rfl, rfl⟩ | exact Or.inr ⟨Or.inr rfl, rfl⟩ | exact Or.inl ⟨rfl, (r_eql (k := .i64) (a := t.mn) (b := 1) rfl rfl).trans (by rw [he37]; try rfl)⟩) ?_
                      obtain ⟨e38, he38⟩ : ∃ e, (e36 && e37) = e := ⟨_, rfl⟩
                      refine WpL_val rfl rfl (by decide) (r_pick (b := e36) (v := .bool e38) rfl (by rw [← he38]; cases e36 <;> rfl)) ?_
                      refine WpL_val rfl rfl (by decide) (r_move (v := (.bool e38)) rfl) ?_
                      refine WpL_guard_any (oj := _) (gv := (.bool e38)) (u := (bif e38 then (.pointer (some ⟨br, 4, none⟩)) else undef)) rfl rfl (by decide) (by decide) rfl (by cases e38 <;> first | exact Or.inr ⟨Or.inl rfl, rfl⟩ | exact Or.inr ⟨Or.inr rfl, rfl⟩ | exact Or.inl ⟨rfl, r_fieldAddr (b := br) (o := 0) (o' := 4) rfl Try.underlying25 rfl siz3 rfl⟩) ?_
                      refine WpL_guard_any (oj := _) (gv := (.bool e38)) (u := (bif e38 then (.int .i64 t.mx) else undef)) rfl rfl (by decide) (by decide) rfl (by cases e38 <;> first | exact Or.inr ⟨Or.inl rfl, rfl⟩ | exact Or.inr ⟨Or.inr rfl, rfl⟩ | exact Or.inl ⟨rfl, r_load (v := (.int .i64 t.mx)) rfl flat3 (Br.cell rfl)⟩) ?_
                      obtain ⟨e39, he39⟩ : ∃ e, (decide ((t.mx : Int) = 1)) = e := ⟨_, rfl⟩
                      refine WpL_guard_any (oj := _) (gv := (.bool e38)) (u := (bif e38 then (.bool e39) else undef)) rfl rfl (by decide) (by decide) rfl (by cases e38 <;> first | exact Or.inr ⟨Or.inl rfl, rfl⟩ | exact Or.inr ⟨Or.inr rfl, rfl⟩ | exact Or.inl ⟨rfl, (r_eql (k := .i64) (a := t.mx) (b := 1) rfl rfl).trans (by rw [he39]; try rfl)⟩) ?_
                      obtain ⟨e40, he40⟩ : ∃ e, (e38 && e39) = e := ⟨_, rfl⟩
                      refine WpL_val rfl rfl (by decide) (r_pick (b := e38) (v := .bool e40) rfl (by rw [← he40]; cases e38 <;> rfl)) ?_
                      refine WpL_val rfl rfl (by decide) (r_assign (v := (.bool e40)) rfl) ?_
                      refine WpL_nil ?_
                      subst he40
                      subst he39
                      subst he38
                      subst he37
                      subst he36
                      refine thn_normal ?_
                      refine Wp_cond (b := (((decide ((t.kind : Int) = 6)) && (decide ((t.mn : Int) = 1))) && (decide ((t.mx : Int) = 1)))) rfl (fun c5 => ?_) (fun c5 => ?_)
                      · have kc5 := c5
                        have hC9 : Chg (fun y => y = bo) (wq) (wq) := Chg.refl _ _
                        refine Wp_seq_region ?_
                        refine WpL_val rfl rfl (by decide) (r_loadAgg (vs := [(.int .i64 y.kind), (.slice ysa y.set.length ysc), (.slice yaa y.args.length yac), (.int .i64 y.mn), (.int .i64 y.mx), (.bool y.neg)]) rfl agg25 siz25 rfl (Bq.cells rfl)) ?_
                        refine s_storeAgg (b := bo) (o := 0) (c' := #[(.int .i64 y.kind), (.slice ysa y.set.length ysc), (.slice yaa y.args.length yac), (.int .i64 y.mn), (.int .i64 y.mx), (.bool y.neg)]) rfl rfl (by simp [Value.oneCell']) siz25 rfl Bo (by simp) rfl ?_
                        intro w42 S42
                        replace hC9 := S42.chg
                        replace Br := S42.keep (by omega) Br
                        replace B6 := S42.keep (by omega) B6
                        replace B7 := S42.keep (by omega) B7
                        replace Bq := S42.keep (by omega) Bq
                        replace E := S42.step E (by first | exact Or.inl (by omega) | exact Or.inr rfl | exact Or.inr (by assumption) | exact Or.inr (by simp) | exact Or.inr (by omega) | exact Or.inr (by dsimp only; omega))
                        replace Bo := S42.blk
                        refine WpL_nil ?_
                        refine Wp_ret ?_
                        refine inB_ret ?_
                        refine inB_ret ?_
                        refine thn_ret ?_
                        refine fin_agg Try.results10 (vs := [(.int .i64 y.kind), (.slice ysa y.set.length ysc), (.slice yaa y.args.length yac), (.int .i64 y.mn), (.int .i64 y.mx), (.bool y.neg)]) (b := bo) rfl agg25 siz25 rfl (Bo.cells rfl) ?_
                        refine ⟨⟨_, rfl, ?_⟩, E⟩
                        have hN : normT t = y := by rw [normT_eq, hy, normN_56 (by omega), if_neg (by simp at c1; omega), if_neg (by simp at c2; omega), if_neg c3, if_pos (.inr (by simp at c5; omega))]
                        rw [hN]
                        exact ReIn.mono hmo _ (ReIn.chg hC9 hne _ hry0)
                      · have kc5 := c5
                        have hC9 : Chg (fun y => y = bo) (wq) (wq) := Chg.refl _ _
                        have hset9 := SlIn.chg hset E (fun y hy => hz y hy)
                        have hrs9 := nst_end (NSt.ext hst E5) hac
                        rw [← normTs_map] at hrs9
                        refine Wp_skip ?_
                        refine inB_normal ?_
                        refine inB_normal ?_
                        refine thn_normal ?_
                        refine Wp_seq_region ?_
                        refine WpL_val rfl rfl (by decide) (r_loadAgg (vs := [(.int .i64 t.kind), (.slice sa t.set.length sc), (.slice (some ⟨yb, yo, none⟩) t.args.length ac), (.int .i64 t.mn), (.int .i64 t.mx), (.bool t.neg)]) rfl agg25 siz25 rfl (Br.cells rfl)) ?_
                        refine s_storeAgg (b := bo) (o := 0) (c' := #[(.int .i64 t.kind), (.slice sa t.set.length sc), (.slice (some ⟨yb, yo, none⟩) t.args.length ac), (.int .i64 t.mn), (.int .i64 t.mx), (.bool t.neg)]) rfl rfl (by simp [Value.oneCell']) siz25 rfl Bo (by simp) rfl ?_
                        intro w43 S43
                        replace hC9 := S43.chg
                        replace Br := S43.keep (by omega) Br
                        replace B6 := S43.keep (by omega) B6
                        replace B7 := S43.keep (by omega) B7
                        replace Bq := S43.keep (by omega) Bq
                        replace E := S43.step E (by first | exact Or.inl (by omega) | exact Or.inr rfl | exact Or.inr (by assumption) | exact Or.inr (by simp) | exact Or.inr (by omega) | exact Or.inr (by dsimp only; omega))
                        replace Bo := S43.blk
                        refine WpL_nil ?_
                        refine Wp_ret ?_
                        refine fin_agg Try.results10 (vs := [(.int .i64 t.kind), (.slice sa t.set.length sc), (.slice (some ⟨yb, yo, none⟩) t.args.length ac), (.int .i64 t.mn), (.int .i64 t.mx), (.bool t.neg)]) (b := bo) rfl agg25 siz25 rfl (Bo.cells rfl) ?_
                        refine ⟨⟨_, rfl, ?_⟩, E⟩
                        have hN : normT t = .mk t.kind t.set (normTs t.args) t.mn t.mx t.neg := by rw [normT_eq, hy, normN_56 (by omega), if_neg (by simp at c1; omega), if_neg (by simp at c2; omega), if_neg c3, if_neg (by simp at c5; omega)]
                        rw [hN]
                        exact re_ret hset9 (fun y hy => .inl hy) hrs9 hC9 hne hmo
            · have kh5 := h5
              replace h5 := of_decide_eq_false h5
              refine Wp_region ?_
              refine WpL_val rfl rfl (by decide) (r_eql (k := .i64) (a := t.kind) (b := 6) rfl rfl) ?_
              refine WpL_val rfl rfl (by decide) (r_assign (v := (.bool (decide ((t.kind : Int) = 6)))) rfl) ?_
              refine WpL_nil ?_
              refine thn_normal ?_
              refine Wp_cond (b := decide ((t.kind : Int) = 6)) rfl (fun h6 => ?_) (fun h6 => ?_)
              · have kh6 := h6
                replace h6 := of_decide_eq_true h6
                have hl1 : t.args.length = 1 := okRe_one hok (by omega)
                obtain ⟨y, hy⟩ : ∃ y, normTs t.args = [y] := by have := normTs_len t.args; rw [hl1] at this; exact List.length_eq_one_iff.1 this
                have hoky : okRe y := ok_normTs t.args (okRe_args hok) y (by rw [hy]; simp)
                have hrs2 := nst_end (NSt.ext hst E5) hac
                rw [← normTs_map, hy] at hrs2
                obtain ⟨yb, yo, hyaa, hyc⟩ := hrs2.cells (by omega)
                subst hyaa
                obtain ⟨ys, hcy, hry⟩ := hyc 0 y rfl
                have hry0 := hry
                obtain ⟨ysa, ysc, yaa, yac, rfl, _, _, hya⟩ := hry.form
                refine Wp_seq_region ?_
                refine WpL_val rfl rfl (by decide) (r_fieldAddr (b := br) (o := 0) (o' := 2) rfl Try.underlying25 rfl siz23 rfl) ?_
                refine WpL_val rfl rfl (by decide) (r_load (v := (.slice (some ⟨yb, yo, none⟩) t.args.length ac)) rfl flat23 (Br.cell rfl)) ?_
                refine WpL_val rfl rfl (by decide) (r_indexSlice (b := yb) (o := yo) (len := t.args.length) (cap := ac) (i := 0) (o' := yo + 0 * 6) rfl rfl rfl Try.underlying23 siz25 (by omega) (by omega)) ?_
                refine WpL_val rfl rfl (by decide) (r_loadAgg (vs := [(.int .i64 y.kind), (.slice ysa y.set.length ysc), (.slice yaa y.args.length yac), (.int .i64 y.mn), (.int .i64 y.mx), (.bool y.neg)]) rfl agg25 siz25 rfl (hcy)) ?_
                refine s_allocStore (v := (.agg #[(.int .i64 y.kind), (.slice ysa y.set.length ysc), (.slice yaa y.args.length yac), (.int .i64 y.mn), (.int .i64 y.mx), (.bool y.neg)])) (c := #[(.int .i64 y.kind), (.slice ysa y.set.length ysc), (.slice yaa y.args.length yac), (.int .i64 y.mn), (.int .i64 y.mx), (.bool y.neg)]) (n := 6) (by decide) zer25 rfl siz25 rfl rfl rfl (by simp [Value.oneCell']) ?_
                intro bq wq Nq
                have Fq := Nq.ge E
                have Fq_E5 := Nq.ge E5
                have Oq_br := Nq.lt Br
                have Oq_bo := Nq.lt Bo
                have Oq_b6 := Nq.lt B6
                have Oq_b7 := Nq.lt B7
                replace Br := Nq.keep Br
                replace Bo := Nq.keep Bo
                replace B6 := Nq.keep B6
                replace B7 := Nq.keep B7
                replace hry0 := ReIn.ext Nq.ext y hry0
                replace E := E.ext Nq.ext
                have Bq := Nq.blk
                replace E5 := E5.ext Nq.ext
                refine WpL_nil ?_
                refine Wp_seq_region ?_
                refine WpL_val rfl rfl (by decide) (r_fieldAddr (b := br) (o := 0) (o' := 0) rfl Try.underlying25 rfl siz3 rfl) ?_
                refine WpL_val rfl rfl (by decide) (r_load (v := (.int .i64 t.kind)) rfl flat3 (Br.cell rfl)) ?_
                refine WpL_val rfl rfl (by decide) (r_eql (k := .i64) (a := t.kind) (b := 6) rfl rfl) ?_
                refine WpL_val rfl rfl (by decide) (r_assign (v := (.bool (decide ((t.kind : Int) = 6)))) rfl) ?_
                refine WpL_nil ?_
                refine Wp_block ?_
                refine Wp_seq_region ?_
                refine WpL_val rfl rfl (by decide) (r_fieldAddr (b := bq) (o := 0) (o' := 0) rfl Try.underlying25 rfl siz3 rfl) ?_
                refine WpL_val rfl rfl (by decide) (r_load (v := (.int .i64 y.kind)) rfl flat3 (Bq.cell rfl)) ?_
                obtain ⟨e45, he45⟩ : ∃ e, (decide ((y.kind : Int) = 1)) = e := ⟨_, rfl⟩
                refine WpL_val rfl rfl (by decide) ((r_eql (k := .i64) (a := y.kind) (b := 1) rfl rfl).trans (by rw [he45]; try rfl)) ?_
                refine WpL_val rfl rfl (by decide) (r_move (v := (.bool e45)) rfl) ?_
                obtain ⟨e46, he46⟩ : ∃ e, (decide ((t.kind : Int) = 6)) = e := ⟨_, rfl⟩
                refine WpL_guard_any (oj := _) (gv := (.bool e45)) (u := (bif e45 then undef else (.bool e46))) rfl rfl (by decide) (by decide) rfl (by cases e45 <;> first | exact Or.inr ⟨Or.inl rfl, rfl⟩ | exact Or.inr ⟨Or.inr rfl, rfl⟩ | exact Or.inl ⟨rfl, r_move (v := .bool e46) (congrArg Value.bool he46)⟩) ?_
                refine WpL_guard_any (oj := _) (gv := (.bool e45)) (u := (bif e45 then undef else (.bool e46))) rfl rfl (by decide) (by decide) rfl (by cases e45 <;> first | exact Or.inr ⟨Or.inl rfl, rfl⟩ | exact Or.inr ⟨Or.inr rfl, rfl⟩ | exact Or.inl ⟨rfl, r_move (v := (.bool e46)) rfl⟩) ?_
                refine WpL_guard_any (oj := _) (gv := (bif e45 then undef else (.bool e46))) (u := (bif e45 then undef else (bif e46 then (.pointer (some ⟨br, 4, none⟩)) else undef))) rfl rfl (by decide) (by decide) rfl (by cases e45 <;> cases e46 <;> first | exact Or.inr ⟨Or.inl rfl, rfl⟩ | exact Or.inr ⟨Or.inr rfl, rfl⟩ | exact Or.inl ⟨rfl, r_fieldAddr (b := br) (o := 0) (o' := 4) rfl Try.underlying25 rfl siz3 rfl⟩) ?_
                refine WpL_guard_any (oj := _) (gv := (bif e45 then undef else (.bool e46))) (u := (bif e45 then undef else (bif e46 then (.int .i64 t.mx) else undef))) rfl rfl (by decide) (by decide) rfl (by cases e45 <;> cases e46 <;> first | exact Or.inr ⟨Or.inl rfl, rfl⟩ | exact Or.inr ⟨Or.inr rfl, rfl⟩ | exact Or.inl ⟨rfl, r_load (v := (.int .i64 t.mx)) rfl flat3 (Br.cell rfl)⟩) ?_
                obtain ⟨e47, he47⟩ : ∃ e, (decide ((t.mx : Int) = 0)) = e := ⟨_, rfl⟩
                refine WpL_guard_any (oj := _) (gv := (bif e45 then undef else (.bool e46))) (u := (bif e45 then undef else (bif e46 then (.bool e47) else undef))) rfl rfl (by decide) (by decide) rfl (by cases e45 <;> cases e46 <;> first | exact Or.inr ⟨Or.inl rfl, rfl⟩ | exact Or.inr ⟨Or.inr rfl, rfl⟩ | exact Or.inl ⟨rfl, (r_eql (k := .i64) (a := t.mx) (b := 0) rfl rfl).trans (by rw [he47]; try rfl)⟩) ?_
                obtain ⟨e48, he48⟩ : ∃ e, (e46 && e47) = e := ⟨_, rfl⟩
                refine WpL_guard_any (oj := _) (gv := (.bool e45)) (u := (bif e45 then undef else (.bool e48))) rfl rfl (by decide) (by decide) rfl (by cases e45 <;> first | exact Or.inr ⟨Or.inl rfl, rfl⟩ | exact Or.inr ⟨Or.inr rfl, rfl⟩ | exact Or.inl ⟨rfl, r_pick (b := e46) (v := .bool e48) rfl (by rw [← he48]; cases e46 <;> rfl)⟩) ?_
                obtain ⟨e49, he49⟩ : ∃ e, (e45 || e48) = e := ⟨_, rfl⟩
                refine WpL_val rfl rfl (by decide) (r_pick (b := e45) (v := .bool e49) rfl (by rw [← he49]; cases e45 <;> rfl)) ?_
                refine WpL_val rfl rfl (by decide) (r_assign (v := (.bool e49)) rfl) ?_
                refine WpL_nil ?_
                subst he49
                subst he48
                subst he47
                subst he46
                subst he45
                refine Wp_cond (b := ((decide ((y.kind : Int) = 1)) || ((decide ((t.kind : Int) = 6)) && (decide ((t.mx : Int) = 0))))) rfl (fun c1 => ?_) (fun c1 => ?_)
                · have kc1 := c1
                  refine Wp_seq_region ?_
                  refine WpL_val rfl rfl (by decide) (r_loadAgg (vs := [(.int .i64 1), (.slice none 0 0), (.slice none 0 0), (.int .i64 0), (.int .i64 0), (.bool false)]) rfl agg25 siz25 rfl (B6.cells rfl)) ?_
                  refine s_storeAgg (b := bo) (o := 0) (c' := #[(.int .i64 1), (.slice none 0 0), (.slice none 0 0), (.int .i64 0), (.int .i64 0), (.bool false)]) rfl rfl (by simp [Value.oneCell']) siz25 rfl Bo (by simp) rfl ?_
                  intro w51 S51
                  replace Br := S51.keep (by omega) Br
                  replace B6 := S51.keep (by omega) B6
                  replace B7 := S51.keep (by omega) B7
                  replace Bq := S51.keep (by omega) Bq
                  replace E := S51.step E (by first | exact Or.inl (by omega) | exact Or.inr rfl | exact Or.inr (by assumption) | exact Or.inr (by simp) | exact Or.inr (by omega) | exact Or.inr (by dsimp only; omega))
                  replace Bo := S51.blk
                  refine WpL_nil ?_
                  refine Wp_ret ?_
                  refine inB_ret ?_
                  refine inB_ret ?_
                  refine thn_ret ?_
                  refine fin_agg Try.results10 (vs := [(.int .i64 1), (.slice none 0 0), (.slice none 0 0), (.int .i64 0), (.int .i64 0), (.bool false)]) (b := bo) rfl agg25 siz25 rfl (Bo.cells rfl) ?_
                  refine ⟨⟨_, rfl, ?_⟩, E⟩
                  have hN : normT t = emptyT := by rw [normT_eq, hy, normN_56 (by omega), if_pos (by simp at c1; omega)]
                  rw [hN]
                  exact re_empty _ _ _
                · have kc1 := c1
                  refine Wp_seq_region ?_
                  refine WpL_val rfl rfl (by decide) (r_fieldAddr (b := bq) (o := 0) (o' := 0) rfl Try.underlying25 rfl siz3 rfl) ?_
                  refine WpL_val rfl rfl (by decide) (r_load (v := (.int .i64 y.kind)) rfl flat3 (Bq.cell rfl)) ?_
                  obtain ⟨e52, he52⟩ : ∃ e, (decide ((y.kind : Int) = 0)) = e := ⟨_, rfl⟩
                  refine WpL_val rfl rfl (by decide) ((r_eql (k := .i64) (a := y.kind) (b := 0) rfl rfl).trans (by rw [he52]; try rfl)) ?_
                  refine WpL_val rfl rfl (by decide) (r_move (v := (.bool e52)) rfl) ?_
                  obtain ⟨e53, he53⟩ : ∃ e, (decide ((t.kind : Int) = 6)) = e := ⟨_, rfl⟩
                  refine WpL_guard_any (oj := _) (gv := (.bool e52)) (u := (bif e52 then (.bool e53) else undef)) rfl rfl (by decide) (by decide) rfl (by cases e52 <;> first | exact Or.inr ⟨Or.inl rfl, rfl⟩ | exact Or.inr ⟨Or.inr rfl, rfl⟩ | exact Or.inl ⟨rfl, r_move (v := .bool e53) (congrArg Value.bool he53)⟩) ?_
                  obtain ⟨e54, he54⟩ : ∃ e, (!e53) = e := ⟨_, rfl⟩
                  refine WpL_guard_any (oj := _) (gv := (.bool e52)) (u := (bif e52 then (.bool e54) else undef)) rfl rfl (by decide) (by decide) rfl (by cases e52 <;> first | exact Or.inr ⟨Or.inl rfl, rfl⟩ | exact Or.inr ⟨Or.inr rfl, rfl⟩ | exact Or.inl ⟨rfl, (r_not (b := e53) rfl).trans (by rw [he54]; try rfl)⟩) ?_
                  refine WpL_guard_any (oj := _) (gv := (.bool e52)) (u := (bif e52 then (.bool e54) else undef)) rfl rfl (by decide) (by decide) rfl (by cases e52 <;> first | exact Or.inr ⟨Or.inl rfl, rfl⟩ | exact Or.inr ⟨Or.inr rfl, rfl⟩ | exact Or.inl ⟨rfl, r_move (v := (.bool e54)) rfl⟩) ?_
                  refine WpL_guard_any (oj := _) (gv := (bif e52 then (.bool e54) else undef)) (u := (bif e52 then (bif e54 then undef else (.pointer (some ⟨br, 3, none⟩))) else undef)) rfl rfl (by decide) (by decide) rfl (by cases e52 <;> cases e54 <;> first | exact Or.inr ⟨Or.inl rfl, rfl⟩ | exact Or.inr ⟨Or.inr rfl, rfl⟩ | exact Or.inl ⟨rfl, r_fieldAddr (b := br) (o := 0) (o' := 3) rfl Try.underlying25 rfl siz3 rfl⟩) ?_
                  refine WpL_guard_any (oj := _) (gv := (bif e52 then (.bool e54) else undef)) (u := (bif e52 then (bif e54 then undef else (.int .i64 t.mn)) else undef)) rfl rfl (by decide) (by decide) rfl (by cases e52 <;> cases e54 <;> first | exact Or.inr ⟨Or.inl rfl, rfl⟩ | exact Or.inr ⟨Or.inr rfl, rfl⟩ | exact Or.inl ⟨rfl, r_load (v := (.int .i64 t.mn)) rfl flat3 (Br.cell rfl)⟩) ?_
                  obtain ⟨e55, he55⟩ : ∃ e, (decide ((t.mn : Int) = 0)) = e := ⟨_, rfl⟩
                  refine WpL_guard_any (oj := _) (gv := (bif e52 then (.bool e54) else undef)) (u := (bif e52 then (bif e54 then undef else (.bool e55)) else undef)) rfl rfl (by decide) (by decide) rfl (by cases e52 <;> cases e54 <;> first | exact Or.inr ⟨Or.inl rfl, rfl⟩ | exact Or.inr ⟨Or.inr rfl, rfl⟩ | exact Or.inl ⟨rfl, (r_eql (k := .i64) (a := t.mn) (b := 0) rfl rfl).trans (by rw [he55]; try rfl)⟩) ?_
                  obtain ⟨e56, he56⟩ : ∃ e, (e54 || e55) = e := ⟨_, rfl⟩
                  refine WpL_guard_any (oj := _) (gv := (.bool e52)) (u := (bif e52 then (.bool e56) else undef)) rfl rfl (by decide) (by decide) rfl (by cases e52 <;> first | exact Or.inr ⟨Or.inl rfl, rfl⟩ | exact Or.inr ⟨Or.inr rfl, rfl⟩ | exact Or.inl ⟨rfl, r_pick (b := e54) (v := .bool e56) rfl (by rw [← he56]; cases e54 <;> rfl)⟩) ?_
                  obtain ⟨e57, he57⟩ : ∃ e, (e52 && e56) = e := ⟨_, rfl⟩
                  refine WpL_val rfl rfl (by decide) (r_pick (b := e52) (v := .bool e57) rfl (by rw [← he57]; cases e52 <;> rfl)) ?_
                  refine WpL_val rfl rfl (by decide) (r_assign (v := (.bool e57)) rfl) ?_
                  refine WpL_nil ?_
                  subst he57
                  subst he56
                  subst he55
                  subst he54
                  subst he53
                  subst he52
                  refine Wp_cond (b := ((decide ((y.kind : Int) = 0)) && ((!(decide ((t.kind : Int) = 6))) || (decide ((t.mn : Int) = 0))))) rfl (fun c2 => ?_) (fun c2 => ?_)
                  · have kc2 := c2
                    refine Wp_seq_region ?_
                    refine WpL_val rfl rfl (by decide) (r_loadAgg (vs := [(.int .i64 1), (.slice none 0 0), (.slice none 0 0), (.int .i64 0), (.int .i64 0), (.bool false)]) rfl agg25 siz25 rfl (B6.cells rfl)) ?_
                    refine s_storeAgg (b := bo) (o := 0) (c' := #[(.int .i64 1), (.slice none 0 0), (.slice none 0 0), (.int .i64 0), (.int .i64 0), (.bool false)]) rfl rfl (by simp [Value.oneCell']) siz25 rfl Bo (by simp) rfl ?_
                    intro w59 S59
                    replace Br := S59.keep (by omega) Br
                    replace B6 := S59.keep (by omega) B6
                    replace B7 := S59.keep (by omega) B7
                    replace Bq := S59.keep (by omega) Bq
                    replace E := S59.step E (by first | exact Or.inl (by omega) | exact Or.inr rfl | exact Or.inr (by assumption) | exact Or.inr (by simp) | exact Or.inr (by omega) | exact Or.inr (by dsimp only; omega))
                    replace Bo := S59.blk
                    refine WpL_nil ?_
                    refine Wp_ret ?_
                    refine inB_ret ?_
                    refine inB_ret ?_
                    refine thn_ret ?_
                    refine fin_agg Try.results10 (vs := [(.int .i64 1), (.slice none 0 0), (.slice none 0 0), (.int .i64 0), (.int .i64 0), (.bool false)]) (b := bo) rfl agg25 siz25 rfl (Bo.cells rfl) ?_
                    refine ⟨⟨_, rfl, ?_⟩, E⟩
                    have hN : normT t = emptyT := by rw [normT_eq, hy, normN_56 (by omega), if_neg (by simp at c1; omega), if_pos (by simp at c2; omega)]
                    rw [hN]
                    exact re_empty _ _ _
                  · have kc2 := c2
                    refine Wp_seq_region ?_
                    refine WpL_val rfl rfl (by decide) (r_fieldAddr (b := bq) (o := 0) (o' := 0) rfl Try.underlying25 rfl siz3 rfl) ?_
                    refine WpL_val rfl rfl (by decide) (r_load (v := (.int .i64 y.kind)) rfl flat3 (Bq.cell rfl)) ?_
                    refine WpL_val rfl rfl (by decide) (r_eql (k := .i64) (a := y.kind) (b := 0) rfl rfl) ?_
                    refine WpL_val rfl rfl (by decide) (r_assign (v := (.bool (decide ((y.kind : Int) = 0)))) rfl) ?_
                    refine WpL_nil ?_
                    refine Wp_cond (b := decide ((y.kind : Int) = 0)) rfl (fun c3 => ?_) (fun c3 => ?_)
                    · have kc3 := c3
                      replace c3 := of_decide_eq_true c3
                      refine Wp_seq_region ?_
                      refine WpL_val rfl rfl (by decide) (r_loadAgg (vs := [(.int .i64 0), (.slice none 0 0), (.slice none 0 0), (.int .i64 0), (.int .i64 0), (.bool false)]) rfl agg25 siz25 rfl (B7.cells rfl)) ?_
                      refine s_storeAgg (b := bo) (o := 0) (c' := #[(.int .i64 0), (.slice none 0 0), (.slice none 0 0), (.int .i64 0), (.int .i64 0), (.bool false)]) rfl rfl (by simp [Value.oneCell']) siz25 rfl Bo (by simp) rfl ?_
                      intro w61 S61
                      replace Br := S61.keep (by omega) Br
                      replace B6 := S61.keep (by omega) B6
                      replace B7 := S61.keep (by omega) B7
                      replace Bq := S61.keep (by omega) Bq
                      replace E := S61.step E (by first | exact Or.inl (by omega) | exact Or.inr rfl | exact Or.inr (by assumption) | exact Or.inr (by simp) | exact Or.inr (by omega) | exact Or.inr (by dsimp only; omega))
                      replace Bo := S61.blk
                      refine WpL_nil ?_
                      refine Wp_ret ?_
                      refine inB_ret ?_
                      refine inB_ret ?_
                      refine thn_ret ?_
                      refine fin_agg Try.results10 (vs := [(.int .i64 0), (.slice none 0 0), (.slice none 0 0), (.int .i64 0), (.int .i64 0), (.bool false)]) (b := bo) rfl agg25 siz25 rfl (Bo.cells rfl) ?_
                      refine ⟨⟨_, rfl, ?_⟩, E⟩
                      have hN : normT t = noneT := by rw [normT_eq, hy, normN_56 (by omega), if_neg (by simp at c1; omega), if_neg (by simp at c2; omega), if_pos c3]
                      rw [hN]
                      exact re_empty _ _ _
                    · have kc3 := c3
                      replace c3 := of_decide_eq_false c3
                      refine Wp_seq ?_
                      refine Wp_seq_region ?_
                      refine WpL_val rfl rfl (by decide) (r_fieldAddr (b := bq) (o := 0) (o' := 0) rfl Try.underlying25 rfl siz3 rfl) ?_
                      refine WpL_val rfl rfl (by decide) (r_load (v := (.int .i64 y.kind)) rfl flat3 (Bq.cell rfl)) ?_
                      refine WpL_val rfl rfl (by decide) (r_eql (k := .i64) (a := y.kind) (b := 5) rfl rfl) ?_
                      refine WpL_val rfl rfl (by decide) (r_assign (v := (.bool (decide ((y.kind : Int) = 5)))) rfl) ?_
                      refine WpL_nil ?_
                      refine Wp_cond (b := decide ((y.kind : Int) = 5)) rfl (fun c4 => ?_) (fun c4 => ?_)
                      · have kc4 := c4
                        replace c4 := of_decide_eq_true c4
                        have hC9 : Chg (fun y => y = bo) (wq) (wq) := Chg.refl _ _
                        refine Wp_skip ?_
                        refine thn_normal ?_
                        refine Wp_cond_true (congrArg Value.bool kc4) ?_
                        refine Wp_seq_region ?_
                        refine WpL_val rfl rfl (by decide) (r_loadAgg (vs := [(.int .i64 y.kind), (.slice ysa y.set.length ysc), (.slice yaa y.args.length yac), (.int .i64 y.mn), (.int .i64 y.mx), (.bool y.neg)]) rfl agg25 siz25 rfl (Bq.cells rfl)) ?_
                        refine s_storeAgg (b := bo) (o := 0) (c' := #[(.int .i64 y.kind), (.slice ysa y.set.length ysc), (.slice yaa y.args.length yac), (.int .i64 y.mn), (.int .i64 y.mx), (.bool y.neg)]) rfl rfl (by simp [Value.oneCell']) siz25 rfl Bo (by simp) rfl ?_
                        intro w63 S63
                        replace hC9 := S63.chg
                        replace Br := S63.keep (by omega) Br
                        replace B6 := S63.keep (by omega) B6
                        replace B7 := S63.keep (by omega) B7
                        replace Bq := S63.keep (by omega) Bq
                        replace E := S63.step E (by first | exact Or.inl (by omega) | exact Or.inr rfl | exact Or.inr (by assumption) | exact Or.inr (by simp) | exact Or.inr (by omega) | exact Or.inr (by dsimp only; omega))
                        replace Bo := S63.blk
                        refine WpL_nil ?_
                        refine Wp_ret ?_
                        refine inB_ret ?_
                        refine inB_ret ?_
                        refine thn_ret ?_
                        refine fin_agg Try.results10 (vs := [(.int .i64 y.kind), (.slice ysa y.set.length ysc), (.slice yaa y.args.length yac), (.int .i64 y.mn), (.int .i64 y.mx), (.bool y.neg)]) (b := bo) rfl agg25 siz25 rfl (Bo.cells rfl) ?_
                        refine ⟨⟨_, rfl, ?_⟩, E⟩
                        have hN : normT t = y := by rw [normT_eq, hy, normN_56 (by omega), if_neg (by simp at c1; omega), if_neg (by simp at c2; omega), if_neg c3, if_pos (.inl c4)]
                        rw [hN]
                        exact ReIn.mono hmo _ (ReIn.chg hC9 hne _ hry0)
                      · have kc4 := c4
                        replace c4 := of_decide_eq_false c4
                        refine Wp_region ?_
                        obtain ⟨e64, he64⟩ : ∃ e, (decide ((t.kind : Int) = 6)) = e := ⟨_, rfl⟩
                        refine WpL_val rfl rfl (by decide) (r_move (v := .bool e64) (congrArg Value.bool he64)) ?_
                        refine WpL_val rfl rfl (by decide) (r_move (v := (.bool e64)) rfl) ?_
                        refine WpL_guard_any (oj := _) (gv := (.bool e64)) (u := (bif e64 then (.pointer (some ⟨br, 3, none⟩)) else undef)) rfl rfl (by decide) (by decide) rfl (by cases e64 <;> first | exact Or.inr ⟨Or.inl rfl, rfl⟩ | exact Or.inr ⟨Or.inr rfl, rfl⟩ | exact Or.inl ⟨rfl, r_fieldAddr (b := br) (o := 0) (o' := 3) rfl Try.underlying25 rfl siz3 rfl⟩) ?_
                        refine WpL_guard_any (oj := _) (gv := (.bool e64)) (u := (bif e64 then (.int .i64 t.mn) else undef)) rfl rfl (by decide) (by decide) rfl (by cases e64 <;> first | exact Or.inr ⟨Or.inl rfl, rfl⟩ | exact Or.inr ⟨Or.inr rfl, rfl⟩ | exact Or.inl ⟨rfl, r_load (v := (.int .i64 t.mn)) rfl flat3 (Br.cell rfl)⟩) ?_
                        obtain ⟨e65, he65⟩ : ∃ e, (decide ((t.mn : Int) = 1)) = e := ⟨_, rfl⟩
                        refine WpL_guard_any (oj := _) (gv := (.bool e64)) (u := (bif e64 then (.bool e65) else undef)) rfl rfl (by decide) (by decide) rfl (by cases e64 <;> first | exact Or.inr ⟨Or.inl rfl, rfl⟩ | exact Or.inr ⟨Or.inr rfl, rfl⟩ | exact Or.inl ⟨rfl, (r_eql (k := .i64) (a := t.mn) (b := 1) rfl rfl).trans (by rw [he65]; try rfl)⟩) ?_
                        obtain ⟨e66, he66⟩ : ∃ e, (e64 && e65) = e := ⟨_, rfl⟩
                        refine WpL_val rfl rfl (by decide) (r_pick (b := e64) (v := .bool e66) rfl (by rw [← he66]; cases e64 <;> rfl)) ?_
                        refine WpL_val rfl rfl (by decide) (r_move (v := (.bool e66)) rfl) ?_
                        refine WpL_guard_any (oj := _) (gv := (.bool e66)) (u := (bif e66 then (.pointer (some ⟨br, 4, none⟩)) else undef)) rfl rfl (by decide) (by decide) rfl (by cases e66 <;> first | exact Or.inr ⟨Or.inl rfl, rfl⟩ | exact Or.inr ⟨Or.inr rfl, rfl⟩ | exact Or.inl ⟨rfl, r_fieldAddr (b := br) (o := 0) (o' := 4) rfl Try.underlying25 rfl siz3 rfl⟩) ?_
                        refine WpL_guard_any (oj := _) (gv := (.bool e66)) (u := (bif e66 then (.int .i64 t.mx) else undef)) rfl rfl (by decide) (by decide) rfl (by cases e66 <;> first | exact Or.inr ⟨Or.inl rfl, rfl⟩ | exact Or.inr ⟨Or.inr rfl, rfl⟩ | exact Or.inl ⟨rfl, r_load (v := (.int .i64 t.mx)) rfl flat3 (Br.cell rfl)⟩) ?_
                        obtain ⟨e67, he67⟩ : ∃ e, (decide ((t.mx : Int) = 1)) = e := ⟨_, rfl⟩
                        refine WpL_guard_any (oj := _) (gv := (.bool e66)) (u := (bif e66 then (.bool e67) else undef)) rfl rfl (by decide) (by decide) rfl (by cases e66 <;> first | exact Or.inr ⟨Or.inl rfl, rfl⟩ | exact Or.inr ⟨Or.inr rfl, rfl⟩ | exact Or.inl ⟨rfl, (r_eql (k := .i64) (a := t.mx) (b := 1) rfl rfl).trans (by rw [he67]; try rfl)⟩) ?_
                        obtain ⟨e68, he68⟩ : ∃ e, (e66 && e67) = e := ⟨_, rfl⟩
                        refine WpL_val rfl rfl (by decide) (r_pick (b := e66) (v := .bool e68) rfl (by rw [← he68]; cases e66 <;> rfl)) ?_
                        refine WpL_val rfl rfl (by decide) (r_assign (v := (.bool e68)) rfl) ?_
                        refine WpL_nil ?_
                        subst he68
                        subst he67
                        subst he66
                        subst he65
                        subst he64
                        refine thn_normal ?_
                        refine Wp_cond (b := (((decide ((t.kind : Int) = 6)) && (decide ((t.mn : Int) = 1))) && (decide ((t.mx : Int) = 1)))) rfl (fun c5 => ?_) (fun c5 => ?_)
                        · have kc5 := c5
                          have hC9 : Chg (fun y => y = bo) (wq) (wq) := Chg.refl _ _
                          refine Wp_seq_region ?_
                          refine WpL_val rfl rfl (by decide) (r_loadAgg (vs := [(.int .i64 y.kind), (.slice ysa y.set.length ysc), (.slice yaa y.args.length yac), (.int .i64 y.mn), (.int .i64 y.mx), (.bool y.neg)]) rfl agg25 siz25 rfl (Bq.cells rfl)) ?_
                          refine s_storeAgg (b := bo) (o := 0) (c' := #[(.int .i64 y.kind), (.slice ysa y.set.length ysc), (.slice yaa y.args.length yac), (.int .i64 y.mn), (.int .i64 y.mx), (.bool y.neg)]) rfl rfl (by simp [Value.oneCell']) siz25 rfl Bo (by simp) rfl ?_
                          intro w70 S70
                          replace hC9 := S70.chg
                          replace Br := S70.keep (by omega) Br
                          replace B6 := S70.keep (by omega) B6
                          replace B7 := S70.keep (by omega) B7
                          replace Bq := S70.keep (by omega) Bq
                          replace E := S70.step E (by first | exact Or.inl (by omega) | exact Or.inr rfl | exact Or.inr (by assumption) | exact Or.inr (by simp) | exact Or.inr (by omega) | exact Or.inr (by dsimp only; omega))
                          replace Bo := S70.blk
                          refine WpL_nil ?_
                          refine Wp_ret ?_
                          refine inB_ret ?_
                          refine inB_ret ?_
                          refine thn_ret ?_
                          refine fin_agg Try.results10 (vs := [(.int .i64 y.kind), (.slice ysa y.set.length ysc), (.slice yaa y.args.length yac), (.int .i64 y.mn), (.int .i64 y.mx), (.bool y.neg)]) (b := bo) rfl agg25 siz25 rfl (Bo.cells rfl) ?_
                          refine ⟨⟨_, rfl, ?_⟩, E⟩
                          have hN : normT t = y := by rw [normT_eq, hy, normN_56 (by omega), if_neg (by simp at c1; omega), if_neg (by simp at c2; omega), if_neg c3, if_pos (.inr (by simp at c5; omega))]
                          rw [hN]
                          exact ReIn.mono hmo _ (ReIn.chg hC9 hne _ hry0)
                        · have kc5 := c5
                          have hC9 : Chg (fun y => y = bo) (wq) (wq) := Chg.refl _ _
                          have hset9 := SlIn.chg hset E (fun y hy => hz y hy)
                          have hrs9 := nst_end (NSt.ext hst E5) hac
                          rw [← normTs_map] at hrs9
                          refine Wp_skip ?_
                          refine inB_normal ?_
                          refine inB_normal ?_
                          refine thn_normal ?_
                          refine Wp_seq_region ?_
                          refine WpL_val rfl rfl (by decide) (r_loadAgg (vs := [(.int .i64 t.kind), (.slice sa t.set.length sc), (.slice (some ⟨yb, yo, none⟩) t.args.length ac), (.int .i64 t.mn), (.int .i64 t.mx), (.bool t.neg)]) rfl agg25 siz25 rfl (Br.cells rfl)) ?_
                          refine s_storeAgg (b := bo) (o := 0) (c' := #[(.int .i64 t.kind), (.slice sa t.set.length sc), (.slice (some ⟨yb, yo, none⟩) t.args.length ac), (.int .i64 t.mn), (.int .i64 t.mx), (.bool t.neg)]) rfl rfl (by simp [Value.oneCell']) siz25 rfl Bo (by simp) rfl ?_
                          intro w71 S71
                          replace hC9 := S71.chg
                          replace Br := S71.keep (by omega) Br
                          replace B6 := S71.keep (by omega) B6
                          replace B7 := S71.keep (by omega) B7
                          replace Bq := S71.keep (by omega) Bq
                          replace E := S71.step E (by first | exact Or.inl (by omega) | exact Or.inr rfl | exact Or.inr (by assumption) | exact Or.inr (by simp) | exact Or.inr (by omega) | exact Or.inr (by dsimp only; omega))
                          replace Bo := S71.blk
                          refine WpL_nil ?_
                          refine Wp_ret ?_
                          refine fin_agg Try.results10 (vs := [(.int .i64 t.kind), (.slice sa t.set.length sc), (.slice (some ⟨yb, yo, none⟩) t.args.length ac), (.int .i64 t.mn), (.int .i64 t.mx), (.bool t.neg)]) (b := bo) rfl agg25 siz25 rfl (Bo.cells rfl) ?_
                          refine ⟨⟨_, rfl, ?_⟩, E⟩
                          have hN : normT t = .mk t.kind t.set (normTs t.args) t.mn t.mx t.neg := by rw [normT_eq, hy, normN_56 (by omega), if_neg (by simp at c1; omega), if_neg (by simp at c2; omega), if_neg c3, if_neg (by simp at c5; omega)]
                          rw [hN]
                          exact re_ret hset9 (fun y hy => .inl hy) hrs9 hC9 hne hmo
              · have kh6 := h6
                replace h6 := of_decide_eq_false h6
                refine Wp_seq_region ?_
                refine WpL_val rfl rfl (by decide) (r_eql (k := .i64) (a := t.kind) (b := 8) rfl rfl) ?_
                refine WpL_val rfl rfl (by decide) (r_assign (v := (.bool (decide ((t.kind : Int) = 8)))) rfl) ?_
                refine WpL_nil ?_
                refine Wp_cond (b := decide ((t.kind : Int) = 8)) rfl (fun h8 => ?_) (fun h8 => ?_)
                · have kh8 := h8
                  replace h8 := of_decide_eq_true h8
                  have hl1 : t.args.length = 1 := okRe_one hok (by omega)
                  obtain ⟨y, hy⟩ : ∃ y, normTs t.args = [y] := by have := normTs_len t.args; rw [hl1] at this; exact List.length_eq_one_iff.1 this
                  have hoky : okRe y := ok_normTs t.args (okRe_args hok) y (by rw [hy]; simp)
                  have hrs2 := nst_end (NSt.ext hst E5) hac
                  rw [← normTs_map, hy] at hrs2
                  obtain ⟨yb, yo, hyaa, hyc⟩ := hrs2.cells (by omega)
                  subst hyaa
                  obtain ⟨ys, hcy, hry⟩ := hyc 0 y rfl
                  have hry0 := hry
                  obtain ⟨ysa, ysc, yaa, yac, rfl, _, _, hya⟩ := hry.form
                  rcases Bool.eq_false_or_eq_true (decide ((y.kind : Int) = 8)) with hy8 | hy8
                  · have khy8 := hy8
                    replace khy8 := of_decide_eq_true khy8
                    have hyl : y.args.length = 1 := okRe_one hoky (by omega)
                    obtain ⟨zb, zo, _, hzaa, hzr⟩ := hya.resolve_left (fun h => by rw [h] at hyl; simp at hyl)
                    subst hzaa
                    obtain ⟨z, hzz⟩ := get_of_lt (l := y.args) (i := 0) (by omega)
                    obtain ⟨zs, hcz, hrz⟩ := ResIn.get hzr hzz
                    have hrz0 := hrz
                    obtain ⟨zsa, zsc, zaa, zac, rfl, _, _, _⟩ := hrz.form
                    refine Wp_seq_region ?_
                    refine WpL_val rfl rfl (by decide) (r_fieldAddr (b := br) (o := 0) (o' := 2) rfl Try.underlying25 rfl siz23 rfl) ?_
                    refine WpL_val rfl rfl (by decide) (r_load (v := (.slice (some ⟨yb, yo, none⟩) t.args.length ac)) rfl flat23 (Br.cell rfl)) ?_
                    refine WpL_val rfl rfl (by decide) (r_indexSlice (b := yb) (o := yo) (len := t.args.length) (cap := ac) (i := 0) (o' := yo + 0 * 6) rfl rfl rfl Try.underlying23 siz25 (by omega) (by omega)) ?_
                    refine WpL_val rfl rfl (by decide) (r_loadAgg (vs := [(.int .i64 y.kind), (.slice ysa y.set.length ysc), (.slice (some ⟨zb, zo, none⟩) y.args.length yac), (.int .i64 y.mn), (.int .i64 y.mx), (.bool y.neg)]) rfl agg25 siz25 rfl (hcy)) ?_
                    refine s_allocStore (v := (.agg #[(.int .i64 y.kind), (.slice ysa y.set.length ysc), (.slice (some ⟨zb, zo, none⟩) y.args.length yac), (.int .i64 y.mn), (.int .i64 y.mx), (.bool y.neg)])) (c := #[(.int .i64 y.kind), (.slice ysa y.set.length ysc), (.slice (some ⟨zb, zo, none⟩) y.args.length yac), (.int .i64 y.mn), (.int .i64 y.mx), (.bool y.neg)]) (n := 6) (by decide) zer25 rfl siz25 rfl rfl rfl (by simp [Value.oneCell']) ?_
                    intro bq wq Nq
                    have Fq := Nq.ge E
                    have Fq_E5 := Nq.ge E5
                    have Oq_br := Nq.lt Br
                    have Oq_bo := Nq.lt Bo
                    have Oq_b6 := Nq.lt B6
                    have Oq_b7 := Nq.lt B7
                    replace Br := Nq.keep Br
                    replace Bo := Nq.keep Bo
                    replace B6 := Nq.keep B6
                    replace B7 := Nq.keep B7
                    replace hry0 := ReIn.ext Nq.ext y hry0
                    replace hrz0 := ReIn.ext Nq.ext z hrz0
                    replace hcz := CellsAt.ext hcz Nq.ext
                    replace E := E.ext Nq.ext
                    have Bq := Nq.blk
                    replace E5 := E5.ext Nq.ext
                    refine WpL_nil ?_
                    refine Wp_seq_region ?_
                    refine WpL_val rfl rfl (by decide) (r_fieldAddr (b := bq) (o := 0) (o' := 0) rfl Try.underlying25 rfl siz3 rfl) ?_
                    refine WpL_val rfl rfl (by decide) (r_load (v := (.int .i64 y.kind)) rfl flat3 (Bq.cell rfl)) ?_
                    refine WpL_val rfl rfl (by decide) (r_eql (k := .i64) (a := y.kind) (b := 8) rfl rfl) ?_
                    refine WpL_nil ?_
                    refine Wp_cond_true (congrArg Value.bool hy8) ?_
                    refine Wp_seq_region ?_
                    refine WpL_val rfl rfl (by decide) (r_fieldAddr (b := bq) (o := 0) (o' := 2) rfl Try.underlying25 rfl siz23 rfl) ?_
                    refine WpL_val rfl rfl (by decide) (r_load (v := (.slice (some ⟨zb, zo, none⟩) y.args.length yac)) rfl flat23 (Bq.cell rfl)) ?_
                    refine WpL_val rfl rfl (by decide) (r_indexSlice (b := zb) (o := zo) (len := y.args.length) (cap := yac) (i := 0) (o' := zo + 0 * 6) rfl rfl rfl Try.underlying23 siz25 (by omega) (by omega)) ?_
                    refine WpL_val rfl rfl (by decide) (r_loadAgg (vs := [(.int .i64 z.kind), (.slice zsa z.set.length zsc), (.slice zaa z.args.length zac), (.int .i64 z.mn), (.int .i64 z.mx), (.bool z.neg)]) rfl agg25 siz25 rfl (hcz)) ?_
                    have hC9 : Chg (fun y => y = bo) (wq) (wq) := Chg.refl _ _
                    refine s_storeAgg (b := bo) (o := 0) (c' := #[(.int .i64 z.kind), (.slice zsa z.set.length zsc), (.slice zaa z.args.length zac), (.int .i64 z.mn), (.int .i64 z.mx), (.bool z.neg)]) rfl rfl (by simp [Value.oneCell']) siz25 rfl Bo (by simp) rfl ?_
                    intro w73 S73
                    replace hC9 := S73.chg
                    replace Br := S73.keep (by omega) Br
                    replace B6 := S73.keep (by omega) B6
                    replace B7 := S73.keep (by omega) B7
                    replace Bq := S73.keep (by omega) Bq
                    replace E := S73.step E (by first | exact Or.inl (by omega) | exact Or.inr rfl | exact Or.inr (by assumption) | exact Or.inr (by simp) | exact Or.inr (by omega) | exact Or.inr (by dsimp only; omega))
                    replace Bo := S73.blk
                    refine WpL_nil ?_
                    refine Wp_ret ?_
                    refine inB_ret ?_
                    refine thn_ret ?_
                    refine fin_agg Try.results10 (vs := [(.int .i64 z.kind), (.slice zsa z.set.length zsc), (.slice zaa z.args.length zac), (.int .i64 z.mn), (.int .i64 z.mx), (.bool z.neg)]) (b := bo) rfl agg25 siz25 rfl (Bo.cells rfl) ?_
                    refine ⟨⟨_, rfl, ?_⟩, E⟩
                    have hN : normT t = z := by rw [normT_eq, hy, normN_8 h8, if_pos khy8, headD_get hzz]
                    rw [hN]
                    exact ReIn.mono hmo _ (ReIn.chg hC9 hne _ hrz0)
                  · have khy8 := hy8
                    replace khy8 := of_decide_eq_false khy8
                    refine Wp_seq_region ?_
                    refine WpL_val rfl rfl (by decide) (r_fieldAddr (b := br) (o := 0) (o' := 2) rfl Try.underlying25 rfl siz23 rfl) ?_
                    refine WpL_val rfl rfl (by decide) (r_load (v := (.slice (some ⟨yb, yo, none⟩) t.args.length ac)) rfl flat23 (Br.cell rfl)) ?_
                    refine WpL_val rfl rfl (by decide) (r_indexSlice (b := yb) (o := yo) (len := t.args.length) (cap := ac) (i := 0) (o' := yo + 0 * 6) rfl rfl rfl Try.underlying23 siz25 (by omega) (by omega)) ?_
                    refine WpL_val rfl rfl (by decide) (r_loadAgg (vs := [(.int .i64 y.kind), (.slice ysa y.set.length ysc), (.slice yaa y.args.length yac), (.int .i64 y.mn), (.int .i64 y.mx), (.bool y.neg)]) rfl agg25 siz25 rfl (hcy)) ?_
                    have hC9 : Chg (fun y => y = bo) (w9) (w9) := Chg.refl _ _
                    have hset9 := SlIn.chg hset E (fun y hy => hz y hy)
                    have hrs9 := nst_end (NSt.ext hst E5) hac
                    rw [← normTs_map] at hrs9
                    refine s_allocStore (v := (.agg #[(.int .i64 y.kind), (.slice ysa y.set.length ysc), (.slice yaa y.args.length yac), (.int .i64 y.mn), (.int .i64 y.mx), (.bool y.neg)])) (c := #[(.int .i64 y.kind), (.slice ysa y.set.length ysc), (.slice yaa y.args.length yac), (.int .i64 y.mn), (.int .i64 y.mx), (.bool y.neg)]) (n := 6) (by decide) zer25 rfl siz25 rfl rfl rfl (by simp [Value.oneCell']) ?_
                    intro bq wq Nq
                    have Fq := Nq.ge E
                    have Oq_br := Nq.lt Br
                    have Oq_bo := Nq.lt Bo
                    have Oq_b6 := Nq.lt B6
                    have Oq_b7 := Nq.lt B7
                    replace Br := Nq.keep Br
                    replace Bo := Nq.keep Bo
                    replace B6 := Nq.keep B6
                    replace B7 := Nq.keep B7
                    replace hry0 := ReIn.ext Nq.ext y hry0
                    replace hset9 := SlIn.chg hset9 Nq.ext (fun _ _ f => f)
                    replace hrs9 := RsIn.ext hrs9 Nq.ext
                    replace E := E.ext Nq.ext
                    have Bq := Nq.blk
                    refine WpL_nil ?_
                    refine Wp_seq_region ?_
                    refine WpL_val rfl rfl (by decide) (r_fieldAddr (b := bq) (o := 0) (o' := 0) rfl Try.underlying25 rfl siz3 rfl) ?_
                    refine WpL_val rfl rfl (by decide) (r_load (v := (.int .i64 y.kind)) rfl flat3 (Bq.cell rfl)) ?_
                    refine WpL_val rfl rfl (by decide) (r_eql (k := .i64) (a := y.kind) (b := 8) rfl rfl) ?_
                    refine WpL_nil ?_
                    refine Wp_cond_false (congrArg Value.bool hy8) ?_
                    refine Wp_skip ?_
                    refine inB_normal ?_
                    refine thn_normal ?_
                    refine Wp_seq_region ?_
                    refine WpL_val rfl rfl (by decide) (r_loadAgg (vs := [(.int .i64 t.kind), (.slice sa t.set.length sc), (.slice (some ⟨yb, yo, none⟩) t.args.length ac), (.int .i64 t.mn), (.int .i64 t.mx), (.bool t.neg)]) rfl agg25 siz25 rfl (Br.cells rfl)) ?_
                    refine s_storeAgg (b := bo) (o := 0) (c' := #[(.int .i64 t.kind), (.slice sa t.set.length sc), (.slice (some ⟨yb, yo, none⟩) t.args.length ac), (.int .i64 t.mn), (.int .i64 t.mx), (.bool t.neg)]) rfl rfl (by simp [Value.oneCell']) siz25 rfl Bo (by simp) rfl ?_
                    intro w74 S74
                    replace hC9 := S74.chg
                    replace Br := S74.keep (by omega) Br
                    replace B6 := S74.keep (by omega) B6
                    replace B7 := S74.keep (by omega) B7
                    replace Bq := S74.keep (by omega) Bq
                    replace E := S74.step E (by first | exact Or.inl (by omega) | exact Or.inr rfl | exact Or.inr (by assumption) | exact Or.inr (by simp) | exact Or.inr (by omega) | exact Or.inr (by dsimp only; omega))
                    replace Bo := S74.blk
                    refine WpL_nil ?_
                    refine Wp_ret ?_
                    refine fin_agg Try.results10 (vs := [(.int .i64 t.kind), (.slice sa t.set.length sc), (.slice (some ⟨yb, yo, none⟩) t.args.length ac), (.int .i64 t.mn), (.int .i64 t.mx), (.bool t.neg)]) (b := bo) rfl agg25 siz25 rfl (Bo.cells rfl) ?_
                    refine ⟨⟨_, rfl, ?_⟩, E⟩
                    have hN : normT t = .mk t.kind t.set (normTs t.args) t.mn t.mx t.neg := by rw [normT_eq, hy, normN_8 h8, if_neg khy8]
                    rw [hN]
                    exact re_ret hset9 (fun y hy => .inl hy) hrs9 hC9 hne hmo
                · have kh8 := h8
                  replace h8 := of_decide_eq_false h8
                  refine Wp_seq_region ?_
                  refine WpL_val rfl rfl (by decide) (r_eql (k := .i64) (a := t.kind) (b := 10) rfl rfl) ?_
                  refine WpL_val rfl rfl (by decide) (r_assign (v := (.bool (decide ((t.kind : Int) = 10)))) rfl) ?_
                  refine WpL_nil ?_
                  refine Wp_cond (b := decide ((t.kind : Int) = 10)) rfl (fun h10 => ?_) (fun h10 => ?_)
                  · have kh10 := h10
                    replace h10 := of_decide_eq_true h10
                    have hl1 : t.args.length = 1 := okRe_one hok (by omega)
                    obtain ⟨y, hy⟩ : ∃ y, normTs t.args = [y] := by have := normTs_len t.args; rw [hl1] at this; exact List.length_eq_one_iff.1 this
                    have hoky : okRe y := ok_normTs t.args (okRe_args hok) y (by rw [hy]; simp)
                    have hrs2 := nst_end (NSt.ext hst E5) hac
                    rw [← normTs_map, hy] at hrs2
                    obtain ⟨yb, yo, hyaa, hyc⟩ := hrs2.cells (by omega)
                    subst hyaa
                    obtain ⟨ys, hcy, hry⟩ := hyc 0 y rfl
                    have hry0 := hry
                    obtain ⟨ysa, ysc, yaa, yac, rfl, _, _, hya⟩ := hry.form
                    refine Wp_seq_region ?_
                    refine WpL_val rfl rfl (by decide) (r_fieldAddr (b := br) (o := 0) (o' := 2) rfl Try.underlying25 rfl siz23 rfl) ?_
                    refine WpL_val rfl rfl (by decide) (r_load (v := (.slice (some ⟨yb, yo, none⟩) t.args.length ac)) rfl flat23 (Br.cell rfl)) ?_
                    refine WpL_val rfl rfl (by decide) (r_indexSlice (b := yb) (o := yo) (len := t.args.length) (cap := ac) (i := 0) (o' := yo + 0 * 6) rfl rfl rfl Try.underlying23 siz25 (by omega) (by omega)) ?_
                    refine WpL_val rfl rfl (by decide) (r_loadAgg (vs := [(.int .i64 y.kind), (.slice ysa y.set.length ysc), (.slice yaa y.args.length yac), (.int .i64 y.mn), (.int .i64 y.mx), (.bool y.neg)]) rfl agg25 siz25 rfl (hcy)) ?_
                    refine s_allocStore (v := (.agg #[(.int .i64 y.kind), (.slice ysa y.set.length ysc), (.slice yaa y.args.length yac), (.int .i64 y.mn), (.int .i64 y.mx), (.bool y.neg)])) (c := #[(.int .i64 y.kind), (.slice ysa y.set.length ysc), (.slice yaa y.args.length yac), (.int .i64 y.mn), (.int .i64 y.mx), (.bool y.neg)]) (n := 6) (by decide) zer25 rfl siz25 rfl rfl rfl (by simp [Value.oneCell']) ?_
                    intro bq wq Nq
                    have Fq := Nq.ge E
                    have Fq_E5 := Nq.ge E5
                    have Oq_br := Nq.lt Br
                    have Oq_bo := Nq.lt Bo
                    have Oq_b6 := Nq.lt B6
                    have Oq_b7 := Nq.lt B7
                    replace Br := Nq.keep Br
                    replace Bo := Nq.keep Bo
                    replace B6 := Nq.keep B6
                    replace B7 := Nq.keep B7
                    replace hry0 := ReIn.ext Nq.ext y hry0
                    replace E := E.ext Nq.ext
                    have Bq := Nq.blk
                    replace E5 := E5.ext Nq.ext
                    refine WpL_nil ?_
                    refine Wp_block ?_
                    refine Wp_seq ?_
                    refine Wp_seq_region ?_
                    refine WpL_val rfl rfl (by decide) (r_fieldAddr (b := bq) (o := 0) (o' := 0) rfl Try.underlying25 rfl siz3 rfl) ?_
                    refine WpL_val rfl rfl (by decide) (r_load (v := (.int .i64 y.kind)) rfl flat3 (Bq.cell rfl)) ?_
                    obtain ⟨e76, he76⟩ : ∃ e, (decide ((y.kind : Int) = 1)) = e := ⟨_, rfl⟩
                    refine WpL_val rfl rfl (by decide) ((r_eql (k := .i64) (a := y.kind) (b := 1) rfl rfl).trans (by rw [he76]; try rfl)) ?_
                    refine WpL_val rfl rfl (by decide) (r_move (v := (.bool e76)) rfl) ?_
                    refine WpL_guard_any (oj := _) (gv := (.bool e76)) (u := (bif e76 then (.pointer (some ⟨br, 5, none⟩)) else undef)) rfl rfl (by decide) (by decide) rfl (by cases e76 <;> first | exact Or.inr ⟨Or.inl rfl, rfl⟩ | exact Or.inr ⟨Or.inr rfl, rfl⟩ | exact Or.inl ⟨rfl, r_fieldAddr (b := br) (o := 0) (o' := 5) rfl Try.underlying25 rfl siz4 rfl⟩) ?_
                    refine WpL_guard_any (oj := _) (gv := (.bool e76)) (u := (bif e76 then (.bool t.neg) else undef)) rfl rfl (by decide) (by decide) rfl (by cases e76 <;> first | exact Or.inr ⟨Or.inl rfl, rfl⟩ | exact Or.inr ⟨Or.inr rfl, rfl⟩ | exact Or.inl ⟨rfl, r_load (v := (.bool t.neg)) rfl flat4 (Br.cell rfl)⟩) ?_
                    obtain ⟨e77, he77⟩ : ∃ e, (e76 && t.neg) = e := ⟨_, rfl⟩
                    refine WpL_val rfl rfl (by decide) (r_pick (b := e76) (v := .bool e77) rfl (by rw [← he77]; cases e76 <;> rfl)) ?_
                    refine WpL_val rfl rfl (by decide) (r_assign (v := (.bool e77)) rfl) ?_
                    refine WpL_nil ?_
                    subst he77
                    subst he76
                    refine Wp_cond (b := ((decide ((y.kind : Int) = 1)) && t.neg)) rfl (fun c1 => ?_) (fun c1 => ?_)
                    · have kc1 := c1
                      refine Wp_skip ?_
                      refine thn_normal ?_
                      refine Wp_cond_true (congrArg Value.bool kc1) ?_
                      refine Wp_seq_region ?_
                      refine WpL_val rfl rfl (by decide) (r_loadAgg (vs := [(.int .i64 0), (.slice none 0 0), (.slice none 0 0), (.int .i64 0), (.int .i64 0), (.bool false)]) rfl agg25 siz25 rfl (B7.cells rfl)) ?_
                      refine s_storeAgg (b := bo) (o := 0) (c' := #[(.int .i64 0), (.slice none 0 0), (.slice none 0 0), (.int .i64 0), (.int .i64 0), (.bool false)]) rfl rfl (by simp [Value.oneCell']) siz25 rfl Bo (by simp) rfl ?_
                      intro w79 S79
                      replace Br := S79.keep (by omega) Br
                      replace B6 := S79.keep (by omega) B6
                      replace B7 := S79.keep (by omega) B7
                      replace Bq := S79.keep (by omega) Bq
                      replace E := S79.step E (by first | exact Or.inl (by omega) | exact Or.inr rfl | exact Or.inr (by assumption) | exact Or.inr (by simp) | exact Or.inr (by omega) | exact Or.inr (by dsimp only; omega))
                      replace Bo := S79.blk
                      refine WpL_nil ?_
                      refine Wp_ret ?_
                      refine inB_ret ?_
                      refine inB_ret ?_
                      refine thn_ret ?_
                      refine fin_agg Try.results10 (vs := [(.int .i64 0), (.slice none 0 0), (.slice none 0 0), (.int .i64 0), (.int .i64 0), (.bool false)]) (b := bo) rfl agg25 siz25 rfl (Bo.cells rfl) ?_
                      refine ⟨⟨_, rfl, ?_⟩, E⟩
                      have hN : normT t = noneT := by rw [normT_eq, hy, normN_10 h10, if_pos (by simp at c1; exact .inl c1)]
                      rw [hN]
                      exact re_empty _ _ _
                    · have kc1 := c1
                      refine Wp_region ?_
                      refine WpL_val rfl rfl (by decide) (r_fieldAddr (b := bq) (o := 0) (o' := 0) rfl Try.underlying25 rfl siz3 rfl) ?_
                      refine WpL_val rfl rfl (by decide) (r_load (v := (.int .i64 y.kind)) rfl flat3 (Bq.cell rfl)) ?_
                      obtain ⟨e80, he80⟩ : ∃ e, (decide ((y.kind : Int) = 0)) = e := ⟨_, rfl⟩
                      refine WpL_val rfl rfl (by decide) ((r_eql (k := .i64) (a := y.kind) (b := 0) rfl rfl).trans (by rw [he80]; try rfl)) ?_
                      refine WpL_val rfl rfl (by decide) (r_move (v := (.bool e80)) rfl) ?_
                      refine WpL_guard_any (oj := _) (gv := (.bool e80)) (u := (bif e80 then (.pointer (some ⟨br, 5, none⟩)) else undef)) rfl rfl (by decide) (by decide) rfl (by cases e80 <;> first | exact Or.inr ⟨Or.inl rfl, rfl⟩ | exact Or.inr ⟨Or.inr rfl, rfl⟩ | exact Or.inl ⟨rfl, r_fieldAddr (b := br) (o := 0) (o' := 5) rfl Try.underlying25 rfl siz4 rfl⟩) ?_
                      refine WpL_guard_any (oj := _) (gv := (.bool e80)) (u := (bif e80 then (.bool t.neg) else undef)) rfl rfl (by decide) (by decide) rfl (by cases e80 <;> first | exact Or.inr ⟨Or.inl rfl, rfl⟩ | exact Or.inr ⟨Or.inr rfl, rfl⟩ | exact Or.inl ⟨rfl, r_load (v := (.bool t.neg)) rfl flat4 (Br.cell rfl)⟩) ?_
                      obtain ⟨e81, he81⟩ : ∃ e, (!t.neg) = e := ⟨_, rfl⟩
                      refine WpL_guard_any (oj := _) (gv := (.bool e80)) (u := (bif e80 then (.bool e81) else undef)) rfl rfl (by decide) (by decide) rfl (by cases e80 <;> first | exact Or.inr ⟨Or.inl rfl, rfl⟩ | exact Or.inr ⟨Or.inr rfl, rfl⟩ | exact Or.inl ⟨rfl, (r_not (b := t.neg) rfl).trans (by rw [he81]; try rfl)⟩) ?_
                      obtain ⟨e82, he82⟩ : ∃ e, (e80 && e81) = e := ⟨_, rfl⟩
                      refine WpL_val rfl rfl (by decide) (r_pick (b := e80) (v := .bool e82) rfl (by rw [← he82]; cases e80 <;> rfl)) ?_
                      refine WpL_val rfl rfl (by decide) (r_assign (v := (.bool e82)) rfl) ?_
                      refine WpL_nil ?_
                      subst he82
                      subst he81
                      subst he80
                      refine thn_normal ?_
                      refine Wp_cond (b := ((decide ((y.kind : Int) = 0)) && (!t.neg))) rfl (fun c2 => ?_) (fun c2 => ?_)
                      · have kc2 := c2
                        refine Wp_seq_region ?_
                        refine WpL_val rfl rfl (by decide) (r_loadAgg (vs := [(.int .i64 0), (.slice none 0 0), (.slice none 0 0), (.int .i64 0), (.int .i64 0), (.bool false)]) rfl agg25 siz25 rfl (B7.cells rfl)) ?_
                        refine s_storeAgg (b := bo) (o := 0) (c' := #[(.int .i64 0), (.slice none 0 0), (.slice none 0 0), (.int .i64 0), (.int .i64 0), (.bool false)]) rfl rfl (by simp [Value.oneCell']) siz25 rfl Bo (by simp) rfl ?_
                        intro w84 S84
                        replace Br := S84.keep (by omega) Br
                        replace B6 := S84.keep (by omega) B6
                        replace B7 := S84.keep (by omega) B7
                        replace Bq := S84.keep (by omega) Bq
                        replace E := S84.step E (by first | exact Or.inl (by omega) | exact Or.inr rfl | exact Or.inr (by assumption) | exact Or.inr (by simp) | exact Or.inr (by omega) | exact Or.inr (by dsimp only; omega))
                        replace Bo := S84.blk
                        refine WpL_nil ?_
                        refine Wp_ret ?_
                        refine inB_ret ?_
                        refine inB_ret ?_
                        refine thn_ret ?_
                        refine fin_agg Try.results10 (vs := [(.int .i64 0), (.slice none 0 0), (.slice none 0 0), (.int .i64 0), (.int .i64 0), (.bool false)]) (b := bo) rfl agg25 siz25 rfl (Bo.cells rfl) ?_
                        refine ⟨⟨_, rfl, ?_⟩, E⟩
                        have hN : normT t = noneT := by rw [normT_eq, hy, normN_10 h10, if_pos (by simp at c2; exact .inr c2)]
                        rw [hN]
                        exact re_empty _ _ _
                      · have kc2 := c2
                        refine Wp_seq ?_
                        refine Wp_seq_region ?_
                        refine WpL_val rfl rfl (by decide) (r_fieldAddr (b := bq) (o := 0) (o' := 0) rfl Try.underlying25 rfl siz3 rfl) ?_
                        refine WpL_val rfl rfl (by decide) (r_load (v := (.int .i64 y.kind)) rfl flat3 (Bq.cell rfl)) ?_
                        refine WpL_val rfl rfl (by decide) (r_eql (k := .i64) (a := y.kind) (b := 1) rfl rfl) ?_
                        refine WpL_val rfl rfl (by decide) (r_assign (v := (.bool (decide ((y.kind : Int) = 1)))) rfl) ?_
                        refine WpL_nil ?_
                        refine Wp_cond (b := decide ((y.kind : Int) = 1)) rfl (fun c3 => ?_) (fun c3 => ?_)
                        · have kc3 := c3
                          replace c3 := of_decide_eq_true c3
                          refine Wp_skip ?_
                          refine thn_normal ?_
                          refine Wp_cond_true (congrArg Value.bool kc3) ?_
                          refine Wp_seq_region ?_
                          refine WpL_val rfl rfl (by decide) (r_loadAgg (vs := [(.int .i64 1), (.slice none 0 0), (.slice none 0 0), (.int .i64 0), (.int .i64 0), (.bool false)]) rfl agg25 siz25 rfl (B6.cells rfl)) ?_
                          refine s_storeAgg (b := bo) (o := 0) (c' := #[(.int .i64 1), (.slice none 0 0), (.slice none 0 0), (.int .i64 0), (.int .i64 0), (.bool false)]) rfl rfl (by simp [Value.oneCell']) siz25 rfl Bo (by simp) rfl ?_
                          intro w86 S86
                          replace Br := S86.keep (by omega) Br
                          replace B6 := S86.keep (by omega) B6
                          replace B7 := S86.keep (by omega) B7
                          replace Bq := S86.keep (by omega) Bq
                          replace E := S86.step E (by first | exact Or.inl (by omega) | exact Or.inr rfl | exact Or.inr (by assumption) | exact Or.inr (by simp) | exact Or.inr (by omega) | exact Or.inr (by dsimp only; omega))
                          replace Bo := S86.blk
                          refine WpL_nil ?_
                          refine Wp_ret ?_
                          refine inB_ret ?_
                          refine inB_ret ?_
                          refine thn_ret ?_
                          refine fin_agg Try.results10 (vs := [(.int .i64 1), (.slice none 0 0), (.slice none 0 0), (.int .i64 0), (.int .i64 0), (.bool false)]) (b := bo) rfl agg25 siz25 rfl (Bo.cells rfl) ?_
                          refine ⟨⟨_, rfl, ?_⟩, E⟩
                          have hN : normT t = emptyT := by rw [normT_eq, hy, normN_10 h10, if_neg (by simp at c1 c2; rintro (h | h); exact absurd h.2 (by simpa using c1 h.1); exact absurd h.2 (by simpa using c2 h.1)), if_pos (.inl c3)]
                          rw [hN]
                          exact re_empty _ _ _
                        · have kc3 := c3
                          replace c3 := of_decide_eq_false c3
                          refine Wp_region ?_
                          refine WpL_val rfl rfl (by decide) (r_fieldAddr (b := bq) (o := 0) (o' := 0) rfl Try.underlying25 rfl siz3 rfl) ?_
                          refine WpL_val rfl rfl (by decide) (r_load (v := (.int .i64 y.kind)) rfl flat3 (Bq.cell rfl)) ?_
                          refine WpL_val rfl rfl (by decide) (r_eql (k := .i64) (a := y.kind) (b := 0) rfl rfl) ?_
                          refine WpL_val rfl rfl (by decide) (r_assign (v := (.bool (decide ((y.kind : Int) = 0)))) rfl) ?_
                          refine WpL_nil ?_
                          refine thn_normal ?_
                          refine Wp_cond (b := decide ((y.kind : Int) = 0)) rfl (fun c4 => ?_) (fun c4 => ?_)
                          · have kc4 := c4
                            replace c4 := of_decide_eq_true c4
                            refine Wp_seq_region ?_
                            refine WpL_val rfl rfl (by decide) (r_loadAgg (vs := [(.int .i64 1), (.slice none 0 0), (.slice none 0 0), (.int .i64 0), (.int .i64 0), (.bool false)]) rfl agg25 siz25 rfl (B6.cells rfl)) ?_
                            refine s_storeAgg (b := bo) (o := 0) (c' := #[(.int .i64 1), (.slice none 0 0), (.slice none 0 0), (.int .i64 0), (.int .i64 0), (.bool false)]) rfl rfl (by simp [Value.oneCell']) siz25 rfl Bo (by simp) rfl ?_
                            intro w88 S88
                            replace Br := S88.keep (by omega) Br
                            replace B6 := S88.keep (by omega) B6
                            replace B7 := S88.keep (by omega) B7
                            replace Bq := S88.keep (by omega) Bq
                            replace E := S88.step E (by first | exact Or.inl (by omega) | exact Or.inr rfl | exact Or.inr (by assumption) | exact Or.inr (by simp) | exact Or.inr (by omega) | exact Or.inr (by dsimp only; omega))
                            replace Bo := S88.blk
                            refine WpL_nil ?_
                            refine Wp_ret ?_
                            refine inB_ret ?_
                            refine inB_ret ?_
                            refine thn_ret ?_
                            refine fin_agg Try.results10 (vs := [(.int .i64 1), (.slice none 0 0), (.slice none 0 0), (.int .i64 0), (.int .i64 0), (.bool false)]) (b := bo) rfl agg25 siz25 rfl (Bo.cells rfl) ?_
                            refine ⟨⟨_, rfl, ?_⟩, E⟩
                            have hN : normT t = emptyT := by rw [normT_eq, hy, normN_10 h10, if_neg (by simp at c1 c2; rintro (h | h); exact absurd h.2 (by simpa using c1 h.1); exact absurd h.2 (by simpa using c2 h.1)), if_pos (.inr c4)]
                            rw [hN]
                            exact re_empty _ _ _
                          · have kc4 := c4
                            replace c4 := of_decide_eq_false c4
                            have hC9 : Chg (fun y => y = bo) (wq) (wq) := Chg.refl _ _
                            have hset9 := SlIn.chg hset E (fun y hy => hz y hy)
                            have hrs9 := nst_end (NSt.ext hst E5) hac
                            rw [← normTs_map] at hrs9
                            refine Wp_skip ?_
                            refine inB_normal ?_
                            refine inB_normal ?_
                            refine thn_normal ?_
                            refine Wp_seq_region ?_
                            refine WpL_val rfl rfl (by decide) (r_loadAgg (vs := [(.int .i64 t.kind), (.slice sa t.set.length sc), (.slice (some ⟨yb, yo, none⟩) t.args.length ac), (.int .i64 t.mn), (.int .i64 t.mx), (.bool t.neg)]) rfl agg25 siz25 rfl (Br.cells rfl)) ?_
                            refine s_storeAgg (b := bo) (o := 0) (c' := #[(.int .i64 t.kind), (.slice sa t.set.length sc), (.slice (some ⟨yb, yo, none⟩) t.args.length ac), (.int .i64 t.mn), (.int .i64 t.mx), (.bool t.neg)]) rfl rfl (by simp [Value.oneCell']) siz25 rfl Bo (by simp) rfl ?_
                            intro w89 S89
                            replace hC9 := S89.chg
                            replace Br := S89.keep (by omega) Br
                            replace B6 := S89.keep (by omega) B6
                            replace B7 := S89.keep (by omega) B7
                            replace Bq := S89.keep (by omega) Bq
                            replace E := S89.step E (by first | exact Or.inl (by omega) | exact Or.inr rfl | exact Or.inr (by assumption) | exact Or.inr (by simp) | exact Or.inr (by omega) | exact Or.inr (by dsimp only; omega))
                            replace Bo := S89.blk
                            refine WpL_nil ?_
                            refine Wp_ret ?_
                            refine fin_agg Try.results10 (vs := [(.int .i64 t.kind), (.slice sa t.set.length sc), (.slice (some ⟨yb, yo, none⟩) t.args.length ac), (.int .i64 t.mn), (.int .i64 t.mx), (.bool t.neg)]) (b := bo) rfl agg25 siz25 rfl (Bo.cells rfl) ?_
                            refine ⟨⟨_, rfl, ?_⟩, E⟩
                            have hN : normT t = .mk t.kind t.set (normTs t.args) t.mn t.mx t.neg := by rw [normT_eq, hy, normN_10 h10, if_neg (by simp at c1 c2; rintro (h | h); exact absurd h.2 (by simpa using c1 h.1); exact absurd h.2 (by simpa using c2 h.1)), if_neg (by omega)]
                            rw [hN]
                            exact re_ret hset9 (fun y hy => .inl hy) hrs9 hC9 hne hmo
                  · have kh10 := h10
                    replace h10 := of_decide_eq_false h10
                    have hC9 : Chg (fun y => y = bo) (w9) (w9) := Chg.refl _ _
                    have hset9 := SlIn.chg hset E (fun y hy => hz y hy)
                    have hrs9 := nst_end (NSt.ext hst E5) hac
                    rw [← normTs_map] at hrs9
                    refine Wp_skip ?_
                    refine inB_normal ?_
                    refine thn_normal ?_
                    refine Wp_seq_region ?_
                    refine WpL_val rfl rfl (by decide) (r_loadAgg (vs := [(.int .i64 t.kind), (.slice sa t.set.length sc), (.slice aa t.args.length ac), (.int .i64 t.mn), (.int .i64 t.mx), (.bool t.neg)]) rfl agg25 siz25 rfl (Br.cells rfl)) ?_
                    refine s_storeAgg (b := bo) (o := 0) (c' := #[(.int .i64 t.kind), (.slice sa t.set.length sc), (.slice aa t.args.length ac), (.int .i64 t.mn), (.int .i64 t.mx), (.bool t.neg)]) rfl rfl (by simp [Value.oneCell']) siz25 rfl Bo (by simp) rfl ?_
                    intro w90 S90
                    replace hC9 := S90.chg
                    replace Br := S90.keep (by omega) Br
                    replace B6 := S90.keep (by omega) B6
                    replace B7 := S90.keep (by omega) B7
                    replace E := S90.step E (by first | exact Or.inl (by omega) | exact Or.inr rfl | exact Or.inr (by assumption) | exact Or.inr (by simp) | exact Or.inr (by omega) | exact Or.inr (by dsimp only; omega))
                    replace Bo := S90.blk
                    refine WpL_nil ?_
                    refine Wp_ret ?_
                    refine fin_agg Try.results10 (vs := [(.int .i64 t.kind), (.slice sa t.set.length sc), (.slice aa t.args.length ac), (.int .i64 t.mn), (.int .i64 t.mx), (.bool t.neg)]) (b := bo) rfl agg25 siz25 rfl (Bo.cells rfl) ?_
                    refine ⟨⟨_, rfl, ?_⟩, E⟩
                    have hN : normT t = .mk t.kind t.set (normTs t.args) t.mn t.mx t.neg := by rw [normT_eq, normN_else _ (by omega)]
                    rw [hN]
                    exact re_ret hset9 (fun y hy => .inl hy) hrs9 hC9 hne hmo
end Go.Proofs
