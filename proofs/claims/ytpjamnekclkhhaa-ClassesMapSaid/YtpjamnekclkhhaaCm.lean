/- Rules: a slice is made of zeros; bytes become a string. -/
import Derived.Test.YtpjamnekclkhhaaCk
namespace Go.Proofs
open Go Go.Eng Go.Sort

section
variable {P : Program} {N : Nat} {Q : Post} {σ : Env} {w : World} {K : Env → World → Prop} {ops : Array Oper} {rest : List Oper} {d : Nat} {ty : TypeId} {pos : String} {af : Array Edge} {t : TypeId} {x y : Operand}
theorem s_make {e bytes n : Nat} {z : Value} (hN : d < N) (hu : P.underlying t = some (.slice e)) (hsz : Siz P e 1) (hby : Byt P e bytes) (hz : Zer P e z) (hz1 : z.cells = #[z]) (hx : ev σ x = .int .i64 ((n : Nat) : Int)) (hy : ev σ y = .int .i64 ((n : Nat) : Int)) (hb : n * bytes ≤ 140737488355328) (hn : n ≤ 140737488355328)
    (k : ∀ b w', New w w' b (List.replicate n z).toArray e → WpL P N ops K Q rest (upd σ d (.slice (some ⟨b, 0, none⟩) n n)) w') : WpL P N ops K Q (⟨some d, .makeSlice t x y, ty, pos, af, none⟩ :: rest) σ w := by
  refine WpL_val (v := .slice (some ⟨w.heap.size, 0, none⟩) n n) (w' := { w with heap := w.heap.push (.cells (List.replicate n z).toArray e (0, 0)) }) rfl rfl hN ?_ (k _ _ (New.mk' w _ e))
  unfold Siz at hsz; unfold Byt at hby; unfold Zer at hz
  cases hi : P.info? e with
  | none => rw [hi] at hsz; simp at hsz
  | some i =>
  rw [hi] at hsz hby hz
  simp at hsz hby hz
  have h := run_make (P := P) w t e i _ hu hi hz .i64 .i64 ((n : Nat) : Int) ((n : Nat) : Int) (by omega) (Int.le_refl _) (by rw [hby]; have : ((bytes : Nat) : Int) * ((n : Nat) : Int) = (((n * bytes : Nat) : Nat) : Int) := (by rw [Int.natCast_mul, Int.mul_comm]); rw [this]; omega) (by omega)
  have hc : madeCells z.cells (n * i.size) = (List.replicate n z).toArray := by
    rw [hsz, Nat.mul_one, hz1]
    apply Array.ext'
    simp only [madeCells]
    apply List.ext_getElem?
    intro j
    simp only [Array.toList_map, List.getElem?_map, List.getElem?_replicate]
    rcases Nat.lt_or_ge j n with hj | hj
    · have h1 : (Array.range n).toList[j]? = some j := by simp [hj]
      rw [h1, if_pos hj]
      simp [Nat.mod_one]
    · have h1 : (Array.range n).toList[j]? = none := by simp; omega
      rw [h1, if_neg (by omega)]; rfl
  simp only [Int.toNat_natCast, hc] at h
  simp only [execOp, hx, hy, Sem.run_bind, h, Result.andThen_ok]
  rfl
theorem r_bytesStr {dst : Option Tmp} {g : Option (Nat × Bool)} {s : TypeId} {e : TypeId} {b n c : Nat} {l : List Int} (hs : P.underlying s = some (.slice e)) (he : P.underlying e = some (.int .u8)) (ht : P.underlying t = some .string) (hx : ev σ x = .slice (some ⟨b, 0, none⟩) n c)
    (hB : Blk w b (l.map (Value.int .u8)).toArray e) (hl : l.length = n) : (execOp (ev σ) ⟨dst, .convert s t x, ty, pos, af, g⟩).run P w = .ok (.value (.string (strOfNums l))) w := by
  have h := run_convert_bytes_arg (P := P) w s e hs he b 0 n c l hl (fun i hi => by
    rw [Nat.zero_add]
    have h1 : l[i]? = some l[i] := List.getElem?_eq_getElem (by omega)
    have h2 := hB.cell (o := i) (v := .int .u8 (l.getD i 0)) (by simp [List.getD, h1])
    exact h2) t ht
  simp only [execOp, hx, Sem.run_bind, h, Result.andThen_ok]
  rfl
end
def appF (base e size n : Nat) (xs : List Value) (old : Value) (hs : Nat) : Fct := fun v w => (∃ a c, v = .slice a n c) ∧ w.ownsRow base e size v n xs ∧ ∀ k, v.ownBlock = some k → old.ownBlock = some k ∨ hs ≤ k
theorem appF_ext (base e size n : Nat) (xs : List Value) (old : Value) (hs : Nat) : ∀ v w w', Ext w w' → appF base e size n xs old hs v w → appF base e size n xs old hs v w' := by
  rintro v w w' e ⟨h1, h2, h3⟩
  exact ⟨h1, own_ext h2 e, h3⟩
/-- The append to a slice of one's own, in a region that draws its order. -/
theorem DoesT_append {P : Program} {N : Nat} {σ : Env} {w : World} {dst : Option Tmp} {ty : TypeId} {pos : String} {af : Array Edge} {g : Option (Nat × Bool)} {M : Nat → Prop} {t : TypeId} {s x : Operand} {base e size bytes n m c bx ox hs : Nat} {z v : Value} {xs news : List Value} (hu : P.underlying t = some (.slice e)) (hsz : Siz P e size) (hby : Byt P e bytes) (hz : Zer P e z) (hzs : z.cells.size = size) (h0 : 0 < size)
    (he : ev σ s = v) (hown : w.ownsRow base e size v n xs) (hx : ev σ x = .slice (some ⟨bx, ox, none⟩) m c) (hl : news.length = m * size) (hnews : CellsAt w bx ox news) (h1 : ∀ u ∈ news, u.oneCell' = true)
    (h63 : n + m ≤ maxLen) (hbytes : (n + m) * bytes ≤ 140737488355328) (hbase : base ≤ w.heap.size) (hM : ∀ y, v.ownBlock = some y → M y) (hhs : hs ≤ w.heap.size) :
    DoesT M P N ⟨dst, .call ⟨.builtin .append, #[s, x], #[t, t]⟩, ty, pos, af, g⟩ (appF base e size (n + m) (xs ++ news) v hs) σ w := by
  unfold Siz at hsz; unfold Byt at hby; unfold Zer at hz
  cases hi : P.info? e with
  | none => rw [hi] at hsz; simp at hsz
  | some i =>
  rw [hi] at hsz hby hz
  simp at hsz hby hz
  have hcells : ∀ j u, news[j]? = some u → w.cell? ((⟨bx, ox, none⟩ : Addr).add j) = some u := fun j u hj => by rw [Addr.add_lit]; exact hnews j u hj
  obtain ⟨v', w', hr, h2, h3, _⟩ := run_append_own (P := P) w base t ty e i z size bytes hu hi hz hsz hby hzs h0 v n xs hown ⟨bx, ox, none⟩ m c news hl hcells h1 h63 hbytes hbase
  have hC : Chg (fun x => v.ownBlock = some x) w w' := ⟨h3.os, h3.tape, h3.output, append_drawn (P := P) hu hi hz hsz hby hown hl hcells h1 h63 hbytes hr, h3.size, fun b hb hn => h3.block b hb (fun h => hn h.symm)⟩
  have hW := append_where (P := P) hu hi hz hsz hby hzs h0 hown hl hcells h1 h63 hbytes hr
  refine DoesT_val (v := v') (w' := w') (by simp [execOp, resolve, invoke, builtin, he, hx, hr]) (hC.mono fun y _ hy => hM y hy) ⟨own_form h2, h2, fun k hk => ?_⟩
  rcases hW k hk with h4 | h4
  · exact .inl h4
  · exact .inr (Nat.le_trans hhs h4)
/-- A slice of one new element, whose cells are known. -/
def litF (e : Nat) (c : Array Value) (hs : Nat) : Fct := fun v w => ∃ b, v = .slice (some ⟨b, 0, none⟩) 1 1 ∧ Blk w b c e ∧ hs ≤ b
theorem litF_ext (e : Nat) (c : Array Value) (hs : Nat) : ∀ v w w', Ext w w' → litF e c hs v w → litF e c hs v w' := by
  rintro v w w' x ⟨b, h1, h2, h3⟩
  exact ⟨b, h1, Ext.keep x h2, h3⟩
theorem DoesT_lit {P : Program} {N : Nat} {σ : Env} {w : World} {dst : Option Tmp} {ty : TypeId} {pos : String} {af : Array Edge} {g : Option (Nat × Bool)} {M : Nat → Prop} {t e n hs : Nat} {x : Operand} {v z : Value} {c : Array Value} (hu : P.underlying t = some (.slice e)) (hsz : Siz P e n) (hz : Zer P e z) (hx : ev σ x = v)
    (hl : ¬ (1 * n > 2 ^ 24)) (h0 : 1 * n ≠ 0) (hc : Instr.fill (fun i => some (i * n, n)) ((Array.range (1 * n)).map (z.cells[· % z.cells.size]!)) [(0, v)] = some c) (hhs : hs ≤ w.heap.size) :
    DoesT M P N ⟨dst, .buildSlice t 1 #[(0, x)], ty, pos, af, g⟩ (litF e c hs) σ w := by
  have hn := New.mk' w c e
  exact DoesT_val (run_buildSlice (parts := [(0, x)]) (ps := [(0, v)]) (by simp only [List.map, hx]) hu hsz hz hl h0 hc) (Ext.chg hn.ext) ⟨_, rfl, hn.blk, hhs⟩
theorem own_lit1 {w : World} {b e base : Nat} {v : Value} (h : Blk w b #[v] e) (hb : base ≤ b) : w.ownsRow base e 1 (.slice (some ⟨b, 0, none⟩) 1 1) 1 [v] :=
  ⟨rfl, .inr ⟨b, 1, #[v], rfl, hb, h, Nat.le_refl _, by decide, rfl, rfl⟩⟩
end Go.Proofs
