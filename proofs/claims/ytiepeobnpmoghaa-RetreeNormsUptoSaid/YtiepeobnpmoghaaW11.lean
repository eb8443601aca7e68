/- Contracts: equality of lists of pairs; comparing what two expressions match. -/
import Derived.Test.YtiepeobnpmoghaaW10
import Derived.Laws.StructEq
namespace Go.Proofs
open Go Go.Eng
set_option maxRecDepth 100000

theorem part_int {P : Program} {w : World} {e : TypeId} {cs : Array Value} {o : Nat} {v : Value} (hf : flatB P e = true) (hv : cs[o]? = some v) : (part e cs o).run P w = .ok v w := by
  simp [part, flatB.run hf, hv]
theorem equalIn_pair {P : Program} {w : World} {t e : TypeId} (d : Nat) (a b c f : Int) (ht : P.underlying t = some (.array 2 e)) (he : P.underlying e = some (.int .i64)) (hs : Siz P e 1) (hf : flatB P e = true) :
    (Op.equalIn (d + 2) t (.agg #[.int .i64 a, .int .i64 b]) (.agg #[.int .i64 c, .int .i64 f])).run P w = .ok (decide (a = c) && decide (b = f)) w := by
  have h1 : ∀ x y : Int, (Op.equalIn (d + 1) e (.int .i64 x) (.int .i64 y)).run P w = .ok (x == y) w := fun x y => run_equalIn_int w d e .i64 .i64 x y he
  have p0 : ∀ x y : Int, (part e #[.int .i64 x, .int .i64 y] 0).run P w = .ok (.int .i64 x) w := fun x y => part_int hf rfl
  have p1 : ∀ x y : Int, (part e #[.int .i64 x, .int .i64 y] 1).run P w = .ok (.int .i64 y) w := fun x y => part_int hf rfl
  rw [Op.equalIn]
  simp only [Sem.run_bind, run_underlying ht, Result.andThen_ok, hs.run]
  by_cases hac : a = c
  · by_cases hbf : b = f
    · simp [Std.Legacy.Range.forIn_eq_forIn_range', List.range', p0, p1, h1, hac, hbf]
    · simp [Std.Legacy.Range.forIn_eq_forIn_range', List.range', p0, p1, h1, hac, hbf]
  · simp [Std.Legacy.Range.forIn_eq_forIn_range', List.range', p0, h1, hac]
theorem r_neqPair {P : Program} {σ : Env} {w : World} {dst : Option Tmp} {ty : TypeId} {pos : String} {af : Array Edge} {g : Option (Nat × Bool)} {t t' e : TypeId} {x y : Operand} {a b c f : Int}
    (ht : P.underlying t = some (.array 2 e)) (he : P.underlying e = some (.int .i64)) (hs : Siz P e 1) (hf : flatB P e = true) (hm : P.eqGuardType P.depth t = false)
    (hx : ev σ x = .agg #[.int .i64 a, .int .i64 b]) (hy : ev σ y = .agg #[.int .i64 c, .int .i64 f]) :
    (execOp (ev σ) ⟨dst, .binOp .neq t x y t', ty, pos, af, g⟩).run P w = .ok (.value (.bool (!(decide (a = c) && decide (b = f))))) w := by
  have h := equalIn_pair (P := P) (w := w) 9998 a b c f ht he hs hf
  simp only [execOp, hx, hy, Sem.run_bind, run_eqGuard_agg w .neq t x y _ _ hm, Result.andThen_ok, run_neq_struct, h]
  rfl
theorem r_eqlPair {P : Program} {σ : Env} {w : World} {dst : Option Tmp} {ty : TypeId} {pos : String} {af : Array Edge} {g : Option (Nat × Bool)} {t t' e : TypeId} {x y : Operand} {a b c f : Int}
    (ht : P.underlying t = some (.array 2 e)) (he : P.underlying e = some (.int .i64)) (hs : Siz P e 1) (hf : flatB P e = true) (hm : P.eqGuardType P.depth t = false)
    (hx : ev σ x = .agg #[.int .i64 a, .int .i64 b]) (hy : ev σ y = .agg #[.int .i64 c, .int .i64 f]) :
    (execOp (ev σ) ⟨dst, .binOp .eql t x y t', ty, pos, af, g⟩).run P w = .ok (.value (.bool (decide (a = c) && decide (b = f)))) w := by
  have h := equalIn_pair (P := P) (w := w) 9998 a b c f ht he hs hf
  simp only [execOp, hx, hy, Sem.run_bind, run_eqGuard_agg w .eql t x y _ _ hm, Result.andThen_ok, run_eql_struct, h]
  rfl

theorem pairs_cells {w : World} {a : Option Addr} {n c : Nat} {l : List (Nat × Nat)} (h : PairsAt w (.slice a n c) l) (hn : 0 < n) :
    ∃ b o, a = some ⟨b, o, none⟩ ∧ ∀ (i : Nat) (p : Nat × Nat), l[i]? = some p → CellsAt w b (o + i * 2) [.int .i64 ((p.1 : Nat) : Int), .int .i64 ((p.2 : Nat) : Int)] := by
  obtain ⟨b, o, ha, h⟩ := SlAt.at h hn
  exact ⟨b, o, ha, fun i s hs => h i (pairV s) (by simp [hs])⟩
theorem PairsAt.ext {w w' : World} {v : Value} {l : List (Nat × Nat)} (h : PairsAt w v l) (e : Ext w w') : PairsAt w' v l := SlAt.ext h e
theorem get_ext {α : Type} {l m : List α} (hl : l.length = m.length) (h : ∀ i, i < l.length → l[i]? = m[i]?) : l = m := by
  apply List.ext_getElem?
  intro i
  rcases Nat.lt_or_ge i l.length with h' | h'
  · exact h i h'
  · rw [List.getElem?_eq_none h', List.getElem?_eq_none (by omega)]

end Go.Proofs
