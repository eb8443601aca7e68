/- Contracts: the makers Re, ReAll and Text. -/
import Derived.Test.YtiepeobnpmoghaaW13
namespace Go.Proofs
open Go Go.Eng
set_option maxRecDepth 100000

def textArr : Array Value := #[.int .i64 97, .int .i64 98, .int .i64 99, .int .i64 97, .int .i64 98, .int .i64 122, .int .i64 0, .int .i64 233, .int .i64 8364, .int .i64 1114111]
theorem text_tab : ∀ i, i < 10 → ∃ r, textArr[i]? = some (.int .i64 r) ∧ runeB r = true := by
  intro i h
  match i, h with
  | 0, _ => exact ⟨97, rfl, by decide⟩
  | 1, _ => exact ⟨98, rfl, by decide⟩
  | 2, _ => exact ⟨99, rfl, by decide⟩
  | 3, _ => exact ⟨97, rfl, by decide⟩
  | 4, _ => exact ⟨98, rfl, by decide⟩
  | 5, _ => exact ⟨122, rfl, by decide⟩
  | 6, _ => exact ⟨0, rfl, by decide⟩
  | 7, _ => exact ⟨233, rfl, by decide⟩
  | 8, _ => exact ⟨8364, rfl, by decide⟩
  | 9, _ => exact ⟨1114111, rfl, by decide⟩
theorem r_min2 {P : Program} {σ : Env} {w : World} {dst : Option Tmp} {ty : TypeId} {pos : String} {af : Array Edge} {g : Option (Nat × Bool)} {tys : Array TypeId} {x y : Operand} {k : IntKind} {a b c : Int} (hx : ev σ x = .int k a) (hy : ev σ y = .int k b) (hc : min a b = c) :
    (execOp (ev σ) ⟨dst, .call ⟨.builtin .min, #[x, y], tys⟩, ty, pos, af, g⟩).run P w = .ok (.value (.int k c)) w := by
  subst hc
  have : (if b < a then b else a) = min a b := by split <;> omega
  simp [execOp, resolve, invoke, builtin, Builtin.min_, Builtin.min2, hx, hy, this]

end Go.Proofs
