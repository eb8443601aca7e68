/- Maps in regions that draw their order. Generic: no program is named. -/
import Derived.Test.YtncmfkibflogkaaMp
import Derived.Test.YtncmfkibflogkaaDagT
namespace Go.Eng
open Go

section
variable {P : Program} {N : Nat} {σ : Env} {w : World} {ty : TypeId} {pos : String} {af : Array Edge} {g : Option (Nat × Bool)} {t kt et : TypeId} {m x y : Operand} {b : Nat} {M : Nat → Prop} {R : Value → World → Prop}
variable {κ ν : Type} [DecidableEq κ] {ek : κ → Value} {eV : ν → Value} {es : List (κ × ν)} {k : κ} {v : ν}
theorem DoesT_mapUpdate (hu : P.underlying t = some (.map kt et)) (hk : KeyOk P kt ek) (hm : MapAt w b ek eV es) (h1 : ev σ m = .map (some b)) (h2 : ev σ x = ek k) (h3 : ev σ y = eV v) (hM : M b)
    (hR : ∀ w', MapAt w' b ek eV (putM es k v) → R undef w') : DoesT M P N ⟨none, .mapUpdate t m x y, ty, pos, af, g⟩ R σ w := by
  have hr := run_mapUpdate (k := k) (v := v) hu hk hm
  have hp := PutO.mk' (w := w) (b := b) (.map (ents ek eV (putM es k v)).toArray (putM es k v).length) hm.lt
  refine DoesT_skip (w' := { w with heap := w.heap.setIfInBounds b (.map (ents ek eV (putM es k v)).toArray (putM es k v).length) }) ?_ (hp.chg.mono fun z _ h => by subst h; exact hM) (hR _ hp.at')
  simp [execOp, h1, h2, h3, hr]
end
end Go.Eng
