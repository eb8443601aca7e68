/- More short names. -/
import Derived.Test.YtgmbafkdgmkfoaaGreatDoorZr1
open Go.Eng
namespace Go
theorem oH {σ:Eng.CZ} {l:List (Nat×Value)} (h:Eng.Ak σ l:=by repeat (first|exact trivial|exact ⟨rfl,trivial⟩|refine ⟨rfl,?_⟩)):∃j,σ=Eng.BW j l:=Eng.Ak.out h
abbrev oI (b o:Nat):Option Addr:=some ⟨b,o,none⟩
abbrev oJ (t:Re) (a:Option Addr) (b:Nat) (c:Option Addr) (d:Nat):List Value:=[.int .i64 t.kind,.slice a t.set.length b,.slice c t.args.length d,.int .i64 t.mn,.int .i64 t.mx,.bool t.neg]
abbrev World.z (w:World):Nat:=w.heap.size
end Go
