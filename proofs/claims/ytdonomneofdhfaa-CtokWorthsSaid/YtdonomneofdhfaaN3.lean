/- The product and the sum of two words, as the library gives them. -/
import Derived.Shelf.Bits.Mul64
import Derived.Laws.Externs
import Derived.Test.YtdonomneofdhfaaN2
import Derived.Test.YtdonomneofdhfaaE6
namespace Go.Proofs
open Go.Shelf
def Try.lays264_ren : Go.Shelf.Ren := ⟨fun | 264 => 111 | n => n, fun | 46 => 165 | 53 => 68 | n => n, fun | n => n⟩
theorem Try.lays264 : Go.Proofs.Lays.n264 Try.prog Try.lays264_ren := {
  mixed := by kernel_rfl
  f264 := Try.func111.trans (congrArg some (by kernel_rfl))
  t46 := Try.underlying165
  a46 := Try.isAgg165
  z46 := Try.sizeOf165
  v46 := Try.zeroValue165
  t53 := Try.underlying68
  a53 := Try.isAgg68
  z53 := Try.sizeOf68
  v53 := Try.zeroValue68 }
end Go.Proofs
namespace Go.Proofs.Ytdonomneofdhfaa
open Go.GV Go.RowKit

theorem mul64_any (x y : Int) (hx : 0 ≤ x) (hx1 : x < 18446744073709551616) (hy : 0 ≤ y) (hy1 : y < 18446744073709551616) (w : World) :
    Calls Try.prog 111 #[.int .u64 x, .int .u64 y] w (PureP w fun v _ => v = .tuple #[.int .u64 (x * y / 18446744073709551616), .int .u64 (x * y % 18446744073709551616)]) := by
  obtain ⟨a, rfl⟩ := Int.eq_ofNat_of_zero_le hx
  obtain ⟨b, rfl⟩ := Int.eq_ofNat_of_zero_le hy
  have h := pure_of (Any.bits_Mul64 Try.lays264 a b (by omega) (by omega) w)
  have e1 : ((a * b / 18446744073709551616 : Nat) : Int) = (a : Int) * b / 18446744073709551616 := by rw [Int.natCast_ediv, Int.natCast_mul]; rfl
  have e2 : ((a * b % 18446744073709551616 : Nat) : Int) = (a : Int) * b % 18446744073709551616 := by rw [Int.natCast_emod, Int.natCast_mul]; rfl
  rw [← e1, ← e2]
  exact h

theorem add64_run (x y : Int) (hx : 0 ≤ x) (hy : 0 ≤ y) (w : World) : (callFunc 112 #[.int .u64 x, .int .u64 y, .int .u64 0]).run Try.prog w = .ok (.value (.tuple #[.int .u64 ((x + y + 0) % 18446744073709551616), .int .u64 ((x + y + 0) / 18446744073709551616)])) w := by
  have h := run_callFunc_extern (args := #[.int .u64 x, .int .u64 y, .int .u64 0]) (w := w) Try.func112 (by kernel_rfl) (by kernel_rfl) (by kernel_rfl) (e := add64Entry) (by kernel_rfl)
  rw [h, run_add64 x y 0 hx hy (by omega) (by omega)]
  rfl

/-- a call of a function that the model knows by itself -/
theorem xl_externN {C : Cx} {all : List Oper} {o : Oper} {r : List Oper} {Q : Post} {kn : Kn} {gk : List (Nat × (Gd × SV))} {ow : Go.GV.Own} {nx : Nat} {u : Im} {c : Call} {f d : Nat} {ss : List SV} (v : Value)
    (ho : o.op = .call c) (hgd : o.guard = none) (hd : o.dst = some d) (hfr : fresh C.N ⟨kn, gk, ow, nx⟩ d [] = true) (hc : c.callee = .value (.func f))
    (hargs : argsOf ⟨kn, gk, ow, nx⟩ [] c.args.toList = some ss) (hrun : ∀ E w, (callFunc f (ss.map (SV.den E)).toArray).run C.P w = .ok (.value v) w)
    (K : XL C all r Q ⟨(d, .v v) :: kn, gk, ow, nx⟩ u) : XL C all (o :: r) Q ⟨kn, gk, ow, nx⟩ u := by
  refine xl_val v hgd hd (fun c' hc' => by rw [ho] at hc'; cases hc') hfr (fun E a w hok => ?_) K
  have hgs : gs a.tmps [] := fun x hx => by cases hx
  obtain ⟨e1, e2⟩ := argsOf_sound hok.agr hgs hargs
  have e3 : c.args.map a.eval = (ss.map (SV.den E)).toArray := by
    apply Array.ext'
    simpa using e1
  have e4 : a.eval (.func f) = .func (.func f) #[] #[] := rfl
  simp [execOp, ho, resolve, hc, e4, Deferred.ofValue, invoke, e3, hrun]
end Go.Proofs.Ytdonomneofdhfaa
