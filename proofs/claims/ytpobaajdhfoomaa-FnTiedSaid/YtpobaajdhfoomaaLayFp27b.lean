/- Go's slices.DeleteFunc, laid at this program: the shelf's contract (printed by the kit's tools for this claim). -/
import Derived.Shelf.SlicesE.DeleteFunc
import Derived.Test.YtpobaajdhfoomaaProg
import Derived.Test.YtpobaajdhfoomaaBase15
namespace Go.Proofs.Ytpobaajdhfoomaa
open Go Go.Shelf
def delLaid_ren : Go.Shelf.Ren := ⟨fun | 10 => 75 | 6 => 103 | n => n, fun | 22 => 22 | 23 => 25 | 25 => 70 | 3 => 3 | 4 => 4 | 0 => 0 | n => n, fun | n => n⟩
theorem delLaid : Go.Proofs.SlLaysH.n10 Try.prog delLaid_ren := {
  mixed := by kernel_rfl
  f6 := ⟨Try.f103.name, by decide, Try.func103.trans (congrArg some (by kernel_rfl))⟩
  f10 := ⟨Try.f75.name, by decide, Try.func75.trans (congrArg some (by kernel_rfl))⟩
  t0 := Try.underlying0
  a0 := Try.isAgg0
  z0 := Try.sizeOf0
  v0 := Try.zeroValue0
  t3 := Try.underlying3
  a3 := Try.isAgg3
  z3 := Try.sizeOf3
  v3 := Try.zeroValue3
  t4 := Try.underlying4
  a4 := Try.isAgg4
  z4 := Try.sizeOf4
  v4 := Try.zeroValue4
  t22 := Try.underlying22
  a22 := Try.isAgg22
  z22 := Try.sizeOf22
  v22 := Try.zeroValue22
  a23 := Try.isAgg25
  z23 := Try.sizeOf25
  t25 := Try.underlying70
  a25 := Try.isAgg70
  z25 := Try.sizeOf70
  v25 := Try.zeroValue70 }
theorem delEg : ∀ args w, (callFunc 76 args).run Try.prog w = .ok (.enter 76 args) w := enters_of Try.func76 (by kernel_rfl) rfl
theorem delG : LenShort Try.prog 76 := by
  intro W p n c
  go_enter Try.func76, Try.ntmps76
  go_wp2
  all_goals (go_ret; exact ⟨by simp_all, 0, rfl⟩)
theorem delZ : ∀ w, (zeroValue (delLaid_ren.t 23)).run Try.prog w = .ok (.slice none 0 0) w := Try.zeroValue25
end Go.Proofs.Ytpobaajdhfoomaa
