/- The library's contracts for BinarySearch and Insert, laid over this program (written by the kit's program lay-plain.mjs). -/
import Derived.Test.YtdodheahckpkfaaProg
import Derived.Shelf.Slices.Empties
import Derived.Shelf.Slices.SearchI
import Derived.Shelf.Spec.SlicesInsertGrow
namespace Go.Proofs.Ytdodheahckpkfaa
open Go.Shelf
def lays25_ren : Go.Shelf.Ren := ⟨fun | 25 => 95 | 31 => 111 | 32 => 112 | 37 => 117 | n => n, fun | 22 => 22 | 3 => 3 | 4 => 4 | 40 => 112 | 0 => 0 | n => n, fun | n => n⟩
theorem lays25 : Go.Proofs.Lays2.n25 Try.prog lays25_ren := {
  mixed := by kernel_rfl
  f25 := Try.func95.trans (congrArg some (by kernel_rfl))
  f31 := Try.func111.trans (congrArg some (by kernel_rfl))
  f32 := Try.func112.trans (congrArg some (by kernel_rfl))
  f37 := Try.func117.trans (congrArg some (by kernel_rfl))
  t0 := Try.underlying0
  a0 := Try.isAgg0
  z0 := Try.sizeOf0
  v0 := Try.zeroValue0
  t3 := Try.underlying3
  a3 := Try.isAgg3
  z3 := Try.sizeOf3
  v3 := Try.zeroValue3
  t4 := Try.underlying4
  a4 := Try.isAgg4
  z4 := Try.sizeOf4
  v4 := Try.zeroValue4
  t22 := Try.underlying22
  a22 := Try.isAgg22
  z22 := Try.sizeOf22
  v22 := Try.zeroValue22
  t40 := Try.underlying112
  a40 := Try.isAgg112
  z40 := Try.sizeOf112
  v40 := Try.zeroValue112 }
def lays21_ren : Go.Shelf.Ren := ⟨fun | 21 => 96 | 27 => 113 | 28 => 114 | 35 => 118 | 39 => 119 | n => n, fun | 22 => 22 | 3 => 3 | 4 => 4 | 0 => 0 | n => n, fun | n => n⟩
theorem lays21 : Go.Proofs.Lays2.n21 Try.prog lays21_ren := {
  mixed := by kernel_rfl
  f21 := Try.func96.trans (congrArg some (by kernel_rfl))
  f27 := Try.func113.trans (congrArg some (by kernel_rfl))
  f28 := Try.func114.trans (congrArg some (by kernel_rfl))
  f35 := Try.func118.trans (congrArg some (by kernel_rfl))
  f39 := Try.func119.trans (congrArg some (by kernel_rfl))
  t0 := Try.underlying0
  a0 := Try.isAgg0
  z0 := Try.sizeOf0
  v0 := Try.zeroValue0
  t3 := Try.underlying3
  a3 := Try.isAgg3
  z3 := Try.sizeOf3
  v3 := Try.zeroValue3
  t4 := Try.underlying4
  a4 := Try.isAgg4
  z4 := Try.sizeOf4
  v4 := Try.zeroValue4
  t22 := Try.underlying22
  a22 := Try.isAgg22
  z22 := Try.sizeOf22
  v22 := Try.zeroValue22
  i3 := by kernel_rfl }
end Go.Proofs.Ytdodheahckpkfaa
