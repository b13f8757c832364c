/- Contracts of the library's sort, laid at this program by the kit's own tool, in plain words. No condition. -/
import Derived.Shelf.SortG.Plain
import Derived.Shelf.SortG.SortNone
import Derived.Ground.SlgnProg
import Derived.Test.YtiiodfcbpmkodaaProg
set_option linter.unusedSimpArgs false
set_option linter.unusedVariables false
namespace Go.Proofs.Ytiiodfcbpmkodaa
open Go.Proofs
open Go.Shelf
def Try.laysSort_ren : Go.Shelf.Ren := ⟨fun | 53 => 149 | 64 => 161 | 63 => 160 | 78 => 173 | 79 => 174 | 70 => 164 | 71 => 165 | 72 => 166 | 73 => 167 | 74 => 168 | 75 => 169 | 59 => 170 | 76 => 171 | 77 => 172 | 88 => 175 | 89 => 176 | 90 => 177 | 91 => 178 | 92 => 179 | 68 => 180 | 96 => 181 | n => n, fun | 22 => 48 | 23 => 2 | 3 => 3 | 51 => 188 | 0 => 0 | 67 => 200 | 69 => 202 | 4 => 4 | 61 => 192 | 60 => 191 | 44 => 197 | 5 => 5 | 9 => 9 | 75 => 203 | 79 => 207 | 83 => 209 | 84 => 210 | n => n, fun | n => n⟩
theorem Try.laysSort : Go.Proofs.SlLaysN.n53 Try.prog Try.laysSort_ren := {
  mixed := by kernel_rfl
  f53 := ⟨Try.f149.name, by decide, Try.func149.trans (congrArg some (by kernel_rfl))⟩
  f59 := ⟨Try.f170.name, by decide, Try.func170.trans (congrArg some (by kernel_rfl))⟩
  f63 := ⟨Try.f160.name, by decide, Try.func160.trans (congrArg some (by kernel_rfl))⟩
  f64 := Try.func161.trans (congrArg some (by kernel_rfl))
  f68 := ⟨Try.f180.name, by decide, Try.func180.trans (congrArg some (by kernel_rfl))⟩
  f70 := ⟨Try.f164.name, by decide, Try.func164.trans (congrArg some (by kernel_rfl))⟩
  f71 := ⟨Try.f165.name, by decide, Try.func165.trans (congrArg some (by kernel_rfl))⟩
  f72 := ⟨Try.f166.name, by decide, Try.func166.trans (congrArg some (by kernel_rfl))⟩
  f73 := ⟨Try.f167.name, by decide, Try.func167.trans (congrArg some (by kernel_rfl))⟩
  f74 := ⟨Try.f168.name, by decide, Try.func168.trans (congrArg some (by kernel_rfl))⟩
  f75 := ⟨Try.f169.name, by decide, Try.func169.trans (congrArg some (by kernel_rfl))⟩
  f76 := ⟨Try.f171.name, by decide, Try.func171.trans (congrArg some (by kernel_rfl))⟩
  f77 := ⟨Try.f172.name, by decide, Try.func172.trans (congrArg some (by kernel_rfl))⟩
  f78 := Try.func173.trans (congrArg some (by kernel_rfl))
  f79 := Try.func174.trans (congrArg some (by kernel_rfl))
  f88 := ⟨Try.f175.name, by decide, Try.func175.trans (congrArg some (by kernel_rfl))⟩
  f89 := Try.func176.trans (congrArg some (by kernel_rfl))
  f90 := Try.func177.trans (congrArg some (by kernel_rfl))
  f91 := ⟨Try.f178.name, by decide, Try.func178.trans (congrArg some (by kernel_rfl))⟩
  f92 := ⟨Try.f179.name, by decide, Try.func179.trans (congrArg some (by kernel_rfl))⟩
  f96 := ⟨Try.f181.name, by decide, Try.func181.trans (congrArg some (by kernel_rfl))⟩
  t0 := Try.underlying0
  a0 := Try.isAgg0
  z0 := Try.sizeOf0
  v0 := Try.zeroValue0
  t3 := Try.underlying3
  a3 := Try.isAgg3
  z3 := Try.sizeOf3
  v3 := Try.zeroValue3
  t4 := Try.underlying4
  a4 := Try.isAgg4
  z4 := Try.sizeOf4
  v4 := Try.zeroValue4
  t5 := Try.underlying5
  a5 := Try.isAgg5
  z5 := Try.sizeOf5
  v5 := Try.zeroValue5
  t9 := Try.underlying9
  a9 := Try.isAgg9
  z9 := Try.sizeOf9
  v9 := Try.zeroValue9
  t22 := Try.underlying48
  a22 := Try.isAgg48
  z22 := Try.sizeOf48
  v22 := Try.zeroValue48
  t23 := Try.underlying2
  a23 := Try.isAgg2
  z23 := Try.sizeOf2
  v23 := Try.zeroValue2
  t44 := Try.underlying197
  a44 := Try.isAgg197
  z44 := Try.sizeOf197
  v44 := Try.zeroValue197
  t51 := Try.underlying188
  a51 := Try.isAgg188
  z51 := Try.sizeOf188
  v51 := Try.zeroValue188
  t60 := Try.underlying191
  a60 := Try.isAgg191
  z60 := Try.sizeOf191
  v60 := Try.zeroValue191
  t61 := Try.underlying192
  a61 := Try.isAgg192
  z61 := Try.sizeOf192
  v61 := Try.zeroValue192
  t67 := Try.underlying200
  a67 := Try.isAgg200
  z67 := Try.sizeOf200
  v67 := Try.zeroValue200
  t69 := Try.underlying202
  a69 := Try.isAgg202
  z69 := Try.sizeOf202
  v69 := Try.zeroValue202
  t75 := Try.underlying203
  a75 := Try.isAgg203
  z75 := Try.sizeOf203
  v75 := Try.zeroValue203
  t79 := Try.underlying207
  a79 := Try.isAgg207
  z79 := Try.sizeOf207
  v79 := Try.zeroValue207
  t83 := Try.underlying209
  a83 := Try.isAgg209
  z83 := Try.sizeOf209
  v83 := Try.zeroValue209
  t84 := Try.underlying210
  a84 := Try.isAgg210
  z84 := Try.sizeOf210
  v84 := Try.zeroValue210 }
open Go.Lib in
theorem Try.slices_Sort_int (blk off cap : Nat) (zs : List Int) (w : World) (hH : Go.Sort.Holds (Value.int .i64) w blk off zs.toArray) (hblk : blk < w.heap.size) (hsz : zs.length < 4611686018427387904) :
    Calls Try.prog 149 #[.slice (some ⟨blk, off, none⟩) zs.length cap] w fun e w' =>
      e = .returned (.tuple #[]) ∧ ∃ n os, w' = Go.Sort.grow (Go.Sort.putRow (Value.int .i64) (Go.Sort.ahead w n) blk off (zs.mergeSort fun x y => decide (x ≤ y)).toArray) os := AnyG.slices_Sort_int Try.laysSort blk off cap zs w hH hblk hsz
open Go.Lib in
theorem Try.slices_Sort_int_none (p : Option Addr) (cap : Nat) (w : World) :
    Calls Try.prog 149 #[.slice p 0 cap] w fun e w' => e = .returned (.tuple #[]) ∧ w' = w := AnyG.slices_Sort_int_none Try.laysSort p cap w
end Go.Proofs.Ytiiodfcbpmkodaa
