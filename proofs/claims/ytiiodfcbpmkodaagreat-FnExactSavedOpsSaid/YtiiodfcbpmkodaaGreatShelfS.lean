/- Contracts of the library's sort, laid at this program by the kit's own tool, in plain words. No condition. -/
import Derived.Shelf.SortG.Plain
import Derived.Shelf.SortG.SortNone
import Derived.Ground.SlgnProg
import Derived.Test.YtiiodfcbpmkodaaGreatProg
namespace Go.Proofs.YtiiodfcbpmkodaaGreat
open Go.Proofs
open Go.Shelf
def Tryz.laysSort_ren : Go.Shelf.Ren := ⟨fun | 53 => 83 | 64 => 93 | 63 => 92 | 78 => 105 | 79 => 106 | 70 => 96 | 71 => 97 | 72 => 98 | 73 => 99 | 74 => 100 | 75 => 101 | 59 => 102 | 76 => 103 | 77 => 104 | 88 => 107 | 89 => 108 | 90 => 109 | 91 => 110 | 92 => 111 | 68 => 112 | 96 => 113 | n => n, fun | 22 => 34 | 23 => 2 | 3 => 3 | 51 => 115 | 0 => 0 | 67 => 127 | 69 => 129 | 4 => 4 | 61 => 119 | 60 => 118 | 44 => 124 | 5 => 5 | 9 => 9 | 75 => 130 | 79 => 134 | 83 => 136 | 84 => 137 | n => n, fun | n => n⟩
theorem Tryz.laysSort : Go.Proofs.SlLaysN.n53 Tryz.prog Tryz.laysSort_ren := {
  mixed := by kernel_rfl
  f53 := ⟨Tryz.f83.name, by decide, Tryz.func83.trans (congrArg some (by kernel_rfl))⟩
  f59 := ⟨Tryz.f102.name, by decide, Tryz.func102.trans (congrArg some (by kernel_rfl))⟩
  f63 := ⟨Tryz.f92.name, by decide, Tryz.func92.trans (congrArg some (by kernel_rfl))⟩
  f64 := Tryz.func93.trans (congrArg some (by kernel_rfl))
  f68 := ⟨Tryz.f112.name, by decide, Tryz.func112.trans (congrArg some (by kernel_rfl))⟩
  f70 := ⟨Tryz.f96.name, by decide, Tryz.func96.trans (congrArg some (by kernel_rfl))⟩
  f71 := ⟨Tryz.f97.name, by decide, Tryz.func97.trans (congrArg some (by kernel_rfl))⟩
  f72 := ⟨Tryz.f98.name, by decide, Tryz.func98.trans (congrArg some (by kernel_rfl))⟩
  f73 := ⟨Tryz.f99.name, by decide, Tryz.func99.trans (congrArg some (by kernel_rfl))⟩
  f74 := ⟨Tryz.f100.name, by decide, Tryz.func100.trans (congrArg some (by kernel_rfl))⟩
  f75 := ⟨Tryz.f101.name, by decide, Tryz.func101.trans (congrArg some (by kernel_rfl))⟩
  f76 := ⟨Tryz.f103.name, by decide, Tryz.func103.trans (congrArg some (by kernel_rfl))⟩
  f77 := ⟨Tryz.f104.name, by decide, Tryz.func104.trans (congrArg some (by kernel_rfl))⟩
  f78 := Tryz.func105.trans (congrArg some (by kernel_rfl))
  f79 := Tryz.func106.trans (congrArg some (by kernel_rfl))
  f88 := ⟨Tryz.f107.name, by decide, Tryz.func107.trans (congrArg some (by kernel_rfl))⟩
  f89 := Tryz.func108.trans (congrArg some (by kernel_rfl))
  f90 := Tryz.func109.trans (congrArg some (by kernel_rfl))
  f91 := ⟨Tryz.f110.name, by decide, Tryz.func110.trans (congrArg some (by kernel_rfl))⟩
  f92 := ⟨Tryz.f111.name, by decide, Tryz.func111.trans (congrArg some (by kernel_rfl))⟩
  f96 := ⟨Tryz.f113.name, by decide, Tryz.func113.trans (congrArg some (by kernel_rfl))⟩
  t0 := Tryz.underlying0
  a0 := Tryz.isAgg0
  z0 := Tryz.sizeOf0
  v0 := Tryz.zeroValue0
  t3 := Tryz.underlying3
  a3 := Tryz.isAgg3
  z3 := Tryz.sizeOf3
  v3 := Tryz.zeroValue3
  t4 := Tryz.underlying4
  a4 := Tryz.isAgg4
  z4 := Tryz.sizeOf4
  v4 := Tryz.zeroValue4
  t5 := Tryz.underlying5
  a5 := Tryz.isAgg5
  z5 := Tryz.sizeOf5
  v5 := Tryz.zeroValue5
  t9 := Tryz.underlying9
  a9 := Tryz.isAgg9
  z9 := Tryz.sizeOf9
  v9 := Tryz.zeroValue9
  t22 := Tryz.underlying34
  a22 := Tryz.isAgg34
  z22 := Tryz.sizeOf34
  v22 := Tryz.zeroValue34
  t23 := Tryz.underlying2
  a23 := Tryz.isAgg2
  z23 := Tryz.sizeOf2
  v23 := Tryz.zeroValue2
  t44 := Tryz.underlying124
  a44 := Tryz.isAgg124
  z44 := Tryz.sizeOf124
  v44 := Tryz.zeroValue124
  t51 := Tryz.underlying115
  a51 := Tryz.isAgg115
  z51 := Tryz.sizeOf115
  v51 := Tryz.zeroValue115
  t60 := Tryz.underlying118
  a60 := Tryz.isAgg118
  z60 := Tryz.sizeOf118
  v60 := Tryz.zeroValue118
  t61 := Tryz.underlying119
  a61 := Tryz.isAgg119
  z61 := Tryz.sizeOf119
  v61 := Tryz.zeroValue119
  t67 := Tryz.underlying127
  a67 := Tryz.isAgg127
  z67 := Tryz.sizeOf127
  v67 := Tryz.zeroValue127
  t69 := Tryz.underlying129
  a69 := Tryz.isAgg129
  z69 := Tryz.sizeOf129
  v69 := Tryz.zeroValue129
  t75 := Tryz.underlying130
  a75 := Tryz.isAgg130
  z75 := Tryz.sizeOf130
  v75 := Tryz.zeroValue130
  t79 := Tryz.underlying134
  a79 := Tryz.isAgg134
  z79 := Tryz.sizeOf134
  v79 := Tryz.zeroValue134
  t83 := Tryz.underlying136
  a83 := Tryz.isAgg136
  z83 := Tryz.sizeOf136
  v83 := Tryz.zeroValue136
  t84 := Tryz.underlying137
  a84 := Tryz.isAgg137
  z84 := Tryz.sizeOf137
  v84 := Tryz.zeroValue137 }
open Go.Lib in
theorem Tryz.slices_Sort_int (blk off cap : Nat) (zs : List Int) (w : World) (hH : Go.Sort.Holds (Value.int .i64) w blk off zs.toArray) (hblk : blk < w.heap.size) (hsz : zs.length < 4611686018427387904) :
    Calls Tryz.prog 83 #[.slice (some ⟨blk, off, none⟩) zs.length cap] w fun e w' =>
      e = .returned (.tuple #[]) ∧ ∃ n os, w' = Go.Sort.grow (Go.Sort.putRow (Value.int .i64) (Go.Sort.ahead w n) blk off (zs.mergeSort fun x y => decide (x ≤ y)).toArray) os := AnyG.slices_Sort_int Tryz.laysSort blk off cap zs w hH hblk hsz
open Go.Lib in
theorem Tryz.slices_Sort_int_none (p : Option Addr) (cap : Nat) (w : World) :
    Calls Tryz.prog 83 #[.slice p 0 cap] w fun e w' => e = .returned (.tuple #[]) ∧ w' = w := AnyG.slices_Sort_int_none Tryz.laysSort p cap w
end Go.Proofs.YtiiodfcbpmkodaaGreat
