/- The library's contracts laid at this program: which function, which type bears which number. -/
import Derived.Shelf.SlicesE.Clone
import Derived.Shelf.SlicesE.Compact
import Derived.Test.YthmkgnifcbnkpaaProg
namespace Go.Proofs.Ythmkgnifcbnkpaa
open Go.Shelf
def ren_cloneS : Go.Shelf.Ren := ⟨fun | 0 => 0 | 1 => 1 | 2 => 2 | 33 => 20 | 41 => 40 | 43 => 49 | 53 => 48 | 59 => 66 | 63 => 56 | 64 => 57 | 68 => 92 | 70 => 60 | 71 => 61 | 72 => 62 | 73 => 63 | 74 => 64 | 75 => 65 | 76 => 67 | 77 => 68 | 78 => 69 | 79 => 70 | 88 => 87 | 89 => 88 | 90 => 89 | 91 => 90 | 92 => 91 | 96 => 99 | 98 => 102 | 99 => 103 | 100 => 104 | 101 => 105 | 102 => 106 | 103 => 107 | 104 => 108 | 105 => 109 | 106 => 110 | 107 => 111 | 108 => 112 | 109 => 113 | 110 => 114 | 111 => 115 | 112 => 116 | 113 => 119 | n => n, fun | 0 => 0 | 1 => 1 | 2 => 2 | 3 => 3 | 4 => 4 | 5 => 5 | 6 => 6 | 7 => 7 | 8 => 8 | 9 => 9 | 10 => 10 | 11 => 11 | 12 => 12 | 13 => 13 | 14 => 14 | 15 => 15 | 16 => 16 | 17 => 17 | 18 => 18 | 19 => 19 | 20 => 20 | 21 => 21 | 22 => 22 | 23 => 9 | 30 => 55 | 32 => 84 | 36 => 78 | 44 => 103 | 51 => 93 | 52 => 101 | 53 => 32 | 56 => 91 | 57 => 92 | 59 => 96 | 60 => 97 | 61 => 98 | 62 => 99 | 63 => 100 | 64 => 102 | 65 => 104 | 66 => 105 | 67 => 106 | 68 => 107 | 69 => 108 | 75 => 119 | 76 => 120 | 77 => 121 | 78 => 122 | 79 => 123 | 80 => 124 | 83 => 129 | 84 => 130 | 85 => 131 | 87 => 71 | 88 => 134 | 89 => 135 | 90 => 136 | 91 => 137 | 92 => 138 | 93 => 139 | 94 => 140 | 95 => 141 | 96 => 142 | 97 => 81 | 98 => 143 | 99 => 144 | 100 => 145 | 101 => 146 | 102 => 88 | n => n, fun n => n⟩
theorem cloneS : SlLaysE0.n41 Try.prog ren_cloneS := {
  mixed := (by kernel_rfl)
  f41 := ⟨Try.f40.name, by decide, Try.func40.trans (congrArg some (by kernel_rfl))⟩
  t4 := Try.underlying4
  a4 := Try.isAgg4
  z4 := Try.sizeOf4
  v4 := Try.zeroValue4
  t22 := Try.underlying22
  a22 := Try.isAgg22
  z22 := Try.sizeOf22
  v22 := Try.zeroValue22 }
theorem compactS : SlLaysE.n43 Try.prog ren_cloneS := {
  mixed := (by kernel_rfl)
  f43 := ⟨Try.f49.name, by decide, Try.func49.trans (congrArg some (by kernel_rfl))⟩
  t0 := Try.underlying0
  a0 := Try.isAgg0
  z0 := Try.sizeOf0
  v0 := Try.zeroValue0
  t3 := Try.underlying3
  a3 := Try.isAgg3
  z3 := Try.sizeOf3
  v3 := Try.zeroValue3
  t4 := Try.underlying4
  a4 := Try.isAgg4
  z4 := Try.sizeOf4
  v4 := Try.zeroValue4
  t22 := Try.underlying22
  a22 := Try.isAgg22
  z22 := Try.sizeOf22
  v22 := Try.zeroValue22
  a23 := Try.isAgg9
  z23 := Try.sizeOf9 }
def ren_cloneE : Go.Shelf.Ren := ⟨fun | 0 => 0 | 1 => 1 | 2 => 2 | 33 => 21 | 41 => 51 | 43 => 53 | 64 => 57 | 78 => 69 | 79 => 70 | 89 => 88 | 90 => 89 | 98 => 102 | 99 => 103 | 100 => 104 | 101 => 105 | 102 => 106 | 103 => 107 | 104 => 108 | 105 => 109 | 106 => 110 | 107 => 111 | 108 => 112 | 109 => 113 | 110 => 114 | 111 => 115 | 112 => 116 | 113 => 119 | n => n, fun | 0 => 0 | 1 => 1 | 2 => 2 | 3 => 3 | 4 => 4 | 5 => 5 | 6 => 6 | 7 => 7 | 8 => 8 | 9 => 9 | 10 => 10 | 11 => 11 | 12 => 12 | 13 => 13 | 14 => 14 | 15 => 15 | 16 => 16 | 17 => 17 | 18 => 18 | 19 => 19 | 20 => 20 | 21 => 21 | 22 => 23 | 23 => 58 | 30 => 56 | 36 => 86 | 44 => 103 | 51 => 93 | 57 => 92 | 60 => 97 | 61 => 98 | 66 => 105 | 67 => 106 | 68 => 107 | 69 => 108 | 75 => 119 | 76 => 120 | 77 => 121 | 79 => 123 | 83 => 129 | 84 => 130 | 87 => 71 | 88 => 134 | 89 => 135 | 90 => 136 | 91 => 137 | 92 => 138 | 93 => 139 | 94 => 140 | 95 => 141 | 96 => 142 | 97 => 81 | 98 => 143 | 99 => 144 | 100 => 145 | 101 => 146 | 102 => 88 | n => n, fun n => n⟩
theorem cloneE : SlLaysE0.n41 Try.prog ren_cloneE := {
  mixed := (by kernel_rfl)
  f41 := ⟨Try.f51.name, by decide, Try.func51.trans (congrArg some (by kernel_rfl))⟩
  t4 := Try.underlying4
  a4 := Try.isAgg4
  z4 := Try.sizeOf4
  v4 := Try.zeroValue4
  t22 := Try.underlying23
  a22 := Try.isAgg23
  z22 := Try.sizeOf23
  v22 := Try.zeroValue23 }
end Go.Proofs.Ythmkgnifcbnkpaa
