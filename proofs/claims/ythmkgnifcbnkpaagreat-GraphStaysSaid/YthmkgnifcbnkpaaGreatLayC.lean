/- The library's contracts laid at this program: which function, which type bears which number. -/
import Derived.Shelf.SlicesE.Clone
import Derived.Shelf.SlicesE.Compact
import Derived.Test.YthmkgnifcbnkpaaGreatProg
namespace Go.Proofs.YthmkgnifcbnkpaaGreat
open Go.Shelf
def ren_cloneS : Go.Shelf.Ren := ⟨fun | 0 => 0 | 1 => 1 | 2 => 2 | 33 => 50 | 41 => 67 | 43 => 100 | 53 => 99 | 59 => 132 | 63 => 118 | 64 => 119 | 68 => 160 | 70 => 126 | 71 => 127 | 72 => 128 | 73 => 129 | 74 => 130 | 75 => 131 | 76 => 133 | 77 => 134 | 78 => 135 | 79 => 136 | 88 => 155 | 89 => 156 | 90 => 157 | 91 => 158 | 92 => 159 | 96 => 168 | 98 => 172 | 99 => 173 | 100 => 174 | 101 => 175 | 102 => 176 | 103 => 177 | 104 => 178 | 105 => 179 | 106 => 180 | 107 => 181 | 108 => 182 | 109 => 183 | 110 => 184 | 111 => 185 | 112 => 186 | 113 => 189 | n => n, fun | 0 => 0 | 1 => 1 | 2 => 2 | 3 => 3 | 4 => 4 | 5 => 5 | 6 => 6 | 7 => 7 | 8 => 8 | 9 => 9 | 10 => 10 | 11 => 11 | 12 => 12 | 13 => 13 | 14 => 14 | 15 => 15 | 16 => 16 | 17 => 17 | 18 => 18 | 19 => 19 | 20 => 20 | 21 => 21 | 22 => 22 | 23 => 9 | 28 => 132 | 30 => 48 | 32 => 133 | 36 => 99 | 44 => 103 | 51 => 138 | 52 => 159 | 53 => 31 | 56 => 145 | 57 => 146 | 59 => 154 | 60 => 155 | 61 => 156 | 62 => 157 | 63 => 158 | 64 => 160 | 65 => 161 | 66 => 162 | 67 => 163 | 68 => 164 | 69 => 165 | 75 => 178 | 76 => 179 | 77 => 180 | 78 => 181 | 79 => 182 | 80 => 183 | 83 => 188 | 84 => 189 | 85 => 190 | 87 => 130 | 88 => 194 | 89 => 195 | 90 => 196 | 91 => 197 | 92 => 198 | 93 => 199 | 94 => 200 | 95 => 201 | 96 => 202 | 97 => 144 | 98 => 203 | 99 => 204 | 100 => 205 | 101 => 206 | 102 => 152 | n => n, fun n => n⟩
theorem cloneS : SlLaysE0.n41 Tryz.prog ren_cloneS := {
  mixed := (by kernel_rfl)
  f41 := ⟨Tryz.f67.name, by decide, Tryz.func67.trans (congrArg some (by kernel_rfl))⟩
  t4 := Tryz.underlying4
  a4 := Tryz.isAgg4
  z4 := Tryz.sizeOf4
  v4 := Tryz.zeroValue4
  t22 := Tryz.underlying22
  a22 := Tryz.isAgg22
  z22 := Tryz.sizeOf22
  v22 := Tryz.zeroValue22 }
theorem compactS : SlLaysE.n43 Tryz.prog ren_cloneS := {
  mixed := (by kernel_rfl)
  f43 := ⟨Tryz.f100.name, by decide, Tryz.func100.trans (congrArg some (by kernel_rfl))⟩
  t0 := Tryz.underlying0
  a0 := Tryz.isAgg0
  z0 := Tryz.sizeOf0
  v0 := Tryz.zeroValue0
  t3 := Tryz.underlying3
  a3 := Tryz.isAgg3
  z3 := Tryz.sizeOf3
  v3 := Tryz.zeroValue3
  t4 := Tryz.underlying4
  a4 := Tryz.isAgg4
  z4 := Tryz.sizeOf4
  v4 := Tryz.zeroValue4
  t22 := Tryz.underlying22
  a22 := Tryz.isAgg22
  z22 := Tryz.sizeOf22
  v22 := Tryz.zeroValue22
  a23 := Tryz.isAgg9
  z23 := Tryz.sizeOf9 }
def ren_cloneE : Go.Shelf.Ren := ⟨fun | 0 => 0 | 1 => 1 | 2 => 2 | 33 => 51 | 41 => 113 | 43 => 115 | 64 => 119 | 78 => 135 | 79 => 136 | 89 => 156 | 90 => 157 | 98 => 172 | 99 => 173 | 100 => 174 | 101 => 175 | 102 => 176 | 103 => 177 | 104 => 178 | 105 => 179 | 106 => 180 | 107 => 181 | 108 => 182 | 109 => 183 | 110 => 184 | 111 => 185 | 112 => 186 | 113 => 189 | n => n, fun | 0 => 0 | 1 => 1 | 2 => 2 | 3 => 3 | 4 => 4 | 5 => 5 | 6 => 6 | 7 => 7 | 8 => 8 | 9 => 9 | 10 => 10 | 11 => 11 | 12 => 12 | 13 => 13 | 14 => 14 | 15 => 15 | 16 => 16 | 17 => 17 | 18 => 18 | 19 => 19 | 20 => 20 | 21 => 21 | 22 => 23 | 23 => 39 | 30 => 81 | 36 => 115 | 44 => 103 | 51 => 138 | 52 => 131 | 57 => 146 | 60 => 155 | 61 => 156 | 66 => 162 | 67 => 163 | 68 => 164 | 69 => 165 | 75 => 178 | 76 => 179 | 77 => 180 | 79 => 182 | 83 => 188 | 84 => 189 | 87 => 130 | 88 => 194 | 89 => 195 | 90 => 196 | 91 => 197 | 92 => 198 | 93 => 199 | 94 => 200 | 95 => 201 | 96 => 202 | 97 => 144 | 98 => 203 | 99 => 204 | 100 => 205 | 101 => 206 | 102 => 152 | n => n, fun n => n⟩
theorem cloneE : SlLaysE0.n41 Tryz.prog ren_cloneE := {
  mixed := (by kernel_rfl)
  f41 := ⟨Tryz.f113.name, by decide, Tryz.func113.trans (congrArg some (by kernel_rfl))⟩
  t4 := Tryz.underlying4
  a4 := Tryz.isAgg4
  z4 := Tryz.sizeOf4
  v4 := Tryz.zeroValue4
  t22 := Tryz.underlying23
  a22 := Tryz.isAgg23
  z22 := Tryz.sizeOf23
  v22 := Tryz.zeroValue23 }
end Go.Proofs.YthmkgnifcbnkpaaGreat
