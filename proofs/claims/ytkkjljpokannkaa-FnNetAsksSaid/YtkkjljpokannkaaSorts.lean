/- slices.Sort and slices.Compact over ints, laid off the library of contracts at this program. -/
import Derived.Shelf.Sort.Plain
import Derived.Ground.Names2Prog
import Derived.Shelf.Slices.CompactI
import Derived.Shelf.Slices.In.SortNone
import Derived.Test.YtkkjljpokannkaaProg
namespace Go.Proofs
open Go.Shelf
def Try.lays189_ren : Go.Shelf.Ren := ⟨fun | 189 => 143 | 125 => 203 | 257 => 202 | 128 => 231 | 129 => 232 | 294 => 222 | 295 => 223 | 296 => 224 | 297 => 225 | 298 => 226 | 299 => 227 | 216 => 228 | 300 => 229 | 301 => 230 | 328 => 240 | 329 => 241 | 330 => 242 | 331 => 243 | 332 => 244 | 215 => 245 | 343 => 250 | n => n, fun | 28 => 23 | 3 => 3 | 46 => 207 | 0 => 0 | 51 => 235 | 53 => 237 | 4 => 4 | 183 => 230 | 182 => 229 | 131 => 186 | 5 => 5 | 9 => 9 | 218 => 242 | 222 => 246 | 228 => 252 | 229 => 183 | n => n, fun | n => n⟩
theorem Try.lays189 : Go.Proofs.Lays.n189 Try.prog Try.lays189_ren := {
  mixed := by kernel_rfl
  f125 := Try.func203.trans (congrArg some (by kernel_rfl))
  f128 := Try.func231.trans (congrArg some (by kernel_rfl))
  f129 := Try.func232.trans (congrArg some (by kernel_rfl))
  f189 := Try.func143.trans (congrArg some (by kernel_rfl))
  f215 := Try.func245.trans (congrArg some (by kernel_rfl))
  f216 := Try.func228.trans (congrArg some (by kernel_rfl))
  f257 := Try.func202.trans (congrArg some (by kernel_rfl))
  f294 := Try.func222.trans (congrArg some (by kernel_rfl))
  f295 := Try.func223.trans (congrArg some (by kernel_rfl))
  f296 := Try.func224.trans (congrArg some (by kernel_rfl))
  f297 := Try.func225.trans (congrArg some (by kernel_rfl))
  f298 := Try.func226.trans (congrArg some (by kernel_rfl))
  f299 := Try.func227.trans (congrArg some (by kernel_rfl))
  f300 := Try.func229.trans (congrArg some (by kernel_rfl))
  f301 := Try.func230.trans (congrArg some (by kernel_rfl))
  f328 := Try.func240.trans (congrArg some (by kernel_rfl))
  f329 := Try.func241.trans (congrArg some (by kernel_rfl))
  f330 := Try.func242.trans (congrArg some (by kernel_rfl))
  f331 := Try.func243.trans (congrArg some (by kernel_rfl))
  f332 := Try.func244.trans (congrArg some (by kernel_rfl))
  f343 := Try.func250.trans (congrArg some (by kernel_rfl))
  t0 := Try.underlying0
  a0 := Try.isAgg0
  z0 := Try.sizeOf0
  v0 := Try.zeroValue0
  t3 := Try.underlying3
  a3 := Try.isAgg3
  z3 := Try.sizeOf3
  v3 := Try.zeroValue3
  t4 := Try.underlying4
  a4 := Try.isAgg4
  z4 := Try.sizeOf4
  v4 := Try.zeroValue4
  t5 := Try.underlying5
  a5 := Try.isAgg5
  z5 := Try.sizeOf5
  v5 := Try.zeroValue5
  t9 := Try.underlying9
  a9 := Try.isAgg9
  z9 := Try.sizeOf9
  v9 := Try.zeroValue9
  t28 := Try.underlying23
  a28 := Try.isAgg23
  z28 := Try.sizeOf23
  v28 := Try.zeroValue23
  t46 := Try.underlying207
  a46 := Try.isAgg207
  z46 := Try.sizeOf207
  v46 := Try.zeroValue207
  t51 := Try.underlying235
  a51 := Try.isAgg235
  z51 := Try.sizeOf235
  v51 := Try.zeroValue235
  t53 := Try.underlying237
  a53 := Try.isAgg237
  z53 := Try.sizeOf237
  v53 := Try.zeroValue237
  t131 := Try.underlying186
  a131 := Try.isAgg186
  z131 := Try.sizeOf186
  v131 := Try.zeroValue186
  t182 := Try.underlying229
  a182 := Try.isAgg229
  z182 := Try.sizeOf229
  v182 := Try.zeroValue229
  t183 := Try.underlying230
  a183 := Try.isAgg230
  z183 := Try.sizeOf230
  v183 := Try.zeroValue230
  t218 := Try.underlying242
  a218 := Try.isAgg242
  z218 := Try.sizeOf242
  v218 := Try.zeroValue242
  t222 := Try.underlying246
  a222 := Try.isAgg246
  z222 := Try.sizeOf246
  v222 := Try.zeroValue246
  t228 := Try.underlying252
  a228 := Try.isAgg252
  z228 := Try.sizeOf252
  v228 := Try.zeroValue252
  t229 := Try.underlying183
  a229 := Try.isAgg183
  z229 := Try.sizeOf183
  v229 := Try.zeroValue183 }
open Go.Sort Go.RowKit in
theorem Try.slices_Sort_int (blk off cap : Nat) (zs : List Int) (w : World) (hH : Holds (Value.int .i64) w blk off zs.toArray) (hblk : blk < w.heap.size) (hsz : zs.length < 4611686018427387904) :
    Calls Try.prog 143 #[.slice (some ⟨blk, off, none⟩) zs.length cap] w fun e w' =>
      e = .returned (.tuple #[]) ∧ ∃ n os, w' = grow (putRow (Value.int .i64) (Sort.ahead w n) blk off (zs.mergeSort fun x y => decide (x ≤ y)).toArray) os := Any.slices_Sort_int Try.lays189 blk off cap zs w hH hblk hsz
def Try.laysNm220_ren : Go.Shelf.Ren := ⟨fun | 20 => 144 | n => n, fun | 22 => 23 | 3 => 3 | 4 => 4 | 0 => 0 | n => n, fun | n => n⟩
theorem Try.laysNm220 : Go.Proofs.Lays2.n20 Try.prog Try.laysNm220_ren := {
  mixed := by kernel_rfl
  f20 := Try.func144.trans (congrArg some (by kernel_rfl))
  t0 := Try.underlying0
  a0 := Try.isAgg0
  z0 := Try.sizeOf0
  v0 := Try.zeroValue0
  t3 := Try.underlying3
  a3 := Try.isAgg3
  z3 := Try.sizeOf3
  v3 := Try.zeroValue3
  t4 := Try.underlying4
  a4 := Try.isAgg4
  z4 := Try.sizeOf4
  v4 := Try.zeroValue4
  t22 := Try.underlying23
  a22 := Try.isAgg23
  z22 := Try.sizeOf23
  v22 := Try.zeroValue23
  i3 := by kernel_rfl }
open Go.RowKit Go.Lib Go.Sort in
theorem Try.slices_Compact_int (blk off cap : Nat) (zs : List Int) (w : World) (hH : Holds (Value.int .i64) w blk off zs.toArray) (hsz : zs.length ≤ 9223372036854775807) (hcap : zs.length ≤ cap) :
    Calls Try.prog 144 #[.slice (some ⟨blk, off, none⟩) zs.length cap] w fun e w' => e = .returned (.slice (some ⟨blk, off, none⟩) (Lib.compact zs).length cap) ∧ ∃ q, w' = putRow (Value.int .i64) (Sort.ahead w q) blk off (Lib.compact zs ++ List.replicate (zs.length - (Lib.compact zs).length) 0).toArray := Any.slices_Compact_int Try.laysNm220 blk off cap zs w hH hsz hcap
open Go.RowKit Go.Lib Go.Sort in
theorem Try.slices_Compact_int_empty (a : Option Addr) (cap : Nat) (w : World) :
    Calls Try.prog 144 #[.slice a 0 cap] w fun e w' => e = .returned (.slice a 0 cap) ∧ w' = w := Any.slices_Compact_int_empty Try.laysNm220 a cap w
open Go.RowKit Go.Sort in
theorem Try.slices_Sort_int_none (p : Option Addr) (cap : Nat) (w : World) :
    Calls Try.prog 143 #[.slice p 0 cap] w fun e w' => e = .returned (.tuple #[]) ∧ w' = w := Any.slices_Sort_int_none Try.lays189 p cap w
end Go.Proofs
