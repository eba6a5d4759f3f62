/- Contracts of Go's library: the kit's, laid at this program by the kit's own program. No condition. -/
import Derived.Shelf.Sort.Plain
import Derived.Shelf.Slices.CompactS
import Derived.Shelf.Slices.Cells
import Derived.Shelf.Slices.In.SortNone
import Derived.Ground.SlgnProg
import Derived.Shelf.SlicesG.Turned
import Derived.Shelf.SlicesG.CompactI
import Derived.Shelf.SlicesG.SearchI
import Derived.Test.YtencfmipplgnkaaProg
namespace Go.Proofs.Ytencfmipplgnkaa
open Go.Proofs Go.Shelf Go.Sort Go.RowKit Go.Lib
def sh_lays190_ren : Go.Shelf.Ren := ⟨fun | 190 => 77 | 125 => 124 | 258 => 123 | 128 => 163 | 129 => 164 | 302 => 154 | 303 => 155 | 304 => 156 | 305 => 157 | 306 => 158 | 307 => 159 | 308 => 160 | 309 => 161 | 310 => 162 | 333 => 194 | 329 => 195 | 330 => 196 | 334 => 197 | 335 => 198 | 336 => 199 | 344 => 210 | n => n, fun | 31 => 89 | 9 => 9 | 3 => 3 | 46 => 123 | 0 => 0 | 51 => 158 | 53 => 160 | 4 => 4 | 183 => 151 | 182 => 150 | 131 => 155 | 5 => 5 | 218 => 184 | 222 => 188 | 228 => 198 | 229 => 199 | n => n, fun | n => n⟩
theorem sh_lays190 : Go.Proofs.Lays.n190 Try.prog sh_lays190_ren := {
  mixed := by kernel_rfl
  f125 := Try.func124.trans (congrArg some (by kernel_rfl))
  f128 := Try.func163.trans (congrArg some (by kernel_rfl))
  f129 := Try.func164.trans (congrArg some (by kernel_rfl))
  f190 := Try.func77.trans (congrArg some (by kernel_rfl))
  f258 := Try.func123.trans (congrArg some (by kernel_rfl))
  f302 := Try.func154.trans (congrArg some (by kernel_rfl))
  f303 := Try.func155.trans (congrArg some (by kernel_rfl))
  f304 := Try.func156.trans (congrArg some (by kernel_rfl))
  f305 := Try.func157.trans (congrArg some (by kernel_rfl))
  f306 := Try.func158.trans (congrArg some (by kernel_rfl))
  f307 := Try.func159.trans (congrArg some (by kernel_rfl))
  f308 := Try.func160.trans (congrArg some (by kernel_rfl))
  f309 := Try.func161.trans (congrArg some (by kernel_rfl))
  f310 := Try.func162.trans (congrArg some (by kernel_rfl))
  f329 := Try.func195.trans (congrArg some (by kernel_rfl))
  f330 := Try.func196.trans (congrArg some (by kernel_rfl))
  f333 := Try.func194.trans (congrArg some (by kernel_rfl))
  f334 := Try.func197.trans (congrArg some (by kernel_rfl))
  f335 := Try.func198.trans (congrArg some (by kernel_rfl))
  f336 := Try.func199.trans (congrArg some (by kernel_rfl))
  f344 := Try.func210.trans (congrArg some (by kernel_rfl))
  t0 := Try.underlying0
  a0 := Try.isAgg0
  z0 := Try.sizeOf0
  v0 := Try.zeroValue0
  t3 := Try.underlying3
  a3 := Try.isAgg3
  z3 := Try.sizeOf3
  v3 := Try.zeroValue3
  t4 := Try.underlying4
  a4 := Try.isAgg4
  z4 := Try.sizeOf4
  v4 := Try.zeroValue4
  t5 := Try.underlying5
  a5 := Try.isAgg5
  z5 := Try.sizeOf5
  v5 := Try.zeroValue5
  t9 := Try.underlying9
  a9 := Try.isAgg9
  z9 := Try.sizeOf9
  v9 := Try.zeroValue9
  t31 := Try.underlying89
  a31 := Try.isAgg89
  z31 := Try.sizeOf89
  v31 := Try.zeroValue89
  t46 := Try.underlying123
  a46 := Try.isAgg123
  z46 := Try.sizeOf123
  v46 := Try.zeroValue123
  t51 := Try.underlying158
  a51 := Try.isAgg158
  z51 := Try.sizeOf158
  v51 := Try.zeroValue158
  t53 := Try.underlying160
  a53 := Try.isAgg160
  z53 := Try.sizeOf160
  v53 := Try.zeroValue160
  t131 := Try.underlying155
  a131 := Try.isAgg155
  z131 := Try.sizeOf155
  v131 := Try.zeroValue155
  t182 := Try.underlying150
  a182 := Try.isAgg150
  z182 := Try.sizeOf150
  v182 := Try.zeroValue150
  t183 := Try.underlying151
  a183 := Try.isAgg151
  z183 := Try.sizeOf151
  v183 := Try.zeroValue151
  t218 := Try.underlying184
  a218 := Try.isAgg184
  z218 := Try.sizeOf184
  v218 := Try.zeroValue184
  t222 := Try.underlying188
  a222 := Try.isAgg188
  z222 := Try.sizeOf188
  v222 := Try.zeroValue188
  t228 := Try.underlying198
  a228 := Try.isAgg198
  z228 := Try.sizeOf198
  v228 := Try.zeroValue198
  t229 := Try.underlying199
  a229 := Try.isAgg199
  z229 := Try.sizeOf199
  v229 := Try.zeroValue199 }
theorem sh_slices_Sort_string (blk off cap : Nat) (ss : List (List UInt8)) (w : World) (hH : Holds encStr w blk off ss.toArray) (hblk : blk < w.heap.size) (hsz : ss.length < 4611686018427387904) :
    Calls Try.prog 77 #[.slice (some ⟨blk, off, none⟩) ss.length cap] w fun e w' =>
      e = .returned (.tuple #[]) ∧ ∃ n os, w' = grow (putRow encStr (Sort.ahead w n) blk off (ss.mergeSort fun x y => decide (x ≤ y)).toArray) os := Any.slices_Sort_string sh_lays190 blk off cap ss w hH hblk hsz
def sh_lays194_ren : Go.Shelf.Ren := ⟨fun | 194 => 78 | n => n, fun | 31 => 89 | 9 => 9 | 3 => 3 | 4 => 4 | 0 => 0 | n => n, fun | n => n⟩
theorem sh_lays194 : Go.Proofs.Lays.n194 Try.prog sh_lays194_ren := {
  mixed := by kernel_rfl
  f194 := Try.func78.trans (congrArg some (by kernel_rfl))
  t0 := Try.underlying0
  a0 := Try.isAgg0
  z0 := Try.sizeOf0
  v0 := Try.zeroValue0
  t3 := Try.underlying3
  a3 := Try.isAgg3
  z3 := Try.sizeOf3
  v3 := Try.zeroValue3
  t4 := Try.underlying4
  a4 := Try.isAgg4
  z4 := Try.sizeOf4
  v4 := Try.zeroValue4
  t9 := Try.underlying9
  a9 := Try.isAgg9
  z9 := Try.sizeOf9
  v9 := Try.zeroValue9
  t31 := Try.underlying89
  a31 := Try.isAgg89
  z31 := Try.sizeOf89
  v31 := Try.zeroValue89 }
theorem sh_slices_Compact_string_arr (blk off cap : Nat) (d : Array (List UInt8)) (w : World) (hH : Holds encStr w blk off d) (hsz : d.size ≤ 9223372036854775807) (hcap : d.size ≤ cap) :
    Calls Try.prog 78 #[.slice (some ⟨blk, off, none⟩) d.size cap] w fun e w' => e = .returned (.slice (some ⟨blk, off, none⟩) (compactUpTo d d.size).length cap) ∧ ∃ q, w' = putRow encStr (Sort.ahead w q) blk off (compactUpTo d d.size ++ List.replicate (d.size - (compactUpTo d d.size).length) []).toArray := Any.slices_Compact_string_arr sh_lays194 blk off cap d w hH hsz hcap
theorem sh_slices_Compact_string (blk off cap : Nat) (zs : List (List UInt8)) (w : World) (hH : Holds encStr w blk off zs.toArray) (hsz : zs.length ≤ 9223372036854775807) (hcap : zs.length ≤ cap) :
    Calls Try.prog 78 #[.slice (some ⟨blk, off, none⟩) zs.length cap] w fun e w' => e = .returned (.slice (some ⟨blk, off, none⟩) (Lib.compact zs).length cap) ∧ ∃ q, w' = putRow encStr (Sort.ahead w q) blk off (Lib.compact zs ++ List.replicate (zs.length - (Lib.compact zs).length) []).toArray := Any.slices_Compact_string sh_lays194 blk off cap zs w hH hsz hcap
theorem sh_slices_Compact_string_empty (a : Option Addr) (cap : Nat) (w : World) :
    Calls Try.prog 78 #[.slice a 0 cap] w fun e w' => e = .returned (.slice a 0 cap) ∧ w' = w := Any.slices_Compact_string_empty sh_lays194 a cap w
theorem sh_slices_Sort_string_none (p : Option Addr) (cap : Nat) (w : World) :
    Calls Try.prog 77 #[.slice p 0 cap] w fun e w' => e = .returned (.tuple #[]) ∧ w' = w := Any.slices_Sort_string_none sh_lays190 p cap w
end Go.Proofs.Ytencfmipplgnkaa
