/- Contracts of Go's library: the kit's, laid at this program by the kit's own program. No condition. -/
import Derived.Shelf.Strings.Repeat
import Derived.Ground.NamesProg
import Derived.Test.YtencfmipplgnkaaProg
namespace Go.Proofs.Ytencfmipplgnkaa
open Go.Proofs Go.Shelf Go.RowKit Go.Lib
def sh_lays105_ren : Go.Shelf.Ren := ⟨fun | 105 => 122 | 212 => 148 | 99 => 149 | 165 => 150 | 166 => 151 | 170 => 152 | 169 => 153 | 263 => 189 | 264 => 190 | 206 => 191 | 240 => 192 | 241 => 193 | 276 => 208 | 277 => 209 | n => n, fun | 9 => 9 | 3 => 3 | 4 => 4 | 20 => 20 | 0 => 0 | 46 => 123 | 109 => 135 | 5 => 5 | 72 => 141 | 76 => 145 | 51 => 158 | 146 => 179 | 53 => 160 | 148 => 181 | 70 => 138 | 37 => 139 | 75 => 144 | 127 => 183 | 164 => 195 | 80 => 148 | n => n, fun | n => n⟩
theorem sh_lays105 : Go.Proofs.Lays.n105 Try.prog sh_lays105_ren := {
  mixed := by kernel_rfl
  f99 := Try.func149.trans (congrArg some (by kernel_rfl))
  f105 := Try.func122.trans (congrArg some (by kernel_rfl))
  f165 := Try.func150.trans (congrArg some (by kernel_rfl))
  f166 := Try.func151.trans (congrArg some (by kernel_rfl))
  f169 := Try.func153.trans (congrArg some (by kernel_rfl))
  f170 := Try.func152.trans (congrArg some (by kernel_rfl))
  f206 := Try.func191.trans (congrArg some (by kernel_rfl))
  f212 := Try.func148.trans (congrArg some (by kernel_rfl))
  f240 := Try.func192.trans (congrArg some (by kernel_rfl))
  f241 := Try.func193.trans (congrArg some (by kernel_rfl))
  f263 := Try.func189.trans (congrArg some (by kernel_rfl))
  f264 := Try.func190.trans (congrArg some (by kernel_rfl))
  f276 := Try.func208.trans (congrArg some (by kernel_rfl))
  f277 := Try.func209.trans (congrArg some (by kernel_rfl))
  t0 := Try.underlying0
  a0 := Try.isAgg0
  z0 := Try.sizeOf0
  v0 := Try.zeroValue0
  t3 := Try.underlying3
  a3 := Try.isAgg3
  z3 := Try.sizeOf3
  v3 := Try.zeroValue3
  t4 := Try.underlying4
  a4 := Try.isAgg4
  z4 := Try.sizeOf4
  v4 := Try.zeroValue4
  t5 := Try.underlying5
  a5 := Try.isAgg5
  z5 := Try.sizeOf5
  v5 := Try.zeroValue5
  t9 := Try.underlying9
  a9 := Try.isAgg9
  z9 := Try.sizeOf9
  v9 := Try.zeroValue9
  t20 := Try.underlying20
  a20 := Try.isAgg20
  z20 := Try.sizeOf20
  v20 := Try.zeroValue20
  t37 := Try.underlying139
  a37 := Try.isAgg139
  z37 := Try.sizeOf139
  v37 := Try.zeroValue139
  t46 := Try.underlying123
  a46 := Try.isAgg123
  z46 := Try.sizeOf123
  v46 := Try.zeroValue123
  t51 := Try.underlying158
  a51 := Try.isAgg158
  z51 := Try.sizeOf158
  v51 := Try.zeroValue158
  t53 := Try.underlying160
  a53 := Try.isAgg160
  z53 := Try.sizeOf160
  v53 := Try.zeroValue160
  t70 := Try.underlying138
  a70 := Try.isAgg138
  z70 := Try.sizeOf138
  v70 := Try.zeroValue138
  t72 := Try.underlying141
  a72 := Try.isAgg141
  z72 := Try.sizeOf141
  v72 := Try.zeroValue141
  t75 := Try.underlying144
  a75 := Try.isAgg144
  z75 := Try.sizeOf144
  v75 := Try.zeroValue144
  t76 := Try.underlying145
  a76 := Try.isAgg145
  z76 := Try.sizeOf145
  v76 := Try.zeroValue145
  t109 := Try.underlying135
  a109 := Try.isAgg135
  z109 := Try.sizeOf135
  v109 := Try.zeroValue135
  t127 := Try.underlying183
  a127 := Try.isAgg183
  z127 := Try.sizeOf183
  v127 := Try.zeroValue183
  t146 := Try.underlying179
  a146 := Try.isAgg179
  z146 := Try.sizeOf179
  v146 := Try.zeroValue179
  t148 := Try.underlying181
  a148 := Try.isAgg181
  z148 := Try.sizeOf181
  v148 := Try.zeroValue181
  t164 := Try.underlying195
  a164 := Try.isAgg195
  z164 := Try.sizeOf195
  v164 := Try.zeroValue195 }
theorem Try.Builder_Extra_105 : Builder.Extra Try.prog sh_lays105_ren := {
  sizeBuilder := by kernel_rfl
  liesBuilder := by kernel_rfl
  t5 := Try.underlying5
  a5 := Try.isAgg5
  z5 := Try.sizeOf5
  v5 := Try.zeroValue5
  infoByte := by kernel_rfl
  cellsByte := by kernel_rfl
  sizeByte := by kernel_rfl
  neB5 := by decide }
open Go.RowKit Go.Lib in
theorem sh_strings_Repeat (s : ByteArray) (c : Nat) (w : World) (hc : c ≤ 9223372036854775807) (hlen : s.size * c ≤ 140737488355328) :
    Calls Try.prog 122 #[.string s, .int .i64 c] w fun e w' => e = .returned (.string ⟨(Lib.repeatL s.data.toList c).toArray⟩) ∧ Below w.heap.size w w' := Any.strings_Repeat sh_lays105 Try.Builder_Extra_105 s c w hc hlen
end Go.Proofs.Ytencfmipplgnkaa
