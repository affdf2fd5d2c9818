/- Contracts of Go's text functions at this seat's numbers, out of the library's own: so many zeros, a text without the zeros at its end, whether a text ends so. Conditions: as each says. -/
import Derived.Test.YtobfeehelmbljaaDoorProg
import Derived.Test.YtobfeehelmbljaaDoorHand
import Derived.Shelf.Lays
import Derived.Shelf.Strings.Repeat
import Derived.Shelf.Strings.Trim
import Derived.Shelf.Strings.Prefix
set_option linter.unusedVariables false
namespace Go.Proofs.YtobfeehelmbljaaDoor.Sh
open Go.Shelf Go.Proofs Go.RowKit Go.Proofs.YtobfeehelmbljaaDoor.Hand

def lays105_ren : Go.Shelf.Ren := ⟨fun | 105 => 74 | 212 => 82 | 99 => 83 | 165 => 84 | 166 => 85 | 170 => 86 | 169 => 87 | 263 => 94 | 264 => 95 | 206 => 96 | 240 => 97 | 241 => 98 | 276 => 104 | 277 => 105 | n => n, fun | 9 => 9 | 3 => 3 | 4 => 4 | 20 => 20 | 0 => 0 | 46 => 78 | 109 => 94 | 5 => 5 | 72 => 98 | 76 => 102 | 51 => 106 | 146 => 107 | 53 => 63 | 148 => 109 | 70 => 96 | 37 => 38 | 75 => 101 | 127 => 111 | 164 => 115 | 80 => 66 | n => n, fun | n => n⟩
theorem lays105 : Go.Proofs.Lays.n105 Tryd.prog lays105_ren := {
  mixed := by kernel_rfl,
  f99 := Tryd.func83.trans (congrArg some (by kernel_rfl)),
  f105 := Tryd.func74.trans (congrArg some (by kernel_rfl)),
  f165 := Tryd.func84.trans (congrArg some (by kernel_rfl)),
  f166 := Tryd.func85.trans (congrArg some (by kernel_rfl)),
  f169 := Tryd.func87.trans (congrArg some (by kernel_rfl)),
  f170 := Tryd.func86.trans (congrArg some (by kernel_rfl)),
  f206 := Tryd.func96.trans (congrArg some (by kernel_rfl)),
  f212 := Tryd.func82.trans (congrArg some (by kernel_rfl)),
  f240 := Tryd.func97.trans (congrArg some (by kernel_rfl)),
  f241 := Tryd.func98.trans (congrArg some (by kernel_rfl)),
  f263 := Tryd.func94.trans (congrArg some (by kernel_rfl)),
  f264 := Tryd.func95.trans (congrArg some (by kernel_rfl)),
  f276 := Tryd.func104.trans (congrArg some (by kernel_rfl)),
  f277 := Tryd.func105.trans (congrArg some (by kernel_rfl)),
  t0 := Tryd.underlying0,
  a0 := Tryd.isAgg0,
  z0 := Tryd.sizeOf0,
  v0 := Tryd.zeroValue0,
  t3 := Tryd.underlying3,
  a3 := Tryd.isAgg3,
  z3 := Tryd.sizeOf3,
  v3 := Tryd.zeroValue3,
  t4 := Tryd.underlying4,
  a4 := Tryd.isAgg4,
  z4 := Tryd.sizeOf4,
  v4 := Tryd.zeroValue4,
  t5 := Tryd.underlying5,
  a5 := Tryd.isAgg5,
  z5 := Tryd.sizeOf5,
  v5 := Tryd.zeroValue5,
  t9 := Tryd.underlying9,
  a9 := Tryd.isAgg9,
  z9 := Tryd.sizeOf9,
  v9 := Tryd.zeroValue9,
  t20 := Tryd.underlying20,
  a20 := Tryd.isAgg20,
  z20 := Tryd.sizeOf20,
  v20 := Tryd.zeroValue20,
  t37 := Tryd.underlying38,
  a37 := Tryd.isAgg38,
  z37 := Tryd.sizeOf38,
  v37 := Tryd.zeroValue38,
  t46 := Tryd.underlying78,
  a46 := Tryd.isAgg78,
  z46 := Tryd.sizeOf78,
  v46 := Tryd.zeroValue78,
  t51 := Tryd.underlying106,
  a51 := Tryd.isAgg106,
  z51 := Tryd.sizeOf106,
  v51 := Tryd.zeroValue106,
  t53 := Tryd.underlying63,
  a53 := Tryd.isAgg63,
  z53 := Tryd.sizeOf63,
  v53 := Tryd.zeroValue63,
  t70 := Tryd.underlying96,
  a70 := Tryd.isAgg96,
  z70 := Tryd.sizeOf96,
  v70 := Tryd.zeroValue96,
  t72 := Tryd.underlying98,
  a72 := Tryd.isAgg98,
  z72 := Tryd.sizeOf98,
  v72 := Tryd.zeroValue98,
  t75 := Tryd.underlying101,
  a75 := Tryd.isAgg101,
  z75 := Tryd.sizeOf101,
  v75 := Tryd.zeroValue101,
  t76 := Tryd.underlying102,
  a76 := Tryd.isAgg102,
  z76 := Tryd.sizeOf102,
  v76 := Tryd.zeroValue102,
  t109 := Tryd.underlying94,
  a109 := Tryd.isAgg94,
  z109 := Tryd.sizeOf94,
  v109 := Tryd.zeroValue94,
  t127 := Tryd.underlying111,
  a127 := Tryd.isAgg111,
  z127 := Tryd.sizeOf111,
  v127 := Tryd.zeroValue111,
  t146 := Tryd.underlying107,
  a146 := Tryd.isAgg107,
  z146 := Tryd.sizeOf107,
  v146 := Tryd.zeroValue107,
  t148 := Tryd.underlying109,
  a148 := Tryd.isAgg109,
  z148 := Tryd.sizeOf109,
  v148 := Tryd.zeroValue109,
  t164 := Tryd.underlying115,
  a164 := Tryd.isAgg115,
  z164 := Tryd.sizeOf115,
  v164 := Tryd.zeroValue115 }

def lays162_ren : Go.Shelf.Ren := ⟨fun | 162 => 38 | 232 => 67 | 227 => 68 | 234 => 69 | 236 => 70 | 228 => 76 | 271 => 77 | 151 => 78 | 120 => 88 | 197 => 89 | 152 => 90 | 260 => 99 | 137 => 100 | 119 => 101 | 224 => 102 | 225 => 103 | 217 => 106 | 266 => 107 | n => n, fun | 9 => 9 | 4 => 4 | 3 => 3 | 5 => 5 | 117 => 82 | 116 => 81 | 0 => 0 | 124 => 85 | 21 => 21 | 105 => 90 | 46 => 78 | 119 => 118 | 139 => 121 | 138 => 120 | n => n, fun | 3 => 0 | 4 => 1 | n => n⟩
theorem lays162 : Go.Proofs.Lays.n162 Tryd.prog lays162_ren := {
  mixed := by kernel_rfl,
  f119 := Tryd.func101.trans (congrArg some (by kernel_rfl)),
  f120 := Tryd.func88.trans (congrArg some (by kernel_rfl)),
  f137 := Tryd.func100.trans (congrArg some (by kernel_rfl)),
  f151 := Tryd.func78.trans (congrArg some (by kernel_rfl)),
  f152 := Tryd.func90.trans (congrArg some (by kernel_rfl)),
  f162 := Tryd.func38.trans (congrArg some (by kernel_rfl)),
  f197 := Tryd.func89.trans (congrArg some (by kernel_rfl)),
  f217 := Tryd.func106.trans (congrArg some (by kernel_rfl)),
  f224 := Tryd.func102.trans (congrArg some (by kernel_rfl)),
  f225 := Tryd.func103.trans (congrArg some (by kernel_rfl)),
  f227 := Tryd.func68.trans (congrArg some (by kernel_rfl)),
  f228 := Tryd.func76.trans (congrArg some (by kernel_rfl)),
  f232 := Tryd.func67.trans (congrArg some (by kernel_rfl)),
  f234 := Tryd.func69.trans (congrArg some (by kernel_rfl)),
  f236 := Tryd.func70.trans (congrArg some (by kernel_rfl)),
  f260 := Tryd.func99.trans (congrArg some (by kernel_rfl)),
  f266 := Tryd.func107.trans (congrArg some (by kernel_rfl)),
  f271 := Tryd.func77.trans (congrArg some (by kernel_rfl)),
  t0 := Tryd.underlying0,
  a0 := Tryd.isAgg0,
  z0 := Tryd.sizeOf0,
  v0 := Tryd.zeroValue0,
  t3 := Tryd.underlying3,
  a3 := Tryd.isAgg3,
  z3 := Tryd.sizeOf3,
  v3 := Tryd.zeroValue3,
  t4 := Tryd.underlying4,
  a4 := Tryd.isAgg4,
  z4 := Tryd.sizeOf4,
  v4 := Tryd.zeroValue4,
  t5 := Tryd.underlying5,
  a5 := Tryd.isAgg5,
  z5 := Tryd.sizeOf5,
  v5 := Tryd.zeroValue5,
  t9 := Tryd.underlying9,
  a9 := Tryd.isAgg9,
  z9 := Tryd.sizeOf9,
  v9 := Tryd.zeroValue9,
  t21 := Tryd.underlying21,
  a21 := Tryd.isAgg21,
  z21 := Tryd.sizeOf21,
  v21 := Tryd.zeroValue21,
  t46 := Tryd.underlying78,
  a46 := Tryd.isAgg78,
  z46 := Tryd.sizeOf78,
  v46 := Tryd.zeroValue78,
  t105 := Tryd.underlying90,
  a105 := Tryd.isAgg90,
  z105 := Tryd.sizeOf90,
  v105 := Tryd.zeroValue90,
  t116 := Tryd.underlying81,
  a116 := Tryd.isAgg81,
  z116 := Tryd.sizeOf81,
  t117 := Tryd.underlying82,
  a117 := Tryd.isAgg82,
  z117 := Tryd.sizeOf82,
  v117 := Tryd.zeroValue82,
  t119 := Tryd.underlying118,
  a119 := Tryd.isAgg118,
  z119 := Tryd.sizeOf118,
  t124 := Tryd.underlying85,
  a124 := Tryd.isAgg85,
  z124 := Tryd.sizeOf85,
  v124 := Tryd.zeroValue85,
  t138 := Tryd.underlying120,
  a138 := Tryd.isAgg120,
  z138 := Tryd.sizeOf120,
  v138 := Tryd.zeroValue120,
  t139 := Tryd.underlying121,
  a139 := Tryd.isAgg121,
  z139 := Tryd.sizeOf121,
  v139 := Tryd.zeroValue121,
  g3 := by kernel_rfl,
  g4 := by kernel_rfl }

def lays100_ren : Go.Shelf.Ren := ⟨fun | 100 => 39 | 207 => 71 | n => n, fun | 9 => 9 | 4 => 4 | 3 => 3 | n => n, fun | n => n⟩
theorem lays100 : Go.Proofs.Lays.n100 Tryd.prog lays100_ren := {
  mixed := by kernel_rfl,
  f100 := Tryd.func39.trans (congrArg some (by kernel_rfl)),
  f207 := Tryd.func71.trans (congrArg some (by kernel_rfl)),
  t3 := Tryd.underlying3,
  a3 := Tryd.isAgg3,
  z3 := Tryd.sizeOf3,
  v3 := Tryd.zeroValue3,
  t4 := Tryd.underlying4,
  a4 := Tryd.isAgg4,
  z4 := Tryd.sizeOf4,
  v4 := Tryd.zeroValue4,
  t9 := Tryd.underlying9,
  a9 := Tryd.isAgg9,
  z9 := Tryd.sizeOf9,
  v9 := Tryd.zeroValue9 }

theorem extra105 : Builder.Extra Tryd.prog lays105_ren := {
  sizeBuilder := by kernel_rfl,
  liesBuilder := by kernel_rfl,
  t5 := lays105.t5,
  a5 := lays105.a5,
  z5 := lays105.z5,
  v5 := lays105.v5,
  infoByte := by kernel_rfl,
  cellsByte := by kernel_rfl,
  sizeByte := by kernel_rfl,
  neB5 := by decide }

theorem repeat_zeros : ∀ c : Nat, Lib.repeatL [0] c = List.replicate c (0 : UInt8)
  | 0 => rfl
  | c + 1 => by
    rw [Lib.repeatL, repeat_zeros c]
    rfl
theorem repeat0 (c : Nat) (hc : c ≤ 4096) (w : World) : Calls Tryd.prog 74 #[.string ⟨#[0]⟩, .int .i64 (c : Int)] w fun e w' => e = .returned (.string (zeroB c)) ∧ Below w.heap.size w w' := by
  have h := Any.strings_Repeat lays105 extra105 ⟨#[0]⟩ c w (by omega) (by show 1 * c ≤ _; omega)
  change Calls Tryd.prog 74 _ _ _ at h
  refine h.mono fun e w' ⟨he, hb⟩ => ⟨?_, hb⟩
  rw [he]
  show Ending.returned (Value.string ⟨(Lib.repeatL [0] c).toArray⟩) = _
  rw [repeat_zeros]
  rfl

theorem trimR0 (s : ByteArray) (hs : s.size ≤ 9223372036854775807) (w : World) : Calls Tryd.prog 38 #[.string s, .string ⟨#[0]⟩] w fun e w' => e = .returned (.string (trimB s)) ∧ w' = w := by
  have h := Any.strings_TrimRight_one lays162 s 0 (by decide) w hs
  change Calls Tryd.prog 38 _ _ _ at h
  exact h

theorem hasSuf (s p : ByteArray) (hs : s.size ≤ 9223372036854775807) (w : World) : Calls Tryd.prog 39 #[.string s, .string p] w fun e w' => e = .returned (.bool (Lib.hasSuffix s.data.toList p.data.toList)) ∧ w' = w := by
  have h := Any.strings_HasSuffix lays100 s p w hs
  change Calls Tryd.prog 39 _ _ _ at h
  exact h

end Go.Proofs.YtobfeehelmbljaaDoor.Sh
