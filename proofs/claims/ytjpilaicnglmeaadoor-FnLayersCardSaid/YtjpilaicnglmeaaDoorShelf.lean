/- Contracts of Go's text functions at this seat's numbers, out of the library's own: so many zeros, a text without the zeros at its end, whether a text ends so. Conditions: as each says. -/
import Derived.Test.YtjpilaicnglmeaaDoorProg
import Derived.Test.YtjpilaicnglmeaaDoorHand
import Derived.Shelf.Lays
import Derived.Shelf.Strings.Repeat
import Derived.Shelf.Strings.Trim
import Derived.Shelf.Strings.Prefix
set_option linter.unusedVariables false
namespace Go.Proofs.YtjpilaicnglmeaaDoor.Sh
open Go.Shelf Go.Proofs Go.RowKit Go.Proofs.YtjpilaicnglmeaaDoor.Hand

def lays105_ren : Go.Shelf.Ren := ⟨fun | 105 => 41 | 212 => 47 | 99 => 48 | 165 => 49 | 166 => 50 | 170 => 51 | 169 => 52 | 263 => 61 | 264 => 62 | 206 => 63 | 240 => 64 | 241 => 65 | 276 => 72 | 277 => 73 | n => n, fun | 9 => 9 | 3 => 3 | 4 => 4 | 20 => 20 | 0 => 0 | 46 => 59 | 109 => 68 | 5 => 5 | 72 => 72 | 76 => 76 | 51 => 87 | 146 => 88 | 53 => 41 | 148 => 90 | 70 => 70 | 37 => 22 | 75 => 75 | 127 => 92 | 164 => 98 | 80 => 46 | n => n, fun | n => n⟩
theorem lays105 : Go.Proofs.Lays.n105 Tryd.prog lays105_ren := {
  mixed := by kernel_rfl,
  f99 := Tryd.func48.trans (congrArg some (by kernel_rfl)),
  f105 := Tryd.func41.trans (congrArg some (by kernel_rfl)),
  f165 := Tryd.func49.trans (congrArg some (by kernel_rfl)),
  f166 := Tryd.func50.trans (congrArg some (by kernel_rfl)),
  f169 := Tryd.func52.trans (congrArg some (by kernel_rfl)),
  f170 := Tryd.func51.trans (congrArg some (by kernel_rfl)),
  f206 := Tryd.func63.trans (congrArg some (by kernel_rfl)),
  f212 := Tryd.func47.trans (congrArg some (by kernel_rfl)),
  f240 := Tryd.func64.trans (congrArg some (by kernel_rfl)),
  f241 := Tryd.func65.trans (congrArg some (by kernel_rfl)),
  f263 := Tryd.func61.trans (congrArg some (by kernel_rfl)),
  f264 := Tryd.func62.trans (congrArg some (by kernel_rfl)),
  f276 := Tryd.func72.trans (congrArg some (by kernel_rfl)),
  f277 := Tryd.func73.trans (congrArg some (by kernel_rfl)),
  t0 := Tryd.underlying0,
  a0 := Tryd.isAgg0,
  z0 := Tryd.sizeOf0,
  v0 := Tryd.zeroValue0,
  t3 := Tryd.underlying3,
  a3 := Tryd.isAgg3,
  z3 := Tryd.sizeOf3,
  v3 := Tryd.zeroValue3,
  t4 := Tryd.underlying4,
  a4 := Tryd.isAgg4,
  z4 := Tryd.sizeOf4,
  v4 := Tryd.zeroValue4,
  t5 := Tryd.underlying5,
  a5 := Tryd.isAgg5,
  z5 := Tryd.sizeOf5,
  v5 := Tryd.zeroValue5,
  t9 := Tryd.underlying9,
  a9 := Tryd.isAgg9,
  z9 := Tryd.sizeOf9,
  v9 := Tryd.zeroValue9,
  t20 := Tryd.underlying20,
  a20 := Tryd.isAgg20,
  z20 := Tryd.sizeOf20,
  v20 := Tryd.zeroValue20,
  t37 := Tryd.underlying22,
  a37 := Tryd.isAgg22,
  z37 := Tryd.sizeOf22,
  v37 := Tryd.zeroValue22,
  t46 := Tryd.underlying59,
  a46 := Tryd.isAgg59,
  z46 := Tryd.sizeOf59,
  v46 := Tryd.zeroValue59,
  t51 := Tryd.underlying87,
  a51 := Tryd.isAgg87,
  z51 := Tryd.sizeOf87,
  v51 := Tryd.zeroValue87,
  t53 := Tryd.underlying41,
  a53 := Tryd.isAgg41,
  z53 := Tryd.sizeOf41,
  v53 := Tryd.zeroValue41,
  t70 := Tryd.underlying70,
  a70 := Tryd.isAgg70,
  z70 := Tryd.sizeOf70,
  v70 := Tryd.zeroValue70,
  t72 := Tryd.underlying72,
  a72 := Tryd.isAgg72,
  z72 := Tryd.sizeOf72,
  v72 := Tryd.zeroValue72,
  t75 := Tryd.underlying75,
  a75 := Tryd.isAgg75,
  z75 := Tryd.sizeOf75,
  v75 := Tryd.zeroValue75,
  t76 := Tryd.underlying76,
  a76 := Tryd.isAgg76,
  z76 := Tryd.sizeOf76,
  v76 := Tryd.zeroValue76,
  t109 := Tryd.underlying68,
  a109 := Tryd.isAgg68,
  z109 := Tryd.sizeOf68,
  v109 := Tryd.zeroValue68,
  t127 := Tryd.underlying92,
  a127 := Tryd.isAgg92,
  z127 := Tryd.sizeOf92,
  v127 := Tryd.zeroValue92,
  t146 := Tryd.underlying88,
  a146 := Tryd.isAgg88,
  z146 := Tryd.sizeOf88,
  v146 := Tryd.zeroValue88,
  t148 := Tryd.underlying90,
  a148 := Tryd.isAgg90,
  z148 := Tryd.sizeOf90,
  v148 := Tryd.zeroValue90,
  t164 := Tryd.underlying98,
  a164 := Tryd.isAgg98,
  z164 := Tryd.sizeOf98,
  v164 := Tryd.zeroValue98 }

def lays162_ren : Go.Shelf.Ren := ⟨fun | 162 => 44 | 232 => 56 | 227 => 57 | 234 => 58 | 236 => 59 | 228 => 69 | 271 => 70 | 151 => 71 | 120 => 74 | 197 => 75 | 152 => 76 | 260 => 77 | 137 => 78 | 119 => 79 | 224 => 80 | 225 => 81 | 217 => 82 | 266 => 83 | n => n, fun | 9 => 9 | 4 => 4 | 3 => 3 | 5 => 5 | 117 => 83 | 116 => 82 | 0 => 0 | 124 => 86 | 21 => 21 | 105 => 95 | 46 => 59 | 119 => 105 | 139 => 108 | 138 => 107 | n => n, fun | 3 => 1 | 4 => 2 | n => n⟩
theorem lays162 : Go.Proofs.Lays.n162 Tryd.prog lays162_ren := {
  mixed := by kernel_rfl,
  f119 := Tryd.func79.trans (congrArg some (by kernel_rfl)),
  f120 := Tryd.func74.trans (congrArg some (by kernel_rfl)),
  f137 := Tryd.func78.trans (congrArg some (by kernel_rfl)),
  f151 := Tryd.func71.trans (congrArg some (by kernel_rfl)),
  f152 := Tryd.func76.trans (congrArg some (by kernel_rfl)),
  f162 := Tryd.func44.trans (congrArg some (by kernel_rfl)),
  f197 := Tryd.func75.trans (congrArg some (by kernel_rfl)),
  f217 := Tryd.func82.trans (congrArg some (by kernel_rfl)),
  f224 := Tryd.func80.trans (congrArg some (by kernel_rfl)),
  f225 := Tryd.func81.trans (congrArg some (by kernel_rfl)),
  f227 := Tryd.func57.trans (congrArg some (by kernel_rfl)),
  f228 := Tryd.func69.trans (congrArg some (by kernel_rfl)),
  f232 := Tryd.func56.trans (congrArg some (by kernel_rfl)),
  f234 := Tryd.func58.trans (congrArg some (by kernel_rfl)),
  f236 := Tryd.func59.trans (congrArg some (by kernel_rfl)),
  f260 := Tryd.func77.trans (congrArg some (by kernel_rfl)),
  f266 := Tryd.func83.trans (congrArg some (by kernel_rfl)),
  f271 := Tryd.func70.trans (congrArg some (by kernel_rfl)),
  t0 := Tryd.underlying0,
  a0 := Tryd.isAgg0,
  z0 := Tryd.sizeOf0,
  v0 := Tryd.zeroValue0,
  t3 := Tryd.underlying3,
  a3 := Tryd.isAgg3,
  z3 := Tryd.sizeOf3,
  v3 := Tryd.zeroValue3,
  t4 := Tryd.underlying4,
  a4 := Tryd.isAgg4,
  z4 := Tryd.sizeOf4,
  v4 := Tryd.zeroValue4,
  t5 := Tryd.underlying5,
  a5 := Tryd.isAgg5,
  z5 := Tryd.sizeOf5,
  v5 := Tryd.zeroValue5,
  t9 := Tryd.underlying9,
  a9 := Tryd.isAgg9,
  z9 := Tryd.sizeOf9,
  v9 := Tryd.zeroValue9,
  t21 := Tryd.underlying21,
  a21 := Tryd.isAgg21,
  z21 := Tryd.sizeOf21,
  v21 := Tryd.zeroValue21,
  t46 := Tryd.underlying59,
  a46 := Tryd.isAgg59,
  z46 := Tryd.sizeOf59,
  v46 := Tryd.zeroValue59,
  t105 := Tryd.underlying95,
  a105 := Tryd.isAgg95,
  z105 := Tryd.sizeOf95,
  v105 := Tryd.zeroValue95,
  t116 := Tryd.underlying82,
  a116 := Tryd.isAgg82,
  z116 := Tryd.sizeOf82,
  t117 := Tryd.underlying83,
  a117 := Tryd.isAgg83,
  z117 := Tryd.sizeOf83,
  v117 := Tryd.zeroValue83,
  t119 := Tryd.underlying105,
  a119 := Tryd.isAgg105,
  z119 := Tryd.sizeOf105,
  t124 := Tryd.underlying86,
  a124 := Tryd.isAgg86,
  z124 := Tryd.sizeOf86,
  v124 := Tryd.zeroValue86,
  t138 := Tryd.underlying107,
  a138 := Tryd.isAgg107,
  z138 := Tryd.sizeOf107,
  v138 := Tryd.zeroValue107,
  t139 := Tryd.underlying108,
  a139 := Tryd.isAgg108,
  z139 := Tryd.sizeOf108,
  v139 := Tryd.zeroValue108,
  g3 := by kernel_rfl,
  g4 := by kernel_rfl }

def lays100_ren : Go.Shelf.Ren := ⟨fun | 100 => 45 | 207 => 60 | n => n, fun | 9 => 9 | 4 => 4 | 3 => 3 | n => n, fun | n => n⟩
theorem lays100 : Go.Proofs.Lays.n100 Tryd.prog lays100_ren := {
  mixed := by kernel_rfl,
  f100 := Tryd.func45.trans (congrArg some (by kernel_rfl)),
  f207 := Tryd.func60.trans (congrArg some (by kernel_rfl)),
  t3 := Tryd.underlying3,
  a3 := Tryd.isAgg3,
  z3 := Tryd.sizeOf3,
  v3 := Tryd.zeroValue3,
  t4 := Tryd.underlying4,
  a4 := Tryd.isAgg4,
  z4 := Tryd.sizeOf4,
  v4 := Tryd.zeroValue4,
  t9 := Tryd.underlying9,
  a9 := Tryd.isAgg9,
  z9 := Tryd.sizeOf9,
  v9 := Tryd.zeroValue9 }

theorem extra105 : Builder.Extra Tryd.prog lays105_ren := {
  sizeBuilder := by kernel_rfl,
  liesBuilder := by kernel_rfl,
  t5 := lays105.t5,
  a5 := lays105.a5,
  z5 := lays105.z5,
  v5 := lays105.v5,
  infoByte := by kernel_rfl,
  cellsByte := by kernel_rfl,
  sizeByte := by kernel_rfl,
  neB5 := by decide }

theorem repeat_zeros : ∀ c : Nat, Lib.repeatL [0] c = List.replicate c (0 : UInt8)
  | 0 => rfl
  | c + 1 => by
    rw [Lib.repeatL, repeat_zeros c]
    rfl
theorem repeat0 (c : Nat) (hc : c ≤ 4096) (w : World) : Calls Tryd.prog 41 #[.string ⟨#[0]⟩, .int .i64 (c : Int)] w fun e w' => e = .returned (.string (zeroB c)) ∧ Below w.heap.size w w' := by
  have h := Any.strings_Repeat lays105 extra105 ⟨#[0]⟩ c w (by omega) (by show 1 * c ≤ _; omega)
  change Calls Tryd.prog 41 _ _ _ at h
  refine h.mono fun e w' ⟨he, hb⟩ => ⟨?_, hb⟩
  rw [he]
  show Ending.returned (Value.string ⟨(Lib.repeatL [0] c).toArray⟩) = _
  rw [repeat_zeros]
  rfl

theorem trimR0 (s : ByteArray) (hs : s.size ≤ 9223372036854775807) (w : World) : Calls Tryd.prog 44 #[.string s, .string ⟨#[0]⟩] w fun e w' => e = .returned (.string (trimB s)) ∧ w' = w := by
  have h := Any.strings_TrimRight_one lays162 s 0 (by decide) w hs
  change Calls Tryd.prog 44 _ _ _ at h
  exact h

theorem hasSuf (s p : ByteArray) (hs : s.size ≤ 9223372036854775807) (w : World) : Calls Tryd.prog 45 #[.string s, .string p] w fun e w' => e = .returned (.bool (Lib.hasSuffix s.data.toList p.data.toList)) ∧ w' = w := by
  have h := Any.strings_HasSuffix lays100 s p w hs
  change Calls Tryd.prog 45 _ _ _ at h
  exact h

end Go.Proofs.YtjpilaicnglmeaaDoor.Sh
