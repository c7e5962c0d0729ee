/- Contracts of library functions, laid for this seat by the kit's shelf in plain words: bytes_Trim_l. Conditions: each bears its own. -/
import Derived.Ground.SlbvProg
import Derived.Shelf.Bytes.SlTrim
import Derived.Shelf.Small.Utf8
import Derived.Shelf.Small.Strs
import Derived.Shelf.Strings.Search1
import Derived.Shelf.Bytes.SlIndexAt
import Derived.Shelf.Bytes.SlSearch0
import Derived.Shelf.Bytes.Small
import Derived.Shelf.Bytes.IndexByte
import Derived.Test.YtkphnhbblbamgaaDoorProg
namespace Go.Proofs
open Go.Shelf
def Tryd.laysTrim_ren : Go.Shelf.Ren := ⟨fun | 6 => 39 | 10 => 49 | 9 => 48 | 11 => 50 | 13 => 52 | 12 => 51 | 15 => 54 | 14 => 53 | 16 => 57 | 19 => 60 | 18 => 59 | 17 => 58 | 21 => 63 | 20 => 62 | n => n, fun | 22 => 26 | 9 => 9 | 3 => 3 | 4 => 4 | 5 => 5 | 28 => 54 | 27 => 53 | 0 => 0 | 31 => 57 | 21 => 21 | 33 => 58 | 36 => 61 | 37 => 62 | 40 => 65 | 39 => 64 | n => n, fun | 0 => 1 | 1 => 2 | n => n⟩
theorem Tryd.laysTrim : Go.Proofs.SlLaysV.n6 Tryd.prog Tryd.laysTrim_ren := {
  mixed := by kernel_rfl
  f6 := Tryd.func39.trans (congrArg some (by kernel_rfl))
  f9 := Tryd.func48.trans (congrArg some (by kernel_rfl))
  f10 := Tryd.func49.trans (congrArg some (by kernel_rfl))
  f11 := Tryd.func50.trans (congrArg some (by kernel_rfl))
  f12 := Tryd.func51.trans (congrArg some (by kernel_rfl))
  f13 := Tryd.func52.trans (congrArg some (by kernel_rfl))
  f14 := Tryd.func53.trans (congrArg some (by kernel_rfl))
  f15 := Tryd.func54.trans (congrArg some (by kernel_rfl))
  f16 := Tryd.func57.trans (congrArg some (by kernel_rfl))
  f17 := Tryd.func58.trans (congrArg some (by kernel_rfl))
  f18 := Tryd.func59.trans (congrArg some (by kernel_rfl))
  f19 := Tryd.func60.trans (congrArg some (by kernel_rfl))
  f20 := Tryd.func62.trans (congrArg some (by kernel_rfl))
  f21 := Tryd.func63.trans (congrArg some (by kernel_rfl))
  t0 := Tryd.underlying0
  a0 := Tryd.isAgg0
  z0 := Tryd.sizeOf0
  v0 := Tryd.zeroValue0
  t3 := Tryd.underlying3
  a3 := Tryd.isAgg3
  z3 := Tryd.sizeOf3
  v3 := Tryd.zeroValue3
  t4 := Tryd.underlying4
  a4 := Tryd.isAgg4
  z4 := Tryd.sizeOf4
  v4 := Tryd.zeroValue4
  t5 := Tryd.underlying5
  a5 := Tryd.isAgg5
  z5 := Tryd.sizeOf5
  v5 := Tryd.zeroValue5
  t9 := Tryd.underlying9
  a9 := Tryd.isAgg9
  z9 := Tryd.sizeOf9
  v9 := Tryd.zeroValue9
  t21 := Tryd.underlying21
  a21 := Tryd.isAgg21
  z21 := Tryd.sizeOf21
  v21 := Tryd.zeroValue21
  t22 := Tryd.underlying26
  a22 := Tryd.isAgg26
  z22 := Tryd.sizeOf26
  v22 := Tryd.zeroValue26
  t27 := Tryd.underlying53
  a27 := Tryd.isAgg53
  z27 := Tryd.sizeOf53
  t28 := Tryd.underlying54
  a28 := Tryd.isAgg54
  z28 := Tryd.sizeOf54
  v28 := Tryd.zeroValue54
  t31 := Tryd.underlying57
  a31 := Tryd.isAgg57
  z31 := Tryd.sizeOf57
  v31 := Tryd.zeroValue57
  t33 := Tryd.underlying58
  a33 := Tryd.isAgg58
  z33 := Tryd.sizeOf58
  v33 := Tryd.zeroValue58
  t36 := Tryd.underlying61
  a36 := Tryd.isAgg61
  z36 := Tryd.sizeOf61
  t37 := Tryd.underlying62
  a37 := Tryd.isAgg62
  z37 := Tryd.sizeOf62
  v37 := Tryd.zeroValue62
  t39 := Tryd.underlying64
  a39 := Tryd.isAgg64
  z39 := Tryd.sizeOf64
  v39 := Tryd.zeroValue64
  t40 := Tryd.underlying65
  a40 := Tryd.isAgg65
  z40 := Tryd.sizeOf65
  v40 := Tryd.zeroValue65 }
open Go.Proofs Go.RowKit Go.Lib in
theorem Tryd.bytes_Trim_l (p : Option Addr) (n c : Nat) (xs : List Int) (cutset : ByteArray) (w : World)
    (hx : xs.length = n) (hnc : n ≤ c) (hbig : c ≤ 9223372036854775807) (h1 : Lib.BytesIn w p n xs) (hr : ∀ x ∈ xs, 0 ≤ x ∧ x < 256) (hcs : cutset.size < 4294967281) (hascii : ∀ (j : Nat) b, cutset.data.toList[j]? = some b → b.toNat < 128) :
    Calls Tryd.prog 39 #[.slice p n c, .string cutset] w fun e w' => e = .returned (Lib.leftV p (Lib.trimRightS (Lib.bytesOf xs) cutset.data.toList).length c ((Lib.trimRightS (Lib.bytesOf xs) cutset.data.toList).length - (Lib.trimS (Lib.bytesOf xs) cutset.data.toList).length)) ∧ Below w.heap.size w w' := Any.bytes_Trim_laid Tryd.laysTrim (by kernel_rfl) p n c xs cutset w hx hnc hbig h1 hr hcs hascii

end Go.Proofs
