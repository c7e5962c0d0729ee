/- Layer 47 (date): names and digits as texts: what the functions of the program and of the reference return. Conditions: the place is one of the names'; the number is from 0 to 10^6. -/
import Derived.Test.Ytjiofcnlibkhkaa47H
import Derived.Test.Ytjiofcnlibkhkaa47G
namespace Go.Proofs.Ytjiofcnlibkhkaa
open Go.RowKit

def dayL : List (List Int) := [[83, 117, 110], [77, 111, 110], [84, 117, 101], [87, 101, 100], [84, 104, 117], [70, 114, 105], [83, 97, 116]]
def monL : List (List Int) := [[74, 97, 110], [70, 101, 98], [77, 97, 114], [65, 112, 114], [77, 97, 121], [74, 117, 110], [74, 117, 108], [65, 117, 103], [83, 101, 112], [79, 99, 116], [78, 111, 118], [68, 101, 99]]
def dayC : ByteArray := { data := #[83, 117, 110, 77, 111, 110, 84, 117, 101, 87, 101, 100, 84, 104, 117, 70, 114, 105, 83, 97, 116] }
def monC : ByteArray := { data := #[74, 97, 110, 70, 101, 98, 77, 97, 114, 65, 112, 114, 77, 97, 121, 74, 117, 110, 74, 117, 108, 65, 117, 103, 83, 101, 112, 79, 99, 116, 78, 111, 118, 68, 101, 99] }
theorem str_size (x : List Int) : (strOfNums x).size = x.length := by simp [strOfNums, ByteArray.size]
theorem str_app (x y : List Int) : strOfNums x ++ strOfNums y = strOfNums (x ++ y) := by
  apply ByteArray.ext
  rw [ByteArray.data_append]
  simp [strOfNums]
theorem dayX : ∀ n, n < 7 → dayC.extract (3 * n) (3 * n + 3) = strOfNums (dayL.getD n []) := by decide
theorem monX : ∀ n, n < 12 → monC.extract (3 * n) (3 * n + 3) = strOfNums (monL.getD n []) := by decide
theorem dayY : ∀ n, n < 7 → (dayS.extract (3 * n) (3 * n + 3)).data.toList.head? = some (UInt8.ofNat (((dayL.getD n []).getD 0 0 + 32).toNat)) ∧ strOfNums [(dayL.getD n []).getD 0 0 + 32 - 32] ++ (dayS.extract (3 * n) (3 * n + 3)).extract 1 3 = strOfNums (dayL.getD n []) ∧ 65 ≤ (dayL.getD n []).getD 0 0 ∧ (dayL.getD n []).getD 0 0 ≤ 90 := by decide
theorem monY : ∀ n, n < 12 → (monS.extract (3 * n) (3 * n + 3)).data.toList.head? = some (UInt8.ofNat (((monL.getD n []).getD 0 0 + 32).toNat)) ∧ strOfNums [(monL.getD n []).getD 0 0 + 32 - 32] ++ (monS.extract (3 * n) (3 * n + 3)).extract 1 3 = strOfNums (monL.getD n []) ∧ 65 ≤ (monL.getD n []).getD 0 0 ∧ (monL.getD n []).getD 0 0 ≤ 90 := by decide
theorem head_is {t : ByteArray} {a : Int} (h : t.data.toList.head? = some (UInt8.ofNat a.toNat)) (h0 : 0 ≤ a) (h1 : a ≤ 255) (hs : 0 < t.size) : ((t[0]'hs).toNat : Int) = a := by
  have e : t.data.toList.head? = some (t[0]'hs) := by
    have hs2 : 0 < t.data.toList.length := by simpa using hs
    rw [List.head?_eq_getElem?, List.getElem?_eq_getElem hs2]
    rfl
  rw [e] at h
  injection h with h
  rw [h]
  simp [UInt8.toNat_ofNat']; omega
theorem p47_capD {n : Nat} {w : World} (hn : n < 7) : Calls Try.prog 25 #[.string dayS, .int .i64 n] w (RetB (.string (strOfNums (dayL.getD n []))) w) := by
  obtain ⟨h1, h2, h3, h4⟩ := dayY n hn
  refine p47_capital (a := (dayL.getD n []).getD 0 0 + 32) (by rw [show dayS.size = 21 from rfl]; omega) (by decide) ?_ (by omega)
  intro t ht _
  rw [ht] at h1 h2
  exact ⟨fun h => head_is h1 (by omega) (by omega) h, h2⟩
theorem p47_capM {n : Nat} {w : World} (hn : n < 12) : Calls Try.prog 25 #[.string monS, .int .i64 n] w (RetB (.string (strOfNums (monL.getD n []))) w) := by
  obtain ⟨h1, h2, h3, h4⟩ := monY n hn
  refine p47_capital (a := (monL.getD n []).getD 0 0 + 32) (by rw [show monS.size = 36 from rfl]; omega) (by decide) ?_ (by omega)
  intro t ht _
  rw [ht] at h1 h2
  exact ⟨fun h => head_is h1 (by omega) (by omega) h, h2⟩
set_option maxRecDepth 100000 in
set_option maxHeartbeats 1000000 in
theorem r47_day {n : Nat} {w : World} (hn : n < 7) : Calls Try.prog 27 #[.int .i64 n] w (Ret (.string (strOfNums (dayL.getD n []))) w) := by
  have HX := Lib.hid (dayX n hn)
  obtain ⟨t, ht⟩ : ∃ t, strOfNums (dayL.getD n []) = t := ⟨_, rfl⟩
  rw [ht] at HX ⊢
  clear ht
  go_enter Try.func27, Try.ntmps27
  go_wp2
  go_ret
  exact ⟨by rw [← HX.out]; rfl, rfl⟩
set_option maxRecDepth 100000 in
set_option maxHeartbeats 1000000 in
theorem r47_month {n : Nat} {w : World} (hn : n < 12) : Calls Try.prog 29 #[.int .i64 ((n : Int) + 1)] w (Ret (.string (strOfNums (monL.getD n []))) w) := by
  have HX := Lib.hid (monX n hn)
  obtain ⟨t, ht⟩ : ∃ t, strOfNums (monL.getD n []) = t := ⟨_, rfl⟩
  rw [ht] at HX ⊢
  clear ht
  have e1 : 3 * ((n : Int) + 1) - 3 = 3 * (n : Int) := by omega
  go_enter Try.func29, Try.ntmps29
  go_wp2
  go_ret
  exact ⟨by rw [← HX.out]; rfl, rfl⟩
end Go.Proofs.Ytjiofcnlibkhkaa
